/-
  NicSteps: what each function computes (its contract), and what its loops keep.
-/
import Derived.Test.YtollphjlheabdaaEnv
import Derived.Test.YtollphjlheabdaaSxZA
namespace Go.Proofs.Ytollphjlheabdaa.Nic
open Go.Sx
set_option maxRecDepth 100000
set_option linter.unusedVariables false

abbrev NI := List Int × Int × Int × Bool × Bool × Int
/- Has, Room, Lost, May, Due, Asked. -/
def right (n : NI) : Bool := decide (1 ≤ n.2.1) && decide (n.2.1 ≤ 64) && decide ((n.1.length : Int) ≤ n.2.1) && decide (0 ≤ n.2.2.1) && decide (n.2.2.1 ≤ 1099511627776) && decide (0 ≤ n.2.2.2.2.2) && decide (n.2.2.2.2.2 ≤ 1099511627776) && (n.2.2.2.1 != n.2.2.2.2.1) && (n.2.2.2.2.1 || decide ((n.1.length : Int) = 0))
def bad (e : Int) : NI × List Int × Int × Unit := (([], 0, 0, false, false, 0), [], e, ())
def err (n : NI) (k v : Int) : Int :=
  if right n = false then 1
  else if k ≠ 1 ∧ k ≠ 2 then 5
  else if k = 1 ∧ (n.2.2.1 = 1099511627776 ∨ n.2.2.2.2.2 = 1099511627776) then 4
  else if k = 2 ∧ v < 1 then 2
  else if k = 2 ∧ n.2.2.2.1 = true then 7
  else 0
def step (n : NI) (k v : Int) : NI × List Int × Int × Unit :=
  if err n k v = 0 then
    (if k = 1 then
      ((if (n.1.length : Int) = n.2.1 then n.1 else n.1 ++ [v], n.2.1, (if (n.1.length : Int) = n.2.1 then n.2.2.1 + 1 else n.2.2.1), false, true, (if n.2.2.2.1 then n.2.2.2.2.2 + 1 else n.2.2.2.2.2)), [], 0, ())
     else ((n.1.drop v.toNat, n.2.1, n.2.2.1, decide ((n.1.length : Int) < v), decide (v ≤ (n.1.length : Int)), n.2.2.2.2.2), n.1.take v.toNat, 0, ()))
  else bad (err n k v)
@[reducible] def cClone : Ctr := ⟨[.sl I64], [.sl I64], fun x => x.1.length * 8 ≤ 140737488355328, fun x => (x.1, ()), true⟩
@[reducible] def cRight : Ctr := ⟨[tyNic], [.bool], fun _ => True, fun x => (right x.1, ()), false⟩
@[reducible] def cStep : Ctr := ⟨[tyNic, tyNicOp], [tyNic, .sl I64, I64], fun _ => True, fun x => step x.1 x.2.1.1 x.2.1.2, false⟩
@[reducible] def cSame : Ctr := ⟨[tyNic, tyNic], [.bool], fun _ => True, fun x => (decide (x.1 = x.2.1), ()), false⟩
@[reducible] def cEqual : Ctr := ⟨[.sl I64, .sl I64], [.bool], fun _ => True, fun x => (decide (x.1 = x.2.1), ()), false⟩
@[reducible] def cLaw : Ctr := ⟨[tyNic, tyNicOp], [.bool], fun _ => True, fun _ => (true, ()), false⟩


noncomputable def ks0 : List (Nat × Ctr) := []
noncomputable def fx_equal (x : HL (cEqual : Ctr).as) : Fx := mkFx Try.prog env ks0 ((fun (x : HL (cEqual : Ctr).as) => ([(20, 4, Ann.by [.keep 0, .keep 1, .keep 12, .one 13 (.d I64)] (fun s g => 0 ≤ g.1 ∧ g.1 ≤ x.1.length ∧ x.1.take g.1.toNat = x.2.1.take g.1.toNat) (fun s g => (x.1.length - g.1).toNat))])) x) ([]) []
noncomputable def ks1 : List (Nat × Ctr) := (20, cEqual) :: ks0
noncomputable def fx_clone (x : HL (cClone : Ctr).as) : Fx := mkFx Try.prog env ks1 ([]) ([]) []
noncomputable def ks2 : List (Nat × Ctr) := (76, cClone) :: ks1
noncomputable def fx_right (x : HL (cRight : Ctr).as) : Fx := mkFx Try.prog env ks2 ([]) ([]) []
noncomputable def ks3 : List (Nat × Ctr) := (41, cRight) :: ks2
noncomputable def fx_tright (x : HL (cRight : Ctr).as) : Fx := mkFx Try.prog env ks3 ([]) ([]) []
noncomputable def ks4 : List (Nat × Ctr) := (42, cRight) :: ks3
noncomputable def fx_step (x : HL (cStep : Ctr).as) : Fx := mkFx Try.prog env ks4 ([]) ([]) [(39,97),(39,101)]
noncomputable def ks5 : List (Nat × Ctr) := (39, cStep) :: ks4
noncomputable def fx_tstep (x : HL (cStep : Ctr).as) : Fx := mkFx Try.prog env ks5 ((fun (x : HL (cStep : Ctr).as) => ([(40, 25, Ann.by [.keep 3, .keep 4, .box 8 [.row I64, .keep, .keep, .keep, .keep, .keep], .one 9 (.row I64), .keep 98, .keep 99, .one 100 (.d I64)] (fun s g => 0 ≤ g.2.2.1 ∧ g.2.2.1 ≤ x.1.1.length ∧ g.1.1 = (x.1.1.take g.2.2.1.toNat).drop x.2.1.2.toNat ∧ g.2.1 = (x.1.1.take g.2.2.1.toNat).take x.2.1.2.toNat) (fun s g => (x.1.1.length - g.2.2.1).toNat))])) x) ((fun (x : HL (cStep : Ctr).as) => ([(40, 12, Ann.by [.keep 2, .keep 3, .keep 4, .one 7 (.d I64)] (fun s g => g.1 = err x.1 x.2.1.1 x.2.1.2) (fun s g => 0))])) x) []
noncomputable def ks6 : List (Nat × Ctr) := (40, cStep) :: ks5
noncomputable def fx_same (x : HL (cSame : Ctr).as) : Fx := mkFx Try.prog env ks6 ((fun (x : HL (cSame : Ctr).as) => ([(43, 4, Ann.by [.keep 2, .keep 3, .keep 15, .one 16 (.d I64)] (fun s g => 0 ≤ g.1 ∧ g.1 ≤ x.1.1.length ∧ x.1.1.take g.1.toNat = x.2.1.1.take g.1.toNat) (fun s g => (x.1.1.length - g.1).toNat))])) x) ([]) []
noncomputable def ks7 : List (Nat × Ctr) := (43, cSame) :: ks6
noncomputable def fx_steps (x : HL (cLaw : Ctr).as) : Fx := mkFx Try.prog env ks7 ([]) ([]) []
noncomputable def ks8 : List (Nat × Ctr) := (9, cLaw) :: ks7
noncomputable def ksAll : List (Nat × Ctr) := ks8
end Go.Proofs.Ytollphjlheabdaa.Nic
