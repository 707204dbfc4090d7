/-
  NicPlays: what each function computes (its contract), and what its loops keep.
-/
import Derived.Test.YtmcepjbbbkgfcaaEnv
import Derived.Test.YtmcepjbbbkgfcaaSxZA
namespace Go.Proofs.Ytmcepjbbbkgfcaa.Nicp
open Go.Sx
set_option maxRecDepth 100000
set_option linter.unusedVariables false

abbrev NI := List Int × Int × Int × Bool × Bool × Int
/- Has, Room, Lost, May, Due, Asked. -/
def right (n : NI) : Bool := decide (1 ≤ n.2.1) && decide (n.2.1 ≤ 64) && decide ((n.1.length : Int) ≤ n.2.1) && decide (0 ≤ n.2.2.1) && decide (n.2.2.1 ≤ 1099511627776) && decide (0 ≤ n.2.2.2.2.2) && decide (n.2.2.2.2.2 ≤ 1099511627776) && (n.2.2.2.1 != n.2.2.2.2.1) && (n.2.2.2.2.1 || decide ((n.1.length : Int) = 0))
def bad (e : Int) : NI × List Int × Int × Unit := (([], 0, 0, false, false, 0), [], e, ())
def err (n : NI) (k v : Int) : Int :=
  if right n = false then 1
  else if k ≠ 1 ∧ k ≠ 2 then 5
  else if k = 1 ∧ (n.2.2.1 = 1099511627776 ∨ n.2.2.2.2.2 = 1099511627776) then 4
  else if k = 2 ∧ v < 1 then 2
  else if k = 2 ∧ n.2.2.2.1 = true then 7
  else 0
def step (n : NI) (k v : Int) : NI × List Int × Int × Unit :=
  if err n k v = 0 then
    (if k = 1 then
      ((if (n.1.length : Int) = n.2.1 then n.1 else n.1 ++ [v], n.2.1, (if (n.1.length : Int) = n.2.1 then n.2.2.1 + 1 else n.2.2.1), false, true, (if n.2.2.2.1 then n.2.2.2.2.2 + 1 else n.2.2.2.2.2)), [], 0, ())
     else ((n.1.drop v.toNat, n.2.1, n.2.2.1, decide ((n.1.length : Int) < v), decide (v ≤ (n.1.length : Int)), n.2.2.2.2.2), n.1.take v.toNat, 0, ()))
  else bad (err n k v)
@[reducible] def cClone : Ctr := ⟨[.sl I64], [.sl I64], fun x => x.1.length * 8 ≤ 140737488355328, fun x => (x.1, ()), true⟩
@[reducible] def cRight : Ctr := ⟨[tyNic], [.bool], fun _ => True, fun x => (right x.1, ()), false⟩
@[reducible] def cStep : Ctr := ⟨[tyNic, tyNicOp], [tyNic, .sl I64, I64], fun _ => True, fun x => step x.1 x.2.1.1 x.2.1.2, false⟩
@[reducible] def cSame : Ctr := ⟨[tyNic, tyNic], [.bool], fun _ => True, fun x => (decide (x.1 = x.2.1), ()), false⟩
@[reducible] def cEqual : Ctr := ⟨[.sl I64, .sl I64], [.bool], fun _ => True, fun x => (decide (x.1 = x.2.1), ()), false⟩
@[reducible] def cLaw : Ctr := ⟨[tyNic, tyNicOp], [.bool], fun _ => True, fun _ => (true, ()), false⟩


def new (n : Int) : NI × Int × Unit := if n < 1 ∨ 64 < n then (([], 0, 0, false, false, 0), 2, ()) else (([], n, 0, true, false, 0), 0, ())
def one (s : NI × List Int) (o : Int × Int) : NI × List Int := if (step s.1 o.1 o.2).2.2.1 = 0 then ((step s.1 o.1 o.2).1, s.2 ++ (step s.1 o.1 o.2).2.1) else s
def pl (n : Int) (ops : List (Int × Int)) : NI × List Int := ops.foldl one (([], n, 0, true, false, 0), [])
def play (n : Int) (ops : List (Int × Int)) : List Int × NI × Int × Unit := if n < 1 ∨ 64 < n then ([], ([], 0, 0, false, false, 0), 2, ()) else ((pl n ops).2, (pl n ops).1, 0, ())
@[reducible] def cNew : Ctr := ⟨[I64], [tyNic, I64], fun _ => True, fun x => new x.1, false⟩
@[reducible] def cPlay : Ctr := ⟨[I64, .sl tyNicOp], [.sl I64, tyNic, I64], fun x => x.2.1.length * 16 ≤ 140737488355328, fun x => play x.1 x.2.1, false⟩
@[reducible] def cLawP : Ctr := ⟨[I64, .sl tyNicOp], [.bool], fun x => x.2.1.length * 16 ≤ 140737488355328, fun _ => (true, ()), false⟩


noncomputable def ks0 : List (Nat × Ctr) := []
noncomputable def fx_equal (x : HL (cEqual : Ctr).as) : Fx := mkFx Try.prog env ks0 ((fun (x : HL (cEqual : Ctr).as) => ([(18, 4, Ann.by [.keep 0, .keep 1, .keep 12, .one 13 (.d I64)] (fun s g => 0 ≤ g.1 ∧ g.1 ≤ x.1.length ∧ x.1.take g.1.toNat = x.2.1.take g.1.toNat) (fun s g => (x.1.length - g.1).toNat))])) x) ([]) []
noncomputable def ks1 : List (Nat × Ctr) := (18, cEqual) :: ks0
noncomputable def fx_clone (x : HL (cClone : Ctr).as) : Fx := mkFx Try.prog env ks1 ([]) ([]) []
noncomputable def ks2 : List (Nat × Ctr) := (79, cClone) :: ks1
noncomputable def fx_right (x : HL (cRight : Ctr).as) : Fx := mkFx Try.prog env ks2 ([]) ([]) []
noncomputable def ks3 : List (Nat × Ctr) := (78, cRight) :: ks2
noncomputable def fx_tright (x : HL (cRight : Ctr).as) : Fx := mkFx Try.prog env ks3 ([]) ([]) []
noncomputable def ks4 : List (Nat × Ctr) := (80, cRight) :: ks3
noncomputable def fx_step (x : HL (cStep : Ctr).as) : Fx := mkFx Try.prog env ks4 ([]) ([]) [(64,97),(64,101)]
noncomputable def ks5 : List (Nat × Ctr) := (64, cStep) :: ks4
noncomputable def fx_tstep (x : HL (cStep : Ctr).as) : Fx := mkFx Try.prog env ks5 ((fun (x : HL (cStep : Ctr).as) => ([(65, 25, Ann.by [.keep 3, .keep 4, .box 8 [.row I64, .keep, .keep, .keep, .keep, .keep], .one 9 (.row I64), .keep 98, .keep 99, .one 100 (.d I64)] (fun s g => 0 ≤ g.2.2.1 ∧ g.2.2.1 ≤ x.1.1.length ∧ g.1.1 = (x.1.1.take g.2.2.1.toNat).drop x.2.1.2.toNat ∧ g.2.1 = (x.1.1.take g.2.2.1.toNat).take x.2.1.2.toNat) (fun s g => (x.1.1.length - g.2.2.1).toNat))])) x) ((fun (x : HL (cStep : Ctr).as) => ([(65, 12, Ann.by [.keep 2, .keep 3, .keep 4, .one 7 (.d I64)] (fun s g => g.1 = err x.1 x.2.1.1 x.2.1.2) (fun s g => 0))])) x) []
noncomputable def ks6 : List (Nat × Ctr) := (65, cStep) :: ks5
noncomputable def fx_same (x : HL (cSame : Ctr).as) : Fx := mkFx Try.prog env ks6 ((fun (x : HL (cSame : Ctr).as) => ([(35, 4, Ann.by [.keep 2, .keep 3, .keep 15, .one 16 (.d I64)] (fun s g => 0 ≤ g.1 ∧ g.1 ≤ x.1.1.length ∧ x.1.1.take g.1.toNat = x.2.1.1.take g.1.toNat) (fun s g => (x.1.1.length - g.1).toNat))])) x) ([]) []
noncomputable def ks7 : List (Nat × Ctr) := (35, cSame) :: ks6
noncomputable def fx_new (x : HL (cNew : Ctr).as) : Fx := mkFx Try.prog env ks7 ([]) ([]) []
noncomputable def ks8 : List (Nat × Ctr) := (34, cNew) :: ks7
noncomputable def fx_play (x : HL (cPlay : Ctr).as) : Fx := mkFx Try.prog env ks8 ((fun (x : HL (cPlay : Ctr).as) => ([(32, 6, Ann.by [.keep 5, .box 7 [.d tyNic], .one 9 (.row I64), .keep 24, .keep 25, .one 26 (.d I64)] (fun s g => 0 ≤ g.2.2.1 ∧ g.2.2.1 ≤ x.2.1.length ∧ pl x.1 (x.2.1.take g.2.2.1.toNat) = (g.1, g.2.1) ∧ (g.2.1.length : Int) + g.1.1.length ≤ g.2.2.1) (fun s g => (x.2.1.length - g.2.2.1).toNat))])) x) ([]) []
noncomputable def ks9 : List (Nat × Ctr) := (32, cPlay) :: ks8
noncomputable def fx_tplay (x : HL (cPlay : Ctr).as) : Fx := mkFx Try.prog env ks9 ((fun (x : HL (cPlay : Ctr).as) => ([(33, 6, Ann.by [.keep 5, .box 7 [.d tyNic], .one 8 (.row I64), .keep 23, .keep 24, .one 25 (.d I64)] (fun s g => 0 ≤ g.2.2.1 ∧ g.2.2.1 ≤ x.2.1.length ∧ pl x.1 (x.2.1.take g.2.2.1.toNat) = (g.1, g.2.1) ∧ (g.2.1.length : Int) + g.1.1.length ≤ g.2.2.1) (fun s g => (x.2.1.length - g.2.2.1).toNat))])) x) ([]) []
noncomputable def ks10 : List (Nat × Ctr) := (33, cPlay) :: ks9
noncomputable def fx_plays (x : HL (cLawP : Ctr).as) : Fx := mkFx Try.prog env ks10 ([]) ([]) []
noncomputable def ks11 : List (Nat × Ctr) := (7, cLawP) :: ks10
noncomputable def ksAll : List (Nat × Ctr) := ks11
end Go.Proofs.Ytmcepjbbbkgfcaa.Nicp
