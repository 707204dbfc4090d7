/-
 NestTells: what each function computes (its contract), and what its loops keep.
-/
import Derived.Test.YtdhldloajddfiaaGreatDoorEnv
import Derived.Test.YtdhldloajddfiaaGreatDoorSxP4
namespace Go.Proofs.YtdhldloajddfiaaGreatDoor.Nest
open Go.Sx
set_option maxRecDepth 100000
set_option linter.unusedVariables false

abbrev FR := Bool × Bool
abbrev CO := Bool × List FR
def fr (l : List FR) (i : Int) : FR := l.getD i.toNat (false, false)
def okF (l : List FR) (k : Int) : Prop := ∀ i : Int, 0 ≤ i → i < k → ((fr l i).2 = true → (fr l i).1 = true) ∧ (0 < i → (fr l i).1 = false)
def Right (c : CO) : Prop := c.2.length ≤ 400 ∧ (c.1 = true → c.2.length = 0) ∧ okF c.2 c.2.length
open Classical in
noncomputable def right (c : CO) : Bool := decide (Right c)
def bad (e : Int) : CO × Int × Unit := ((false, []), e, ())
open Classical in
noncomputable def step (c : CO) (k : Int) : CO × Int × Unit :=
 if right c then
  (if k < 1 ∨ 4 < k then bad 5
   else if (k = 1 ∨ k = 3) ∧ (c.2.length : Int) = 400 then bad 4
   else if k = 3 ∧ c.1 = false then bad 7
   else if k = 1 ∨ k = 3 then ((false, c.2 ++ [(c.1, (k == 3))]), 0, ())
   else if (c.2.length : Int) = 0 then bad 3
   else if ¬(fr c.2 (c.2.length - 1)).2 = (k == 4) then bad 8
   else (((fr c.2 (c.2.length - 1)).1, c.2.take ((c.2.length : Int) - 1).toNat), 0, ()))
 else bad 1
noncomputable def one (s : CO × List Int) (k : Int) : CO × List Int := (if (step s.1 k).2.1 = 0 then (step s.1 k).1 else s.1, s.2 ++ [(step s.1 k).2.1])
noncomputable def pl (ks : List Int) : CO × List Int := ks.foldl one ((true, []), [])
@[reducible] def cClone : Ctr := ⟨[.sl tyFrame], [.sl tyFrame], fun x => x.1.length * 2 ≤ 140737488355328, fun x => (x.1, ()), true⟩
@[reducible] noncomputable def cRight : Ctr := ⟨[tyCore], [.bool], fun _ => True, fun x => (right x.1, ()), false⟩
@[reducible] noncomputable def cStep : Ctr := ⟨[tyCore, I64], [tyCore, I64], fun _ => True, fun x => step x.1 x.2.1, false⟩
@[reducible] noncomputable def cPlay : Ctr := ⟨[.sl I64], [.sl I64, tyCore], fun x => x.1.length * 8 ≤ 140737488355328, fun x => ((pl x.1).2, (pl x.1).1, ()), false⟩
@[reducible] def cSame : Ctr := ⟨[tyCore, tyCore], [.bool], fun _ => True, fun x => (decide (x.1 = x.2.1), ()), false⟩
@[reducible] def cEqual : Ctr := ⟨[.sl I64, .sl I64], [.bool], fun _ => True, fun x => (decide (x.1 = x.2.1), ()), false⟩
@[reducible] def cLaw : Ctr := ⟨[tyCore, I64, .sl I64], [.bool], fun x => x.2.2.1.length * 8 ≤ 140737488355328, fun _ => (true, ()), false⟩


noncomputable def ks0 : List (Nat × Ctr) := []
noncomputable def fx_clone (x : HL (cClone : Ctr).as) : Fx := mkFx Tryz.prog env ks0 ([]) ([]) []
noncomputable def ks1 : List (Nat × Ctr) := (100, cClone) :: ks0
noncomputable def fx_right (x : HL (cRight : Ctr).as) : Fx := mkFx Tryz.prog env ks1 ((fun (x : HL (cRight : Ctr).as) => ([(99, 5, Ann.by [.keep 1, .one 3 (.d Bo), .keep 11, .keep 12, .one 13 (.d I64)] (fun s g => 0 ≤ g.2.1 ∧ g.2.1 ≤ x.1.2.length ∧ g.1 = decide (g.2.1 = 0) ∧ okF x.1.2 g.2.1) (fun s g => (x.1.2.length - g.2.1).toNat))])) x) ([]) []
noncomputable def ks2 : List (Nat × Ctr) := (99, cRight) :: ks1
noncomputable def fx_step (x : HL (cStep : Ctr).as) : Fx := mkFx Tryz.prog env ks2 ([]) ([]) []
noncomputable def ks3 : List (Nat × Ctr) := (79, cStep) :: ks2
noncomputable def ksAll : List (Nat × Ctr) := ks3
end Go.Proofs.YtdhldloajddfiaaGreatDoor.Nest
