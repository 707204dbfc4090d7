/-
 NestTells: what each function computes (its contract), and what its loops keep.
-/
import Derived.Test.YtlnlichdidobpaaGreatDoorEnv
import Derived.Test.YtlnlichdidobpaaGreatDoorSxP4
namespace Go.Proofs.YtlnlichdidobpaaGreatDoor.Nest
open Go.Sx
set_option maxRecDepth 100000
set_option linter.unusedVariables false

abbrev FR := Bool × Bool
abbrev CO := Bool × List FR
def fr (l : List FR) (i : Int) : FR := l.getD i.toNat (false, false)
def okF (l : List FR) (k : Int) : Prop := ∀ i : Int, 0 ≤ i → i < k → ((fr l i).2 = true → (fr l i).1 = true) ∧ (0 < i → (fr l i).1 = false)
def DP (c : CO) : Prop := c.2.length ≤ 400 ∧ (c.1 = true → c.2.length = 0) ∧ okF c.2 c.2.length
open Classical in
noncomputable def right (c : CO) : Bool := decide (DP c)
def bad (e : Int) : CO × Int × Unit := ((false, []), e, ())
open Classical in
noncomputable def step (c : CO) (k : Int) : CO × Int × Unit :=
 if right c then
  (if k < 1 ∨ 4 < k then bad 5
   else if (k = 1 ∨ k = 3) ∧ (c.2.length : Int) = 400 then bad 4
   else if k = 3 ∧ c.1 = false then bad 7
   else if k = 1 ∨ k = 3 then ((false, c.2 ++ [(c.1, (k == 3))]), 0, ())
   else if (c.2.length : Int) = 0 then bad 3
   else if ¬(fr c.2 (c.2.length - 1)).2 = (k == 4) then bad 8
   else (((fr c.2 (c.2.length - 1)).1, c.2.take ((c.2.length : Int) - 1).toNat), 0, ()))
 else bad 1
noncomputable def one (s : CO × List Int) (k : Int) : CO × List Int := (if (step s.1 k).2.1 = 0 then (step s.1 k).1 else s.1, s.2 ++ [(step s.1 k).2.1])
@[reducible] def bc : ah := ⟨[.sl DN], [.sl DN], fun x => x.1.length * 2 ≤ 140737488355328, fun x => (x.1, ()), true⟩
@[reducible] noncomputable def aJ : ah := ⟨[CF], [.bool], fun _ => True, fun x => (right x.1, ()), false⟩
@[reducible] noncomputable def bg : ah := ⟨[CF, dU], [CF, dU], fun _ => True, fun x => step x.1 x.2.1, false⟩
noncomputable def pA : List (Nat × ah) := []
noncomputable def eM (x : HL (bc : ah).as) : Fx := fX Tryz.prog env pA ([]) ([]) []
noncomputable def pn : List (Nat × ah) := (122, bc) :: pA
noncomputable def bQ (x : HL (aJ : ah).as) : Fx := fX Tryz.prog env pn ((fun (x : HL (aJ : ah).as) => ([(121, 5, jz.by [.keep 1, .one 3 (.d Bo), .keep 11, .keep 12, .one 13 (.d dU)] (fun s g => 0 ≤ g.2.1 ∧ g.2.1 ≤ x.1.2.length ∧ g.1 = decide (g.2.1 = 0) ∧ okF x.1.2 g.2.1) (fun s g => (x.1.2.length - g.2.1).toNat))])) x) ([]) []
noncomputable def p5 : List (Nat × ah) := (121, aJ) :: pn
noncomputable def gj (x : HL (bg : ah).as) : Fx := fX Tryz.prog env p5 ([]) ([]) []
noncomputable def tK : List (Nat × ah) := (89, bg) :: p5
noncomputable def dY : List (Nat × ah) := tK
end Go.Proofs.YtlnlichdidobpaaGreatDoor.Nest
