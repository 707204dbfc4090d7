/-
 TopTurns: what each function computes (its contract).
-/
import Derived.Test.YtlnlichdidobpaaGreatDoorEnv
import Derived.Test.YtlnlichdidobpaaGreatDoorSxP4
import Derived.Test.YtlnlichdidobpaaGreatDoorTellL
namespace Go.Proofs.YtlnlichdidobpaaGreatDoor.Turns
open Go.Sx
set_option maxRecDepth 100000
set_option linter.unusedVariables false

@[reducible] def RR {α : Type} (x : α) : Prop := x = x
@[reducible] def R8 (p : Prop) : Prop := True ∧ True ∧ True ∧ True ∧ True ∧ True ∧ True ∧ True ∧ p
@[reducible] def kg (p : Prop) : Prop := R8 (R8 (R8 (R8 p)))
theorem vC {α : Type} (x : α) : RR x = True := eq_self x
theorem uF (p : Prop) : R8 p = p := by unfold R8; simp only [true_and]
theorem yF (p : Prop) : kg p = p := by unfold kg; simp only [uF]
def gI (l : List (Int × Int)) : List Int := (l.map fun p => Bench.eA p.1 p.2 ++ [10]).flatten
@[reducible] def iK : ah := ⟨[], [.bool], fun _ => True, fun _ => (true, ()), false⟩
@[reducible] def yk : ah := ⟨[dU, .sl AX, dU], [.bool], fun _ => True, fun _ => (true, ()), false⟩


noncomputable def pA : List (Nat × ah) := Go.Proofs.YtlnlichdidobpaaGreatDoor.Tell.dY
noncomputable def vj (x : HL (iK : ah).as) : Fx := fX Tryz.prog env pA ([]) ([]) []
noncomputable def pn : List (Nat × ah) := (4, iK) :: pA
noncomputable def p5 : List (Nat × ah) := (3, yk) :: pn
noncomputable def dY : List (Nat × ah) := p5
end Go.Proofs.YtlnlichdidobpaaGreatDoor.Turns
