/-
 The conditions that the executor comes to, written out (by a tool of ours), and that they are the conditions (by the kernel).
-/
import Derived.Test.YtppgbcmeagbalaaDoorLineC
namespace Go.Proofs.YtppgbcmeagbalaaDoor.Line
open Go.Sx
set_option maxRecDepth 100000

def E_clone (x : List (Int × Int × Bool × Bool × Bool × Bool × Bool) × Unit) : Prop :=
 ∀ (b : Bool),
 (b = true → x.1 = ([] : List (Int × Int × Bool × Bool × Bool × Bool × Bool))) →
 (b = true → ([] : List (Int × Int × Bool × Bool × Bool × Bool × Bool)) = x.1) ∧
 (b = false →
 (([] : List (Int × Int × Bool × Bool × Bool × Bool × Bool)).length + x.1.length ≤ (9223372036854775807 : Nat) ∧
 (([] : List (Int × Int × Bool × Bool × Bool × Bool × Bool)).length + x.1.length +
 (([] : List (Int × Int × Bool × Bool × Bool × Bool × Bool)).length + x.1.length) / (4 : Nat) +
 (192 : Nat)) *
 (24 : Nat) ≤
 (281474976710656 : Nat)) ∧
 ([] : List (Int × Int × Bool × Bool × Bool × Bool × Bool)) ++ x.1 = x.1)

theorem E_clone_eq (x : HL (cClone : Ctr).as) : vc (fx_clone x) 1 55 Tryd.f55 (cClone) x = E_clone x := by kernel_rfl

def E_badp (x : (Int × Int × Bool × Bool × Bool × Bool × Bool) × Unit) : Prop :=
 ((!decide (x.1.1 < 0)) = true → (!decide (x.1.1 < 0)) = true) ∧
 ((!decide (x.1.1 < 0)) = true → (!decide (x.1.1 < 0)) = true) ∧
 (decide (x.1.1 < 0) = false → (!decide (x.1.1 < 0)) = true) ∧
 ((!(decide (x.1.1 < 0) || decide (8 ≤ x.1.1))) = true →
 (!(decide (x.1.1 < 0) || decide (8 ≤ x.1.1))) = true) ∧
 ((!(decide (x.1.1 < 0) || decide (8 ≤ x.1.1))) = true →
 (!(decide (x.1.1 < 0) || decide (8 ≤ x.1.1))) = true) ∧
 ((decide (x.1.1 < 0) || decide (8 ≤ x.1.1)) = false →
 (!(decide (x.1.1 < 0) || decide (8 ≤ x.1.1))) = true) ∧
 ((!(decide (x.1.1 < 0) || decide (8 ≤ x.1.1) || decide (x.1.2.1 < 32))) = true →
 (!(decide (x.1.1 < 0) || decide (8 ≤ x.1.1) || decide (x.1.2.1 < 32))) = true) ∧
 ((!(decide (x.1.1 < 0) || decide (8 ≤ x.1.1) || decide (x.1.2.1 < 32))) = true →
 (!(decide (x.1.1 < 0) || decide (8 ≤ x.1.1) || decide (x.1.2.1 < 32))) = true) ∧
 ((decide (x.1.1 < 0) || decide (8 ≤ x.1.1) || decide (x.1.2.1 < 32)) = false →
 (!(decide (x.1.1 < 0) || decide (8 ≤ x.1.1) || decide (x.1.2.1 < 32))) = true) ∧
 ((!(decide (x.1.1 < 0) || decide (8 ≤ x.1.1) || decide (x.1.2.1 < 32) ||
 decide (256 ≤ x.1.2.1))) =
 true →
 (!(decide (x.1.1 < 0) || decide (8 ≤ x.1.1) || decide (x.1.2.1 < 32) ||
 decide (256 ≤ x.1.2.1))) =
 true) ∧
 ((!(decide (x.1.1 < 0) || decide (8 ≤ x.1.1) || decide (x.1.2.1 < 32) ||
 decide (256 ≤ x.1.2.1))) =
 true →
 (!(decide (x.1.1 < 0) || decide (8 ≤ x.1.1) || decide (x.1.2.1 < 32) ||
 decide (256 ≤ x.1.2.1))) =
 true) ∧
 ((!(decide (x.1.1 < 0) || decide (8 ≤ x.1.1) || decide (x.1.2.1 < 32) ||
 decide (256 ≤ x.1.2.1)) &&
 x.1.2.2.1) =
 true →
 (!(decide (x.1.1 < 0) || decide (8 ≤ x.1.1) || decide (x.1.2.1 < 32) ||
 decide (256 ≤ x.1.2.1)) &&
 x.1.2.2.1) =
 true) ∧
 ((!(decide (x.1.1 < 0) || decide (8 ≤ x.1.1) || decide (x.1.2.1 < 32) ||
 decide (256 ≤ x.1.2.1))) =
 true →
 (!(decide (x.1.1 < 0) || decide (8 ≤ x.1.1) || decide (x.1.2.1 < 32) ||
 decide (256 ≤ x.1.2.1))) =
 true ∧
 (x.1.2.2.1 = true →
 (!(decide (x.1.1 < 0) || decide (8 ≤ x.1.1) || decide (x.1.2.1 < 32) ||
 decide (256 ≤ x.1.2.1)) &&
 x.1.2.2.1) =
 true)) ∧
 ((decide (x.1.1 < 0) || decide (8 ≤ x.1.1) || decide (x.1.2.1 < 32) ||
 decide (256 ≤ x.1.2.1)) =
 false →
 (!(decide (x.1.1 < 0) || decide (8 ≤ x.1.1) || decide (x.1.2.1 < 32) ||
 decide (256 ≤ x.1.2.1))) =
 true) ∧
 ((!(decide (x.1.1 < 0) || decide (8 ≤ x.1.1) || decide (x.1.2.1 < 32) ||
 decide (256 ≤ x.1.2.1) ||
 x.1.2.2.1 && x.1.2.2.2.2.2.1)) =
 true →
 (!(decide (x.1.1 < 0) || decide (8 ≤ x.1.1) || decide (x.1.2.1 < 32) ||
 decide (256 ≤ x.1.2.1) ||
 x.1.2.2.1 && x.1.2.2.2.2.2.1)) =
 true) ∧
 ((!(decide (x.1.1 < 0) || decide (8 ≤ x.1.1) || decide (x.1.2.1 < 32) ||
 decide (256 ≤ x.1.2.1) ||
 x.1.2.2.1 && x.1.2.2.2.2.2.1)) =
 true →
 (!(decide (x.1.1 < 0) || decide (8 ≤ x.1.1) || decide (x.1.2.1 < 32) ||
 decide (256 ≤ x.1.2.1) ||
 x.1.2.2.1 && x.1.2.2.2.2.2.1)) =
 true) ∧
 ((!(decide (x.1.1 < 0) || decide (8 ≤ x.1.1) || decide (x.1.2.1 < 32) ||
 decide (256 ≤ x.1.2.1) ||
 x.1.2.2.1 && x.1.2.2.2.2.2.1)) =
 true →
 (!(decide (x.1.1 < 0) || decide (8 ≤ x.1.1) || decide (x.1.2.1 < 32) ||
 decide (256 ≤ x.1.2.1) ||
 x.1.2.2.1 && x.1.2.2.2.2.2.1)) =
 true) ∧
 ((!(decide (x.1.1 < 0) || decide (8 ≤ x.1.1) || decide (x.1.2.1 < 32) ||
 decide (256 ≤ x.1.2.1) ||
 x.1.2.2.1 && x.1.2.2.2.2.2.1) &&
 !x.1.2.2.1) =
 true →
 (!(decide (x.1.1 < 0) || decide (8 ≤ x.1.1) || decide (x.1.2.1 < 32) ||
 decide (256 ≤ x.1.2.1) ||
 x.1.2.2.1 && x.1.2.2.2.2.2.1) &&
 !x.1.2.2.1) =
 true) ∧
 ((!(decide (x.1.1 < 0) || decide (8 ≤ x.1.1) || decide (x.1.2.1 < 32) ||
 decide (256 ≤ x.1.2.1) ||
 x.1.2.2.1 && x.1.2.2.2.2.2.1)) =
 true →
 (!(decide (x.1.1 < 0) || decide (8 ≤ x.1.1) || decide (x.1.2.1 < 32) ||
 decide (256 ≤ x.1.2.1) ||
 x.1.2.2.1 && x.1.2.2.2.2.2.1)) =
 true ∧
 ((!x.1.2.2.1) = true →
 (!(decide (x.1.1 < 0) || decide (8 ≤ x.1.1) ||
 decide (x.1.2.1 < 32) ||
 decide (256 ≤ x.1.2.1) ||
 x.1.2.2.1 && x.1.2.2.2.2.2.1) &&
 !x.1.2.2.1) =
 true)) ∧
 ((decide (x.1.1 < 0) || decide (8 ≤ x.1.1) || decide (x.1.2.1 < 32) ||
 decide (256 ≤ x.1.2.1) ||
 x.1.2.2.1 && x.1.2.2.2.2.2.1) =
 false →
 (!(decide (x.1.1 < 0) || decide (8 ≤ x.1.1) ||
 decide (x.1.2.1 < 32) ||
 decide (256 ≤ x.1.2.1) ||
 x.1.2.2.1 && x.1.2.2.2.2.2.1)) =
 true) ∧
 ((!(decide (x.1.1 < 0) || decide (8 ≤ x.1.1) || decide (x.1.2.1 < 32) ||
 decide (256 ≤ x.1.2.1) ||
 x.1.2.2.1 && x.1.2.2.2.2.2.1 ||
 !x.1.2.2.1 && x.1.2.2.2.2.2.2)) =
 true →
 (!(decide (x.1.1 < 0) || decide (8 ≤ x.1.1) ||
 decide (x.1.2.1 < 32) ||
 decide (256 ≤ x.1.2.1) ||
 x.1.2.2.1 && x.1.2.2.2.2.2.1 ||
 !x.1.2.2.1 && x.1.2.2.2.2.2.2)) =
 true) ∧
 ((!(decide (x.1.1 < 0) || decide (8 ≤ x.1.1) ||
 decide (x.1.2.1 < 32) ||
 decide (256 ≤ x.1.2.1) ||
 x.1.2.2.1 && x.1.2.2.2.2.2.1 ||
 !x.1.2.2.1 && x.1.2.2.2.2.2.2)) =
 true →
 (!(decide (x.1.1 < 0) || decide (8 ≤ x.1.1) ||
 decide (x.1.2.1 < 32) ||
 decide (256 ≤ x.1.2.1) ||
 x.1.2.2.1 && x.1.2.2.2.2.2.1 ||
 !x.1.2.2.1 && x.1.2.2.2.2.2.2)) =
 true) ∧
 ((!(decide (x.1.1 < 0) || decide (8 ≤ x.1.1) ||
 decide (x.1.2.1 < 32) ||
 decide (256 ≤ x.1.2.1) ||
 x.1.2.2.1 && x.1.2.2.2.2.2.1 ||
 !x.1.2.2.1 && x.1.2.2.2.2.2.2) &&
 x.1.2.2.2.2.2.1) =
 true →
 (!(decide (x.1.1 < 0) || decide (8 ≤ x.1.1) ||
 decide (x.1.2.1 < 32) ||
 decide (256 ≤ x.1.2.1) ||
 x.1.2.2.1 && x.1.2.2.2.2.2.1 ||
 !x.1.2.2.1 && x.1.2.2.2.2.2.2) &&
 x.1.2.2.2.2.2.1) =
 true) ∧
 ((!(decide (x.1.1 < 0) || decide (8 ≤ x.1.1) ||
 decide (x.1.2.1 < 32) ||
 decide (256 ≤ x.1.2.1) ||
 x.1.2.2.1 && x.1.2.2.2.2.2.1 ||
 !x.1.2.2.1 && x.1.2.2.2.2.2.2) &&
 x.1.2.2.2.2.2.1) =
 true →
 (!(decide (x.1.1 < 0) || decide (8 ≤ x.1.1) ||
 decide (x.1.2.1 < 32) ||
 decide (256 ≤ x.1.2.1) ||
 x.1.2.2.1 && x.1.2.2.2.2.2.1 ||
 !x.1.2.2.1 && x.1.2.2.2.2.2.2) &&
 x.1.2.2.2.2.2.1) =
 true) ∧
 ((!(decide (x.1.1 < 0) || decide (8 ≤ x.1.1) ||
 decide (x.1.2.1 < 32) ||
 decide (256 ≤ x.1.2.1) ||
 x.1.2.2.1 && x.1.2.2.2.2.2.1 ||
 !x.1.2.2.1 && x.1.2.2.2.2.2.2)) =
 true →
 (!(decide (x.1.1 < 0) || decide (8 ≤ x.1.1) ||
 decide (x.1.2.1 < 32) ||
 decide (256 ≤ x.1.2.1) ||
 x.1.2.2.1 && x.1.2.2.2.2.2.1 ||
 !x.1.2.2.1 && x.1.2.2.2.2.2.2)) =
 true ∧
 (x.1.2.2.2.2.2.1 = true →
 (!(decide (x.1.1 < 0) || decide (8 ≤ x.1.1) ||
 decide (x.1.2.1 < 32) ||
 decide (256 ≤ x.1.2.1) ||
 x.1.2.2.1 && x.1.2.2.2.2.2.1 ||
 !x.1.2.2.1 && x.1.2.2.2.2.2.2) &&
 x.1.2.2.2.2.2.1) =
 true)) ∧
 ((decide (x.1.1 < 0) || decide (8 ≤ x.1.1) ||
 decide (x.1.2.1 < 32) ||
 decide (256 ≤ x.1.2.1) ||
 x.1.2.2.1 && x.1.2.2.2.2.2.1 ||
 !x.1.2.2.1 && x.1.2.2.2.2.2.2) =
 false →
 (!(decide (x.1.1 < 0) || decide (8 ≤ x.1.1) ||
 decide (x.1.2.1 < 32) ||
 decide (256 ≤ x.1.2.1) ||
 x.1.2.2.1 && x.1.2.2.2.2.2.1 ||
 !x.1.2.2.1 && x.1.2.2.2.2.2.2)) =
 true) ∧
 ((!(decide (x.1.1 < 0) || decide (8 ≤ x.1.1) ||
 decide (x.1.2.1 < 32) ||
 decide (256 ≤ x.1.2.1) ||
 x.1.2.2.1 && x.1.2.2.2.2.2.1 ||
 !x.1.2.2.1 && x.1.2.2.2.2.2.2 ||
 x.1.2.2.2.2.2.1 && !x.1.2.2.2.1)) =
 true →
 (!(decide (x.1.1 < 0) || decide (8 ≤ x.1.1) ||
 decide (x.1.2.1 < 32) ||
 decide (256 ≤ x.1.2.1) ||
 x.1.2.2.1 && x.1.2.2.2.2.2.1 ||
 !x.1.2.2.1 && x.1.2.2.2.2.2.2 ||
 x.1.2.2.2.2.2.1 && !x.1.2.2.2.1)) =
 true) ∧
 ((!(decide (x.1.1 < 0) || decide (8 ≤ x.1.1) ||
 decide (x.1.2.1 < 32) ||
 decide (256 ≤ x.1.2.1) ||
 x.1.2.2.1 && x.1.2.2.2.2.2.1 ||
 !x.1.2.2.1 && x.1.2.2.2.2.2.2 ||
 x.1.2.2.2.2.2.1 && !x.1.2.2.2.1)) =
 true →
 (!(decide (x.1.1 < 0) || decide (8 ≤ x.1.1) ||
 decide (x.1.2.1 < 32) ||
 decide (256 ≤ x.1.2.1) ||
 x.1.2.2.1 && x.1.2.2.2.2.2.1 ||
 !x.1.2.2.1 && x.1.2.2.2.2.2.2 ||
 x.1.2.2.2.2.2.1 && !x.1.2.2.2.1)) =
 true) ∧
 ((!(decide (x.1.1 < 0) || decide (8 ≤ x.1.1) ||
 decide (x.1.2.1 < 32) ||
 decide (256 ≤ x.1.2.1) ||
 x.1.2.2.1 && x.1.2.2.2.2.2.1 ||
 !x.1.2.2.1 && x.1.2.2.2.2.2.2 ||
 x.1.2.2.2.2.2.1 && !x.1.2.2.2.1) &&
 x.1.2.2.1) =
 true →
 (!(decide (x.1.1 < 0) || decide (8 ≤ x.1.1) ||
 decide (x.1.2.1 < 32) ||
 decide (256 ≤ x.1.2.1) ||
 x.1.2.2.1 && x.1.2.2.2.2.2.1 ||
 !x.1.2.2.1 && x.1.2.2.2.2.2.2 ||
 x.1.2.2.2.2.2.1 && !x.1.2.2.2.1) &&
 x.1.2.2.1) =
 true) ∧
 ((!(decide (x.1.1 < 0) || decide (8 ≤ x.1.1) ||
 decide (x.1.2.1 < 32) ||
 decide (256 ≤ x.1.2.1) ||
 x.1.2.2.1 && x.1.2.2.2.2.2.1 ||
 !x.1.2.2.1 && x.1.2.2.2.2.2.2 ||
 x.1.2.2.2.2.2.1 && !x.1.2.2.2.1)) =
 true →
 (!(decide (x.1.1 < 0) || decide (8 ≤ x.1.1) ||
 decide (x.1.2.1 < 32) ||
 decide (256 ≤ x.1.2.1) ||
 x.1.2.2.1 && x.1.2.2.2.2.2.1 ||
 !x.1.2.2.1 && x.1.2.2.2.2.2.2 ||
 x.1.2.2.2.2.2.1 && !x.1.2.2.2.1)) =
 true ∧
 (x.1.2.2.1 = true →
 (!(decide (x.1.1 < 0) || decide (8 ≤ x.1.1) ||
 decide (x.1.2.1 < 32) ||
 decide (256 ≤ x.1.2.1) ||
 x.1.2.2.1 && x.1.2.2.2.2.2.1 ||
 !x.1.2.2.1 && x.1.2.2.2.2.2.2 ||
 x.1.2.2.2.2.2.1 && !x.1.2.2.2.1) &&
 x.1.2.2.1) =
 true)) ∧
 ((!(decide (x.1.1 < 0) || decide (8 ≤ x.1.1) ||
 decide (x.1.2.1 < 32) ||
 decide (256 ≤ x.1.2.1) ||
 x.1.2.2.1 && x.1.2.2.2.2.2.1 ||
 !x.1.2.2.1 && x.1.2.2.2.2.2.2 ||
 x.1.2.2.2.2.2.1 && !x.1.2.2.2.1)) =
 true →
 (!(decide (x.1.1 < 0) || decide (8 ≤ x.1.1) ||
 decide (x.1.2.1 < 32) ||
 decide (256 ≤ x.1.2.1) ||
 x.1.2.2.1 && x.1.2.2.2.2.2.1 ||
 !x.1.2.2.1 && x.1.2.2.2.2.2.2 ||
 x.1.2.2.2.2.2.1 && !x.1.2.2.2.1)) =
 true) ∧
 ((!(decide (x.1.1 < 0) || decide (8 ≤ x.1.1) ||
 decide (x.1.2.1 < 32) ||
 decide (256 ≤ x.1.2.1) ||
 x.1.2.2.1 && x.1.2.2.2.2.2.1 ||
 !x.1.2.2.1 && x.1.2.2.2.2.2.2 ||
 x.1.2.2.2.2.2.1 && !x.1.2.2.2.1) &&
 (x.1.2.2.1 && x.1.2.2.2.2.1)) =
 true →
 (!(decide (x.1.1 < 0) || decide (8 ≤ x.1.1) ||
 decide (x.1.2.1 < 32) ||
 decide (256 ≤ x.1.2.1) ||
 x.1.2.2.1 && x.1.2.2.2.2.2.1 ||
 !x.1.2.2.1 && x.1.2.2.2.2.2.2 ||
 x.1.2.2.2.2.2.1 && !x.1.2.2.2.1) &&
 (x.1.2.2.1 && x.1.2.2.2.2.1)) =
 true) ∧
 ((!(decide (x.1.1 < 0) || decide (8 ≤ x.1.1) ||
 decide (x.1.2.1 < 32) ||
 decide (256 ≤ x.1.2.1) ||
 x.1.2.2.1 && x.1.2.2.2.2.2.1 ||
 !x.1.2.2.1 && x.1.2.2.2.2.2.2 ||
 x.1.2.2.2.2.2.1 && !x.1.2.2.2.1) &&
 (x.1.2.2.1 && x.1.2.2.2.2.1)) =
 true →
 (!(decide (x.1.1 < 0) || decide (8 ≤ x.1.1) ||
 decide (x.1.2.1 < 32) ||
 decide (256 ≤ x.1.2.1) ||
 x.1.2.2.1 && x.1.2.2.2.2.2.1 ||
 !x.1.2.2.1 && x.1.2.2.2.2.2.2 ||
 x.1.2.2.2.2.2.1 && !x.1.2.2.2.1) &&
 (x.1.2.2.1 && x.1.2.2.2.2.1)) =
 true) ∧
 ((!(decide (x.1.1 < 0) || decide (8 ≤ x.1.1) ||
 decide (x.1.2.1 < 32) ||
 decide (256 ≤ x.1.2.1) ||
 x.1.2.2.1 && x.1.2.2.2.2.2.1 ||
 !x.1.2.2.1 && x.1.2.2.2.2.2.2 ||
 x.1.2.2.2.2.2.1 && !x.1.2.2.2.1)) =
 true →
 (!(decide (x.1.1 < 0) || decide (8 ≤ x.1.1) ||
 decide (x.1.2.1 < 32) ||
 decide (256 ≤ x.1.2.1) ||
 x.1.2.2.1 && x.1.2.2.2.2.2.1 ||
 !x.1.2.2.1 && x.1.2.2.2.2.2.2 ||
 x.1.2.2.2.2.2.1 && !x.1.2.2.2.1)) =
 true ∧
 ((x.1.2.2.1 && x.1.2.2.2.2.1) = true →
 (!(decide (x.1.1 < 0) || decide (8 ≤ x.1.1) ||
 decide (x.1.2.1 < 32) ||
 decide (256 ≤ x.1.2.1) ||
 x.1.2.2.1 && x.1.2.2.2.2.2.1 ||
 !x.1.2.2.1 && x.1.2.2.2.2.2.2 ||
 x.1.2.2.2.2.2.1 && !x.1.2.2.2.1) &&
 (x.1.2.2.1 && x.1.2.2.2.2.1)) =
 true)) ∧
 ((!(decide (x.1.1 < 0) || decide (8 ≤ x.1.1) ||
 decide (x.1.2.1 < 32) ||
 decide (256 ≤ x.1.2.1) ||
 x.1.2.2.1 && x.1.2.2.2.2.2.1 ||
 !x.1.2.2.1 && x.1.2.2.2.2.2.2 ||
 x.1.2.2.2.2.2.1 && !x.1.2.2.2.1)) =
 true →
 (!(decide (x.1.1 < 0) || decide (8 ≤ x.1.1) ||
 decide (x.1.2.1 < 32) ||
 decide (256 ≤ x.1.2.1) ||
 x.1.2.2.1 && x.1.2.2.2.2.2.1 ||
 !x.1.2.2.1 && x.1.2.2.2.2.2.2 ||
 x.1.2.2.2.2.2.1 && !x.1.2.2.2.1)) =
 true) ∧
 ((!(decide (x.1.1 < 0) || decide (8 ≤ x.1.1) ||
 decide (x.1.2.1 < 32) ||
 decide (256 ≤ x.1.2.1) ||
 x.1.2.2.1 && x.1.2.2.2.2.2.1 ||
 !x.1.2.2.1 && x.1.2.2.2.2.2.2 ||
 x.1.2.2.2.2.2.1 && !x.1.2.2.2.1) &&
 (x.1.2.2.1 && x.1.2.2.2.2.1 &&
 !x.1.2.2.2.1)) =
 true →
 (!(decide (x.1.1 < 0) || decide (8 ≤ x.1.1) ||
 decide (x.1.2.1 < 32) ||
 decide (256 ≤ x.1.2.1) ||
 x.1.2.2.1 && x.1.2.2.2.2.2.1 ||
 !x.1.2.2.1 && x.1.2.2.2.2.2.2 ||
 x.1.2.2.2.2.2.1 && !x.1.2.2.2.1) &&
 (x.1.2.2.1 && x.1.2.2.2.2.1 &&
 !x.1.2.2.2.1)) =
 true) ∧
 ((!(decide (x.1.1 < 0) || decide (8 ≤ x.1.1) ||
 decide (x.1.2.1 < 32) ||
 decide (256 ≤ x.1.2.1) ||
 x.1.2.2.1 && x.1.2.2.2.2.2.1 ||
 !x.1.2.2.1 && x.1.2.2.2.2.2.2 ||
 x.1.2.2.2.2.2.1 && !x.1.2.2.2.1) &&
 (x.1.2.2.1 && x.1.2.2.2.2.1 &&
 !x.1.2.2.2.1)) =
 true →
 (!(decide (x.1.1 < 0) || decide (8 ≤ x.1.1) ||
 decide (x.1.2.1 < 32) ||
 decide (256 ≤ x.1.2.1) ||
 x.1.2.2.1 && x.1.2.2.2.2.2.1 ||
 !x.1.2.2.1 && x.1.2.2.2.2.2.2 ||
 x.1.2.2.2.2.2.1 && !x.1.2.2.2.1) &&
 (x.1.2.2.1 && x.1.2.2.2.2.1 &&
 !x.1.2.2.2.1)) =
 true) ∧
 ((!(decide (x.1.1 < 0) || decide (8 ≤ x.1.1) ||
 decide (x.1.2.1 < 32) ||
 decide (256 ≤ x.1.2.1) ||
 x.1.2.2.1 && x.1.2.2.2.2.2.1 ||
 !x.1.2.2.1 && x.1.2.2.2.2.2.2 ||
 x.1.2.2.2.2.2.1 && !x.1.2.2.2.1)) =
 true →
 (!(decide (x.1.1 < 0) || decide (8 ≤ x.1.1) ||
 decide (x.1.2.1 < 32) ||
 decide (256 ≤ x.1.2.1) ||
 x.1.2.2.1 && x.1.2.2.2.2.2.1 ||
 !x.1.2.2.1 && x.1.2.2.2.2.2.2 ||
 x.1.2.2.2.2.2.1 && !x.1.2.2.2.1)) =
 true ∧
 ((x.1.2.2.1 && x.1.2.2.2.2.1 &&
 !x.1.2.2.2.1) =
 true →
 (!(decide (x.1.1 < 0) ||
 decide (8 ≤ x.1.1) ||
 decide (x.1.2.1 < 32) ||
 decide (256 ≤ x.1.2.1) ||
 x.1.2.2.1 && x.1.2.2.2.2.2.1 ||
 !x.1.2.2.1 && x.1.2.2.2.2.2.2 ||
 x.1.2.2.2.2.2.1 && !x.1.2.2.2.1) &&
 (x.1.2.2.1 && x.1.2.2.2.2.1 &&
 !x.1.2.2.2.1)) =
 true)) ∧
 ((decide (x.1.1 < 0) || decide (8 ≤ x.1.1) ||
 decide (x.1.2.1 < 32) ||
 decide (256 ≤ x.1.2.1) ||
 x.1.2.2.1 && x.1.2.2.2.2.2.1 ||
 !x.1.2.2.1 && x.1.2.2.2.2.2.2 ||
 x.1.2.2.2.2.2.1 && !x.1.2.2.2.1) =
 false →
 (!(decide (x.1.1 < 0) || decide (8 ≤ x.1.1) ||
 decide (x.1.2.1 < 32) ||
 decide (256 ≤ x.1.2.1) ||
 x.1.2.2.1 && x.1.2.2.2.2.2.1 ||
 !x.1.2.2.1 && x.1.2.2.2.2.2.2 ||
 x.1.2.2.2.2.2.1 && !x.1.2.2.2.1)) =
 true) ∧
 (decide (x.1.1 < 0) || decide (8 ≤ x.1.1) ||
 decide (x.1.2.1 < 32) ||
 decide (256 ≤ x.1.2.1) ||
 x.1.2.2.1 && x.1.2.2.2.2.2.1 ||
 !x.1.2.2.1 && x.1.2.2.2.2.2.2 ||
 x.1.2.2.2.2.2.1 && !x.1.2.2.2.1 ||
 x.1.2.2.1 && x.1.2.2.2.2.1 &&
 !x.1.2.2.2.1 &&
 !x.1.2.2.2.2.2.2) =
 !okP x.1

theorem E_badp_eq (x : HL (cBad : Ctr).as) : vc (fx_badp x) 1 62 Tryd.f62 (cBad) x = E_badp x := by kernel_rfl

def E_right (x : List (Int × Int × Bool × Bool × Bool × Bool × Bool) × Unit) : Prop :=
 (decide ((↑x.1.length : Int) ≤ (24 : Int)) = true →
 decide ((↑x.1.length : Int) ≤ (24 : Int)) = true ∧
 ((((0 : Int) ≤ (0 : Int) ∧ 0 ≤ (↑x.1.length : Int) ∧ (List.take (Int.toNat (0 : Int)) x.1).all okP = true) ∧ True) ∧
 (x.1 = x.1 ∧
 Value.func (Fn.func (62 : Nat)) ([] : List Value).toArray ([] : List Value).toArray =
 Value.func (Fn.func (62 : Nat)) ([] : List Value).toArray ([] : List Value).toArray ∧
 (↑x.1.length : Int) = (↑x.1.length : Int) ∧ (0 : Int) = (0 : Int) ∧ True) ∧
 True ∧
 x.1 = x.1 ∧
 Value.func (Fn.func (62 : Nat)) ([] : List Value).toArray ([] : List Value).toArray =
 Value.func (Fn.func (62 : Nat)) ([] : List Value).toArray ([] : List Value).toArray ∧
 True ∧
 True ∧
 false = false ∧
 x.1 = x.1 ∧
 Value.func (Fn.func (62 : Nat)) ([] : List Value).toArray ([] : List Value).toArray =
 Value.func (Fn.func (62 : Nat)) ([] : List Value).toArray ([] : List Value).toArray ∧
 True ∧
 True ∧
 x.1 = x.1 ∧
 True ∧
 false = false ∧
 x.1 = x.1 ∧
 (↑x.1.length : Int) = (↑x.1.length : Int) ∧
 decide ((↑x.1.length : Int) ≤ (24 : Int)) = decide ((↑x.1.length : Int) ≤ (24 : Int)) ∧
 true = true ∧ x.1 = x.1 ∧ True ∧ True ∧ True ∧ True) ∧
 ∀ (g : Int × Unit),
 0 ≤ g.1 ∧ g.1 ≤ (↑x.1.length : Int) ∧ (List.take g.1.toNat x.1).all okP = true →
 (-9223372036854775808 ≤ g.1 ∧ g.1 ≤ 9223372036854775807) ∧ True →
 (decide (g.1 < (↑x.1.length : Int)) = true →
 (0 ≤ g.1 ∧ g.1 < (↑x.1.length : Int)) ∧
 Holds True ∧
 ((!okP
 ((x.1.getD g.1.toNat ((0 : Int), (0 : Int), false, false, false, false, false)).1,
 (x.1.getD g.1.toNat ((0 : Int), (0 : Int), false, false, false, false, false)).2.1,
 (x.1.getD g.1.toNat ((0 : Int), (0 : Int), false, false, false, false, false)).2.2.1,
 (x.1.getD g.1.toNat ((0 : Int), (0 : Int), false, false, false, false, false)).2.2.2.1,
 (x.1.getD g.1.toNat ((0 : Int), (0 : Int), false, false, false, false, false)).2.2.2.2.1,
 (x.1.getD g.1.toNat ((0 : Int), (0 : Int), false, false, false, false, false)).2.2.2.2.2.1,
 (x.1.getD g.1.toNat ((0 : Int), (0 : Int), false, false, false, false, false)).2.2.2.2.2.2)) =
 true →
 (!decide (0 ≤ g.1)) = right x.1) ∧
 ((!okP
 ((x.1.getD g.1.toNat ((0 : Int), (0 : Int), false, false, false, false, false)).1,
 (x.1.getD g.1.toNat ((0 : Int), (0 : Int), false, false, false, false, false)).2.1,
 (x.1.getD g.1.toNat ((0 : Int), (0 : Int), false, false, false, false, false)).2.2.1,
 (x.1.getD g.1.toNat ((0 : Int), (0 : Int), false, false, false, false, false)).2.2.2.1,
 (x.1.getD g.1.toNat ((0 : Int), (0 : Int), false, false, false, false, false)).2.2.2.2.1,
 (x.1.getD g.1.toNat ((0 : Int), (0 : Int), false, false, false, false, false)).2.2.2.2.2.1,
 (x.1.getD g.1.toNat ((0 : Int), (0 : Int), false, false, false, false, false)).2.2.2.2.2.2)) =
 false →
 (-9223372036854775808 ≤ g.1 + 1 ∧ g.1 + 1 ≤ (9223372036854775807 : Int)) ∧
 ((0 ≤ g.1 + 1 ∧
 g.1 + 1 ≤ (↑x.1.length : Int) ∧ (List.take (g.1 + 1).toNat x.1).all okP = true) ∧
 ((↑x.1.length : Int) - (g.1 + 1)).toNat < ((↑x.1.length : Int) - g.1).toNat) ∧
 (x.1 = x.1 ∧
 Value.func (Fn.func (62 : Nat)) ([] : List Value).toArray ([] : List Value).toArray =
 Value.func (Fn.func (62 : Nat)) ([] : List Value).toArray ([] : List Value).toArray ∧
 (↑x.1.length : Int) = (↑x.1.length : Int) ∧ g.1 + 1 = g.1 + 1 ∧ True) ∧
 True ∧
 x.1 = x.1 ∧
 Value.func (Fn.func (62 : Nat)) ([] : List Value).toArray ([] : List Value).toArray =
 Value.func (Fn.func (62 : Nat)) ([] : List Value).toArray ([] : List Value).toArray ∧
 True ∧
 True ∧
 false = false ∧
 x.1 = x.1 ∧
 Value.func (Fn.func (62 : Nat)) ([] : List Value).toArray ([] : List Value).toArray =
 Value.func (Fn.func (62 : Nat)) ([] : List Value).toArray ([] : List Value).toArray ∧
 True ∧
 True ∧
 x.1 = x.1 ∧
 True ∧
 false = false ∧
 x.1 = x.1 ∧
 (↑x.1.length : Int) = (↑x.1.length : Int) ∧
 decide ((↑x.1.length : Int) ≤ (24 : Int)) =
 decide ((↑x.1.length : Int) ≤ (24 : Int)) ∧
 true = true ∧ x.1 = x.1 ∧ True ∧ True ∧ True ∧ True)) ∧
 (decide (g.1 < (↑x.1.length : Int)) = false → (!decide ((0 : Int) ≤ (-1 : Int))) = right x.1)) ∧
 (decide ((↑x.1.length : Int) ≤ (24 : Int)) = !true → false = right x.1)

theorem E_right_eq (x : HL (cRight : Ctr).as) : vc (fx_right x) 3 54 Tryd.f54 (cRight) x = E_right x := by kernel_rfl

end Go.Proofs.YtppgbcmeagbalaaDoor.Line
