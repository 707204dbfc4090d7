/-
  The conditions that the executor comes to, written out (by a tool of ours), and that they are the conditions (by the kernel).
-/
import Derived.Test.YtmcepjbbbkgfcaaNicpC
namespace Go.Proofs.Ytmcepjbbbkgfcaa.Nicp
open Go.Sx
set_option maxRecDepth 100000

def E_equal (x : List Int × List Int × Unit) : Prop :=
 (((↑x.fst.length : Int) != (↑x.snd.fst.length : Int)) = true → false = decide (x.fst = x.snd.fst)) ∧
 (((↑x.fst.length : Int) != (↑x.snd.fst.length : Int)) = false →
 ((((0 : Int) ≤ (0 : Int) ∧
 (0 : Int) ≤ (↑x.fst.length : Int) ∧ List.take (Int.toNat (0 : Int)) x.fst = List.take (Int.toNat (0 : Int)) x.snd.fst) ∧
 True) ∧
 (x.fst = x.fst ∧ x.snd.fst = x.snd.fst ∧ (↑x.fst.length : Int) = (↑x.fst.length : Int) ∧ (0 : Int) = (0 : Int) ∧ True) ∧ True ∧ True) ∧
 ∀ (g : Int × Unit),
 (0 : Int) ≤ g.fst ∧ g.fst ≤ (↑x.fst.length : Int) ∧ List.take g.fst.toNat x.fst = List.take g.fst.toNat x.snd.fst →
 ((-9223372036854775808 : Int) ≤ g.fst ∧ g.fst ≤ (9223372036854775807 : Int)) ∧ True →
 (decide (g.fst < (↑x.fst.length : Int)) = true →
 ((0 : Int) ≤ g.fst ∧ g.fst < (↑x.fst.length : Int)) ∧
 ((0 : Int) ≤ g.fst ∧ g.fst < (↑x.snd.fst.length : Int)) ∧
 ((x.fst.getD g.fst.toNat (0 : Int) != x.snd.fst.getD g.fst.toNat (0 : Int)) = true → false = decide (x.fst = x.snd.fst)) ∧
 ((x.fst.getD g.fst.toNat (0 : Int) != x.snd.fst.getD g.fst.toNat (0 : Int)) = false →
 ((-9223372036854775808 : Int) ≤ g.fst + (1 : Int) ∧ g.fst + (1 : Int) ≤ (9223372036854775807 : Int)) ∧
 (((0 : Int) ≤ g.fst + (1 : Int) ∧
 g.fst + (1 : Int) ≤ (↑x.fst.length : Int) ∧
 List.take (g.fst + (1 : Int)).toNat x.fst = List.take (g.fst + (1 : Int)).toNat x.snd.fst) ∧
 ((↑x.fst.length : Int) - (g.fst + (1 : Int))).toNat < ((↑x.fst.length : Int) - g.fst).toNat) ∧
 (x.fst = x.fst ∧
 x.snd.fst = x.snd.fst ∧
 (↑x.fst.length : Int) = (↑x.fst.length : Int) ∧ g.fst + (1 : Int) = g.fst + (1 : Int) ∧ True) ∧
 True ∧ True)) ∧
 (decide (g.fst < (↑x.fst.length : Int)) = false → true = decide (x.fst = x.snd.fst)))

theorem E_equal_eq (x : HL (cEqual : Ctr).as) : vc (fx_equal x) 1 18 Try.f18 (cEqual) x = E_equal x := by kernel_rfl

def E_clone (x : List Int × Unit) : Prop :=
 ∀ (b : Bool),
 (b = true → x.fst = ([] : List Int)) →
 (b = true → ([] : List Int) = x.fst) ∧
 (b = false →
 (([] : List Int).length + x.fst.length ≤ (9223372036854775807 : Nat) ∧
 (([] : List Int).length + x.fst.length) * (8 : Nat) ≤ (140737488355328 : Nat)) ∧
 ([] : List Int) ++ x.fst = x.fst)

theorem E_clone_eq (x : HL (cClone : Ctr).as) : vc (fx_clone x) 1 79 Try.f79 (cClone) x = E_clone x := by kernel_rfl

def E_right (x : (List Int × Int × Int × Bool × Bool × Int) × Unit) : Prop :=
 (decide ((1 : Int) ≤ x.fst.snd.fst) = true → decide ((1 : Int) ≤ x.fst.snd.fst) = true) ∧
 (decide ((1 : Int) ≤ x.fst.snd.fst) = true → decide ((1 : Int) ≤ x.fst.snd.fst) = true) ∧
 (decide ((1 : Int) ≤ x.fst.snd.fst) = true → decide ((1 : Int) ≤ x.fst.snd.fst) = true) ∧
 ((decide ((1 : Int) ≤ x.fst.snd.fst) && decide (x.fst.snd.fst ≤ (64 : Int))) = true →
 (decide ((1 : Int) ≤ x.fst.snd.fst) && decide (x.fst.snd.fst ≤ (64 : Int))) = true) ∧
 ((decide ((1 : Int) ≤ x.fst.snd.fst) && decide (x.fst.snd.fst ≤ (64 : Int))) = true →
 (decide ((1 : Int) ≤ x.fst.snd.fst) && decide (x.fst.snd.fst ≤ (64 : Int))) = true) ∧
 ((decide ((1 : Int) ≤ x.fst.snd.fst) && decide (x.fst.snd.fst ≤ (64 : Int))) = true →
 (decide ((1 : Int) ≤ x.fst.snd.fst) && decide (x.fst.snd.fst ≤ (64 : Int))) = true) ∧
 ((decide ((1 : Int) ≤ x.fst.snd.fst) && decide (x.fst.snd.fst ≤ (64 : Int))) = true →
 (decide ((1 : Int) ≤ x.fst.snd.fst) && decide (x.fst.snd.fst ≤ (64 : Int))) = true ∧
 (decide ((1 : Int) ≤ x.fst.snd.fst) && decide (x.fst.snd.fst ≤ (64 : Int))) = true) ∧
 ((decide ((1 : Int) ≤ x.fst.snd.fst) && decide (x.fst.snd.fst ≤ (64 : Int))) = true →
 (decide ((1 : Int) ≤ x.fst.snd.fst) && decide (x.fst.snd.fst ≤ (64 : Int))) = true) ∧
 ((decide ((1 : Int) ≤ x.fst.snd.fst) && decide (x.fst.snd.fst ≤ (64 : Int)) && decide ((↑x.fst.fst.length : Int) ≤ x.fst.snd.fst)) =
 true →
 (decide ((1 : Int) ≤ x.fst.snd.fst) && decide (x.fst.snd.fst ≤ (64 : Int)) &&
 decide ((↑x.fst.fst.length : Int) ≤ x.fst.snd.fst)) =
 true) ∧
 ((decide ((1 : Int) ≤ x.fst.snd.fst) && decide (x.fst.snd.fst ≤ (64 : Int)) && decide ((↑x.fst.fst.length : Int) ≤ x.fst.snd.fst)) =
 true →
 (decide ((1 : Int) ≤ x.fst.snd.fst) && decide (x.fst.snd.fst ≤ (64 : Int)) &&
 decide ((↑x.fst.fst.length : Int) ≤ x.fst.snd.fst)) =
 true) ∧
 ((decide ((1 : Int) ≤ x.fst.snd.fst) && decide (x.fst.snd.fst ≤ (64 : Int)) &&
 decide ((↑x.fst.fst.length : Int) ≤ x.fst.snd.fst)) =
 true →
 (decide ((1 : Int) ≤ x.fst.snd.fst) && decide (x.fst.snd.fst ≤ (64 : Int)) &&
 decide ((↑x.fst.fst.length : Int) ≤ x.fst.snd.fst)) =
 true) ∧
 ((decide ((1 : Int) ≤ x.fst.snd.fst) && decide (x.fst.snd.fst ≤ (64 : Int)) &&
 decide ((↑x.fst.fst.length : Int) ≤ x.fst.snd.fst) &&
 decide ((0 : Int) ≤ x.fst.snd.snd.fst)) =
 true →
 (decide ((1 : Int) ≤ x.fst.snd.fst) && decide (x.fst.snd.fst ≤ (64 : Int)) &&
 decide ((↑x.fst.fst.length : Int) ≤ x.fst.snd.fst) &&
 decide ((0 : Int) ≤ x.fst.snd.snd.fst)) =
 true) ∧
 ((decide ((1 : Int) ≤ x.fst.snd.fst) && decide (x.fst.snd.fst ≤ (64 : Int)) &&
 decide ((↑x.fst.fst.length : Int) ≤ x.fst.snd.fst) &&
 decide ((0 : Int) ≤ x.fst.snd.snd.fst)) =
 true →
 (decide ((1 : Int) ≤ x.fst.snd.fst) && decide (x.fst.snd.fst ≤ (64 : Int)) &&
 decide ((↑x.fst.fst.length : Int) ≤ x.fst.snd.fst) &&
 decide ((0 : Int) ≤ x.fst.snd.snd.fst)) =
 true) ∧
 ((decide ((1 : Int) ≤ x.fst.snd.fst) && decide (x.fst.snd.fst ≤ (64 : Int)) &&
 decide ((↑x.fst.fst.length : Int) ≤ x.fst.snd.fst) &&
 decide ((0 : Int) ≤ x.fst.snd.snd.fst)) =
 true →
 (decide ((1 : Int) ≤ x.fst.snd.fst) && decide (x.fst.snd.fst ≤ (64 : Int)) &&
 decide ((↑x.fst.fst.length : Int) ≤ x.fst.snd.fst) &&
 decide ((0 : Int) ≤ x.fst.snd.snd.fst)) =
 true) ∧
 ((decide ((1 : Int) ≤ x.fst.snd.fst) && decide (x.fst.snd.fst ≤ (64 : Int)) &&
 decide ((↑x.fst.fst.length : Int) ≤ x.fst.snd.fst) &&
 decide ((0 : Int) ≤ x.fst.snd.snd.fst) &&
 decide (x.fst.snd.snd.fst ≤ (1099511627776 : Int))) =
 true →
 (decide ((1 : Int) ≤ x.fst.snd.fst) && decide (x.fst.snd.fst ≤ (64 : Int)) &&
 decide ((↑x.fst.fst.length : Int) ≤ x.fst.snd.fst) &&
 decide ((0 : Int) ≤ x.fst.snd.snd.fst) &&
 decide (x.fst.snd.snd.fst ≤ (1099511627776 : Int))) =
 true) ∧
 ((decide ((1 : Int) ≤ x.fst.snd.fst) && decide (x.fst.snd.fst ≤ (64 : Int)) &&
 decide ((↑x.fst.fst.length : Int) ≤ x.fst.snd.fst) &&
 decide ((0 : Int) ≤ x.fst.snd.snd.fst) &&
 decide (x.fst.snd.snd.fst ≤ (1099511627776 : Int))) =
 true →
 (decide ((1 : Int) ≤ x.fst.snd.fst) && decide (x.fst.snd.fst ≤ (64 : Int)) &&
 decide ((↑x.fst.fst.length : Int) ≤ x.fst.snd.fst) &&
 decide ((0 : Int) ≤ x.fst.snd.snd.fst) &&
 decide (x.fst.snd.snd.fst ≤ (1099511627776 : Int))) =
 true) ∧
 ((decide ((1 : Int) ≤ x.fst.snd.fst) && decide (x.fst.snd.fst ≤ (64 : Int)) &&
 decide ((↑x.fst.fst.length : Int) ≤ x.fst.snd.fst) &&
 decide ((0 : Int) ≤ x.fst.snd.snd.fst) &&
 decide (x.fst.snd.snd.fst ≤ (1099511627776 : Int))) =
 true →
 (decide ((1 : Int) ≤ x.fst.snd.fst) && decide (x.fst.snd.fst ≤ (64 : Int)) &&
 decide ((↑x.fst.fst.length : Int) ≤ x.fst.snd.fst) &&
 decide ((0 : Int) ≤ x.fst.snd.snd.fst) &&
 decide (x.fst.snd.snd.fst ≤ (1099511627776 : Int))) =
 true) ∧
 ((decide ((1 : Int) ≤ x.fst.snd.fst) && decide (x.fst.snd.fst ≤ (64 : Int)) &&
 decide ((↑x.fst.fst.length : Int) ≤ x.fst.snd.fst) &&
 decide ((0 : Int) ≤ x.fst.snd.snd.fst) &&
 decide (x.fst.snd.snd.fst ≤ (1099511627776 : Int)) &&
 decide ((0 : Int) ≤ x.fst.snd.snd.snd.snd.snd)) =
 true →
 (decide ((1 : Int) ≤ x.fst.snd.fst) && decide (x.fst.snd.fst ≤ (64 : Int)) &&
 decide ((↑x.fst.fst.length : Int) ≤ x.fst.snd.fst) &&
 decide ((0 : Int) ≤ x.fst.snd.snd.fst) &&
 decide (x.fst.snd.snd.fst ≤ (1099511627776 : Int)) &&
 decide ((0 : Int) ≤ x.fst.snd.snd.snd.snd.snd)) =
 true) ∧
 ((decide ((1 : Int) ≤ x.fst.snd.fst) && decide (x.fst.snd.fst ≤ (64 : Int)) &&
 decide ((↑x.fst.fst.length : Int) ≤ x.fst.snd.fst) &&
 decide ((0 : Int) ≤ x.fst.snd.snd.fst) &&
 decide (x.fst.snd.snd.fst ≤ (1099511627776 : Int)) &&
 decide ((0 : Int) ≤ x.fst.snd.snd.snd.snd.snd)) =
 true →
 (decide ((1 : Int) ≤ x.fst.snd.fst) && decide (x.fst.snd.fst ≤ (64 : Int)) &&
 decide ((↑x.fst.fst.length : Int) ≤ x.fst.snd.fst) &&
 decide ((0 : Int) ≤ x.fst.snd.snd.fst) &&
 decide (x.fst.snd.snd.fst ≤ (1099511627776 : Int)) &&
 decide ((0 : Int) ≤ x.fst.snd.snd.snd.snd.snd)) =
 true) ∧
 ((decide ((1 : Int) ≤ x.fst.snd.fst) && decide (x.fst.snd.fst ≤ (64 : Int)) &&
 decide ((↑x.fst.fst.length : Int) ≤ x.fst.snd.fst) &&
 decide ((0 : Int) ≤ x.fst.snd.snd.fst) &&
 decide (x.fst.snd.snd.fst ≤ (1099511627776 : Int)) &&
 decide ((0 : Int) ≤ x.fst.snd.snd.snd.snd.snd)) =
 true →
 (decide ((1 : Int) ≤ x.fst.snd.fst) && decide (x.fst.snd.fst ≤ (64 : Int)) &&
 decide ((↑x.fst.fst.length : Int) ≤ x.fst.snd.fst) &&
 decide ((0 : Int) ≤ x.fst.snd.snd.fst) &&
 decide (x.fst.snd.snd.fst ≤ (1099511627776 : Int)) &&
 decide ((0 : Int) ≤ x.fst.snd.snd.snd.snd.snd)) =
 true) ∧
 ((decide ((1 : Int) ≤ x.fst.snd.fst) && decide (x.fst.snd.fst ≤ (64 : Int)) &&
 decide ((↑x.fst.fst.length : Int) ≤ x.fst.snd.fst) &&
 decide ((0 : Int) ≤ x.fst.snd.snd.fst) &&
 decide (x.fst.snd.snd.fst ≤ (1099511627776 : Int)) &&
 decide ((0 : Int) ≤ x.fst.snd.snd.snd.snd.snd) &&
 decide (x.fst.snd.snd.snd.snd.snd ≤ (1099511627776 : Int))) =
 true →
 (decide ((1 : Int) ≤ x.fst.snd.fst) && decide (x.fst.snd.fst ≤ (64 : Int)) &&
 decide ((↑x.fst.fst.length : Int) ≤ x.fst.snd.fst) &&
 decide ((0 : Int) ≤ x.fst.snd.snd.fst) &&
 decide (x.fst.snd.snd.fst ≤ (1099511627776 : Int)) &&
 decide ((0 : Int) ≤ x.fst.snd.snd.snd.snd.snd) &&
 decide (x.fst.snd.snd.snd.snd.snd ≤ (1099511627776 : Int))) =
 true) ∧
 ((decide ((1 : Int) ≤ x.fst.snd.fst) && decide (x.fst.snd.fst ≤ (64 : Int)) &&
 decide ((↑x.fst.fst.length : Int) ≤ x.fst.snd.fst) &&
 decide ((0 : Int) ≤ x.fst.snd.snd.fst) &&
 decide (x.fst.snd.snd.fst ≤ (1099511627776 : Int)) &&
 decide ((0 : Int) ≤ x.fst.snd.snd.snd.snd.snd) &&
 decide (x.fst.snd.snd.snd.snd.snd ≤ (1099511627776 : Int))) =
 true →
 (decide ((1 : Int) ≤ x.fst.snd.fst) && decide (x.fst.snd.fst ≤ (64 : Int)) &&
 decide ((↑x.fst.fst.length : Int) ≤ x.fst.snd.fst) &&
 decide ((0 : Int) ≤ x.fst.snd.snd.fst) &&
 decide (x.fst.snd.snd.fst ≤ (1099511627776 : Int)) &&
 decide ((0 : Int) ≤ x.fst.snd.snd.snd.snd.snd) &&
 decide (x.fst.snd.snd.snd.snd.snd ≤ (1099511627776 : Int))) =
 true) ∧
 ((decide ((1 : Int) ≤ x.fst.snd.fst) && decide (x.fst.snd.fst ≤ (64 : Int)) &&
 decide ((↑x.fst.fst.length : Int) ≤ x.fst.snd.fst) &&
 decide ((0 : Int) ≤ x.fst.snd.snd.fst) &&
 decide (x.fst.snd.snd.fst ≤ (1099511627776 : Int)) &&
 decide ((0 : Int) ≤ x.fst.snd.snd.snd.snd.snd) &&
 decide (x.fst.snd.snd.snd.snd.snd ≤ (1099511627776 : Int))) =
 true →
 (decide ((1 : Int) ≤ x.fst.snd.fst) && decide (x.fst.snd.fst ≤ (64 : Int)) &&
 decide ((↑x.fst.fst.length : Int) ≤ x.fst.snd.fst) &&
 decide ((0 : Int) ≤ x.fst.snd.snd.fst) &&
 decide (x.fst.snd.snd.fst ≤ (1099511627776 : Int)) &&
 decide ((0 : Int) ≤ x.fst.snd.snd.snd.snd.snd) &&
 decide (x.fst.snd.snd.snd.snd.snd ≤ (1099511627776 : Int))) =
 true ∧
 (decide ((1 : Int) ≤ x.fst.snd.fst) && decide (x.fst.snd.fst ≤ (64 : Int)) &&
 decide ((↑x.fst.fst.length : Int) ≤ x.fst.snd.fst) &&
 decide ((0 : Int) ≤ x.fst.snd.snd.fst) &&
 decide (x.fst.snd.snd.fst ≤ (1099511627776 : Int)) &&
 decide ((0 : Int) ≤ x.fst.snd.snd.snd.snd.snd) &&
 decide (x.fst.snd.snd.snd.snd.snd ≤ (1099511627776 : Int))) =
 true) ∧
 ((decide ((1 : Int) ≤ x.fst.snd.fst) && decide (x.fst.snd.fst ≤ (64 : Int)) &&
 decide ((↑x.fst.fst.length : Int) ≤ x.fst.snd.fst) &&
 decide ((0 : Int) ≤ x.fst.snd.snd.fst) &&
 decide (x.fst.snd.snd.fst ≤ (1099511627776 : Int)) &&
 decide ((0 : Int) ≤ x.fst.snd.snd.snd.snd.snd) &&
 decide (x.fst.snd.snd.snd.snd.snd ≤ (1099511627776 : Int))) =
 true →
 (decide ((1 : Int) ≤ x.fst.snd.fst) && decide (x.fst.snd.fst ≤ (64 : Int)) &&
 decide ((↑x.fst.fst.length : Int) ≤ x.fst.snd.fst) &&
 decide ((0 : Int) ≤ x.fst.snd.snd.fst) &&
 decide (x.fst.snd.snd.fst ≤ (1099511627776 : Int)) &&
 decide ((0 : Int) ≤ x.fst.snd.snd.snd.snd.snd) &&
 decide (x.fst.snd.snd.snd.snd.snd ≤ (1099511627776 : Int))) =
 true) ∧
 ((decide ((1 : Int) ≤ x.fst.snd.fst) && decide (x.fst.snd.fst ≤ (64 : Int)) &&
 decide ((↑x.fst.fst.length : Int) ≤ x.fst.snd.fst) &&
 decide ((0 : Int) ≤ x.fst.snd.snd.fst) &&
 decide (x.fst.snd.snd.fst ≤ (1099511627776 : Int)) &&
 decide ((0 : Int) ≤ x.fst.snd.snd.snd.snd.snd) &&
 decide (x.fst.snd.snd.snd.snd.snd ≤ (1099511627776 : Int)) &&
 x.fst.snd.snd.snd.fst != x.fst.snd.snd.snd.snd.fst) =
 true →
 (decide ((1 : Int) ≤ x.fst.snd.fst) && decide (x.fst.snd.fst ≤ (64 : Int)) &&
 decide ((↑x.fst.fst.length : Int) ≤ x.fst.snd.fst) &&
 decide ((0 : Int) ≤ x.fst.snd.snd.fst) &&
 decide (x.fst.snd.snd.fst ≤ (1099511627776 : Int)) &&
 decide ((0 : Int) ≤ x.fst.snd.snd.snd.snd.snd) &&
 decide (x.fst.snd.snd.snd.snd.snd ≤ (1099511627776 : Int)) &&
 x.fst.snd.snd.snd.fst != x.fst.snd.snd.snd.snd.fst) =
 true) ∧
 ((decide ((1 : Int) ≤ x.fst.snd.fst) && decide (x.fst.snd.fst ≤ (64 : Int)) &&
 decide ((↑x.fst.fst.length : Int) ≤ x.fst.snd.fst) &&
 decide ((0 : Int) ≤ x.fst.snd.snd.fst) &&
 decide (x.fst.snd.snd.fst ≤ (1099511627776 : Int)) &&
 decide ((0 : Int) ≤ x.fst.snd.snd.snd.snd.snd) &&
 decide (x.fst.snd.snd.snd.snd.snd ≤ (1099511627776 : Int)) &&
 x.fst.snd.snd.snd.fst != x.fst.snd.snd.snd.snd.fst) =
 true →
 (decide ((1 : Int) ≤ x.fst.snd.fst) && decide (x.fst.snd.fst ≤ (64 : Int)) &&
 decide ((↑x.fst.fst.length : Int) ≤ x.fst.snd.fst) &&
 decide ((0 : Int) ≤ x.fst.snd.snd.fst) &&
 decide (x.fst.snd.snd.fst ≤ (1099511627776 : Int)) &&
 decide ((0 : Int) ≤ x.fst.snd.snd.snd.snd.snd) &&
 decide (x.fst.snd.snd.snd.snd.snd ≤ (1099511627776 : Int)) &&
 x.fst.snd.snd.snd.fst != x.fst.snd.snd.snd.snd.fst) =
 true) ∧
 ((decide ((1 : Int) ≤ x.fst.snd.fst) && decide (x.fst.snd.fst ≤ (64 : Int)) &&
 decide ((↑x.fst.fst.length : Int) ≤ x.fst.snd.fst) &&
 decide ((0 : Int) ≤ x.fst.snd.snd.fst) &&
 decide (x.fst.snd.snd.fst ≤ (1099511627776 : Int)) &&
 decide ((0 : Int) ≤ x.fst.snd.snd.snd.snd.snd) &&
 decide (x.fst.snd.snd.snd.snd.snd ≤ (1099511627776 : Int)) &&
 x.fst.snd.snd.snd.fst != x.fst.snd.snd.snd.snd.fst &&
 !x.fst.snd.snd.snd.snd.fst) =
 true →
 (decide ((1 : Int) ≤ x.fst.snd.fst) && decide (x.fst.snd.fst ≤ (64 : Int)) &&
 decide ((↑x.fst.fst.length : Int) ≤ x.fst.snd.fst) &&
 decide ((0 : Int) ≤ x.fst.snd.snd.fst) &&
 decide (x.fst.snd.snd.fst ≤ (1099511627776 : Int)) &&
 decide ((0 : Int) ≤ x.fst.snd.snd.snd.snd.snd) &&
 decide (x.fst.snd.snd.snd.snd.snd ≤ (1099511627776 : Int)) &&
 x.fst.snd.snd.snd.fst != x.fst.snd.snd.snd.snd.fst &&
 !x.fst.snd.snd.snd.snd.fst) =
 true) ∧
 ((decide ((1 : Int) ≤ x.fst.snd.fst) && decide (x.fst.snd.fst ≤ (64 : Int)) &&
 decide ((↑x.fst.fst.length : Int) ≤ x.fst.snd.fst) &&
 decide ((0 : Int) ≤ x.fst.snd.snd.fst) &&
 decide (x.fst.snd.snd.fst ≤ (1099511627776 : Int)) &&
 decide ((0 : Int) ≤ x.fst.snd.snd.snd.snd.snd) &&
 decide (x.fst.snd.snd.snd.snd.snd ≤ (1099511627776 : Int)) &&
 x.fst.snd.snd.snd.fst != x.fst.snd.snd.snd.snd.fst &&
 !x.fst.snd.snd.snd.snd.fst) =
 true →
 (decide ((1 : Int) ≤ x.fst.snd.fst) && decide (x.fst.snd.fst ≤ (64 : Int)) &&
 decide ((↑x.fst.fst.length : Int) ≤ x.fst.snd.fst) &&
 decide ((0 : Int) ≤ x.fst.snd.snd.fst) &&
 decide (x.fst.snd.snd.fst ≤ (1099511627776 : Int)) &&
 decide ((0 : Int) ≤ x.fst.snd.snd.snd.snd.snd) &&
 decide (x.fst.snd.snd.snd.snd.snd ≤ (1099511627776 : Int)) &&
 x.fst.snd.snd.snd.fst != x.fst.snd.snd.snd.snd.fst &&
 !x.fst.snd.snd.snd.snd.fst) =
 true) ∧
 ((decide ((1 : Int) ≤ x.fst.snd.fst) && decide (x.fst.snd.fst ≤ (64 : Int)) &&
 decide ((↑x.fst.fst.length : Int) ≤ x.fst.snd.fst) &&
 decide ((0 : Int) ≤ x.fst.snd.snd.fst) &&
 decide (x.fst.snd.snd.fst ≤ (1099511627776 : Int)) &&
 decide ((0 : Int) ≤ x.fst.snd.snd.snd.snd.snd) &&
 decide (x.fst.snd.snd.snd.snd.snd ≤ (1099511627776 : Int)) &&
 x.fst.snd.snd.snd.fst != x.fst.snd.snd.snd.snd.fst &&
 !x.fst.snd.snd.snd.snd.fst) =
 true →
 (decide ((1 : Int) ≤ x.fst.snd.fst) && decide (x.fst.snd.fst ≤ (64 : Int)) &&
 decide ((↑x.fst.fst.length : Int) ≤ x.fst.snd.fst) &&
 decide ((0 : Int) ≤ x.fst.snd.snd.fst) &&
 decide (x.fst.snd.snd.fst ≤ (1099511627776 : Int)) &&
 decide ((0 : Int) ≤ x.fst.snd.snd.snd.snd.snd) &&
 decide (x.fst.snd.snd.snd.snd.snd ≤ (1099511627776 : Int)) &&
 x.fst.snd.snd.snd.fst != x.fst.snd.snd.snd.snd.fst &&
 !x.fst.snd.snd.snd.snd.fst) =
 true) ∧
 ((decide ((1 : Int) ≤ x.fst.snd.fst) && decide (x.fst.snd.fst ≤ (64 : Int)) &&
 decide ((↑x.fst.fst.length : Int) ≤ x.fst.snd.fst) &&
 decide ((0 : Int) ≤ x.fst.snd.snd.fst) &&
 decide (x.fst.snd.snd.fst ≤ (1099511627776 : Int)) &&
 decide ((0 : Int) ≤ x.fst.snd.snd.snd.snd.snd) &&
 decide (x.fst.snd.snd.snd.snd.snd ≤ (1099511627776 : Int)) &&
 x.fst.snd.snd.snd.fst != x.fst.snd.snd.snd.snd.fst) =
 true →
 (decide ((1 : Int) ≤ x.fst.snd.fst) && decide (x.fst.snd.fst ≤ (64 : Int)) &&
 decide ((↑x.fst.fst.length : Int) ≤ x.fst.snd.fst) &&
 decide ((0 : Int) ≤ x.fst.snd.snd.fst) &&
 decide (x.fst.snd.snd.fst ≤ (1099511627776 : Int)) &&
 decide ((0 : Int) ≤ x.fst.snd.snd.snd.snd.snd) &&
 decide (x.fst.snd.snd.snd.snd.snd ≤ (1099511627776 : Int)) &&
 x.fst.snd.snd.snd.fst != x.fst.snd.snd.snd.snd.fst) =
 true ∧
 (x.fst.snd.snd.snd.snd.fst = false →
 (decide ((1 : Int) ≤ x.fst.snd.fst) && decide (x.fst.snd.fst ≤ (64 : Int)) &&
 decide ((↑x.fst.fst.length : Int) ≤ x.fst.snd.fst) &&
 decide ((0 : Int) ≤ x.fst.snd.snd.fst) &&
 decide (x.fst.snd.snd.fst ≤ (1099511627776 : Int)) &&
 decide ((0 : Int) ≤ x.fst.snd.snd.snd.snd.snd) &&
 decide (x.fst.snd.snd.snd.snd.snd ≤ (1099511627776 : Int)) &&
 x.fst.snd.snd.snd.fst != x.fst.snd.snd.snd.snd.fst &&
 !x.fst.snd.snd.snd.snd.fst) =
 true)) ∧
 ((decide ((1 : Int) ≤ x.fst.snd.fst) && decide (x.fst.snd.fst ≤ (64 : Int)) &&
 decide ((↑x.fst.fst.length : Int) ≤ x.fst.snd.fst) &&
 decide ((0 : Int) ≤ x.fst.snd.snd.fst) &&
 decide (x.fst.snd.snd.fst ≤ (1099511627776 : Int)) &&
 decide ((0 : Int) ≤ x.fst.snd.snd.snd.snd.snd) &&
 decide (x.fst.snd.snd.snd.snd.snd ≤ (1099511627776 : Int)) &&
 x.fst.snd.snd.snd.fst != x.fst.snd.snd.snd.snd.fst) =
 true →
 (decide ((1 : Int) ≤ x.fst.snd.fst) && decide (x.fst.snd.fst ≤ (64 : Int)) &&
 decide ((↑x.fst.fst.length : Int) ≤ x.fst.snd.fst) &&
 decide ((0 : Int) ≤ x.fst.snd.snd.fst) &&
 decide (x.fst.snd.snd.fst ≤ (1099511627776 : Int)) &&
 decide ((0 : Int) ≤ x.fst.snd.snd.snd.snd.snd) &&
 decide (x.fst.snd.snd.snd.snd.snd ≤ (1099511627776 : Int)) &&
 x.fst.snd.snd.snd.fst != x.fst.snd.snd.snd.snd.fst) =
 true) ∧
 (decide ((1 : Int) ≤ x.fst.snd.fst) && decide (x.fst.snd.fst ≤ (64 : Int)) &&
 decide ((↑x.fst.fst.length : Int) ≤ x.fst.snd.fst) &&
 decide ((0 : Int) ≤ x.fst.snd.snd.fst) &&
 decide (x.fst.snd.snd.fst ≤ (1099511627776 : Int)) &&
 decide ((0 : Int) ≤ x.fst.snd.snd.snd.snd.snd) &&
 decide (x.fst.snd.snd.snd.snd.snd ≤ (1099511627776 : Int)) &&
 x.fst.snd.snd.snd.fst != x.fst.snd.snd.snd.snd.fst &&
 (x.fst.snd.snd.snd.snd.fst || (↑x.fst.fst.length : Int) == (0 : Int))) =
 right x.fst

theorem E_right_eq (x : HL (cRight : Ctr).as) : vc (fx_right x) 1 78 Try.f78 (cRight) x = E_right x := by kernel_rfl

def E_tright (x : (List Int × Int × Int × Bool × Bool × Int) × Unit) : Prop :=
 ((!decide (x.fst.snd.fst < (1 : Int))) = true → (!decide (x.fst.snd.fst < (1 : Int))) = true) ∧
 ((!decide (x.fst.snd.fst < (1 : Int))) = true → (!decide (x.fst.snd.fst < (1 : Int))) = true) ∧
 (decide (x.fst.snd.fst < (1 : Int)) = false → (!decide (x.fst.snd.fst < (1 : Int))) = true) ∧
 ((!(decide (x.fst.snd.fst < (1 : Int)) || decide ((64 : Int) < x.fst.snd.fst))) = true →
 (!(decide (x.fst.snd.fst < (1 : Int)) || decide ((64 : Int) < x.fst.snd.fst))) = true) ∧
 ((!(decide (x.fst.snd.fst < (1 : Int)) || decide ((64 : Int) < x.fst.snd.fst))) = true →
 (!(decide (x.fst.snd.fst < (1 : Int)) || decide ((64 : Int) < x.fst.snd.fst))) = true) ∧
 ((!(decide (x.fst.snd.fst < (1 : Int)) || decide ((64 : Int) < x.fst.snd.fst))) = true →
 (!(decide (x.fst.snd.fst < (1 : Int)) || decide ((64 : Int) < x.fst.snd.fst))) = true) ∧
 ((!(decide (x.fst.snd.fst < (1 : Int)) || decide ((64 : Int) < x.fst.snd.fst))) = true →
 (!(decide (x.fst.snd.fst < (1 : Int)) || decide ((64 : Int) < x.fst.snd.fst))) = true ∧
 (!(decide (x.fst.snd.fst < (1 : Int)) || decide ((64 : Int) < x.fst.snd.fst))) = true) ∧
 ((decide (x.fst.snd.fst < (1 : Int)) || decide ((64 : Int) < x.fst.snd.fst)) = false →
 (!(decide (x.fst.snd.fst < (1 : Int)) || decide ((64 : Int) < x.fst.snd.fst))) = true) ∧
 ((!(decide (x.fst.snd.fst < (1 : Int)) || decide ((64 : Int) < x.fst.snd.fst) ||
 decide (x.fst.snd.fst < (↑x.fst.fst.length : Int)))) =
 true →
 (!(decide (x.fst.snd.fst < (1 : Int)) || decide ((64 : Int) < x.fst.snd.fst) ||
 decide (x.fst.snd.fst < (↑x.fst.fst.length : Int)))) =
 true) ∧
 ((!(decide (x.fst.snd.fst < (1 : Int)) || decide ((64 : Int) < x.fst.snd.fst) ||
 decide (x.fst.snd.fst < (↑x.fst.fst.length : Int)))) =
 true →
 (!(decide (x.fst.snd.fst < (1 : Int)) || decide ((64 : Int) < x.fst.snd.fst) ||
 decide (x.fst.snd.fst < (↑x.fst.fst.length : Int)))) =
 true) ∧
 ((decide (x.fst.snd.fst < (1 : Int)) || decide ((64 : Int) < x.fst.snd.fst) ||
 decide (x.fst.snd.fst < (↑x.fst.fst.length : Int))) =
 false →
 (!(decide (x.fst.snd.fst < (1 : Int)) || decide ((64 : Int) < x.fst.snd.fst) ||
 decide (x.fst.snd.fst < (↑x.fst.fst.length : Int)))) =
 true) ∧
 ((!(decide (x.fst.snd.fst < (1 : Int)) || decide ((64 : Int) < x.fst.snd.fst) ||
 decide (x.fst.snd.fst < (↑x.fst.fst.length : Int)) ||
 decide (x.fst.snd.snd.fst < (0 : Int)))) =
 true →
 (!(decide (x.fst.snd.fst < (1 : Int)) || decide ((64 : Int) < x.fst.snd.fst) ||
 decide (x.fst.snd.fst < (↑x.fst.fst.length : Int)) ||
 decide (x.fst.snd.snd.fst < (0 : Int)))) =
 true) ∧
 ((!(decide (x.fst.snd.fst < (1 : Int)) || decide ((64 : Int) < x.fst.snd.fst) ||
 decide (x.fst.snd.fst < (↑x.fst.fst.length : Int)) ||
 decide (x.fst.snd.snd.fst < (0 : Int)))) =
 true →
 (!(decide (x.fst.snd.fst < (1 : Int)) || decide ((64 : Int) < x.fst.snd.fst) ||
 decide (x.fst.snd.fst < (↑x.fst.fst.length : Int)) ||
 decide (x.fst.snd.snd.fst < (0 : Int)))) =
 true) ∧
 ((decide (x.fst.snd.fst < (1 : Int)) || decide ((64 : Int) < x.fst.snd.fst) ||
 decide (x.fst.snd.fst < (↑x.fst.fst.length : Int)) ||
 decide (x.fst.snd.snd.fst < (0 : Int))) =
 false →
 (!(decide (x.fst.snd.fst < (1 : Int)) || decide ((64 : Int) < x.fst.snd.fst) ||
 decide (x.fst.snd.fst < (↑x.fst.fst.length : Int)) ||
 decide (x.fst.snd.snd.fst < (0 : Int)))) =
 true) ∧
 ((!(decide (x.fst.snd.fst < (1 : Int)) || decide ((64 : Int) < x.fst.snd.fst) ||
 decide (x.fst.snd.fst < (↑x.fst.fst.length : Int)) ||
 decide (x.fst.snd.snd.fst < (0 : Int)) ||
 decide (x.fst.snd.snd.snd.snd.snd < (0 : Int)))) =
 true →
 (!(decide (x.fst.snd.fst < (1 : Int)) || decide ((64 : Int) < x.fst.snd.fst) ||
 decide (x.fst.snd.fst < (↑x.fst.fst.length : Int)) ||
 decide (x.fst.snd.snd.fst < (0 : Int)) ||
 decide (x.fst.snd.snd.snd.snd.snd < (0 : Int)))) =
 true) ∧
 ((!(decide (x.fst.snd.fst < (1 : Int)) || decide ((64 : Int) < x.fst.snd.fst) ||
 decide (x.fst.snd.fst < (↑x.fst.fst.length : Int)) ||
 decide (x.fst.snd.snd.fst < (0 : Int)) ||
 decide (x.fst.snd.snd.snd.snd.snd < (0 : Int)))) =
 true →
 (!(decide (x.fst.snd.fst < (1 : Int)) || decide ((64 : Int) < x.fst.snd.fst) ||
 decide (x.fst.snd.fst < (↑x.fst.fst.length : Int)) ||
 decide (x.fst.snd.snd.fst < (0 : Int)) ||
 decide (x.fst.snd.snd.snd.snd.snd < (0 : Int)))) =
 true) ∧
 ((decide (x.fst.snd.fst < (1 : Int)) || decide ((64 : Int) < x.fst.snd.fst) ||
 decide (x.fst.snd.fst < (↑x.fst.fst.length : Int)) ||
 decide (x.fst.snd.snd.fst < (0 : Int)) ||
 decide (x.fst.snd.snd.snd.snd.snd < (0 : Int))) =
 false →
 (!(decide (x.fst.snd.fst < (1 : Int)) || decide ((64 : Int) < x.fst.snd.fst) ||
 decide (x.fst.snd.fst < (↑x.fst.fst.length : Int)) ||
 decide (x.fst.snd.snd.fst < (0 : Int)) ||
 decide (x.fst.snd.snd.snd.snd.snd < (0 : Int)))) =
 true) ∧
 ((!(decide (x.fst.snd.fst < (1 : Int)) || decide ((64 : Int) < x.fst.snd.fst) ||
 decide (x.fst.snd.fst < (↑x.fst.fst.length : Int)) ||
 decide (x.fst.snd.snd.fst < (0 : Int)) ||
 decide (x.fst.snd.snd.snd.snd.snd < (0 : Int)) ||
 decide ((1099511627776 : Int) < x.fst.snd.snd.fst))) =
 true →
 (!(decide (x.fst.snd.fst < (1 : Int)) || decide ((64 : Int) < x.fst.snd.fst) ||
 decide (x.fst.snd.fst < (↑x.fst.fst.length : Int)) ||
 decide (x.fst.snd.snd.fst < (0 : Int)) ||
 decide (x.fst.snd.snd.snd.snd.snd < (0 : Int)) ||
 decide ((1099511627776 : Int) < x.fst.snd.snd.fst))) =
 true) ∧
 ((!(decide (x.fst.snd.fst < (1 : Int)) || decide ((64 : Int) < x.fst.snd.fst) ||
 decide (x.fst.snd.fst < (↑x.fst.fst.length : Int)) ||
 decide (x.fst.snd.snd.fst < (0 : Int)) ||
 decide (x.fst.snd.snd.snd.snd.snd < (0 : Int)) ||
 decide ((1099511627776 : Int) < x.fst.snd.snd.fst))) =
 true →
 (!(decide (x.fst.snd.fst < (1 : Int)) || decide ((64 : Int) < x.fst.snd.fst) ||
 decide (x.fst.snd.fst < (↑x.fst.fst.length : Int)) ||
 decide (x.fst.snd.snd.fst < (0 : Int)) ||
 decide (x.fst.snd.snd.snd.snd.snd < (0 : Int)) ||
 decide ((1099511627776 : Int) < x.fst.snd.snd.fst))) =
 true) ∧
 ((decide (x.fst.snd.fst < (1 : Int)) || decide ((64 : Int) < x.fst.snd.fst) ||
 decide (x.fst.snd.fst < (↑x.fst.fst.length : Int)) ||
 decide (x.fst.snd.snd.fst < (0 : Int)) ||
 decide (x.fst.snd.snd.snd.snd.snd < (0 : Int)) ||
 decide ((1099511627776 : Int) < x.fst.snd.snd.fst)) =
 false →
 (!(decide (x.fst.snd.fst < (1 : Int)) || decide ((64 : Int) < x.fst.snd.fst) ||
 decide (x.fst.snd.fst < (↑x.fst.fst.length : Int)) ||
 decide (x.fst.snd.snd.fst < (0 : Int)) ||
 decide (x.fst.snd.snd.snd.snd.snd < (0 : Int)) ||
 decide ((1099511627776 : Int) < x.fst.snd.snd.fst))) =
 true) ∧
 ((decide (x.fst.snd.fst < (1 : Int)) || decide ((64 : Int) < x.fst.snd.fst) ||
 decide (x.fst.snd.fst < (↑x.fst.fst.length : Int)) ||
 decide (x.fst.snd.snd.fst < (0 : Int)) ||
 decide (x.fst.snd.snd.snd.snd.snd < (0 : Int)) ||
 decide ((1099511627776 : Int) < x.fst.snd.snd.fst) ||
 decide ((1099511627776 : Int) < x.fst.snd.snd.snd.snd.snd)) =
 true →
 false = right x.fst) ∧
 ((decide (x.fst.snd.fst < (1 : Int)) || decide ((64 : Int) < x.fst.snd.fst) ||
 decide (x.fst.snd.fst < (↑x.fst.fst.length : Int)) ||
 decide (x.fst.snd.snd.fst < (0 : Int)) ||
 decide (x.fst.snd.snd.snd.snd.snd < (0 : Int)) ||
 decide ((1099511627776 : Int) < x.fst.snd.snd.fst) ||
 decide ((1099511627776 : Int) < x.fst.snd.snd.snd.snd.snd)) =
 false →
 (x.fst.snd.snd.snd.fst = true →
 ((!x.fst.snd.snd.snd.snd.fst) = true → (!x.fst.snd.snd.snd.snd.fst) = true) ∧
 ((!x.fst.snd.snd.snd.snd.fst) = true → (!x.fst.snd.snd.snd.snd.fst) = true) ∧
 ((!x.fst.snd.snd.snd.snd.fst) = true → (!x.fst.snd.snd.snd.snd.fst) = true) ∧
 ((!x.fst.snd.snd.snd.snd.fst) = true → (!x.fst.snd.snd.snd.snd.fst) = true) ∧
 (!x.fst.snd.snd.snd.snd.fst && (↑x.fst.fst.length : Int) == (0 : Int)) = right x.fst) ∧
 (x.fst.snd.snd.snd.fst = false → x.fst.snd.snd.snd.snd.fst = right x.fst))

theorem E_tright_eq (x : HL (cRight : Ctr).as) : vc (fx_tright x) 1 80 Try.f80 (cRight) x = E_tright x := by kernel_rfl

def E_step (x : (List Int × Int × Int × Bool × Bool × Int) × (Int × Int) × Unit) : Prop :=
 Holds True ∧
 ((!right (x.fst.fst, x.fst.snd.fst, x.fst.snd.snd.fst, x.fst.snd.snd.snd.fst, x.fst.snd.snd.snd.snd.fst, x.fst.snd.snd.snd.snd.snd)) = true →
 (([] : List Int), (0 : Int), (0 : Int), false, false, (0 : Int)) = (step x.fst x.snd.fst.fst x.snd.fst.snd).fst ∧
 ([] : List Int) = (step x.fst x.snd.fst.fst x.snd.fst.snd).snd.fst ∧ (1 : Int) = (step x.fst x.snd.fst.fst x.snd.fst.snd).snd.snd.fst) ∧
 ((!right (x.fst.fst, x.fst.snd.fst, x.fst.snd.snd.fst, x.fst.snd.snd.snd.fst, x.fst.snd.snd.snd.snd.fst, x.fst.snd.snd.snd.snd.snd)) = false →
 Holds (x.fst.fst.length * (8 : Nat) ≤ (140737488355328 : Nat)) ∧
 ((x.snd.fst.fst == (1 : Int)) = true →
 ((!x.fst.snd.snd.fst == (1099511627776 : Int)) = true → (!x.fst.snd.snd.fst == (1099511627776 : Int)) = true) ∧
 ((!x.fst.snd.snd.fst == (1099511627776 : Int)) = true → (!x.fst.snd.snd.fst == (1099511627776 : Int)) = true) ∧
 ((x.fst.snd.snd.fst == (1099511627776 : Int)) = false → (!x.fst.snd.snd.fst == (1099511627776 : Int)) = true) ∧
 ((x.fst.snd.snd.fst == (1099511627776 : Int) || x.fst.snd.snd.snd.snd.snd == (1099511627776 : Int)) = true →
 (([] : List Int), (0 : Int), (0 : Int), false, false, (0 : Int)) = (step x.fst x.snd.fst.fst x.snd.fst.snd).fst ∧
 ([] : List Int) = (step x.fst x.snd.fst.fst x.snd.fst.snd).snd.fst ∧
 (4 : Int) = (step x.fst x.snd.fst.fst x.snd.fst.snd).snd.snd.fst) ∧
 ((x.fst.snd.snd.fst == (1099511627776 : Int) || x.fst.snd.snd.snd.snd.snd == (1099511627776 : Int)) = false →
 (((↑x.fst.fst.length : Int) == x.fst.snd.fst) = true →
 ((-9223372036854775808 : Int) ≤ x.fst.snd.snd.fst + (1 : Int) ∧
 x.fst.snd.snd.fst + (1 : Int) ≤ (9223372036854775807 : Int)) ∧
 (x.fst.snd.snd.snd.fst = true →
 ((-9223372036854775808 : Int) ≤ x.fst.snd.snd.snd.snd.snd + (1 : Int) ∧
 x.fst.snd.snd.snd.snd.snd + (1 : Int) ≤ (9223372036854775807 : Int)) ∧
 (x.fst.fst, x.fst.snd.fst, x.fst.snd.snd.fst + (1 : Int), false, true, x.fst.snd.snd.snd.snd.snd + (1 : Int)) =
 (step x.fst x.snd.fst.fst x.snd.fst.snd).fst ∧
 ([] : List Int) = (step x.fst x.snd.fst.fst x.snd.fst.snd).snd.fst ∧
 (0 : Int) = (step x.fst x.snd.fst.fst x.snd.fst.snd).snd.snd.fst) ∧
 (x.fst.snd.snd.snd.fst = false →
 (x.fst.fst, x.fst.snd.fst, x.fst.snd.snd.fst + (1 : Int), x.fst.snd.snd.snd.fst, x.fst.snd.snd.snd.snd.fst,
 x.fst.snd.snd.snd.snd.snd) =
 (step x.fst x.snd.fst.fst x.snd.fst.snd).fst ∧
 ([] : List Int) = (step x.fst x.snd.fst.fst x.snd.fst.snd).snd.fst ∧
 (0 : Int) = (step x.fst x.snd.fst.fst x.snd.fst.snd).snd.snd.fst)) ∧
 (((↑x.fst.fst.length : Int) == x.fst.snd.fst) = false →
 (x.fst.fst.length + (((0 : Int) :: ([] : List Int)).set (0 : Nat) x.snd.fst.snd).length ≤ (9223372036854775807 : Nat) ∧
 (x.fst.fst.length + (((0 : Int) :: ([] : List Int)).set (0 : Nat) x.snd.fst.snd).length) * (8 : Nat) ≤
 (140737488355328 : Nat)) ∧
 (x.fst.snd.snd.snd.fst = true →
 ((-9223372036854775808 : Int) ≤ x.fst.snd.snd.snd.snd.snd + (1 : Int) ∧
 x.fst.snd.snd.snd.snd.snd + (1 : Int) ≤ (9223372036854775807 : Int)) ∧
 (x.fst.fst ++ ((0 : Int) :: ([] : List Int)).set (0 : Nat) x.snd.fst.snd, x.fst.snd.fst, x.fst.snd.snd.fst, false,
 true, x.fst.snd.snd.snd.snd.snd + (1 : Int)) =
 (step x.fst x.snd.fst.fst x.snd.fst.snd).fst ∧
 ([] : List Int) = (step x.fst x.snd.fst.fst x.snd.fst.snd).snd.fst ∧
 (0 : Int) = (step x.fst x.snd.fst.fst x.snd.fst.snd).snd.snd.fst) ∧
 (x.fst.snd.snd.snd.fst = false →
 (x.fst.fst ++ ((0 : Int) :: ([] : List Int)).set (0 : Nat) x.snd.fst.snd, x.fst.snd.fst, x.fst.snd.snd.fst,
 x.fst.snd.snd.snd.fst, x.fst.snd.snd.snd.snd.fst, x.fst.snd.snd.snd.snd.snd) =
 (step x.fst x.snd.fst.fst x.snd.fst.snd).fst ∧
 ([] : List Int) = (step x.fst x.snd.fst.fst x.snd.fst.snd).snd.fst ∧
 (0 : Int) = (step x.fst x.snd.fst.fst x.snd.fst.snd).snd.snd.fst)))) ∧
 ((x.snd.fst.fst == (1 : Int)) = false →
 ((x.snd.fst.fst == (2 : Int)) = true →
 (decide (x.snd.fst.snd < (1 : Int)) = true →
 (([] : List Int), (0 : Int), (0 : Int), false, false, (0 : Int)) = (step x.fst x.snd.fst.fst x.snd.fst.snd).fst ∧
 ([] : List Int) = (step x.fst x.snd.fst.fst x.snd.fst.snd).snd.fst ∧
 (2 : Int) = (step x.fst x.snd.fst.fst x.snd.fst.snd).snd.snd.fst) ∧
 (decide (x.snd.fst.snd < (1 : Int)) = false →
 ((!x.fst.snd.snd.snd.snd.fst) = true →
 (([] : List Int), (0 : Int), (0 : Int), false, false, (0 : Int)) = (step x.fst x.snd.fst.fst x.snd.fst.snd).fst ∧
 ([] : List Int) = (step x.fst x.snd.fst.fst x.snd.fst.snd).snd.fst ∧
 (7 : Int) = (step x.fst x.snd.fst.fst x.snd.fst.snd).snd.snd.fst) ∧
 ((!x.fst.snd.snd.snd.snd.fst) = false →
 ((((0 : Int) ≤ (0 : Int) ∧ (0 : Int) ≤ min x.snd.fst.snd (↑x.fst.fst.length : Int)) ∧
 min x.snd.fst.snd (↑x.fst.fst.length : Int) ≤ min x.snd.fst.snd (↑x.fst.fst.length : Int)) ∧
 min x.snd.fst.snd (↑x.fst.fst.length : Int) ≤ (↑x.fst.fst.length : Int)) ∧
 (((0 : Int) ≤ min x.snd.fst.snd (↑x.fst.fst.length : Int) ∧
 min x.snd.fst.snd (↑x.fst.fst.length : Int) ≤ (↑x.fst.fst.length : Int)) ∧
 (↑x.fst.fst.length : Int) ≤ (↑x.fst.fst.length : Int)) ∧
 Holds
 ((List.drop (min x.snd.fst.snd (↑x.fst.fst.length : Int)).toNat
 (List.take (↑x.fst.fst.length : Int).toNat x.fst.fst)).length *
 (8 : Nat) ≤
 (140737488355328 : Nat)) ∧
 (decide (min x.snd.fst.snd (↑x.fst.fst.length : Int) < x.snd.fst.snd) = true →
 (List.drop (min x.snd.fst.snd (↑x.fst.fst.length : Int)).toNat
 (List.take (↑x.fst.fst.length : Int).toNat x.fst.fst),
 x.fst.snd.fst, x.fst.snd.snd.fst, true, false, x.fst.snd.snd.snd.snd.snd) =
 (step x.fst x.snd.fst.fst x.snd.fst.snd).fst ∧
 List.drop (Int.toNat (0 : Int)) (List.take (min x.snd.fst.snd (↑x.fst.fst.length : Int)).toNat x.fst.fst) =
 (step x.fst x.snd.fst.fst x.snd.fst.snd).snd.fst ∧
 (0 : Int) = (step x.fst x.snd.fst.fst x.snd.fst.snd).snd.snd.fst) ∧
 (decide (min x.snd.fst.snd (↑x.fst.fst.length : Int) < x.snd.fst.snd) = false →
 (List.drop (min x.snd.fst.snd (↑x.fst.fst.length : Int)).toNat
 (List.take (↑x.fst.fst.length : Int).toNat x.fst.fst),
 x.fst.snd.fst, x.fst.snd.snd.fst, x.fst.snd.snd.snd.fst, x.fst.snd.snd.snd.snd.fst,
 x.fst.snd.snd.snd.snd.snd) =
 (step x.fst x.snd.fst.fst x.snd.fst.snd).fst ∧
 List.drop (Int.toNat (0 : Int)) (List.take (min x.snd.fst.snd (↑x.fst.fst.length : Int)).toNat x.fst.fst) =
 (step x.fst x.snd.fst.fst x.snd.fst.snd).snd.fst ∧
 (0 : Int) = (step x.fst x.snd.fst.fst x.snd.fst.snd).snd.snd.fst)))) ∧
 ((x.snd.fst.fst == (2 : Int)) = false →
 (([] : List Int), (0 : Int), (0 : Int), false, false, (0 : Int)) = (step x.fst x.snd.fst.fst x.snd.fst.snd).fst ∧
 ([] : List Int) = (step x.fst x.snd.fst.fst x.snd.fst.snd).snd.fst ∧
 (5 : Int) = (step x.fst x.snd.fst.fst x.snd.fst.snd).snd.snd.fst)))

theorem E_step_eq (x : HL (cStep : Ctr).as) : vc (fx_step x) 2 64 Try.f64 (cStep) x = E_step x := by kernel_rfl

def E_tstep (x : (List Int × Int × Int × Bool × Bool × Int) × (Int × Int) × Unit) : Prop :=
 (Holds True ∧
 ((!right (x.fst.fst, x.fst.snd.fst, x.fst.snd.snd.fst, x.fst.snd.snd.snd.fst, x.fst.snd.snd.snd.snd.fst, x.fst.snd.snd.snd.snd.snd)) = true →
 ((1 : Int) = err x.fst x.snd.fst.fst x.snd.fst.snd ∧ True) ∧
 ((True ∧ True) ∧ (True ∧ True) ∧ (True ∧ True) ∧ (1 : Int) = (1 : Int) ∧ True) ∧
 ((x.fst.fst = x.fst.fst ∧
 x.fst.snd.fst = x.fst.snd.fst ∧
 x.fst.snd.snd.fst = x.fst.snd.snd.fst ∧
 x.fst.snd.snd.snd.fst = x.fst.snd.snd.snd.fst ∧
 x.fst.snd.snd.snd.snd.fst = x.fst.snd.snd.snd.snd.fst ∧ x.fst.snd.snd.snd.snd.snd = x.fst.snd.snd.snd.snd.snd ∧ True) ∧
 (x.snd.fst.fst = x.snd.fst.fst ∧ x.snd.fst.snd = x.snd.fst.snd ∧ True) ∧
 (Value.slice none (0 : Nat) (0 : Nat) = Value.slice none (0 : Nat) (0 : Nat) ∧
 (0 : Int) = (0 : Int) ∧ (0 : Int) = (0 : Int) ∧ false = false ∧ false = false ∧ (0 : Int) = (0 : Int) ∧ True) ∧
 True) ∧
 True) ∧
 ((!right (x.fst.fst, x.fst.snd.fst, x.fst.snd.snd.fst, x.fst.snd.snd.snd.fst, x.fst.snd.snd.snd.snd.fst, x.fst.snd.snd.snd.snd.snd)) = false →
 ((x.snd.fst.fst != (1 : Int)) = true → (x.snd.fst.fst != (1 : Int)) = true) ∧
 ((x.snd.fst.fst != (1 : Int)) = true → (x.snd.fst.fst != (1 : Int)) = true) ∧
 ((x.snd.fst.fst != (1 : Int)) = true → (x.snd.fst.fst != (1 : Int)) = true) ∧
 ((x.snd.fst.fst != (1 : Int) && x.snd.fst.fst != (2 : Int)) = true →
 ((5 : Int) = err x.fst x.snd.fst.fst x.snd.fst.snd ∧ True) ∧
 ((True ∧ True) ∧ (True ∧ True) ∧ (True ∧ True) ∧ (5 : Int) = (5 : Int) ∧ True) ∧
 ((x.fst.fst = x.fst.fst ∧
 x.fst.snd.fst = x.fst.snd.fst ∧
 x.fst.snd.snd.fst = x.fst.snd.snd.fst ∧
 x.fst.snd.snd.snd.fst = x.fst.snd.snd.snd.fst ∧
 x.fst.snd.snd.snd.snd.fst = x.fst.snd.snd.snd.snd.fst ∧
 x.fst.snd.snd.snd.snd.snd = x.fst.snd.snd.snd.snd.snd ∧ True) ∧
 (x.snd.fst.fst = x.snd.fst.fst ∧ x.snd.fst.snd = x.snd.fst.snd ∧ True) ∧
 (Value.slice none (0 : Nat) (0 : Nat) = Value.slice none (0 : Nat) (0 : Nat) ∧
 (0 : Int) = (0 : Int) ∧ (0 : Int) = (0 : Int) ∧ false = false ∧ false = false ∧ (0 : Int) = (0 : Int) ∧ True) ∧
 True) ∧
 True) ∧
 ((x.snd.fst.fst != (1 : Int) && x.snd.fst.fst != (2 : Int)) = false →
 ((x.snd.fst.fst == (1 : Int)) = true → (x.snd.fst.fst == (1 : Int)) = true) ∧
 ((x.snd.fst.fst == (1 : Int)) = true → (x.snd.fst.fst == (1 : Int)) = true) ∧
 ((x.snd.fst.fst == (1 : Int)) = true → (x.snd.fst.fst == (1 : Int)) = true ∧ (x.snd.fst.fst == (1 : Int)) = true) ∧
 ((x.snd.fst.fst == (1 : Int)) = true → (x.snd.fst.fst == (1 : Int)) = true) ∧
 ((x.snd.fst.fst == (1 : Int)) = true → (x.snd.fst.fst == (1 : Int)) = true) ∧
 ((x.snd.fst.fst == (1 : Int) && max x.fst.snd.snd.fst x.fst.snd.snd.snd.snd.snd == (1099511627776 : Int)) = true →
 ((4 : Int) = err x.fst x.snd.fst.fst x.snd.fst.snd ∧ True) ∧
 ((True ∧ True) ∧ (True ∧ True) ∧ (True ∧ True) ∧ (4 : Int) = (4 : Int) ∧ True) ∧
 ((x.fst.fst = x.fst.fst ∧
 x.fst.snd.fst = x.fst.snd.fst ∧
 x.fst.snd.snd.fst = x.fst.snd.snd.fst ∧
 x.fst.snd.snd.snd.fst = x.fst.snd.snd.snd.fst ∧
 x.fst.snd.snd.snd.snd.fst = x.fst.snd.snd.snd.snd.fst ∧
 x.fst.snd.snd.snd.snd.snd = x.fst.snd.snd.snd.snd.snd ∧ True) ∧
 (x.snd.fst.fst = x.snd.fst.fst ∧ x.snd.fst.snd = x.snd.fst.snd ∧ True) ∧
 (Value.slice none (0 : Nat) (0 : Nat) = Value.slice none (0 : Nat) (0 : Nat) ∧
 (0 : Int) = (0 : Int) ∧
 (0 : Int) = (0 : Int) ∧ false = false ∧ false = false ∧ (0 : Int) = (0 : Int) ∧ True) ∧
 True) ∧
 True) ∧
 ((x.snd.fst.fst == (1 : Int) && max x.fst.snd.snd.fst x.fst.snd.snd.snd.snd.snd == (1099511627776 : Int)) = false →
 ((x.snd.fst.fst == (2 : Int)) = true → (x.snd.fst.fst == (2 : Int)) = true) ∧
 ((x.snd.fst.fst == (2 : Int)) = true → (x.snd.fst.fst == (2 : Int)) = true) ∧
 ((x.snd.fst.fst == (2 : Int)) = true → (x.snd.fst.fst == (2 : Int)) = true) ∧
 ((x.snd.fst.fst == (2 : Int) && decide (x.snd.fst.snd < (1 : Int))) = true →
 ((2 : Int) = err x.fst x.snd.fst.fst x.snd.fst.snd ∧ True) ∧
 ((True ∧ True) ∧ (True ∧ True) ∧ (True ∧ True) ∧ (2 : Int) = (2 : Int) ∧ True) ∧
 ((x.fst.fst = x.fst.fst ∧
 x.fst.snd.fst = x.fst.snd.fst ∧
 x.fst.snd.snd.fst = x.fst.snd.snd.fst ∧
 x.fst.snd.snd.snd.fst = x.fst.snd.snd.snd.fst ∧
 x.fst.snd.snd.snd.snd.fst = x.fst.snd.snd.snd.snd.fst ∧
 x.fst.snd.snd.snd.snd.snd = x.fst.snd.snd.snd.snd.snd ∧ True) ∧
 (x.snd.fst.fst = x.snd.fst.fst ∧ x.snd.fst.snd = x.snd.fst.snd ∧ True) ∧
 (Value.slice none (0 : Nat) (0 : Nat) = Value.slice none (0 : Nat) (0 : Nat) ∧
 (0 : Int) = (0 : Int) ∧
 (0 : Int) = (0 : Int) ∧ false = false ∧ false = false ∧ (0 : Int) = (0 : Int) ∧ True) ∧
 True) ∧
 True) ∧
 ((x.snd.fst.fst == (2 : Int) && decide (x.snd.fst.snd < (1 : Int))) = false →
 ((x.snd.fst.fst == (2 : Int)) = true → (x.snd.fst.fst == (2 : Int)) = true) ∧
 ((x.snd.fst.fst == (2 : Int)) = true → (x.snd.fst.fst == (2 : Int)) = true) ∧
 ((x.snd.fst.fst == (2 : Int) && x.fst.snd.snd.snd.fst) = true →
 ((7 : Int) = err x.fst x.snd.fst.fst x.snd.fst.snd ∧ True) ∧
 ((True ∧ True) ∧ (True ∧ True) ∧ (True ∧ True) ∧ (7 : Int) = (7 : Int) ∧ True) ∧
 ((x.fst.fst = x.fst.fst ∧
 x.fst.snd.fst = x.fst.snd.fst ∧
 x.fst.snd.snd.fst = x.fst.snd.snd.fst ∧
 x.fst.snd.snd.snd.fst = x.fst.snd.snd.snd.fst ∧
 x.fst.snd.snd.snd.snd.fst = x.fst.snd.snd.snd.snd.fst ∧
 x.fst.snd.snd.snd.snd.snd = x.fst.snd.snd.snd.snd.snd ∧ True) ∧
 (x.snd.fst.fst = x.snd.fst.fst ∧ x.snd.fst.snd = x.snd.fst.snd ∧ True) ∧
 (Value.slice none (0 : Nat) (0 : Nat) = Value.slice none (0 : Nat) (0 : Nat) ∧
 (0 : Int) = (0 : Int) ∧
 (0 : Int) = (0 : Int) ∧
 false = false ∧ false = false ∧ (0 : Int) = (0 : Int) ∧ True) ∧
 True) ∧
 True) ∧
 ((x.snd.fst.fst == (2 : Int) && x.fst.snd.snd.snd.fst) = false →
 ((0 : Int) = err x.fst x.snd.fst.fst x.snd.fst.snd ∧ True) ∧
 ((True ∧ True) ∧ (True ∧ True) ∧ (True ∧ True) ∧ (0 : Int) = (0 : Int) ∧ True) ∧
 ((x.fst.fst = x.fst.fst ∧
 x.fst.snd.fst = x.fst.snd.fst ∧
 x.fst.snd.snd.fst = x.fst.snd.snd.fst ∧
 x.fst.snd.snd.snd.fst = x.fst.snd.snd.snd.fst ∧
 x.fst.snd.snd.snd.snd.fst = x.fst.snd.snd.snd.snd.fst ∧
 x.fst.snd.snd.snd.snd.snd = x.fst.snd.snd.snd.snd.snd ∧ True) ∧
 (x.snd.fst.fst = x.snd.fst.fst ∧ x.snd.fst.snd = x.snd.fst.snd ∧ True) ∧
 (Value.slice none (0 : Nat) (0 : Nat) = Value.slice none (0 : Nat) (0 : Nat) ∧
 (0 : Int) = (0 : Int) ∧
 (0 : Int) = (0 : Int) ∧
 false = false ∧ false = false ∧ (0 : Int) = (0 : Int) ∧ True) ∧
 True) ∧
 True)))))) ∧
 ∀ (g : Int × Unit),
 g.fst = err x.fst x.snd.fst.fst x.snd.fst.snd →
 ((-9223372036854775808 : Int) ≤ g.fst ∧ g.fst ≤ (9223372036854775807 : Int)) ∧ True →
 ((g.fst != (0 : Int)) = true →
 (([] : List Int), (0 : Int), (0 : Int), false, false, (0 : Int)) = (step x.fst x.snd.fst.fst x.snd.fst.snd).fst ∧
 ([] : List Int) = (step x.fst x.snd.fst.fst x.snd.fst.snd).snd.fst ∧ g.fst = (step x.fst x.snd.fst.fst x.snd.fst.snd).snd.snd.fst) ∧
 ((g.fst != (0 : Int)) = false →
 ((x.snd.fst.fst == (1 : Int)) = true →
 (([] : List Int).length + x.fst.fst.length ≤ (9223372036854775807 : Nat) ∧
 (([] : List Int).length + x.fst.fst.length) * (8 : Nat) ≤ (140737488355328 : Nat)) ∧
 (decide ((↑x.fst.fst.length : Int) < x.fst.snd.fst) = true →
 ((([] : List Int) ++ x.fst.fst).length + (((0 : Int) :: ([] : List Int)).set (0 : Nat) x.snd.fst.snd).length ≤
 (9223372036854775807 : Nat) ∧
 ((([] : List Int) ++ x.fst.fst).length + (((0 : Int) :: ([] : List Int)).set (0 : Nat) x.snd.fst.snd).length) * (8 : Nat) ≤
 (140737488355328 : Nat)) ∧
 (x.fst.snd.snd.snd.fst = true →
 ((-9223372036854775808 : Int) ≤ x.fst.snd.snd.snd.snd.snd + (1 : Int) ∧
 x.fst.snd.snd.snd.snd.snd + (1 : Int) ≤ (9223372036854775807 : Int)) ∧
 (([] : List Int) ++ x.fst.fst ++ ((0 : Int) :: ([] : List Int)).set (0 : Nat) x.snd.fst.snd, x.fst.snd.fst,
 x.fst.snd.snd.fst, false, true, x.fst.snd.snd.snd.snd.snd + (1 : Int)) =
 (step x.fst x.snd.fst.fst x.snd.fst.snd).fst ∧
 ([] : List Int) = (step x.fst x.snd.fst.fst x.snd.fst.snd).snd.fst ∧
 (0 : Int) = (step x.fst x.snd.fst.fst x.snd.fst.snd).snd.snd.fst) ∧
 (x.fst.snd.snd.snd.fst = false →
 (([] : List Int) ++ x.fst.fst ++ ((0 : Int) :: ([] : List Int)).set (0 : Nat) x.snd.fst.snd, x.fst.snd.fst,
 x.fst.snd.snd.fst, false, true, x.fst.snd.snd.snd.snd.snd) =
 (step x.fst x.snd.fst.fst x.snd.fst.snd).fst ∧
 ([] : List Int) = (step x.fst x.snd.fst.fst x.snd.fst.snd).snd.fst ∧
 (0 : Int) = (step x.fst x.snd.fst.fst x.snd.fst.snd).snd.snd.fst)) ∧
 (decide ((↑x.fst.fst.length : Int) < x.fst.snd.fst) = false →
 ((-9223372036854775808 : Int) ≤ x.fst.snd.snd.fst + (1 : Int) ∧ x.fst.snd.snd.fst + (1 : Int) ≤ (9223372036854775807 : Int)) ∧
 (x.fst.snd.snd.snd.fst = true →
 ((-9223372036854775808 : Int) ≤ x.fst.snd.snd.snd.snd.snd + (1 : Int) ∧
 x.fst.snd.snd.snd.snd.snd + (1 : Int) ≤ (9223372036854775807 : Int)) ∧
 (([] : List Int) ++ x.fst.fst, x.fst.snd.fst, x.fst.snd.snd.fst + (1 : Int), false, true,
 x.fst.snd.snd.snd.snd.snd + (1 : Int)) =
 (step x.fst x.snd.fst.fst x.snd.fst.snd).fst ∧
 ([] : List Int) = (step x.fst x.snd.fst.fst x.snd.fst.snd).snd.fst ∧
 (0 : Int) = (step x.fst x.snd.fst.fst x.snd.fst.snd).snd.snd.fst) ∧
 (x.fst.snd.snd.snd.fst = false →
 (([] : List Int) ++ x.fst.fst, x.fst.snd.fst, x.fst.snd.snd.fst + (1 : Int), false, true, x.fst.snd.snd.snd.snd.snd) =
 (step x.fst x.snd.fst.fst x.snd.fst.snd).fst ∧
 ([] : List Int) = (step x.fst x.snd.fst.fst x.snd.fst.snd).snd.fst ∧
 (0 : Int) = (step x.fst x.snd.fst.fst x.snd.fst.snd).snd.snd.fst))) ∧
 ((x.snd.fst.fst == (1 : Int)) = false →
 ((((0 : Int) ≤ (0 : Int) ∧
 (0 : Int) ≤ (↑x.fst.fst.length : Int) ∧
 ([] : List Int) = List.drop x.snd.fst.snd.toNat (List.take (Int.toNat (0 : Int)) x.fst.fst) ∧
 ([] : List Int) = List.take x.snd.fst.snd.toNat (List.take (Int.toNat (0 : Int)) x.fst.fst)) ∧
 True) ∧
 ((True ∧ True) ∧
 (True ∧ True) ∧
 (True ∧ True) ∧
 True ∧ x.fst.fst = x.fst.fst ∧ (↑x.fst.fst.length : Int) = (↑x.fst.fst.length : Int) ∧ (0 : Int) = (0 : Int) ∧ True) ∧
 ((True ∧
 x.fst.snd.fst = x.fst.snd.fst ∧
 x.fst.snd.snd.fst = x.fst.snd.snd.fst ∧
 false = false ∧ true = true ∧ x.fst.snd.snd.snd.snd.snd = x.fst.snd.snd.snd.snd.snd ∧ True) ∧
 ([] : List Int) = ([] : List Int) ∧
 ([] : List Int) = ([] : List Int) ∧
 (x.snd.fst.fst = x.snd.fst.fst ∧ x.snd.fst.snd = x.snd.fst.snd ∧ True) ∧
 (Value.slice none (0 : Nat) (0 : Nat) = Value.slice none (0 : Nat) (0 : Nat) ∧
 (0 : Int) = (0 : Int) ∧ (0 : Int) = (0 : Int) ∧ false = false ∧ false = false ∧ (0 : Int) = (0 : Int) ∧ True) ∧
 True) ∧
 True) ∧
 ∀ (g : (List Int × Unit × Unit × Unit × Unit × Unit) × List Int × Int × Unit),
 (0 : Int) ≤ g.snd.snd.fst ∧
 g.snd.snd.fst ≤ (↑x.fst.fst.length : Int) ∧
 g.fst.fst = List.drop x.snd.fst.snd.toNat (List.take g.snd.snd.fst.toNat x.fst.fst) ∧
 g.snd.fst = List.take x.snd.fst.snd.toNat (List.take g.snd.snd.fst.toNat x.fst.fst) →
 ((g.fst.fst.length ≤ (9223372036854775807 : Nat) ∧
 ∀ (x : Int), x ∈ g.fst.fst → (-9223372036854775808 : Int) ≤ x ∧ x ≤ (9223372036854775807 : Int)) ∧
 True ∧ True ∧ True ∧ True ∧ True) ∧
 (g.snd.fst.length ≤ (9223372036854775807 : Nat) ∧
 ∀ (x : Int), x ∈ g.snd.fst → (-9223372036854775808 : Int) ≤ x ∧ x ≤ (9223372036854775807 : Int)) ∧
 ((-9223372036854775808 : Int) ≤ g.snd.snd.fst ∧ g.snd.snd.fst ≤ (9223372036854775807 : Int)) ∧ True →
 (decide (g.snd.snd.fst < (↑x.fst.fst.length : Int)) = true →
 ((0 : Int) ≤ g.snd.snd.fst ∧ g.snd.snd.fst < (↑x.fst.fst.length : Int)) ∧
 (decide (g.snd.snd.fst < x.snd.fst.snd) = true →
 (g.snd.fst.length +
 (((0 : Int) :: ([] : List Int)).set (0 : Nat) (x.fst.fst.getD g.snd.snd.fst.toNat (0 : Int))).length ≤
 (9223372036854775807 : Nat) ∧
 (g.snd.fst.length +
 (((0 : Int) :: ([] : List Int)).set (0 : Nat) (x.fst.fst.getD g.snd.snd.fst.toNat (0 : Int))).length) *
 (8 : Nat) ≤
 (140737488355328 : Nat)) ∧
 ((-9223372036854775808 : Int) ≤ g.snd.snd.fst + (1 : Int) ∧
 g.snd.snd.fst + (1 : Int) ≤ (9223372036854775807 : Int)) ∧
 (((0 : Int) ≤ g.snd.snd.fst + (1 : Int) ∧
 g.snd.snd.fst + (1 : Int) ≤ (↑x.fst.fst.length : Int) ∧
 g.fst.fst = List.drop x.snd.fst.snd.toNat (List.take (g.snd.snd.fst + (1 : Int)).toNat x.fst.fst) ∧
 g.snd.fst ++
 ((0 : Int) :: ([] : List Int)).set (0 : Nat) (x.fst.fst.getD g.snd.snd.fst.toNat (0 : Int)) =
 List.take x.snd.fst.snd.toNat (List.take (g.snd.snd.fst + (1 : Int)).toNat x.fst.fst)) ∧
 ((↑x.fst.fst.length : Int) - (g.snd.snd.fst + (1 : Int))).toNat <
 ((↑x.fst.fst.length : Int) - g.snd.snd.fst).toNat) ∧
 ((True ∧ True) ∧
 (True ∧ True) ∧
 (True ∧ True) ∧
 True ∧
 x.fst.fst = x.fst.fst ∧
 (↑x.fst.fst.length : Int) = (↑x.fst.fst.length : Int) ∧
 g.snd.snd.fst + (1 : Int) = g.snd.snd.fst + (1 : Int) ∧ True) ∧
 ((True ∧
 x.fst.snd.fst = x.fst.snd.fst ∧
 x.fst.snd.snd.fst = x.fst.snd.snd.fst ∧
 false = false ∧ true = true ∧ x.fst.snd.snd.snd.snd.snd = x.fst.snd.snd.snd.snd.snd ∧ True) ∧
 g.fst.fst = g.fst.fst ∧
 g.snd.fst ++
 ((0 : Int) :: ([] : List Int)).set (0 : Nat) (x.fst.fst.getD g.snd.snd.fst.toNat (0 : Int)) =
 g.snd.fst ++
 ((0 : Int) :: ([] : List Int)).set (0 : Nat) (x.fst.fst.getD g.snd.snd.fst.toNat (0 : Int)) ∧
 (x.snd.fst.fst = x.snd.fst.fst ∧ x.snd.fst.snd = x.snd.fst.snd ∧ True) ∧
 (Value.slice none (0 : Nat) (0 : Nat) = Value.slice none (0 : Nat) (0 : Nat) ∧
 (0 : Int) = (0 : Int) ∧
 (0 : Int) = (0 : Int) ∧ false = false ∧ false = false ∧ (0 : Int) = (0 : Int) ∧ True) ∧
 True) ∧
 True) ∧
 (decide (g.snd.snd.fst < x.snd.fst.snd) = false →
 (g.fst.fst.length +
 (((0 : Int) :: ([] : List Int)).set (0 : Nat) (x.fst.fst.getD g.snd.snd.fst.toNat (0 : Int))).length ≤
 (9223372036854775807 : Nat) ∧
 (g.fst.fst.length +
 (((0 : Int) :: ([] : List Int)).set (0 : Nat) (x.fst.fst.getD g.snd.snd.fst.toNat (0 : Int))).length) *
 (8 : Nat) ≤
 (140737488355328 : Nat)) ∧
 ((-9223372036854775808 : Int) ≤ g.snd.snd.fst + (1 : Int) ∧
 g.snd.snd.fst + (1 : Int) ≤ (9223372036854775807 : Int)) ∧
 (((0 : Int) ≤ g.snd.snd.fst + (1 : Int) ∧
 g.snd.snd.fst + (1 : Int) ≤ (↑x.fst.fst.length : Int) ∧
 g.fst.fst ++
 ((0 : Int) :: ([] : List Int)).set (0 : Nat) (x.fst.fst.getD g.snd.snd.fst.toNat (0 : Int)) =
 List.drop x.snd.fst.snd.toNat (List.take (g.snd.snd.fst + (1 : Int)).toNat x.fst.fst) ∧
 g.snd.fst = List.take x.snd.fst.snd.toNat (List.take (g.snd.snd.fst + (1 : Int)).toNat x.fst.fst)) ∧
 ((↑x.fst.fst.length : Int) - (g.snd.snd.fst + (1 : Int))).toNat <
 ((↑x.fst.fst.length : Int) - g.snd.snd.fst).toNat) ∧
 ((True ∧ True) ∧
 (True ∧ True) ∧
 (True ∧ True) ∧
 True ∧
 x.fst.fst = x.fst.fst ∧
 (↑x.fst.fst.length : Int) = (↑x.fst.fst.length : Int) ∧
 g.snd.snd.fst + (1 : Int) = g.snd.snd.fst + (1 : Int) ∧ True) ∧
 ((True ∧
 x.fst.snd.fst = x.fst.snd.fst ∧
 x.fst.snd.snd.fst = x.fst.snd.snd.fst ∧
 false = false ∧ true = true ∧ x.fst.snd.snd.snd.snd.snd = x.fst.snd.snd.snd.snd.snd ∧ True) ∧
 g.fst.fst ++
 ((0 : Int) :: ([] : List Int)).set (0 : Nat) (x.fst.fst.getD g.snd.snd.fst.toNat (0 : Int)) =
 g.fst.fst ++
 ((0 : Int) :: ([] : List Int)).set (0 : Nat) (x.fst.fst.getD g.snd.snd.fst.toNat (0 : Int)) ∧
 g.snd.fst = g.snd.fst ∧
 (x.snd.fst.fst = x.snd.fst.fst ∧ x.snd.fst.snd = x.snd.fst.snd ∧ True) ∧
 (Value.slice none (0 : Nat) (0 : Nat) = Value.slice none (0 : Nat) (0 : Nat) ∧
 (0 : Int) = (0 : Int) ∧
 (0 : Int) = (0 : Int) ∧ false = false ∧ false = false ∧ (0 : Int) = (0 : Int) ∧ True) ∧
 True) ∧
 True)) ∧
 (decide (g.snd.snd.fst < (↑x.fst.fst.length : Int)) = false →
 (decide ((↑g.snd.fst.length : Int) < x.snd.fst.snd) = true →
 (g.fst.fst, x.fst.snd.fst, x.fst.snd.snd.fst, true, false, x.fst.snd.snd.snd.snd.snd) =
 (step x.fst x.snd.fst.fst x.snd.fst.snd).fst ∧
 g.snd.fst = (step x.fst x.snd.fst.fst x.snd.fst.snd).snd.fst ∧
 (0 : Int) = (step x.fst x.snd.fst.fst x.snd.fst.snd).snd.snd.fst) ∧
 (decide ((↑g.snd.fst.length : Int) < x.snd.fst.snd) = false →
 (g.fst.fst, x.fst.snd.fst, x.fst.snd.snd.fst, false, true, x.fst.snd.snd.snd.snd.snd) =
 (step x.fst x.snd.fst.fst x.snd.fst.snd).fst ∧
 g.snd.fst = (step x.fst x.snd.fst.fst x.snd.fst.snd).snd.fst ∧
 (0 : Int) = (step x.fst x.snd.fst.fst x.snd.fst.snd).snd.snd.fst))))

theorem E_tstep_eq (x : HL (cStep : Ctr).as) : vc (fx_tstep x) 1 65 Try.f65 (cStep) x = E_tstep x := by kernel_rfl

def E_same (x : (List Int × Int × Int × Bool × Bool × Int) × (List Int × Int × Int × Bool × Bool × Int) × Unit) : Prop :=
 (((↑x.fst.fst.length : Int) != (↑x.snd.fst.fst.length : Int)) = true → false = decide (x.fst = x.snd.fst)) ∧
 (((↑x.fst.fst.length : Int) != (↑x.snd.fst.fst.length : Int)) = false →
 ((((0 : Int) ≤ (0 : Int) ∧
 (0 : Int) ≤ (↑x.fst.fst.length : Int) ∧ List.take (Int.toNat (0 : Int)) x.fst.fst = List.take (Int.toNat (0 : Int)) x.snd.fst.fst) ∧
 True) ∧
 ((True ∧ True) ∧ (True ∧ True) ∧ (↑x.fst.fst.length : Int) = (↑x.fst.fst.length : Int) ∧ (0 : Int) = (0 : Int) ∧ True) ∧
 ((x.fst.fst = x.fst.fst ∧
 x.fst.snd.fst = x.fst.snd.fst ∧
 x.fst.snd.snd.fst = x.fst.snd.snd.fst ∧
 x.fst.snd.snd.snd.fst = x.fst.snd.snd.snd.fst ∧
 x.fst.snd.snd.snd.snd.fst = x.fst.snd.snd.snd.snd.fst ∧ x.fst.snd.snd.snd.snd.snd = x.fst.snd.snd.snd.snd.snd ∧ True) ∧
 (x.snd.fst.fst = x.snd.fst.fst ∧
 x.snd.fst.snd.fst = x.snd.fst.snd.fst ∧
 x.snd.fst.snd.snd.fst = x.snd.fst.snd.snd.fst ∧
 x.snd.fst.snd.snd.snd.fst = x.snd.fst.snd.snd.snd.fst ∧
 x.snd.fst.snd.snd.snd.snd.fst = x.snd.fst.snd.snd.snd.snd.fst ∧
 x.snd.fst.snd.snd.snd.snd.snd = x.snd.fst.snd.snd.snd.snd.snd ∧ True) ∧
 True) ∧
 True) ∧
 ∀ (g : Int × Unit),
 (0 : Int) ≤ g.fst ∧ g.fst ≤ (↑x.fst.fst.length : Int) ∧ List.take g.fst.toNat x.fst.fst = List.take g.fst.toNat x.snd.fst.fst →
 ((-9223372036854775808 : Int) ≤ g.fst ∧ g.fst ≤ (9223372036854775807 : Int)) ∧ True →
 (decide (g.fst < (↑x.fst.fst.length : Int)) = true →
 ((0 : Int) ≤ g.fst ∧ g.fst < (↑x.fst.fst.length : Int)) ∧
 ((0 : Int) ≤ g.fst ∧ g.fst < (↑x.snd.fst.fst.length : Int)) ∧
 ((x.fst.fst.getD g.fst.toNat (0 : Int) != x.snd.fst.fst.getD g.fst.toNat (0 : Int)) = true → false = decide (x.fst = x.snd.fst)) ∧
 ((x.fst.fst.getD g.fst.toNat (0 : Int) != x.snd.fst.fst.getD g.fst.toNat (0 : Int)) = false →
 ((-9223372036854775808 : Int) ≤ g.fst + (1 : Int) ∧ g.fst + (1 : Int) ≤ (9223372036854775807 : Int)) ∧
 (((0 : Int) ≤ g.fst + (1 : Int) ∧
 g.fst + (1 : Int) ≤ (↑x.fst.fst.length : Int) ∧
 List.take (g.fst + (1 : Int)).toNat x.fst.fst = List.take (g.fst + (1 : Int)).toNat x.snd.fst.fst) ∧
 ((↑x.fst.fst.length : Int) - (g.fst + (1 : Int))).toNat < ((↑x.fst.fst.length : Int) - g.fst).toNat) ∧
 ((True ∧ True) ∧
 (True ∧ True) ∧
 (↑x.fst.fst.length : Int) = (↑x.fst.fst.length : Int) ∧ g.fst + (1 : Int) = g.fst + (1 : Int) ∧ True) ∧
 ((x.fst.fst = x.fst.fst ∧
 x.fst.snd.fst = x.fst.snd.fst ∧
 x.fst.snd.snd.fst = x.fst.snd.snd.fst ∧
 x.fst.snd.snd.snd.fst = x.fst.snd.snd.snd.fst ∧
 x.fst.snd.snd.snd.snd.fst = x.fst.snd.snd.snd.snd.fst ∧
 x.fst.snd.snd.snd.snd.snd = x.fst.snd.snd.snd.snd.snd ∧ True) ∧
 (x.snd.fst.fst = x.snd.fst.fst ∧
 x.snd.fst.snd.fst = x.snd.fst.snd.fst ∧
 x.snd.fst.snd.snd.fst = x.snd.fst.snd.snd.fst ∧
 x.snd.fst.snd.snd.snd.fst = x.snd.fst.snd.snd.snd.fst ∧
 x.snd.fst.snd.snd.snd.snd.fst = x.snd.fst.snd.snd.snd.snd.fst ∧
 x.snd.fst.snd.snd.snd.snd.snd = x.snd.fst.snd.snd.snd.snd.snd ∧ True) ∧
 True) ∧
 True)) ∧
 (decide (g.fst < (↑x.fst.fst.length : Int)) = false →
 ((x.fst.snd.fst == x.snd.fst.snd.fst) = true → (x.fst.snd.fst == x.snd.fst.snd.fst) = true) ∧
 ((x.fst.snd.fst == x.snd.fst.snd.fst) = true → (x.fst.snd.fst == x.snd.fst.snd.fst) = true) ∧
 ((x.fst.snd.fst == x.snd.fst.snd.fst) = true →
 (x.fst.snd.fst == x.snd.fst.snd.fst) = true ∧ (x.fst.snd.fst == x.snd.fst.snd.fst) = true) ∧
 ((x.fst.snd.fst == x.snd.fst.snd.fst) = true → (x.fst.snd.fst == x.snd.fst.snd.fst) = true) ∧
 ((x.fst.snd.fst == x.snd.fst.snd.fst && x.fst.snd.snd.fst == x.snd.fst.snd.snd.fst) = true →
 (x.fst.snd.fst == x.snd.fst.snd.fst && x.fst.snd.snd.fst == x.snd.fst.snd.snd.fst) = true) ∧
 ((x.fst.snd.fst == x.snd.fst.snd.fst && x.fst.snd.snd.fst == x.snd.fst.snd.snd.fst) = true →
 (x.fst.snd.fst == x.snd.fst.snd.fst && x.fst.snd.snd.fst == x.snd.fst.snd.snd.fst) = true) ∧
 ((x.fst.snd.fst == x.snd.fst.snd.fst && x.fst.snd.snd.fst == x.snd.fst.snd.snd.fst) = true →
 (x.fst.snd.fst == x.snd.fst.snd.fst && x.fst.snd.snd.fst == x.snd.fst.snd.snd.fst) = true ∧
 (x.fst.snd.fst == x.snd.fst.snd.fst && x.fst.snd.snd.fst == x.snd.fst.snd.snd.fst) = true) ∧
 ((x.fst.snd.fst == x.snd.fst.snd.fst && x.fst.snd.snd.fst == x.snd.fst.snd.snd.fst) = true →
 (x.fst.snd.fst == x.snd.fst.snd.fst && x.fst.snd.snd.fst == x.snd.fst.snd.snd.fst) = true) ∧
 ((x.fst.snd.fst == x.snd.fst.snd.fst && x.fst.snd.snd.fst == x.snd.fst.snd.snd.fst &&
 x.fst.snd.snd.snd.fst == x.snd.fst.snd.snd.snd.fst) =
 true →
 (x.fst.snd.fst == x.snd.fst.snd.fst && x.fst.snd.snd.fst == x.snd.fst.snd.snd.fst &&
 x.fst.snd.snd.snd.fst == x.snd.fst.snd.snd.snd.fst) =
 true) ∧
 ((x.fst.snd.fst == x.snd.fst.snd.fst && x.fst.snd.snd.fst == x.snd.fst.snd.snd.fst &&
 x.fst.snd.snd.snd.fst == x.snd.fst.snd.snd.snd.fst) =
 true →
 (x.fst.snd.fst == x.snd.fst.snd.fst && x.fst.snd.snd.fst == x.snd.fst.snd.snd.fst &&
 x.fst.snd.snd.snd.fst == x.snd.fst.snd.snd.snd.fst) =
 true) ∧
 ((x.fst.snd.fst == x.snd.fst.snd.fst && x.fst.snd.snd.fst == x.snd.fst.snd.snd.fst &&
 x.fst.snd.snd.snd.fst == x.snd.fst.snd.snd.snd.fst) =
 true →
 (x.fst.snd.fst == x.snd.fst.snd.fst && x.fst.snd.snd.fst == x.snd.fst.snd.snd.fst &&
 x.fst.snd.snd.snd.fst == x.snd.fst.snd.snd.snd.fst) =
 true ∧
 (x.fst.snd.fst == x.snd.fst.snd.fst && x.fst.snd.snd.fst == x.snd.fst.snd.snd.fst &&
 x.fst.snd.snd.snd.fst == x.snd.fst.snd.snd.snd.fst) =
 true) ∧
 ((x.fst.snd.fst == x.snd.fst.snd.fst && x.fst.snd.snd.fst == x.snd.fst.snd.snd.fst &&
 x.fst.snd.snd.snd.fst == x.snd.fst.snd.snd.snd.fst) =
 true →
 (x.fst.snd.fst == x.snd.fst.snd.fst && x.fst.snd.snd.fst == x.snd.fst.snd.snd.fst &&
 x.fst.snd.snd.snd.fst == x.snd.fst.snd.snd.snd.fst) =
 true) ∧
 ((x.fst.snd.fst == x.snd.fst.snd.fst && x.fst.snd.snd.fst == x.snd.fst.snd.snd.fst &&
 x.fst.snd.snd.snd.fst == x.snd.fst.snd.snd.snd.fst &&
 x.fst.snd.snd.snd.snd.fst == x.snd.fst.snd.snd.snd.snd.fst) =
 true →
 (x.fst.snd.fst == x.snd.fst.snd.fst && x.fst.snd.snd.fst == x.snd.fst.snd.snd.fst &&
 x.fst.snd.snd.snd.fst == x.snd.fst.snd.snd.snd.fst &&
 x.fst.snd.snd.snd.snd.fst == x.snd.fst.snd.snd.snd.snd.fst) =
 true) ∧
 ((x.fst.snd.fst == x.snd.fst.snd.fst && x.fst.snd.snd.fst == x.snd.fst.snd.snd.fst &&
 x.fst.snd.snd.snd.fst == x.snd.fst.snd.snd.snd.fst &&
 x.fst.snd.snd.snd.snd.fst == x.snd.fst.snd.snd.snd.snd.fst) =
 true →
 (x.fst.snd.fst == x.snd.fst.snd.fst && x.fst.snd.snd.fst == x.snd.fst.snd.snd.fst &&
 x.fst.snd.snd.snd.fst == x.snd.fst.snd.snd.snd.fst &&
 x.fst.snd.snd.snd.snd.fst == x.snd.fst.snd.snd.snd.snd.fst) =
 true) ∧
 ((x.fst.snd.fst == x.snd.fst.snd.fst && x.fst.snd.snd.fst == x.snd.fst.snd.snd.fst &&
 x.fst.snd.snd.snd.fst == x.snd.fst.snd.snd.snd.fst &&
 x.fst.snd.snd.snd.snd.fst == x.snd.fst.snd.snd.snd.snd.fst) =
 true →
 (x.fst.snd.fst == x.snd.fst.snd.fst && x.fst.snd.snd.fst == x.snd.fst.snd.snd.fst &&
 x.fst.snd.snd.snd.fst == x.snd.fst.snd.snd.snd.fst &&
 x.fst.snd.snd.snd.snd.fst == x.snd.fst.snd.snd.snd.snd.fst) =
 true ∧
 (x.fst.snd.fst == x.snd.fst.snd.fst && x.fst.snd.snd.fst == x.snd.fst.snd.snd.fst &&
 x.fst.snd.snd.snd.fst == x.snd.fst.snd.snd.snd.fst &&
 x.fst.snd.snd.snd.snd.fst == x.snd.fst.snd.snd.snd.snd.fst) =
 true) ∧
 ((x.fst.snd.fst == x.snd.fst.snd.fst && x.fst.snd.snd.fst == x.snd.fst.snd.snd.fst &&
 x.fst.snd.snd.snd.fst == x.snd.fst.snd.snd.snd.fst &&
 x.fst.snd.snd.snd.snd.fst == x.snd.fst.snd.snd.snd.snd.fst) =
 true →
 (x.fst.snd.fst == x.snd.fst.snd.fst && x.fst.snd.snd.fst == x.snd.fst.snd.snd.fst &&
 x.fst.snd.snd.snd.fst == x.snd.fst.snd.snd.snd.fst &&
 x.fst.snd.snd.snd.snd.fst == x.snd.fst.snd.snd.snd.snd.fst) =
 true) ∧
 (x.fst.snd.fst == x.snd.fst.snd.fst && x.fst.snd.snd.fst == x.snd.fst.snd.snd.fst &&
 x.fst.snd.snd.snd.fst == x.snd.fst.snd.snd.snd.fst &&
 x.fst.snd.snd.snd.snd.fst == x.snd.fst.snd.snd.snd.snd.fst &&
 x.fst.snd.snd.snd.snd.snd == x.snd.fst.snd.snd.snd.snd.snd) =
 decide (x.fst = x.snd.fst)))

theorem E_same_eq (x : HL (cSame : Ctr).as) : vc (fx_same x) 1 35 Try.f35 (cSame) x = E_same x := by kernel_rfl

def E_new (x : Int × Unit) : Prop :=
 ((!decide (x.fst < (1 : Int))) = true → (!decide (x.fst < (1 : Int))) = true) ∧
 (decide (x.fst < (1 : Int)) = false → (!decide (x.fst < (1 : Int))) = true) ∧
 ((decide (x.fst < (1 : Int)) || decide ((64 : Int) < x.fst)) = true →
 (([] : List Int), (0 : Int), (0 : Int), false, false, (0 : Int)) = (new x.fst).fst ∧ (2 : Int) = (new x.fst).snd.fst) ∧
 ((decide (x.fst < (1 : Int)) || decide ((64 : Int) < x.fst)) = false →
 (([] : List Int), x.fst, (0 : Int), true, false, (0 : Int)) = (new x.fst).fst ∧ (0 : Int) = (new x.fst).snd.fst)

theorem E_new_eq (x : HL (cNew : Ctr).as) : vc (fx_new x) 1 34 Try.f34 (cNew) x = E_new x := by kernel_rfl

def E_play (x : Int × List (Int × Int) × Unit) : Prop :=
 Holds True ∧
 (((new x.fst).snd.fst != (0 : Int)) = true →
 ([] : List Int) = (play x.fst x.snd.fst).fst ∧
 (([] : List Int), (0 : Int), (0 : Int), false, false, (0 : Int)) = (play x.fst x.snd.fst).snd.fst ∧
 (new x.fst).snd.fst = (play x.fst x.snd.fst).snd.snd.fst) ∧
 (((new x.fst).snd.fst != (0 : Int)) = false →
 ((((0 : Int) ≤ (0 : Int) ∧
 (0 : Int) ≤ (↑x.snd.fst.length : Int) ∧
 pl x.fst (List.take (Int.toNat (0 : Int)) x.snd.fst) =
 (((new x.fst).fst.fst, (new x.fst).fst.snd.fst, (new x.fst).fst.snd.snd.fst, (new x.fst).fst.snd.snd.snd.fst,
 (new x.fst).fst.snd.snd.snd.snd.fst, (new x.fst).fst.snd.snd.snd.snd.snd),
 ([] : List Int)) ∧
 (↑([] : List Int).length : Int) + (↑(new x.fst).fst.fst.length : Int) ≤ (0 : Int)) ∧
 True) ∧
 ((True ∧ True) ∧
 (True ∧ True) ∧ True ∧ x.snd.fst = x.snd.fst ∧ (↑x.snd.fst.length : Int) = (↑x.snd.fst.length : Int) ∧ (0 : Int) = (0 : Int) ∧ True) ∧
 (((new x.fst).fst.fst = (new x.fst).fst.fst ∧
 (new x.fst).fst.snd.fst = (new x.fst).fst.snd.fst ∧
 (new x.fst).fst.snd.snd.fst = (new x.fst).fst.snd.snd.fst ∧
 (new x.fst).fst.snd.snd.snd.fst = (new x.fst).fst.snd.snd.snd.fst ∧
 (new x.fst).fst.snd.snd.snd.snd.fst = (new x.fst).fst.snd.snd.snd.snd.fst ∧
 (new x.fst).fst.snd.snd.snd.snd.snd = (new x.fst).fst.snd.snd.snd.snd.snd ∧ True) ∧
 ([] : List Int) = ([] : List Int) ∧
 (Value.slice none (0 : Nat) (0 : Nat) = Value.slice none (0 : Nat) (0 : Nat) ∧
 (0 : Int) = (0 : Int) ∧ (0 : Int) = (0 : Int) ∧ false = false ∧ false = false ∧ (0 : Int) = (0 : Int) ∧ True) ∧
 True) ∧
 True) ∧
 ∀ (g : (List Int × Int × Int × Bool × Bool × Int) × List Int × Int × Unit),
 (0 : Int) ≤ g.snd.snd.fst ∧
 g.snd.snd.fst ≤ (↑x.snd.fst.length : Int) ∧
 pl x.fst (List.take g.snd.snd.fst.toNat x.snd.fst) = (g.fst, g.snd.fst) ∧
 (↑g.snd.fst.length : Int) + (↑g.fst.fst.length : Int) ≤ g.snd.snd.fst →
 ((g.fst.fst.length ≤ (9223372036854775807 : Nat) ∧
 ∀ (x : Int), x ∈ g.fst.fst → (-9223372036854775808 : Int) ≤ x ∧ x ≤ (9223372036854775807 : Int)) ∧
 ((-9223372036854775808 : Int) ≤ g.fst.snd.fst ∧ g.fst.snd.fst ≤ (9223372036854775807 : Int)) ∧
 ((-9223372036854775808 : Int) ≤ g.fst.snd.snd.fst ∧ g.fst.snd.snd.fst ≤ (9223372036854775807 : Int)) ∧
 True ∧
 True ∧ (-9223372036854775808 : Int) ≤ g.fst.snd.snd.snd.snd.snd ∧ g.fst.snd.snd.snd.snd.snd ≤ (9223372036854775807 : Int)) ∧
 (g.snd.fst.length ≤ (9223372036854775807 : Nat) ∧
 ∀ (x : Int), x ∈ g.snd.fst → (-9223372036854775808 : Int) ≤ x ∧ x ≤ (9223372036854775807 : Int)) ∧
 ((-9223372036854775808 : Int) ≤ g.snd.snd.fst ∧ g.snd.snd.fst ≤ (9223372036854775807 : Int)) ∧ True →
 (decide (g.snd.snd.fst < (↑x.snd.fst.length : Int)) = true →
 ((0 : Int) ≤ g.snd.snd.fst ∧ g.snd.snd.fst < (↑x.snd.fst.length : Int)) ∧
 Holds True ∧
 (((step
 (g.fst.fst, g.fst.snd.fst, g.fst.snd.snd.fst, g.fst.snd.snd.snd.fst, g.fst.snd.snd.snd.snd.fst,
 g.fst.snd.snd.snd.snd.snd)
 (x.snd.fst.getD g.snd.snd.fst.toNat ((0 : Int), (0 : Int))).fst
 (x.snd.fst.getD g.snd.snd.fst.toNat ((0 : Int), (0 : Int))).snd).snd.snd.fst ==
 (0 : Int)) =
 true →
 (g.snd.fst.length +
 (step
 (g.fst.fst, g.fst.snd.fst, g.fst.snd.snd.fst, g.fst.snd.snd.snd.fst, g.fst.snd.snd.snd.snd.fst,
 g.fst.snd.snd.snd.snd.snd)
 (x.snd.fst.getD g.snd.snd.fst.toNat ((0 : Int), (0 : Int))).fst
 (x.snd.fst.getD g.snd.snd.fst.toNat ((0 : Int), (0 : Int))).snd).snd.fst.length ≤
 (9223372036854775807 : Nat) ∧
 (g.snd.fst.length +
 (step
 (g.fst.fst, g.fst.snd.fst, g.fst.snd.snd.fst, g.fst.snd.snd.snd.fst, g.fst.snd.snd.snd.snd.fst,
 g.fst.snd.snd.snd.snd.snd)
 (x.snd.fst.getD g.snd.snd.fst.toNat ((0 : Int), (0 : Int))).fst
 (x.snd.fst.getD g.snd.snd.fst.toNat ((0 : Int), (0 : Int))).snd).snd.fst.length) *
 (8 : Nat) ≤
 (140737488355328 : Nat)) ∧
 ((-9223372036854775808 : Int) ≤ g.snd.snd.fst + (1 : Int) ∧ g.snd.snd.fst + (1 : Int) ≤ (9223372036854775807 : Int)) ∧
 (((0 : Int) ≤ g.snd.snd.fst + (1 : Int) ∧
 g.snd.snd.fst + (1 : Int) ≤ (↑x.snd.fst.length : Int) ∧
 pl x.fst (List.take (g.snd.snd.fst + (1 : Int)).toNat x.snd.fst) =
 (((step
 (g.fst.fst, g.fst.snd.fst, g.fst.snd.snd.fst, g.fst.snd.snd.snd.fst, g.fst.snd.snd.snd.snd.fst,
 g.fst.snd.snd.snd.snd.snd)
 (x.snd.fst.getD g.snd.snd.fst.toNat ((0 : Int), (0 : Int))).fst
 (x.snd.fst.getD g.snd.snd.fst.toNat ((0 : Int), (0 : Int))).snd).fst.fst,
 (step
 (g.fst.fst, g.fst.snd.fst, g.fst.snd.snd.fst, g.fst.snd.snd.snd.fst, g.fst.snd.snd.snd.snd.fst,
 g.fst.snd.snd.snd.snd.snd)
 (x.snd.fst.getD g.snd.snd.fst.toNat ((0 : Int), (0 : Int))).fst
 (x.snd.fst.getD g.snd.snd.fst.toNat ((0 : Int), (0 : Int))).snd).fst.snd.fst,
 (step
 (g.fst.fst, g.fst.snd.fst, g.fst.snd.snd.fst, g.fst.snd.snd.snd.fst,
 g.fst.snd.snd.snd.snd.fst, g.fst.snd.snd.snd.snd.snd)
 (x.snd.fst.getD g.snd.snd.fst.toNat ((0 : Int), (0 : Int))).fst
 (x.snd.fst.getD g.snd.snd.fst.toNat ((0 : Int), (0 : Int))).snd).fst.snd.snd.fst,
 (step
 (g.fst.fst, g.fst.snd.fst, g.fst.snd.snd.fst, g.fst.snd.snd.snd.fst,
 g.fst.snd.snd.snd.snd.fst, g.fst.snd.snd.snd.snd.snd)
 (x.snd.fst.getD g.snd.snd.fst.toNat ((0 : Int), (0 : Int))).fst
 (x.snd.fst.getD g.snd.snd.fst.toNat ((0 : Int), (0 : Int))).snd).fst.snd.snd.snd.fst,
 (step
 (g.fst.fst, g.fst.snd.fst, g.fst.snd.snd.fst, g.fst.snd.snd.snd.fst,
 g.fst.snd.snd.snd.snd.fst, g.fst.snd.snd.snd.snd.snd)
 (x.snd.fst.getD g.snd.snd.fst.toNat ((0 : Int), (0 : Int))).fst
 (x.snd.fst.getD g.snd.snd.fst.toNat ((0 : Int), (0 : Int))).snd).fst.snd.snd.snd.snd.fst,
 (step
 (g.fst.fst, g.fst.snd.fst, g.fst.snd.snd.fst, g.fst.snd.snd.snd.fst,
 g.fst.snd.snd.snd.snd.fst, g.fst.snd.snd.snd.snd.snd)
 (x.snd.fst.getD g.snd.snd.fst.toNat ((0 : Int), (0 : Int))).fst
 (x.snd.fst.getD g.snd.snd.fst.toNat ((0 : Int), (0 : Int))).snd).fst.snd.snd.snd.snd.snd),
 g.snd.fst ++
 (step
 (g.fst.fst, g.fst.snd.fst, g.fst.snd.snd.fst, g.fst.snd.snd.snd.fst, g.fst.snd.snd.snd.snd.fst,
 g.fst.snd.snd.snd.snd.snd)
 (x.snd.fst.getD g.snd.snd.fst.toNat ((0 : Int), (0 : Int))).fst
 (x.snd.fst.getD g.snd.snd.fst.toNat ((0 : Int), (0 : Int))).snd).snd.fst) ∧
 (↑(g.snd.fst ++
 (step
 (g.fst.fst, g.fst.snd.fst, g.fst.snd.snd.fst, g.fst.snd.snd.snd.fst,
 g.fst.snd.snd.snd.snd.fst, g.fst.snd.snd.snd.snd.snd)
 (x.snd.fst.getD g.snd.snd.fst.toNat ((0 : Int), (0 : Int))).fst
 (x.snd.fst.getD g.snd.snd.fst.toNat ((0 : Int), (0 : Int))).snd).snd.fst).length :
 Int) +
 (↑(step
 (g.fst.fst, g.fst.snd.fst, g.fst.snd.snd.fst, g.fst.snd.snd.snd.fst,
 g.fst.snd.snd.snd.snd.fst, g.fst.snd.snd.snd.snd.snd)
 (x.snd.fst.getD g.snd.snd.fst.toNat ((0 : Int), (0 : Int))).fst
 (x.snd.fst.getD g.snd.snd.fst.toNat ((0 : Int), (0 : Int))).snd).fst.fst.length :
 Int) ≤
 g.snd.snd.fst + (1 : Int)) ∧
 ((↑x.snd.fst.length : Int) - (g.snd.snd.fst + (1 : Int))).toNat <
 ((↑x.snd.fst.length : Int) - g.snd.snd.fst).toNat) ∧
 ((True ∧ True) ∧
 (True ∧ True) ∧
 True ∧
 x.snd.fst = x.snd.fst ∧
 (↑x.snd.fst.length : Int) = (↑x.snd.fst.length : Int) ∧
 g.snd.snd.fst + (1 : Int) = g.snd.snd.fst + (1 : Int) ∧ True) ∧
 (((step
 (g.fst.fst, g.fst.snd.fst, g.fst.snd.snd.fst, g.fst.snd.snd.snd.fst, g.fst.snd.snd.snd.snd.fst,
 g.fst.snd.snd.snd.snd.snd)
 (x.snd.fst.getD g.snd.snd.fst.toNat ((0 : Int), (0 : Int))).fst
 (x.snd.fst.getD g.snd.snd.fst.toNat ((0 : Int), (0 : Int))).snd).fst.fst =
 (step
 (g.fst.fst, g.fst.snd.fst, g.fst.snd.snd.fst, g.fst.snd.snd.snd.fst, g.fst.snd.snd.snd.snd.fst,
 g.fst.snd.snd.snd.snd.snd)
 (x.snd.fst.getD g.snd.snd.fst.toNat ((0 : Int), (0 : Int))).fst
 (x.snd.fst.getD g.snd.snd.fst.toNat ((0 : Int), (0 : Int))).snd).fst.fst ∧
 (step
 (g.fst.fst, g.fst.snd.fst, g.fst.snd.snd.fst, g.fst.snd.snd.snd.fst, g.fst.snd.snd.snd.snd.fst,
 g.fst.snd.snd.snd.snd.snd)
 (x.snd.fst.getD g.snd.snd.fst.toNat ((0 : Int), (0 : Int))).fst
 (x.snd.fst.getD g.snd.snd.fst.toNat ((0 : Int), (0 : Int))).snd).fst.snd.fst =
 (step
 (g.fst.fst, g.fst.snd.fst, g.fst.snd.snd.fst, g.fst.snd.snd.snd.fst, g.fst.snd.snd.snd.snd.fst,
 g.fst.snd.snd.snd.snd.snd)
 (x.snd.fst.getD g.snd.snd.fst.toNat ((0 : Int), (0 : Int))).fst
 (x.snd.fst.getD g.snd.snd.fst.toNat ((0 : Int), (0 : Int))).snd).fst.snd.fst ∧
 (step
 (g.fst.fst, g.fst.snd.fst, g.fst.snd.snd.fst, g.fst.snd.snd.snd.fst,
 g.fst.snd.snd.snd.snd.fst, g.fst.snd.snd.snd.snd.snd)
 (x.snd.fst.getD g.snd.snd.fst.toNat ((0 : Int), (0 : Int))).fst
 (x.snd.fst.getD g.snd.snd.fst.toNat ((0 : Int), (0 : Int))).snd).fst.snd.snd.fst =
 (step
 (g.fst.fst, g.fst.snd.fst, g.fst.snd.snd.fst, g.fst.snd.snd.snd.fst,
 g.fst.snd.snd.snd.snd.fst, g.fst.snd.snd.snd.snd.snd)
 (x.snd.fst.getD g.snd.snd.fst.toNat ((0 : Int), (0 : Int))).fst
 (x.snd.fst.getD g.snd.snd.fst.toNat ((0 : Int), (0 : Int))).snd).fst.snd.snd.fst ∧
 (step
 (g.fst.fst, g.fst.snd.fst, g.fst.snd.snd.fst, g.fst.snd.snd.snd.fst,
 g.fst.snd.snd.snd.snd.fst, g.fst.snd.snd.snd.snd.snd)
 (x.snd.fst.getD g.snd.snd.fst.toNat ((0 : Int), (0 : Int))).fst
 (x.snd.fst.getD g.snd.snd.fst.toNat ((0 : Int), (0 : Int))).snd).fst.snd.snd.snd.fst =
 (step
 (g.fst.fst, g.fst.snd.fst, g.fst.snd.snd.fst, g.fst.snd.snd.snd.fst,
 g.fst.snd.snd.snd.snd.fst, g.fst.snd.snd.snd.snd.snd)
 (x.snd.fst.getD g.snd.snd.fst.toNat ((0 : Int), (0 : Int))).fst
 (x.snd.fst.getD g.snd.snd.fst.toNat ((0 : Int), (0 : Int))).snd).fst.snd.snd.snd.fst ∧
 (step
 (g.fst.fst, g.fst.snd.fst, g.fst.snd.snd.fst, g.fst.snd.snd.snd.fst,
 g.fst.snd.snd.snd.snd.fst, g.fst.snd.snd.snd.snd.snd)
 (x.snd.fst.getD g.snd.snd.fst.toNat ((0 : Int), (0 : Int))).fst
 (x.snd.fst.getD g.snd.snd.fst.toNat
 ((0 : Int), (0 : Int))).snd).fst.snd.snd.snd.snd.fst =
 (step
 (g.fst.fst, g.fst.snd.fst, g.fst.snd.snd.fst, g.fst.snd.snd.snd.fst,
 g.fst.snd.snd.snd.snd.fst, g.fst.snd.snd.snd.snd.snd)
 (x.snd.fst.getD g.snd.snd.fst.toNat ((0 : Int), (0 : Int))).fst
 (x.snd.fst.getD g.snd.snd.fst.toNat
 ((0 : Int), (0 : Int))).snd).fst.snd.snd.snd.snd.fst ∧
 (step
 (g.fst.fst, g.fst.snd.fst, g.fst.snd.snd.fst, g.fst.snd.snd.snd.fst,
 g.fst.snd.snd.snd.snd.fst, g.fst.snd.snd.snd.snd.snd)
 (x.snd.fst.getD g.snd.snd.fst.toNat ((0 : Int), (0 : Int))).fst
 (x.snd.fst.getD g.snd.snd.fst.toNat
 ((0 : Int), (0 : Int))).snd).fst.snd.snd.snd.snd.snd =
 (step
 (g.fst.fst, g.fst.snd.fst, g.fst.snd.snd.fst, g.fst.snd.snd.snd.fst,
 g.fst.snd.snd.snd.snd.fst, g.fst.snd.snd.snd.snd.snd)
 (x.snd.fst.getD g.snd.snd.fst.toNat ((0 : Int), (0 : Int))).fst
 (x.snd.fst.getD g.snd.snd.fst.toNat
 ((0 : Int), (0 : Int))).snd).fst.snd.snd.snd.snd.snd ∧
 True) ∧
 g.snd.fst ++
 (step
 (g.fst.fst, g.fst.snd.fst, g.fst.snd.snd.fst, g.fst.snd.snd.snd.fst, g.fst.snd.snd.snd.snd.fst,
 g.fst.snd.snd.snd.snd.snd)
 (x.snd.fst.getD g.snd.snd.fst.toNat ((0 : Int), (0 : Int))).fst
 (x.snd.fst.getD g.snd.snd.fst.toNat ((0 : Int), (0 : Int))).snd).snd.fst =
 g.snd.fst ++
 (step
 (g.fst.fst, g.fst.snd.fst, g.fst.snd.snd.fst, g.fst.snd.snd.snd.fst, g.fst.snd.snd.snd.snd.fst,
 g.fst.snd.snd.snd.snd.snd)
 (x.snd.fst.getD g.snd.snd.fst.toNat ((0 : Int), (0 : Int))).fst
 (x.snd.fst.getD g.snd.snd.fst.toNat ((0 : Int), (0 : Int))).snd).snd.fst ∧
 (Value.slice none (0 : Nat) (0 : Nat) = Value.slice none (0 : Nat) (0 : Nat) ∧
 (0 : Int) = (0 : Int) ∧
 (0 : Int) = (0 : Int) ∧ false = false ∧ false = false ∧ (0 : Int) = (0 : Int) ∧ True) ∧
 True) ∧
 True) ∧
 (((step
 (g.fst.fst, g.fst.snd.fst, g.fst.snd.snd.fst, g.fst.snd.snd.snd.fst, g.fst.snd.snd.snd.snd.fst,
 g.fst.snd.snd.snd.snd.snd)
 (x.snd.fst.getD g.snd.snd.fst.toNat ((0 : Int), (0 : Int))).fst
 (x.snd.fst.getD g.snd.snd.fst.toNat ((0 : Int), (0 : Int))).snd).snd.snd.fst ==
 (0 : Int)) =
 false →
 ((-9223372036854775808 : Int) ≤ g.snd.snd.fst + (1 : Int) ∧ g.snd.snd.fst + (1 : Int) ≤ (9223372036854775807 : Int)) ∧
 (((0 : Int) ≤ g.snd.snd.fst + (1 : Int) ∧
 g.snd.snd.fst + (1 : Int) ≤ (↑x.snd.fst.length : Int) ∧
 pl x.fst (List.take (g.snd.snd.fst + (1 : Int)).toNat x.snd.fst) =
 ((g.fst.fst, g.fst.snd.fst, g.fst.snd.snd.fst, g.fst.snd.snd.snd.fst, g.fst.snd.snd.snd.snd.fst,
 g.fst.snd.snd.snd.snd.snd),
 g.snd.fst) ∧
 (↑g.snd.fst.length : Int) + (↑g.fst.fst.length : Int) ≤ g.snd.snd.fst + (1 : Int)) ∧
 ((↑x.snd.fst.length : Int) - (g.snd.snd.fst + (1 : Int))).toNat < ((↑x.snd.fst.length : Int) - g.snd.snd.fst).toNat) ∧
 ((True ∧ True) ∧
 (True ∧ True) ∧
 True ∧
 x.snd.fst = x.snd.fst ∧
 (↑x.snd.fst.length : Int) = (↑x.snd.fst.length : Int) ∧
 g.snd.snd.fst + (1 : Int) = g.snd.snd.fst + (1 : Int) ∧ True) ∧
 ((g.fst.fst = g.fst.fst ∧
 g.fst.snd.fst = g.fst.snd.fst ∧
 g.fst.snd.snd.fst = g.fst.snd.snd.fst ∧
 g.fst.snd.snd.snd.fst = g.fst.snd.snd.snd.fst ∧
 g.fst.snd.snd.snd.snd.fst = g.fst.snd.snd.snd.snd.fst ∧
 g.fst.snd.snd.snd.snd.snd = g.fst.snd.snd.snd.snd.snd ∧ True) ∧
 g.snd.fst = g.snd.fst ∧
 (Value.slice none (0 : Nat) (0 : Nat) = Value.slice none (0 : Nat) (0 : Nat) ∧
 (0 : Int) = (0 : Int) ∧
 (0 : Int) = (0 : Int) ∧ false = false ∧ false = false ∧ (0 : Int) = (0 : Int) ∧ True) ∧
 True) ∧
 True)) ∧
 (decide (g.snd.snd.fst < (↑x.snd.fst.length : Int)) = false →
 g.snd.fst = (play x.fst x.snd.fst).fst ∧
 (g.fst.fst, g.fst.snd.fst, g.fst.snd.snd.fst, g.fst.snd.snd.snd.fst, g.fst.snd.snd.snd.snd.fst, g.fst.snd.snd.snd.snd.snd) =
 (play x.fst x.snd.fst).snd.fst ∧
 (0 : Int) = (play x.fst x.snd.fst).snd.snd.fst))

theorem E_play_eq (x : HL (cPlay : Ctr).as) : vc (fx_play x) 1 32 Try.f32 (cPlay) x = E_play x := by kernel_rfl

def E_tplay (x : Int × List (Int × Int) × Unit) : Prop :=
 ((!decide (x.fst < (1 : Int))) = true → (!decide (x.fst < (1 : Int))) = true) ∧
 (decide (x.fst < (1 : Int)) = false → (!decide (x.fst < (1 : Int))) = true) ∧
 ((decide (x.fst < (1 : Int)) || decide ((64 : Int) < x.fst)) = true →
 ([] : List Int) = (play x.fst x.snd.fst).fst ∧
 (([] : List Int), (0 : Int), (0 : Int), false, false, (0 : Int)) = (play x.fst x.snd.fst).snd.fst ∧
 (2 : Int) = (play x.fst x.snd.fst).snd.snd.fst) ∧
 ((decide (x.fst < (1 : Int)) || decide ((64 : Int) < x.fst)) = false →
 ((((0 : Int) ≤ (0 : Int) ∧
 (0 : Int) ≤ (↑x.snd.fst.length : Int) ∧
 pl x.fst (List.take (Int.toNat (0 : Int)) x.snd.fst) =
 ((([] : List Int), x.fst, (0 : Int), true, false, (0 : Int)), ([] : List Int)) ∧
 (↑([] : List Int).length : Int) + (↑([] : List Int).length : Int) ≤ (0 : Int)) ∧
 True) ∧
 ((True ∧ True) ∧
 (True ∧ True) ∧ True ∧ x.snd.fst = x.snd.fst ∧ (↑x.snd.fst.length : Int) = (↑x.snd.fst.length : Int) ∧ (0 : Int) = (0 : Int) ∧ True) ∧
 ((([] : List Int) = ([] : List Int) ∧
 x.fst = x.fst ∧ (0 : Int) = (0 : Int) ∧ true = true ∧ false = false ∧ (0 : Int) = (0 : Int) ∧ True) ∧
 ([] : List Int) = ([] : List Int) ∧
 (Value.slice none (0 : Nat) (0 : Nat) = Value.slice none (0 : Nat) (0 : Nat) ∧
 (0 : Int) = (0 : Int) ∧ (0 : Int) = (0 : Int) ∧ false = false ∧ false = false ∧ (0 : Int) = (0 : Int) ∧ True) ∧
 True) ∧
 True) ∧
 ∀ (g : (List Int × Int × Int × Bool × Bool × Int) × List Int × Int × Unit),
 (0 : Int) ≤ g.snd.snd.fst ∧
 g.snd.snd.fst ≤ (↑x.snd.fst.length : Int) ∧
 pl x.fst (List.take g.snd.snd.fst.toNat x.snd.fst) = (g.fst, g.snd.fst) ∧
 (↑g.snd.fst.length : Int) + (↑g.fst.fst.length : Int) ≤ g.snd.snd.fst →
 ((g.fst.fst.length ≤ (9223372036854775807 : Nat) ∧
 ∀ (x : Int), x ∈ g.fst.fst → (-9223372036854775808 : Int) ≤ x ∧ x ≤ (9223372036854775807 : Int)) ∧
 ((-9223372036854775808 : Int) ≤ g.fst.snd.fst ∧ g.fst.snd.fst ≤ (9223372036854775807 : Int)) ∧
 ((-9223372036854775808 : Int) ≤ g.fst.snd.snd.fst ∧ g.fst.snd.snd.fst ≤ (9223372036854775807 : Int)) ∧
 True ∧
 True ∧ (-9223372036854775808 : Int) ≤ g.fst.snd.snd.snd.snd.snd ∧ g.fst.snd.snd.snd.snd.snd ≤ (9223372036854775807 : Int)) ∧
 (g.snd.fst.length ≤ (9223372036854775807 : Nat) ∧
 ∀ (x : Int), x ∈ g.snd.fst → (-9223372036854775808 : Int) ≤ x ∧ x ≤ (9223372036854775807 : Int)) ∧
 ((-9223372036854775808 : Int) ≤ g.snd.snd.fst ∧ g.snd.snd.fst ≤ (9223372036854775807 : Int)) ∧ True →
 (decide (g.snd.snd.fst < (↑x.snd.fst.length : Int)) = true →
 ((0 : Int) ≤ g.snd.snd.fst ∧ g.snd.snd.fst < (↑x.snd.fst.length : Int)) ∧
 Holds True ∧
 (((step
 (g.fst.fst, g.fst.snd.fst, g.fst.snd.snd.fst, g.fst.snd.snd.snd.fst, g.fst.snd.snd.snd.snd.fst,
 g.fst.snd.snd.snd.snd.snd)
 (x.snd.fst.getD g.snd.snd.fst.toNat ((0 : Int), (0 : Int))).fst
 (x.snd.fst.getD g.snd.snd.fst.toNat ((0 : Int), (0 : Int))).snd).snd.snd.fst ==
 (0 : Int)) =
 true →
 (g.snd.fst.length +
 (step
 (g.fst.fst, g.fst.snd.fst, g.fst.snd.snd.fst, g.fst.snd.snd.snd.fst, g.fst.snd.snd.snd.snd.fst,
 g.fst.snd.snd.snd.snd.snd)
 (x.snd.fst.getD g.snd.snd.fst.toNat ((0 : Int), (0 : Int))).fst
 (x.snd.fst.getD g.snd.snd.fst.toNat ((0 : Int), (0 : Int))).snd).snd.fst.length ≤
 (9223372036854775807 : Nat) ∧
 (g.snd.fst.length +
 (step
 (g.fst.fst, g.fst.snd.fst, g.fst.snd.snd.fst, g.fst.snd.snd.snd.fst, g.fst.snd.snd.snd.snd.fst,
 g.fst.snd.snd.snd.snd.snd)
 (x.snd.fst.getD g.snd.snd.fst.toNat ((0 : Int), (0 : Int))).fst
 (x.snd.fst.getD g.snd.snd.fst.toNat ((0 : Int), (0 : Int))).snd).snd.fst.length) *
 (8 : Nat) ≤
 (140737488355328 : Nat)) ∧
 ((-9223372036854775808 : Int) ≤ g.snd.snd.fst + (1 : Int) ∧ g.snd.snd.fst + (1 : Int) ≤ (9223372036854775807 : Int)) ∧
 (((0 : Int) ≤ g.snd.snd.fst + (1 : Int) ∧
 g.snd.snd.fst + (1 : Int) ≤ (↑x.snd.fst.length : Int) ∧
 pl x.fst (List.take (g.snd.snd.fst + (1 : Int)).toNat x.snd.fst) =
 (((step
 (g.fst.fst, g.fst.snd.fst, g.fst.snd.snd.fst, g.fst.snd.snd.snd.fst, g.fst.snd.snd.snd.snd.fst,
 g.fst.snd.snd.snd.snd.snd)
 (x.snd.fst.getD g.snd.snd.fst.toNat ((0 : Int), (0 : Int))).fst
 (x.snd.fst.getD g.snd.snd.fst.toNat ((0 : Int), (0 : Int))).snd).fst.fst,
 (step
 (g.fst.fst, g.fst.snd.fst, g.fst.snd.snd.fst, g.fst.snd.snd.snd.fst,
 g.fst.snd.snd.snd.snd.fst, g.fst.snd.snd.snd.snd.snd)
 (x.snd.fst.getD g.snd.snd.fst.toNat ((0 : Int), (0 : Int))).fst
 (x.snd.fst.getD g.snd.snd.fst.toNat ((0 : Int), (0 : Int))).snd).fst.snd.fst,
 (step
 (g.fst.fst, g.fst.snd.fst, g.fst.snd.snd.fst, g.fst.snd.snd.snd.fst,
 g.fst.snd.snd.snd.snd.fst, g.fst.snd.snd.snd.snd.snd)
 (x.snd.fst.getD g.snd.snd.fst.toNat ((0 : Int), (0 : Int))).fst
 (x.snd.fst.getD g.snd.snd.fst.toNat ((0 : Int), (0 : Int))).snd).fst.snd.snd.fst,
 (step
 (g.fst.fst, g.fst.snd.fst, g.fst.snd.snd.fst, g.fst.snd.snd.snd.fst,
 g.fst.snd.snd.snd.snd.fst, g.fst.snd.snd.snd.snd.snd)
 (x.snd.fst.getD g.snd.snd.fst.toNat ((0 : Int), (0 : Int))).fst
 (x.snd.fst.getD g.snd.snd.fst.toNat ((0 : Int), (0 : Int))).snd).fst.snd.snd.snd.fst,
 (step
 (g.fst.fst, g.fst.snd.fst, g.fst.snd.snd.fst, g.fst.snd.snd.snd.fst,
 g.fst.snd.snd.snd.snd.fst, g.fst.snd.snd.snd.snd.snd)
 (x.snd.fst.getD g.snd.snd.fst.toNat ((0 : Int), (0 : Int))).fst
 (x.snd.fst.getD g.snd.snd.fst.toNat
 ((0 : Int), (0 : Int))).snd).fst.snd.snd.snd.snd.fst,
 (step
 (g.fst.fst, g.fst.snd.fst, g.fst.snd.snd.fst, g.fst.snd.snd.snd.fst,
 g.fst.snd.snd.snd.snd.fst, g.fst.snd.snd.snd.snd.snd)
 (x.snd.fst.getD g.snd.snd.fst.toNat ((0 : Int), (0 : Int))).fst
 (x.snd.fst.getD g.snd.snd.fst.toNat
 ((0 : Int), (0 : Int))).snd).fst.snd.snd.snd.snd.snd),
 g.snd.fst ++
 (step
 (g.fst.fst, g.fst.snd.fst, g.fst.snd.snd.fst, g.fst.snd.snd.snd.fst, g.fst.snd.snd.snd.snd.fst,
 g.fst.snd.snd.snd.snd.snd)
 (x.snd.fst.getD g.snd.snd.fst.toNat ((0 : Int), (0 : Int))).fst
 (x.snd.fst.getD g.snd.snd.fst.toNat ((0 : Int), (0 : Int))).snd).snd.fst) ∧
 (↑(g.snd.fst ++
 (step
 (g.fst.fst, g.fst.snd.fst, g.fst.snd.snd.fst, g.fst.snd.snd.snd.fst,
 g.fst.snd.snd.snd.snd.fst, g.fst.snd.snd.snd.snd.snd)
 (x.snd.fst.getD g.snd.snd.fst.toNat ((0 : Int), (0 : Int))).fst
 (x.snd.fst.getD g.snd.snd.fst.toNat ((0 : Int), (0 : Int))).snd).snd.fst).length :
 Int) +
 (↑(step
 (g.fst.fst, g.fst.snd.fst, g.fst.snd.snd.fst, g.fst.snd.snd.snd.fst,
 g.fst.snd.snd.snd.snd.fst, g.fst.snd.snd.snd.snd.snd)
 (x.snd.fst.getD g.snd.snd.fst.toNat ((0 : Int), (0 : Int))).fst
 (x.snd.fst.getD g.snd.snd.fst.toNat ((0 : Int), (0 : Int))).snd).fst.fst.length :
 Int) ≤
 g.snd.snd.fst + (1 : Int)) ∧
 ((↑x.snd.fst.length : Int) - (g.snd.snd.fst + (1 : Int))).toNat <
 ((↑x.snd.fst.length : Int) - g.snd.snd.fst).toNat) ∧
 ((True ∧ True) ∧
 (True ∧ True) ∧
 True ∧
 x.snd.fst = x.snd.fst ∧
 (↑x.snd.fst.length : Int) = (↑x.snd.fst.length : Int) ∧
 g.snd.snd.fst + (1 : Int) = g.snd.snd.fst + (1 : Int) ∧ True) ∧
 (((step
 (g.fst.fst, g.fst.snd.fst, g.fst.snd.snd.fst, g.fst.snd.snd.snd.fst, g.fst.snd.snd.snd.snd.fst,
 g.fst.snd.snd.snd.snd.snd)
 (x.snd.fst.getD g.snd.snd.fst.toNat ((0 : Int), (0 : Int))).fst
 (x.snd.fst.getD g.snd.snd.fst.toNat ((0 : Int), (0 : Int))).snd).fst.fst =
 (step
 (g.fst.fst, g.fst.snd.fst, g.fst.snd.snd.fst, g.fst.snd.snd.snd.fst, g.fst.snd.snd.snd.snd.fst,
 g.fst.snd.snd.snd.snd.snd)
 (x.snd.fst.getD g.snd.snd.fst.toNat ((0 : Int), (0 : Int))).fst
 (x.snd.fst.getD g.snd.snd.fst.toNat ((0 : Int), (0 : Int))).snd).fst.fst ∧
 (step
 (g.fst.fst, g.fst.snd.fst, g.fst.snd.snd.fst, g.fst.snd.snd.snd.fst, g.fst.snd.snd.snd.snd.fst,
 g.fst.snd.snd.snd.snd.snd)
 (x.snd.fst.getD g.snd.snd.fst.toNat ((0 : Int), (0 : Int))).fst
 (x.snd.fst.getD g.snd.snd.fst.toNat ((0 : Int), (0 : Int))).snd).fst.snd.fst =
 (step
 (g.fst.fst, g.fst.snd.fst, g.fst.snd.snd.fst, g.fst.snd.snd.snd.fst, g.fst.snd.snd.snd.snd.fst,
 g.fst.snd.snd.snd.snd.snd)
 (x.snd.fst.getD g.snd.snd.fst.toNat ((0 : Int), (0 : Int))).fst
 (x.snd.fst.getD g.snd.snd.fst.toNat ((0 : Int), (0 : Int))).snd).fst.snd.fst ∧
 (step
 (g.fst.fst, g.fst.snd.fst, g.fst.snd.snd.fst, g.fst.snd.snd.snd.fst,
 g.fst.snd.snd.snd.snd.fst, g.fst.snd.snd.snd.snd.snd)
 (x.snd.fst.getD g.snd.snd.fst.toNat ((0 : Int), (0 : Int))).fst
 (x.snd.fst.getD g.snd.snd.fst.toNat ((0 : Int), (0 : Int))).snd).fst.snd.snd.fst =
 (step
 (g.fst.fst, g.fst.snd.fst, g.fst.snd.snd.fst, g.fst.snd.snd.snd.fst,
 g.fst.snd.snd.snd.snd.fst, g.fst.snd.snd.snd.snd.snd)
 (x.snd.fst.getD g.snd.snd.fst.toNat ((0 : Int), (0 : Int))).fst
 (x.snd.fst.getD g.snd.snd.fst.toNat ((0 : Int), (0 : Int))).snd).fst.snd.snd.fst ∧
 (step
 (g.fst.fst, g.fst.snd.fst, g.fst.snd.snd.fst, g.fst.snd.snd.snd.fst,
 g.fst.snd.snd.snd.snd.fst, g.fst.snd.snd.snd.snd.snd)
 (x.snd.fst.getD g.snd.snd.fst.toNat ((0 : Int), (0 : Int))).fst
 (x.snd.fst.getD g.snd.snd.fst.toNat ((0 : Int), (0 : Int))).snd).fst.snd.snd.snd.fst =
 (step
 (g.fst.fst, g.fst.snd.fst, g.fst.snd.snd.fst, g.fst.snd.snd.snd.fst,
 g.fst.snd.snd.snd.snd.fst, g.fst.snd.snd.snd.snd.snd)
 (x.snd.fst.getD g.snd.snd.fst.toNat ((0 : Int), (0 : Int))).fst
 (x.snd.fst.getD g.snd.snd.fst.toNat ((0 : Int), (0 : Int))).snd).fst.snd.snd.snd.fst ∧
 (step
 (g.fst.fst, g.fst.snd.fst, g.fst.snd.snd.fst, g.fst.snd.snd.snd.fst,
 g.fst.snd.snd.snd.snd.fst, g.fst.snd.snd.snd.snd.snd)
 (x.snd.fst.getD g.snd.snd.fst.toNat ((0 : Int), (0 : Int))).fst
 (x.snd.fst.getD g.snd.snd.fst.toNat
 ((0 : Int), (0 : Int))).snd).fst.snd.snd.snd.snd.fst =
 (step
 (g.fst.fst, g.fst.snd.fst, g.fst.snd.snd.fst, g.fst.snd.snd.snd.fst,
 g.fst.snd.snd.snd.snd.fst, g.fst.snd.snd.snd.snd.snd)
 (x.snd.fst.getD g.snd.snd.fst.toNat ((0 : Int), (0 : Int))).fst
 (x.snd.fst.getD g.snd.snd.fst.toNat
 ((0 : Int), (0 : Int))).snd).fst.snd.snd.snd.snd.fst ∧
 (step
 (g.fst.fst, g.fst.snd.fst, g.fst.snd.snd.fst, g.fst.snd.snd.snd.fst,
 g.fst.snd.snd.snd.snd.fst, g.fst.snd.snd.snd.snd.snd)
 (x.snd.fst.getD g.snd.snd.fst.toNat ((0 : Int), (0 : Int))).fst
 (x.snd.fst.getD g.snd.snd.fst.toNat
 ((0 : Int), (0 : Int))).snd).fst.snd.snd.snd.snd.snd =
 (step
 (g.fst.fst, g.fst.snd.fst, g.fst.snd.snd.fst, g.fst.snd.snd.snd.fst,
 g.fst.snd.snd.snd.snd.fst, g.fst.snd.snd.snd.snd.snd)
 (x.snd.fst.getD g.snd.snd.fst.toNat ((0 : Int), (0 : Int))).fst
 (x.snd.fst.getD g.snd.snd.fst.toNat
 ((0 : Int), (0 : Int))).snd).fst.snd.snd.snd.snd.snd ∧
 True) ∧
 g.snd.fst ++
 (step
 (g.fst.fst, g.fst.snd.fst, g.fst.snd.snd.fst, g.fst.snd.snd.snd.fst, g.fst.snd.snd.snd.snd.fst,
 g.fst.snd.snd.snd.snd.snd)
 (x.snd.fst.getD g.snd.snd.fst.toNat ((0 : Int), (0 : Int))).fst
 (x.snd.fst.getD g.snd.snd.fst.toNat ((0 : Int), (0 : Int))).snd).snd.fst =
 g.snd.fst ++
 (step
 (g.fst.fst, g.fst.snd.fst, g.fst.snd.snd.fst, g.fst.snd.snd.snd.fst, g.fst.snd.snd.snd.snd.fst,
 g.fst.snd.snd.snd.snd.snd)
 (x.snd.fst.getD g.snd.snd.fst.toNat ((0 : Int), (0 : Int))).fst
 (x.snd.fst.getD g.snd.snd.fst.toNat ((0 : Int), (0 : Int))).snd).snd.fst ∧
 (Value.slice none (0 : Nat) (0 : Nat) = Value.slice none (0 : Nat) (0 : Nat) ∧
 (0 : Int) = (0 : Int) ∧
 (0 : Int) = (0 : Int) ∧ false = false ∧ false = false ∧ (0 : Int) = (0 : Int) ∧ True) ∧
 True) ∧
 True) ∧
 (((step
 (g.fst.fst, g.fst.snd.fst, g.fst.snd.snd.fst, g.fst.snd.snd.snd.fst, g.fst.snd.snd.snd.snd.fst,
 g.fst.snd.snd.snd.snd.snd)
 (x.snd.fst.getD g.snd.snd.fst.toNat ((0 : Int), (0 : Int))).fst
 (x.snd.fst.getD g.snd.snd.fst.toNat ((0 : Int), (0 : Int))).snd).snd.snd.fst ==
 (0 : Int)) =
 false →
 ((-9223372036854775808 : Int) ≤ g.snd.snd.fst + (1 : Int) ∧ g.snd.snd.fst + (1 : Int) ≤ (9223372036854775807 : Int)) ∧
 (((0 : Int) ≤ g.snd.snd.fst + (1 : Int) ∧
 g.snd.snd.fst + (1 : Int) ≤ (↑x.snd.fst.length : Int) ∧
 pl x.fst (List.take (g.snd.snd.fst + (1 : Int)).toNat x.snd.fst) =
 ((g.fst.fst, g.fst.snd.fst, g.fst.snd.snd.fst, g.fst.snd.snd.snd.fst, g.fst.snd.snd.snd.snd.fst,
 g.fst.snd.snd.snd.snd.snd),
 g.snd.fst) ∧
 (↑g.snd.fst.length : Int) + (↑g.fst.fst.length : Int) ≤ g.snd.snd.fst + (1 : Int)) ∧
 ((↑x.snd.fst.length : Int) - (g.snd.snd.fst + (1 : Int))).toNat <
 ((↑x.snd.fst.length : Int) - g.snd.snd.fst).toNat) ∧
 ((True ∧ True) ∧
 (True ∧ True) ∧
 True ∧
 x.snd.fst = x.snd.fst ∧
 (↑x.snd.fst.length : Int) = (↑x.snd.fst.length : Int) ∧
 g.snd.snd.fst + (1 : Int) = g.snd.snd.fst + (1 : Int) ∧ True) ∧
 ((g.fst.fst = g.fst.fst ∧
 g.fst.snd.fst = g.fst.snd.fst ∧
 g.fst.snd.snd.fst = g.fst.snd.snd.fst ∧
 g.fst.snd.snd.snd.fst = g.fst.snd.snd.snd.fst ∧
 g.fst.snd.snd.snd.snd.fst = g.fst.snd.snd.snd.snd.fst ∧
 g.fst.snd.snd.snd.snd.snd = g.fst.snd.snd.snd.snd.snd ∧ True) ∧
 g.snd.fst = g.snd.fst ∧
 (Value.slice none (0 : Nat) (0 : Nat) = Value.slice none (0 : Nat) (0 : Nat) ∧
 (0 : Int) = (0 : Int) ∧
 (0 : Int) = (0 : Int) ∧ false = false ∧ false = false ∧ (0 : Int) = (0 : Int) ∧ True) ∧
 True) ∧
 True)) ∧
 (decide (g.snd.snd.fst < (↑x.snd.fst.length : Int)) = false →
 g.snd.fst = (play x.fst x.snd.fst).fst ∧
 (g.fst.fst, g.fst.snd.fst, g.fst.snd.snd.fst, g.fst.snd.snd.snd.fst, g.fst.snd.snd.snd.snd.fst, g.fst.snd.snd.snd.snd.snd) =
 (play x.fst x.snd.fst).snd.fst ∧
 (0 : Int) = (play x.fst x.snd.fst).snd.snd.fst))

theorem E_tplay_eq (x : HL (cPlay : Ctr).as) : vc (fx_tplay x) 1 33 Try.f33 (cPlay) x = E_tplay x := by kernel_rfl

def E_plays (x : Int × List (Int × Int) × Unit) : Prop :=
 Holds (x.snd.fst.length * (16 : Nat) ≤ (140737488355328 : Nat)) ∧
 Holds (x.snd.fst.length * (16 : Nat) ≤ (140737488355328 : Nat)) ∧
 Holds True ∧
 Holds (([] : List (Int × Int)).length * (16 : Nat) ≤ (140737488355328 : Nat)) ∧
 (((play x.fst x.snd.fst).snd.snd.fst == (play x.fst x.snd.fst).snd.snd.fst) = true →
 (((play x.fst x.snd.fst).snd.snd.fst == (play x.fst x.snd.fst).snd.snd.fst) = true ∧
 ((play x.fst x.snd.fst).snd.snd.fst == (play x.fst x.snd.fst).snd.snd.fst) = true) ∧
 Holds True) ∧
 (((play x.fst x.snd.fst).snd.snd.fst == (play x.fst x.snd.fst).snd.snd.fst) = true →
 ((play x.fst x.snd.fst).snd.snd.fst == (play x.fst x.snd.fst).snd.snd.fst) = true) ∧
 (((play x.fst x.snd.fst).snd.snd.fst == (play x.fst x.snd.fst).snd.snd.fst &&
 decide ((play x.fst x.snd.fst).fst = (play x.fst x.snd.fst).fst)) =
 true →
 Holds True ∧
 (decide
 (((play x.fst x.snd.fst).snd.fst.fst, (play x.fst x.snd.fst).snd.fst.snd.fst, (play x.fst x.snd.fst).snd.fst.snd.snd.fst,
 (play x.fst x.snd.fst).snd.fst.snd.snd.snd.fst, (play x.fst x.snd.fst).snd.fst.snd.snd.snd.snd.fst,
 (play x.fst x.snd.fst).snd.fst.snd.snd.snd.snd.snd) =
 ((play x.fst x.snd.fst).snd.fst.fst, (play x.fst x.snd.fst).snd.fst.snd.fst, (play x.fst x.snd.fst).snd.fst.snd.snd.fst,
 (play x.fst x.snd.fst).snd.fst.snd.snd.snd.fst, (play x.fst x.snd.fst).snd.fst.snd.snd.snd.snd.fst,
 (play x.fst x.snd.fst).snd.fst.snd.snd.snd.snd.snd)) =
 true →
 decide
 (((play x.fst x.snd.fst).snd.fst.fst, (play x.fst x.snd.fst).snd.fst.snd.fst, (play x.fst x.snd.fst).snd.fst.snd.snd.fst,
 (play x.fst x.snd.fst).snd.fst.snd.snd.snd.fst, (play x.fst x.snd.fst).snd.fst.snd.snd.snd.snd.fst,
 (play x.fst x.snd.fst).snd.fst.snd.snd.snd.snd.snd) =
 ((play x.fst x.snd.fst).snd.fst.fst, (play x.fst x.snd.fst).snd.fst.snd.fst, (play x.fst x.snd.fst).snd.fst.snd.snd.fst,
 (play x.fst x.snd.fst).snd.fst.snd.snd.snd.fst, (play x.fst x.snd.fst).snd.fst.snd.snd.snd.snd.fst,
 (play x.fst x.snd.fst).snd.fst.snd.snd.snd.snd.snd)) =
 true ∧
 decide
 (((play x.fst x.snd.fst).snd.fst.fst, (play x.fst x.snd.fst).snd.fst.snd.fst, (play x.fst x.snd.fst).snd.fst.snd.snd.fst,
 (play x.fst x.snd.fst).snd.fst.snd.snd.snd.fst, (play x.fst x.snd.fst).snd.fst.snd.snd.snd.snd.fst,
 (play x.fst x.snd.fst).snd.fst.snd.snd.snd.snd.snd) =
 ((play x.fst x.snd.fst).snd.fst.fst, (play x.fst x.snd.fst).snd.fst.snd.fst, (play x.fst x.snd.fst).snd.fst.snd.snd.fst,
 (play x.fst x.snd.fst).snd.fst.snd.snd.snd.fst, (play x.fst x.snd.fst).snd.fst.snd.snd.snd.snd.fst,
 (play x.fst x.snd.fst).snd.fst.snd.snd.snd.snd.snd)) =
 true) ∧
 (decide
 (((play x.fst x.snd.fst).snd.fst.fst, (play x.fst x.snd.fst).snd.fst.snd.fst, (play x.fst x.snd.fst).snd.fst.snd.snd.fst,
 (play x.fst x.snd.fst).snd.fst.snd.snd.snd.fst, (play x.fst x.snd.fst).snd.fst.snd.snd.snd.snd.fst,
 (play x.fst x.snd.fst).snd.fst.snd.snd.snd.snd.snd) =
 ((play x.fst x.snd.fst).snd.fst.fst, (play x.fst x.snd.fst).snd.fst.snd.fst, (play x.fst x.snd.fst).snd.fst.snd.snd.fst,
 (play x.fst x.snd.fst).snd.fst.snd.snd.snd.fst, (play x.fst x.snd.fst).snd.fst.snd.snd.snd.snd.fst,
 (play x.fst x.snd.fst).snd.fst.snd.snd.snd.snd.snd)) =
 true →
 decide
 (((play x.fst x.snd.fst).snd.fst.fst, (play x.fst x.snd.fst).snd.fst.snd.fst, (play x.fst x.snd.fst).snd.fst.snd.snd.fst,
 (play x.fst x.snd.fst).snd.fst.snd.snd.snd.fst, (play x.fst x.snd.fst).snd.fst.snd.snd.snd.snd.fst,
 (play x.fst x.snd.fst).snd.fst.snd.snd.snd.snd.snd) =
 ((play x.fst x.snd.fst).snd.fst.fst, (play x.fst x.snd.fst).snd.fst.snd.fst, (play x.fst x.snd.fst).snd.fst.snd.snd.fst,
 (play x.fst x.snd.fst).snd.fst.snd.snd.snd.fst, (play x.fst x.snd.fst).snd.fst.snd.snd.snd.snd.fst,
 (play x.fst x.snd.fst).snd.fst.snd.snd.snd.snd.snd)) =
 true) ∧
 ((decide
 (((play x.fst x.snd.fst).snd.fst.fst, (play x.fst x.snd.fst).snd.fst.snd.fst,
 (play x.fst x.snd.fst).snd.fst.snd.snd.fst, (play x.fst x.snd.fst).snd.fst.snd.snd.snd.fst,
 (play x.fst x.snd.fst).snd.fst.snd.snd.snd.snd.fst, (play x.fst x.snd.fst).snd.fst.snd.snd.snd.snd.snd) =
 ((play x.fst x.snd.fst).snd.fst.fst, (play x.fst x.snd.fst).snd.fst.snd.fst,
 (play x.fst x.snd.fst).snd.fst.snd.snd.fst, (play x.fst x.snd.fst).snd.fst.snd.snd.snd.fst,
 (play x.fst x.snd.fst).snd.fst.snd.snd.snd.snd.fst, (play x.fst x.snd.fst).snd.fst.snd.snd.snd.snd.snd)) &&
 (new x.fst).snd.fst == (play x.fst x.snd.fst).snd.snd.fst) =
 true →
 Holds True ∧
 decide
 (((new x.fst).fst.fst, (new x.fst).fst.snd.fst, (new x.fst).fst.snd.snd.fst, (new x.fst).fst.snd.snd.snd.fst,
 (new x.fst).fst.snd.snd.snd.snd.fst, (new x.fst).fst.snd.snd.snd.snd.snd) =
 ((play x.fst ([] : List (Int × Int))).snd.fst.fst, (play x.fst ([] : List (Int × Int))).snd.fst.snd.fst,
 (play x.fst ([] : List (Int × Int))).snd.fst.snd.snd.fst,
 (play x.fst ([] : List (Int × Int))).snd.fst.snd.snd.snd.fst,
 (play x.fst ([] : List (Int × Int))).snd.fst.snd.snd.snd.snd.fst,
 (play x.fst ([] : List (Int × Int))).snd.fst.snd.snd.snd.snd.snd)) =
 true) ∧
 ((decide
 (((play x.fst x.snd.fst).snd.fst.fst, (play x.fst x.snd.fst).snd.fst.snd.fst,
 (play x.fst x.snd.fst).snd.fst.snd.snd.fst, (play x.fst x.snd.fst).snd.fst.snd.snd.snd.fst,
 (play x.fst x.snd.fst).snd.fst.snd.snd.snd.snd.fst, (play x.fst x.snd.fst).snd.fst.snd.snd.snd.snd.snd) =
 ((play x.fst x.snd.fst).snd.fst.fst, (play x.fst x.snd.fst).snd.fst.snd.fst,
 (play x.fst x.snd.fst).snd.fst.snd.snd.fst, (play x.fst x.snd.fst).snd.fst.snd.snd.snd.fst,
 (play x.fst x.snd.fst).snd.fst.snd.snd.snd.snd.fst, (play x.fst x.snd.fst).snd.fst.snd.snd.snd.snd.snd)) &&
 (new x.fst).snd.fst == (play x.fst x.snd.fst).snd.snd.fst) =
 !true →
 false = true)) ∧
 (((play x.fst x.snd.fst).snd.snd.fst == (play x.fst x.snd.fst).snd.snd.fst &&
 decide ((play x.fst x.snd.fst).fst = (play x.fst x.snd.fst).fst)) =
 !true →
 false = true)

theorem E_plays_eq (x : HL (cLawP : Ctr).as) : vc (fx_plays x) 1 7 Try.f7 (cLawP) x = E_plays x := by kernel_rfl

end Go.Proofs.Ytmcepjbbbkgfcaa.Nicp
