/-
  The conditions that the executor comes to, written out (by a tool of ours), and that they are the conditions (by the kernel).
-/
import Derived.Test.YtollphjlheabdaaNicC
namespace Go.Proofs.Ytollphjlheabdaa.Nic
open Go.Sx
set_option maxRecDepth 100000

def E_equal (x : List Int × List Int × Unit) : Prop :=
 (((↑x.fst.length : Int) != (↑x.snd.fst.length : Int)) = true → false = decide (x.fst = x.snd.fst)) ∧
 (((↑x.fst.length : Int) != (↑x.snd.fst.length : Int)) = false →
 ((((0 : Int) ≤ (0 : Int) ∧
 (0 : Int) ≤ (↑x.fst.length : Int) ∧ List.take (Int.toNat (0 : Int)) x.fst = List.take (Int.toNat (0 : Int)) x.snd.fst) ∧
 True) ∧
 (x.fst = x.fst ∧ x.snd.fst = x.snd.fst ∧ (↑x.fst.length : Int) = (↑x.fst.length : Int) ∧ (0 : Int) = (0 : Int) ∧ True) ∧ True ∧ True) ∧
 ∀ (g : Int × Unit),
 (0 : Int) ≤ g.fst ∧ g.fst ≤ (↑x.fst.length : Int) ∧ List.take g.fst.toNat x.fst = List.take g.fst.toNat x.snd.fst →
 ((-9223372036854775808 : Int) ≤ g.fst ∧ g.fst ≤ (9223372036854775807 : Int)) ∧ True →
 (decide (g.fst < (↑x.fst.length : Int)) = true →
 ((0 : Int) ≤ g.fst ∧ g.fst < (↑x.fst.length : Int)) ∧
 ((0 : Int) ≤ g.fst ∧ g.fst < (↑x.snd.fst.length : Int)) ∧
 ((x.fst.getD g.fst.toNat (0 : Int) != x.snd.fst.getD g.fst.toNat (0 : Int)) = true → false = decide (x.fst = x.snd.fst)) ∧
 ((x.fst.getD g.fst.toNat (0 : Int) != x.snd.fst.getD g.fst.toNat (0 : Int)) = false →
 ((-9223372036854775808 : Int) ≤ g.fst + (1 : Int) ∧ g.fst + (1 : Int) ≤ (9223372036854775807 : Int)) ∧
 (((0 : Int) ≤ g.fst + (1 : Int) ∧
 g.fst + (1 : Int) ≤ (↑x.fst.length : Int) ∧
 List.take (g.fst + (1 : Int)).toNat x.fst = List.take (g.fst + (1 : Int)).toNat x.snd.fst) ∧
 ((↑x.fst.length : Int) - (g.fst + (1 : Int))).toNat < ((↑x.fst.length : Int) - g.fst).toNat) ∧
 (x.fst = x.fst ∧
 x.snd.fst = x.snd.fst ∧
 (↑x.fst.length : Int) = (↑x.fst.length : Int) ∧ g.fst + (1 : Int) = g.fst + (1 : Int) ∧ True) ∧
 True ∧ True)) ∧
 (decide (g.fst < (↑x.fst.length : Int)) = false → true = decide (x.fst = x.snd.fst)))

theorem E_equal_eq (x : HL (cEqual : Ctr).as) : vc (fx_equal x) 1 20 Try.f20 (cEqual) x = E_equal x := by kernel_rfl

def E_clone (x : List Int × Unit) : Prop :=
 ∀ (b : Bool),
 (b = true → x.fst = ([] : List Int)) →
 (b = true → ([] : List Int) = x.fst) ∧
 (b = false →
 (([] : List Int).length + x.fst.length ≤ (9223372036854775807 : Nat) ∧
 (([] : List Int).length + x.fst.length) * (8 : Nat) ≤ (140737488355328 : Nat)) ∧
 ([] : List Int) ++ x.fst = x.fst)

theorem E_clone_eq (x : HL (cClone : Ctr).as) : vc (fx_clone x) 1 76 Try.f76 (cClone) x = E_clone x := by kernel_rfl

def E_right (x : (List Int × Int × Int × Bool × Bool × Int) × Unit) : Prop :=
 (decide ((1 : Int) ≤ x.fst.snd.fst) = true → decide ((1 : Int) ≤ x.fst.snd.fst) = true) ∧
 (decide ((1 : Int) ≤ x.fst.snd.fst) = true → decide ((1 : Int) ≤ x.fst.snd.fst) = true) ∧
 (decide ((1 : Int) ≤ x.fst.snd.fst) = true → decide ((1 : Int) ≤ x.fst.snd.fst) = true) ∧
 ((decide ((1 : Int) ≤ x.fst.snd.fst) && decide (x.fst.snd.fst ≤ (64 : Int))) = true →
 (decide ((1 : Int) ≤ x.fst.snd.fst) && decide (x.fst.snd.fst ≤ (64 : Int))) = true) ∧
 ((decide ((1 : Int) ≤ x.fst.snd.fst) && decide (x.fst.snd.fst ≤ (64 : Int))) = true →
 (decide ((1 : Int) ≤ x.fst.snd.fst) && decide (x.fst.snd.fst ≤ (64 : Int))) = true) ∧
 ((decide ((1 : Int) ≤ x.fst.snd.fst) && decide (x.fst.snd.fst ≤ (64 : Int))) = true →
 (decide ((1 : Int) ≤ x.fst.snd.fst) && decide (x.fst.snd.fst ≤ (64 : Int))) = true) ∧
 ((decide ((1 : Int) ≤ x.fst.snd.fst) && decide (x.fst.snd.fst ≤ (64 : Int))) = true →
 (decide ((1 : Int) ≤ x.fst.snd.fst) && decide (x.fst.snd.fst ≤ (64 : Int))) = true ∧
 (decide ((1 : Int) ≤ x.fst.snd.fst) && decide (x.fst.snd.fst ≤ (64 : Int))) = true) ∧
 ((decide ((1 : Int) ≤ x.fst.snd.fst) && decide (x.fst.snd.fst ≤ (64 : Int))) = true →
 (decide ((1 : Int) ≤ x.fst.snd.fst) && decide (x.fst.snd.fst ≤ (64 : Int))) = true) ∧
 ((decide ((1 : Int) ≤ x.fst.snd.fst) && decide (x.fst.snd.fst ≤ (64 : Int)) && decide ((↑x.fst.fst.length : Int) ≤ x.fst.snd.fst)) =
 true →
 (decide ((1 : Int) ≤ x.fst.snd.fst) && decide (x.fst.snd.fst ≤ (64 : Int)) &&
 decide ((↑x.fst.fst.length : Int) ≤ x.fst.snd.fst)) =
 true) ∧
 ((decide ((1 : Int) ≤ x.fst.snd.fst) && decide (x.fst.snd.fst ≤ (64 : Int)) && decide ((↑x.fst.fst.length : Int) ≤ x.fst.snd.fst)) =
 true →
 (decide ((1 : Int) ≤ x.fst.snd.fst) && decide (x.fst.snd.fst ≤ (64 : Int)) &&
 decide ((↑x.fst.fst.length : Int) ≤ x.fst.snd.fst)) =
 true) ∧
 ((decide ((1 : Int) ≤ x.fst.snd.fst) && decide (x.fst.snd.fst ≤ (64 : Int)) &&
 decide ((↑x.fst.fst.length : Int) ≤ x.fst.snd.fst)) =
 true →
 (decide ((1 : Int) ≤ x.fst.snd.fst) && decide (x.fst.snd.fst ≤ (64 : Int)) &&
 decide ((↑x.fst.fst.length : Int) ≤ x.fst.snd.fst)) =
 true) ∧
 ((decide ((1 : Int) ≤ x.fst.snd.fst) && decide (x.fst.snd.fst ≤ (64 : Int)) &&
 decide ((↑x.fst.fst.length : Int) ≤ x.fst.snd.fst) &&
 decide ((0 : Int) ≤ x.fst.snd.snd.fst)) =
 true →
 (decide ((1 : Int) ≤ x.fst.snd.fst) && decide (x.fst.snd.fst ≤ (64 : Int)) &&
 decide ((↑x.fst.fst.length : Int) ≤ x.fst.snd.fst) &&
 decide ((0 : Int) ≤ x.fst.snd.snd.fst)) =
 true) ∧
 ((decide ((1 : Int) ≤ x.fst.snd.fst) && decide (x.fst.snd.fst ≤ (64 : Int)) &&
 decide ((↑x.fst.fst.length : Int) ≤ x.fst.snd.fst) &&
 decide ((0 : Int) ≤ x.fst.snd.snd.fst)) =
 true →
 (decide ((1 : Int) ≤ x.fst.snd.fst) && decide (x.fst.snd.fst ≤ (64 : Int)) &&
 decide ((↑x.fst.fst.length : Int) ≤ x.fst.snd.fst) &&
 decide ((0 : Int) ≤ x.fst.snd.snd.fst)) =
 true) ∧
 ((decide ((1 : Int) ≤ x.fst.snd.fst) && decide (x.fst.snd.fst ≤ (64 : Int)) &&
 decide ((↑x.fst.fst.length : Int) ≤ x.fst.snd.fst) &&
 decide ((0 : Int) ≤ x.fst.snd.snd.fst)) =
 true →
 (decide ((1 : Int) ≤ x.fst.snd.fst) && decide (x.fst.snd.fst ≤ (64 : Int)) &&
 decide ((↑x.fst.fst.length : Int) ≤ x.fst.snd.fst) &&
 decide ((0 : Int) ≤ x.fst.snd.snd.fst)) =
 true) ∧
 ((decide ((1 : Int) ≤ x.fst.snd.fst) && decide (x.fst.snd.fst ≤ (64 : Int)) &&
 decide ((↑x.fst.fst.length : Int) ≤ x.fst.snd.fst) &&
 decide ((0 : Int) ≤ x.fst.snd.snd.fst) &&
 decide (x.fst.snd.snd.fst ≤ (1099511627776 : Int))) =
 true →
 (decide ((1 : Int) ≤ x.fst.snd.fst) && decide (x.fst.snd.fst ≤ (64 : Int)) &&
 decide ((↑x.fst.fst.length : Int) ≤ x.fst.snd.fst) &&
 decide ((0 : Int) ≤ x.fst.snd.snd.fst) &&
 decide (x.fst.snd.snd.fst ≤ (1099511627776 : Int))) =
 true) ∧
 ((decide ((1 : Int) ≤ x.fst.snd.fst) && decide (x.fst.snd.fst ≤ (64 : Int)) &&
 decide ((↑x.fst.fst.length : Int) ≤ x.fst.snd.fst) &&
 decide ((0 : Int) ≤ x.fst.snd.snd.fst) &&
 decide (x.fst.snd.snd.fst ≤ (1099511627776 : Int))) =
 true →
 (decide ((1 : Int) ≤ x.fst.snd.fst) && decide (x.fst.snd.fst ≤ (64 : Int)) &&
 decide ((↑x.fst.fst.length : Int) ≤ x.fst.snd.fst) &&
 decide ((0 : Int) ≤ x.fst.snd.snd.fst) &&
 decide (x.fst.snd.snd.fst ≤ (1099511627776 : Int))) =
 true) ∧
 ((decide ((1 : Int) ≤ x.fst.snd.fst) && decide (x.fst.snd.fst ≤ (64 : Int)) &&
 decide ((↑x.fst.fst.length : Int) ≤ x.fst.snd.fst) &&
 decide ((0 : Int) ≤ x.fst.snd.snd.fst) &&
 decide (x.fst.snd.snd.fst ≤ (1099511627776 : Int))) =
 true →
 (decide ((1 : Int) ≤ x.fst.snd.fst) && decide (x.fst.snd.fst ≤ (64 : Int)) &&
 decide ((↑x.fst.fst.length : Int) ≤ x.fst.snd.fst) &&
 decide ((0 : Int) ≤ x.fst.snd.snd.fst) &&
 decide (x.fst.snd.snd.fst ≤ (1099511627776 : Int))) =
 true) ∧
 ((decide ((1 : Int) ≤ x.fst.snd.fst) && decide (x.fst.snd.fst ≤ (64 : Int)) &&
 decide ((↑x.fst.fst.length : Int) ≤ x.fst.snd.fst) &&
 decide ((0 : Int) ≤ x.fst.snd.snd.fst) &&
 decide (x.fst.snd.snd.fst ≤ (1099511627776 : Int)) &&
 decide ((0 : Int) ≤ x.fst.snd.snd.snd.snd.snd)) =
 true →
 (decide ((1 : Int) ≤ x.fst.snd.fst) && decide (x.fst.snd.fst ≤ (64 : Int)) &&
 decide ((↑x.fst.fst.length : Int) ≤ x.fst.snd.fst) &&
 decide ((0 : Int) ≤ x.fst.snd.snd.fst) &&
 decide (x.fst.snd.snd.fst ≤ (1099511627776 : Int)) &&
 decide ((0 : Int) ≤ x.fst.snd.snd.snd.snd.snd)) =
 true) ∧
 ((decide ((1 : Int) ≤ x.fst.snd.fst) && decide (x.fst.snd.fst ≤ (64 : Int)) &&
 decide ((↑x.fst.fst.length : Int) ≤ x.fst.snd.fst) &&
 decide ((0 : Int) ≤ x.fst.snd.snd.fst) &&
 decide (x.fst.snd.snd.fst ≤ (1099511627776 : Int)) &&
 decide ((0 : Int) ≤ x.fst.snd.snd.snd.snd.snd)) =
 true →
 (decide ((1 : Int) ≤ x.fst.snd.fst) && decide (x.fst.snd.fst ≤ (64 : Int)) &&
 decide ((↑x.fst.fst.length : Int) ≤ x.fst.snd.fst) &&
 decide ((0 : Int) ≤ x.fst.snd.snd.fst) &&
 decide (x.fst.snd.snd.fst ≤ (1099511627776 : Int)) &&
 decide ((0 : Int) ≤ x.fst.snd.snd.snd.snd.snd)) =
 true) ∧
 ((decide ((1 : Int) ≤ x.fst.snd.fst) && decide (x.fst.snd.fst ≤ (64 : Int)) &&
 decide ((↑x.fst.fst.length : Int) ≤ x.fst.snd.fst) &&
 decide ((0 : Int) ≤ x.fst.snd.snd.fst) &&
 decide (x.fst.snd.snd.fst ≤ (1099511627776 : Int)) &&
 decide ((0 : Int) ≤ x.fst.snd.snd.snd.snd.snd)) =
 true →
 (decide ((1 : Int) ≤ x.fst.snd.fst) && decide (x.fst.snd.fst ≤ (64 : Int)) &&
 decide ((↑x.fst.fst.length : Int) ≤ x.fst.snd.fst) &&
 decide ((0 : Int) ≤ x.fst.snd.snd.fst) &&
 decide (x.fst.snd.snd.fst ≤ (1099511627776 : Int)) &&
 decide ((0 : Int) ≤ x.fst.snd.snd.snd.snd.snd)) =
 true) ∧
 ((decide ((1 : Int) ≤ x.fst.snd.fst) && decide (x.fst.snd.fst ≤ (64 : Int)) &&
 decide ((↑x.fst.fst.length : Int) ≤ x.fst.snd.fst) &&
 decide ((0 : Int) ≤ x.fst.snd.snd.fst) &&
 decide (x.fst.snd.snd.fst ≤ (1099511627776 : Int)) &&
 decide ((0 : Int) ≤ x.fst.snd.snd.snd.snd.snd) &&
 decide (x.fst.snd.snd.snd.snd.snd ≤ (1099511627776 : Int))) =
 true →
 (decide ((1 : Int) ≤ x.fst.snd.fst) && decide (x.fst.snd.fst ≤ (64 : Int)) &&
 decide ((↑x.fst.fst.length : Int) ≤ x.fst.snd.fst) &&
 decide ((0 : Int) ≤ x.fst.snd.snd.fst) &&
 decide (x.fst.snd.snd.fst ≤ (1099511627776 : Int)) &&
 decide ((0 : Int) ≤ x.fst.snd.snd.snd.snd.snd) &&
 decide (x.fst.snd.snd.snd.snd.snd ≤ (1099511627776 : Int))) =
 true) ∧
 ((decide ((1 : Int) ≤ x.fst.snd.fst) && decide (x.fst.snd.fst ≤ (64 : Int)) &&
 decide ((↑x.fst.fst.length : Int) ≤ x.fst.snd.fst) &&
 decide ((0 : Int) ≤ x.fst.snd.snd.fst) &&
 decide (x.fst.snd.snd.fst ≤ (1099511627776 : Int)) &&
 decide ((0 : Int) ≤ x.fst.snd.snd.snd.snd.snd) &&
 decide (x.fst.snd.snd.snd.snd.snd ≤ (1099511627776 : Int))) =
 true →
 (decide ((1 : Int) ≤ x.fst.snd.fst) && decide (x.fst.snd.fst ≤ (64 : Int)) &&
 decide ((↑x.fst.fst.length : Int) ≤ x.fst.snd.fst) &&
 decide ((0 : Int) ≤ x.fst.snd.snd.fst) &&
 decide (x.fst.snd.snd.fst ≤ (1099511627776 : Int)) &&
 decide ((0 : Int) ≤ x.fst.snd.snd.snd.snd.snd) &&
 decide (x.fst.snd.snd.snd.snd.snd ≤ (1099511627776 : Int))) =
 true) ∧
 ((decide ((1 : Int) ≤ x.fst.snd.fst) && decide (x.fst.snd.fst ≤ (64 : Int)) &&
 decide ((↑x.fst.fst.length : Int) ≤ x.fst.snd.fst) &&
 decide ((0 : Int) ≤ x.fst.snd.snd.fst) &&
 decide (x.fst.snd.snd.fst ≤ (1099511627776 : Int)) &&
 decide ((0 : Int) ≤ x.fst.snd.snd.snd.snd.snd) &&
 decide (x.fst.snd.snd.snd.snd.snd ≤ (1099511627776 : Int))) =
 true →
 (decide ((1 : Int) ≤ x.fst.snd.fst) && decide (x.fst.snd.fst ≤ (64 : Int)) &&
 decide ((↑x.fst.fst.length : Int) ≤ x.fst.snd.fst) &&
 decide ((0 : Int) ≤ x.fst.snd.snd.fst) &&
 decide (x.fst.snd.snd.fst ≤ (1099511627776 : Int)) &&
 decide ((0 : Int) ≤ x.fst.snd.snd.snd.snd.snd) &&
 decide (x.fst.snd.snd.snd.snd.snd ≤ (1099511627776 : Int))) =
 true ∧
 (decide ((1 : Int) ≤ x.fst.snd.fst) && decide (x.fst.snd.fst ≤ (64 : Int)) &&
 decide ((↑x.fst.fst.length : Int) ≤ x.fst.snd.fst) &&
 decide ((0 : Int) ≤ x.fst.snd.snd.fst) &&
 decide (x.fst.snd.snd.fst ≤ (1099511627776 : Int)) &&
 decide ((0 : Int) ≤ x.fst.snd.snd.snd.snd.snd) &&
 decide (x.fst.snd.snd.snd.snd.snd ≤ (1099511627776 : Int))) =
 true) ∧
 ((decide ((1 : Int) ≤ x.fst.snd.fst) && decide (x.fst.snd.fst ≤ (64 : Int)) &&
 decide ((↑x.fst.fst.length : Int) ≤ x.fst.snd.fst) &&
 decide ((0 : Int) ≤ x.fst.snd.snd.fst) &&
 decide (x.fst.snd.snd.fst ≤ (1099511627776 : Int)) &&
 decide ((0 : Int) ≤ x.fst.snd.snd.snd.snd.snd) &&
 decide (x.fst.snd.snd.snd.snd.snd ≤ (1099511627776 : Int))) =
 true →
 (decide ((1 : Int) ≤ x.fst.snd.fst) && decide (x.fst.snd.fst ≤ (64 : Int)) &&
 decide ((↑x.fst.fst.length : Int) ≤ x.fst.snd.fst) &&
 decide ((0 : Int) ≤ x.fst.snd.snd.fst) &&
 decide (x.fst.snd.snd.fst ≤ (1099511627776 : Int)) &&
 decide ((0 : Int) ≤ x.fst.snd.snd.snd.snd.snd) &&
 decide (x.fst.snd.snd.snd.snd.snd ≤ (1099511627776 : Int))) =
 true) ∧
 ((decide ((1 : Int) ≤ x.fst.snd.fst) && decide (x.fst.snd.fst ≤ (64 : Int)) &&
 decide ((↑x.fst.fst.length : Int) ≤ x.fst.snd.fst) &&
 decide ((0 : Int) ≤ x.fst.snd.snd.fst) &&
 decide (x.fst.snd.snd.fst ≤ (1099511627776 : Int)) &&
 decide ((0 : Int) ≤ x.fst.snd.snd.snd.snd.snd) &&
 decide (x.fst.snd.snd.snd.snd.snd ≤ (1099511627776 : Int)) &&
 x.fst.snd.snd.snd.fst != x.fst.snd.snd.snd.snd.fst) =
 true →
 (decide ((1 : Int) ≤ x.fst.snd.fst) && decide (x.fst.snd.fst ≤ (64 : Int)) &&
 decide ((↑x.fst.fst.length : Int) ≤ x.fst.snd.fst) &&
 decide ((0 : Int) ≤ x.fst.snd.snd.fst) &&
 decide (x.fst.snd.snd.fst ≤ (1099511627776 : Int)) &&
 decide ((0 : Int) ≤ x.fst.snd.snd.snd.snd.snd) &&
 decide (x.fst.snd.snd.snd.snd.snd ≤ (1099511627776 : Int)) &&
 x.fst.snd.snd.snd.fst != x.fst.snd.snd.snd.snd.fst) =
 true) ∧
 ((decide ((1 : Int) ≤ x.fst.snd.fst) && decide (x.fst.snd.fst ≤ (64 : Int)) &&
 decide ((↑x.fst.fst.length : Int) ≤ x.fst.snd.fst) &&
 decide ((0 : Int) ≤ x.fst.snd.snd.fst) &&
 decide (x.fst.snd.snd.fst ≤ (1099511627776 : Int)) &&
 decide ((0 : Int) ≤ x.fst.snd.snd.snd.snd.snd) &&
 decide (x.fst.snd.snd.snd.snd.snd ≤ (1099511627776 : Int)) &&
 x.fst.snd.snd.snd.fst != x.fst.snd.snd.snd.snd.fst) =
 true →
 (decide ((1 : Int) ≤ x.fst.snd.fst) && decide (x.fst.snd.fst ≤ (64 : Int)) &&
 decide ((↑x.fst.fst.length : Int) ≤ x.fst.snd.fst) &&
 decide ((0 : Int) ≤ x.fst.snd.snd.fst) &&
 decide (x.fst.snd.snd.fst ≤ (1099511627776 : Int)) &&
 decide ((0 : Int) ≤ x.fst.snd.snd.snd.snd.snd) &&
 decide (x.fst.snd.snd.snd.snd.snd ≤ (1099511627776 : Int)) &&
 x.fst.snd.snd.snd.fst != x.fst.snd.snd.snd.snd.fst) =
 true) ∧
 ((decide ((1 : Int) ≤ x.fst.snd.fst) && decide (x.fst.snd.fst ≤ (64 : Int)) &&
 decide ((↑x.fst.fst.length : Int) ≤ x.fst.snd.fst) &&
 decide ((0 : Int) ≤ x.fst.snd.snd.fst) &&
 decide (x.fst.snd.snd.fst ≤ (1099511627776 : Int)) &&
 decide ((0 : Int) ≤ x.fst.snd.snd.snd.snd.snd) &&
 decide (x.fst.snd.snd.snd.snd.snd ≤ (1099511627776 : Int)) &&
 x.fst.snd.snd.snd.fst != x.fst.snd.snd.snd.snd.fst &&
 !x.fst.snd.snd.snd.snd.fst) =
 true →
 (decide ((1 : Int) ≤ x.fst.snd.fst) && decide (x.fst.snd.fst ≤ (64 : Int)) &&
 decide ((↑x.fst.fst.length : Int) ≤ x.fst.snd.fst) &&
 decide ((0 : Int) ≤ x.fst.snd.snd.fst) &&
 decide (x.fst.snd.snd.fst ≤ (1099511627776 : Int)) &&
 decide ((0 : Int) ≤ x.fst.snd.snd.snd.snd.snd) &&
 decide (x.fst.snd.snd.snd.snd.snd ≤ (1099511627776 : Int)) &&
 x.fst.snd.snd.snd.fst != x.fst.snd.snd.snd.snd.fst &&
 !x.fst.snd.snd.snd.snd.fst) =
 true) ∧
 ((decide ((1 : Int) ≤ x.fst.snd.fst) && decide (x.fst.snd.fst ≤ (64 : Int)) &&
 decide ((↑x.fst.fst.length : Int) ≤ x.fst.snd.fst) &&
 decide ((0 : Int) ≤ x.fst.snd.snd.fst) &&
 decide (x.fst.snd.snd.fst ≤ (1099511627776 : Int)) &&
 decide ((0 : Int) ≤ x.fst.snd.snd.snd.snd.snd) &&
 decide (x.fst.snd.snd.snd.snd.snd ≤ (1099511627776 : Int)) &&
 x.fst.snd.snd.snd.fst != x.fst.snd.snd.snd.snd.fst &&
 !x.fst.snd.snd.snd.snd.fst) =
 true →
 (decide ((1 : Int) ≤ x.fst.snd.fst) && decide (x.fst.snd.fst ≤ (64 : Int)) &&
 decide ((↑x.fst.fst.length : Int) ≤ x.fst.snd.fst) &&
 decide ((0 : Int) ≤ x.fst.snd.snd.fst) &&
 decide (x.fst.snd.snd.fst ≤ (1099511627776 : Int)) &&
 decide ((0 : Int) ≤ x.fst.snd.snd.snd.snd.snd) &&
 decide (x.fst.snd.snd.snd.snd.snd ≤ (1099511627776 : Int)) &&
 x.fst.snd.snd.snd.fst != x.fst.snd.snd.snd.snd.fst &&
 !x.fst.snd.snd.snd.snd.fst) =
 true) ∧
 ((decide ((1 : Int) ≤ x.fst.snd.fst) && decide (x.fst.snd.fst ≤ (64 : Int)) &&
 decide ((↑x.fst.fst.length : Int) ≤ x.fst.snd.fst) &&
 decide ((0 : Int) ≤ x.fst.snd.snd.fst) &&
 decide (x.fst.snd.snd.fst ≤ (1099511627776 : Int)) &&
 decide ((0 : Int) ≤ x.fst.snd.snd.snd.snd.snd) &&
 decide (x.fst.snd.snd.snd.snd.snd ≤ (1099511627776 : Int)) &&
 x.fst.snd.snd.snd.fst != x.fst.snd.snd.snd.snd.fst &&
 !x.fst.snd.snd.snd.snd.fst) =
 true →
 (decide ((1 : Int) ≤ x.fst.snd.fst) && decide (x.fst.snd.fst ≤ (64 : Int)) &&
 decide ((↑x.fst.fst.length : Int) ≤ x.fst.snd.fst) &&
 decide ((0 : Int) ≤ x.fst.snd.snd.fst) &&
 decide (x.fst.snd.snd.fst ≤ (1099511627776 : Int)) &&
 decide ((0 : Int) ≤ x.fst.snd.snd.snd.snd.snd) &&
 decide (x.fst.snd.snd.snd.snd.snd ≤ (1099511627776 : Int)) &&
 x.fst.snd.snd.snd.fst != x.fst.snd.snd.snd.snd.fst &&
 !x.fst.snd.snd.snd.snd.fst) =
 true) ∧
 ((decide ((1 : Int) ≤ x.fst.snd.fst) && decide (x.fst.snd.fst ≤ (64 : Int)) &&
 decide ((↑x.fst.fst.length : Int) ≤ x.fst.snd.fst) &&
 decide ((0 : Int) ≤ x.fst.snd.snd.fst) &&
 decide (x.fst.snd.snd.fst ≤ (1099511627776 : Int)) &&
 decide ((0 : Int) ≤ x.fst.snd.snd.snd.snd.snd) &&
 decide (x.fst.snd.snd.snd.snd.snd ≤ (1099511627776 : Int)) &&
 x.fst.snd.snd.snd.fst != x.fst.snd.snd.snd.snd.fst) =
 true →
 (decide ((1 : Int) ≤ x.fst.snd.fst) && decide (x.fst.snd.fst ≤ (64 : Int)) &&
 decide ((↑x.fst.fst.length : Int) ≤ x.fst.snd.fst) &&
 decide ((0 : Int) ≤ x.fst.snd.snd.fst) &&
 decide (x.fst.snd.snd.fst ≤ (1099511627776 : Int)) &&
 decide ((0 : Int) ≤ x.fst.snd.snd.snd.snd.snd) &&
 decide (x.fst.snd.snd.snd.snd.snd ≤ (1099511627776 : Int)) &&
 x.fst.snd.snd.snd.fst != x.fst.snd.snd.snd.snd.fst) =
 true ∧
 (x.fst.snd.snd.snd.snd.fst = false →
 (decide ((1 : Int) ≤ x.fst.snd.fst) && decide (x.fst.snd.fst ≤ (64 : Int)) &&
 decide ((↑x.fst.fst.length : Int) ≤ x.fst.snd.fst) &&
 decide ((0 : Int) ≤ x.fst.snd.snd.fst) &&
 decide (x.fst.snd.snd.fst ≤ (1099511627776 : Int)) &&
 decide ((0 : Int) ≤ x.fst.snd.snd.snd.snd.snd) &&
 decide (x.fst.snd.snd.snd.snd.snd ≤ (1099511627776 : Int)) &&
 x.fst.snd.snd.snd.fst != x.fst.snd.snd.snd.snd.fst &&
 !x.fst.snd.snd.snd.snd.fst) =
 true)) ∧
 ((decide ((1 : Int) ≤ x.fst.snd.fst) && decide (x.fst.snd.fst ≤ (64 : Int)) &&
 decide ((↑x.fst.fst.length : Int) ≤ x.fst.snd.fst) &&
 decide ((0 : Int) ≤ x.fst.snd.snd.fst) &&
 decide (x.fst.snd.snd.fst ≤ (1099511627776 : Int)) &&
 decide ((0 : Int) ≤ x.fst.snd.snd.snd.snd.snd) &&
 decide (x.fst.snd.snd.snd.snd.snd ≤ (1099511627776 : Int)) &&
 x.fst.snd.snd.snd.fst != x.fst.snd.snd.snd.snd.fst) =
 true →
 (decide ((1 : Int) ≤ x.fst.snd.fst) && decide (x.fst.snd.fst ≤ (64 : Int)) &&
 decide ((↑x.fst.fst.length : Int) ≤ x.fst.snd.fst) &&
 decide ((0 : Int) ≤ x.fst.snd.snd.fst) &&
 decide (x.fst.snd.snd.fst ≤ (1099511627776 : Int)) &&
 decide ((0 : Int) ≤ x.fst.snd.snd.snd.snd.snd) &&
 decide (x.fst.snd.snd.snd.snd.snd ≤ (1099511627776 : Int)) &&
 x.fst.snd.snd.snd.fst != x.fst.snd.snd.snd.snd.fst) =
 true) ∧
 (decide ((1 : Int) ≤ x.fst.snd.fst) && decide (x.fst.snd.fst ≤ (64 : Int)) &&
 decide ((↑x.fst.fst.length : Int) ≤ x.fst.snd.fst) &&
 decide ((0 : Int) ≤ x.fst.snd.snd.fst) &&
 decide (x.fst.snd.snd.fst ≤ (1099511627776 : Int)) &&
 decide ((0 : Int) ≤ x.fst.snd.snd.snd.snd.snd) &&
 decide (x.fst.snd.snd.snd.snd.snd ≤ (1099511627776 : Int)) &&
 x.fst.snd.snd.snd.fst != x.fst.snd.snd.snd.snd.fst &&
 (x.fst.snd.snd.snd.snd.fst || (↑x.fst.fst.length : Int) == (0 : Int))) =
 right x.fst

theorem E_right_eq (x : HL (cRight : Ctr).as) : vc (fx_right x) 1 41 Try.f41 (cRight) x = E_right x := by kernel_rfl

def E_tright (x : (List Int × Int × Int × Bool × Bool × Int) × Unit) : Prop :=
 ((!decide (x.fst.snd.fst < (1 : Int))) = true → (!decide (x.fst.snd.fst < (1 : Int))) = true) ∧
 ((!decide (x.fst.snd.fst < (1 : Int))) = true → (!decide (x.fst.snd.fst < (1 : Int))) = true) ∧
 (decide (x.fst.snd.fst < (1 : Int)) = false → (!decide (x.fst.snd.fst < (1 : Int))) = true) ∧
 ((!(decide (x.fst.snd.fst < (1 : Int)) || decide ((64 : Int) < x.fst.snd.fst))) = true →
 (!(decide (x.fst.snd.fst < (1 : Int)) || decide ((64 : Int) < x.fst.snd.fst))) = true) ∧
 ((!(decide (x.fst.snd.fst < (1 : Int)) || decide ((64 : Int) < x.fst.snd.fst))) = true →
 (!(decide (x.fst.snd.fst < (1 : Int)) || decide ((64 : Int) < x.fst.snd.fst))) = true) ∧
 ((!(decide (x.fst.snd.fst < (1 : Int)) || decide ((64 : Int) < x.fst.snd.fst))) = true →
 (!(decide (x.fst.snd.fst < (1 : Int)) || decide ((64 : Int) < x.fst.snd.fst))) = true) ∧
 ((!(decide (x.fst.snd.fst < (1 : Int)) || decide ((64 : Int) < x.fst.snd.fst))) = true →
 (!(decide (x.fst.snd.fst < (1 : Int)) || decide ((64 : Int) < x.fst.snd.fst))) = true ∧
 (!(decide (x.fst.snd.fst < (1 : Int)) || decide ((64 : Int) < x.fst.snd.fst))) = true) ∧
 ((decide (x.fst.snd.fst < (1 : Int)) || decide ((64 : Int) < x.fst.snd.fst)) = false →
 (!(decide (x.fst.snd.fst < (1 : Int)) || decide ((64 : Int) < x.fst.snd.fst))) = true) ∧
 ((!(decide (x.fst.snd.fst < (1 : Int)) || decide ((64 : Int) < x.fst.snd.fst) ||
 decide (x.fst.snd.fst < (↑x.fst.fst.length : Int)))) =
 true →
 (!(decide (x.fst.snd.fst < (1 : Int)) || decide ((64 : Int) < x.fst.snd.fst) ||
 decide (x.fst.snd.fst < (↑x.fst.fst.length : Int)))) =
 true) ∧
 ((!(decide (x.fst.snd.fst < (1 : Int)) || decide ((64 : Int) < x.fst.snd.fst) ||
 decide (x.fst.snd.fst < (↑x.fst.fst.length : Int)))) =
 true →
 (!(decide (x.fst.snd.fst < (1 : Int)) || decide ((64 : Int) < x.fst.snd.fst) ||
 decide (x.fst.snd.fst < (↑x.fst.fst.length : Int)))) =
 true) ∧
 ((decide (x.fst.snd.fst < (1 : Int)) || decide ((64 : Int) < x.fst.snd.fst) ||
 decide (x.fst.snd.fst < (↑x.fst.fst.length : Int))) =
 false →
 (!(decide (x.fst.snd.fst < (1 : Int)) || decide ((64 : Int) < x.fst.snd.fst) ||
 decide (x.fst.snd.fst < (↑x.fst.fst.length : Int)))) =
 true) ∧
 ((!(decide (x.fst.snd.fst < (1 : Int)) || decide ((64 : Int) < x.fst.snd.fst) ||
 decide (x.fst.snd.fst < (↑x.fst.fst.length : Int)) ||
 decide (x.fst.snd.snd.fst < (0 : Int)))) =
 true →
 (!(decide (x.fst.snd.fst < (1 : Int)) || decide ((64 : Int) < x.fst.snd.fst) ||
 decide (x.fst.snd.fst < (↑x.fst.fst.length : Int)) ||
 decide (x.fst.snd.snd.fst < (0 : Int)))) =
 true) ∧
 ((!(decide (x.fst.snd.fst < (1 : Int)) || decide ((64 : Int) < x.fst.snd.fst) ||
 decide (x.fst.snd.fst < (↑x.fst.fst.length : Int)) ||
 decide (x.fst.snd.snd.fst < (0 : Int)))) =
 true →
 (!(decide (x.fst.snd.fst < (1 : Int)) || decide ((64 : Int) < x.fst.snd.fst) ||
 decide (x.fst.snd.fst < (↑x.fst.fst.length : Int)) ||
 decide (x.fst.snd.snd.fst < (0 : Int)))) =
 true) ∧
 ((decide (x.fst.snd.fst < (1 : Int)) || decide ((64 : Int) < x.fst.snd.fst) ||
 decide (x.fst.snd.fst < (↑x.fst.fst.length : Int)) ||
 decide (x.fst.snd.snd.fst < (0 : Int))) =
 false →
 (!(decide (x.fst.snd.fst < (1 : Int)) || decide ((64 : Int) < x.fst.snd.fst) ||
 decide (x.fst.snd.fst < (↑x.fst.fst.length : Int)) ||
 decide (x.fst.snd.snd.fst < (0 : Int)))) =
 true) ∧
 ((!(decide (x.fst.snd.fst < (1 : Int)) || decide ((64 : Int) < x.fst.snd.fst) ||
 decide (x.fst.snd.fst < (↑x.fst.fst.length : Int)) ||
 decide (x.fst.snd.snd.fst < (0 : Int)) ||
 decide (x.fst.snd.snd.snd.snd.snd < (0 : Int)))) =
 true →
 (!(decide (x.fst.snd.fst < (1 : Int)) || decide ((64 : Int) < x.fst.snd.fst) ||
 decide (x.fst.snd.fst < (↑x.fst.fst.length : Int)) ||
 decide (x.fst.snd.snd.fst < (0 : Int)) ||
 decide (x.fst.snd.snd.snd.snd.snd < (0 : Int)))) =
 true) ∧
 ((!(decide (x.fst.snd.fst < (1 : Int)) || decide ((64 : Int) < x.fst.snd.fst) ||
 decide (x.fst.snd.fst < (↑x.fst.fst.length : Int)) ||
 decide (x.fst.snd.snd.fst < (0 : Int)) ||
 decide (x.fst.snd.snd.snd.snd.snd < (0 : Int)))) =
 true →
 (!(decide (x.fst.snd.fst < (1 : Int)) || decide ((64 : Int) < x.fst.snd.fst) ||
 decide (x.fst.snd.fst < (↑x.fst.fst.length : Int)) ||
 decide (x.fst.snd.snd.fst < (0 : Int)) ||
 decide (x.fst.snd.snd.snd.snd.snd < (0 : Int)))) =
 true) ∧
 ((decide (x.fst.snd.fst < (1 : Int)) || decide ((64 : Int) < x.fst.snd.fst) ||
 decide (x.fst.snd.fst < (↑x.fst.fst.length : Int)) ||
 decide (x.fst.snd.snd.fst < (0 : Int)) ||
 decide (x.fst.snd.snd.snd.snd.snd < (0 : Int))) =
 false →
 (!(decide (x.fst.snd.fst < (1 : Int)) || decide ((64 : Int) < x.fst.snd.fst) ||
 decide (x.fst.snd.fst < (↑x.fst.fst.length : Int)) ||
 decide (x.fst.snd.snd.fst < (0 : Int)) ||
 decide (x.fst.snd.snd.snd.snd.snd < (0 : Int)))) =
 true) ∧
 ((!(decide (x.fst.snd.fst < (1 : Int)) || decide ((64 : Int) < x.fst.snd.fst) ||
 decide (x.fst.snd.fst < (↑x.fst.fst.length : Int)) ||
 decide (x.fst.snd.snd.fst < (0 : Int)) ||
 decide (x.fst.snd.snd.snd.snd.snd < (0 : Int)) ||
 decide ((1099511627776 : Int) < x.fst.snd.snd.fst))) =
 true →
 (!(decide (x.fst.snd.fst < (1 : Int)) || decide ((64 : Int) < x.fst.snd.fst) ||
 decide (x.fst.snd.fst < (↑x.fst.fst.length : Int)) ||
 decide (x.fst.snd.snd.fst < (0 : Int)) ||
 decide (x.fst.snd.snd.snd.snd.snd < (0 : Int)) ||
 decide ((1099511627776 : Int) < x.fst.snd.snd.fst))) =
 true) ∧
 ((!(decide (x.fst.snd.fst < (1 : Int)) || decide ((64 : Int) < x.fst.snd.fst) ||
 decide (x.fst.snd.fst < (↑x.fst.fst.length : Int)) ||
 decide (x.fst.snd.snd.fst < (0 : Int)) ||
 decide (x.fst.snd.snd.snd.snd.snd < (0 : Int)) ||
 decide ((1099511627776 : Int) < x.fst.snd.snd.fst))) =
 true →
 (!(decide (x.fst.snd.fst < (1 : Int)) || decide ((64 : Int) < x.fst.snd.fst) ||
 decide (x.fst.snd.fst < (↑x.fst.fst.length : Int)) ||
 decide (x.fst.snd.snd.fst < (0 : Int)) ||
 decide (x.fst.snd.snd.snd.snd.snd < (0 : Int)) ||
 decide ((1099511627776 : Int) < x.fst.snd.snd.fst))) =
 true) ∧
 ((decide (x.fst.snd.fst < (1 : Int)) || decide ((64 : Int) < x.fst.snd.fst) ||
 decide (x.fst.snd.fst < (↑x.fst.fst.length : Int)) ||
 decide (x.fst.snd.snd.fst < (0 : Int)) ||
 decide (x.fst.snd.snd.snd.snd.snd < (0 : Int)) ||
 decide ((1099511627776 : Int) < x.fst.snd.snd.fst)) =
 false →
 (!(decide (x.fst.snd.fst < (1 : Int)) || decide ((64 : Int) < x.fst.snd.fst) ||
 decide (x.fst.snd.fst < (↑x.fst.fst.length : Int)) ||
 decide (x.fst.snd.snd.fst < (0 : Int)) ||
 decide (x.fst.snd.snd.snd.snd.snd < (0 : Int)) ||
 decide ((1099511627776 : Int) < x.fst.snd.snd.fst))) =
 true) ∧
 ((decide (x.fst.snd.fst < (1 : Int)) || decide ((64 : Int) < x.fst.snd.fst) ||
 decide (x.fst.snd.fst < (↑x.fst.fst.length : Int)) ||
 decide (x.fst.snd.snd.fst < (0 : Int)) ||
 decide (x.fst.snd.snd.snd.snd.snd < (0 : Int)) ||
 decide ((1099511627776 : Int) < x.fst.snd.snd.fst) ||
 decide ((1099511627776 : Int) < x.fst.snd.snd.snd.snd.snd)) =
 true →
 false = right x.fst) ∧
 ((decide (x.fst.snd.fst < (1 : Int)) || decide ((64 : Int) < x.fst.snd.fst) ||
 decide (x.fst.snd.fst < (↑x.fst.fst.length : Int)) ||
 decide (x.fst.snd.snd.fst < (0 : Int)) ||
 decide (x.fst.snd.snd.snd.snd.snd < (0 : Int)) ||
 decide ((1099511627776 : Int) < x.fst.snd.snd.fst) ||
 decide ((1099511627776 : Int) < x.fst.snd.snd.snd.snd.snd)) =
 false →
 (x.fst.snd.snd.snd.fst = true →
 ((!x.fst.snd.snd.snd.snd.fst) = true → (!x.fst.snd.snd.snd.snd.fst) = true) ∧
 ((!x.fst.snd.snd.snd.snd.fst) = true → (!x.fst.snd.snd.snd.snd.fst) = true) ∧
 ((!x.fst.snd.snd.snd.snd.fst) = true → (!x.fst.snd.snd.snd.snd.fst) = true) ∧
 ((!x.fst.snd.snd.snd.snd.fst) = true → (!x.fst.snd.snd.snd.snd.fst) = true) ∧
 (!x.fst.snd.snd.snd.snd.fst && (↑x.fst.fst.length : Int) == (0 : Int)) = right x.fst) ∧
 (x.fst.snd.snd.snd.fst = false → x.fst.snd.snd.snd.snd.fst = right x.fst))

theorem E_tright_eq (x : HL (cRight : Ctr).as) : vc (fx_tright x) 1 42 Try.f42 (cRight) x = E_tright x := by kernel_rfl

def E_step (x : (List Int × Int × Int × Bool × Bool × Int) × (Int × Int) × Unit) : Prop :=
 Holds True ∧
 ((!right (x.fst.fst, x.fst.snd.fst, x.fst.snd.snd.fst, x.fst.snd.snd.snd.fst, x.fst.snd.snd.snd.snd.fst, x.fst.snd.snd.snd.snd.snd)) = true →
 (([] : List Int), (0 : Int), (0 : Int), false, false, (0 : Int)) = (step x.fst x.snd.fst.fst x.snd.fst.snd).fst ∧
 ([] : List Int) = (step x.fst x.snd.fst.fst x.snd.fst.snd).snd.fst ∧ (1 : Int) = (step x.fst x.snd.fst.fst x.snd.fst.snd).snd.snd.fst) ∧
 ((!right (x.fst.fst, x.fst.snd.fst, x.fst.snd.snd.fst, x.fst.snd.snd.snd.fst, x.fst.snd.snd.snd.snd.fst, x.fst.snd.snd.snd.snd.snd)) = false →
 Holds (x.fst.fst.length * (8 : Nat) ≤ (140737488355328 : Nat)) ∧
 ((x.snd.fst.fst == (1 : Int)) = true →
 ((!x.fst.snd.snd.fst == (1099511627776 : Int)) = true → (!x.fst.snd.snd.fst == (1099511627776 : Int)) = true) ∧
 ((!x.fst.snd.snd.fst == (1099511627776 : Int)) = true → (!x.fst.snd.snd.fst == (1099511627776 : Int)) = true) ∧
 ((x.fst.snd.snd.fst == (1099511627776 : Int)) = false → (!x.fst.snd.snd.fst == (1099511627776 : Int)) = true) ∧
 ((x.fst.snd.snd.fst == (1099511627776 : Int) || x.fst.snd.snd.snd.snd.snd == (1099511627776 : Int)) = true →
 (([] : List Int), (0 : Int), (0 : Int), false, false, (0 : Int)) = (step x.fst x.snd.fst.fst x.snd.fst.snd).fst ∧
 ([] : List Int) = (step x.fst x.snd.fst.fst x.snd.fst.snd).snd.fst ∧
 (4 : Int) = (step x.fst x.snd.fst.fst x.snd.fst.snd).snd.snd.fst) ∧
 ((x.fst.snd.snd.fst == (1099511627776 : Int) || x.fst.snd.snd.snd.snd.snd == (1099511627776 : Int)) = false →
 (((↑x.fst.fst.length : Int) == x.fst.snd.fst) = true →
 ((-9223372036854775808 : Int) ≤ x.fst.snd.snd.fst + (1 : Int) ∧
 x.fst.snd.snd.fst + (1 : Int) ≤ (9223372036854775807 : Int)) ∧
 (x.fst.snd.snd.snd.fst = true →
 ((-9223372036854775808 : Int) ≤ x.fst.snd.snd.snd.snd.snd + (1 : Int) ∧
 x.fst.snd.snd.snd.snd.snd + (1 : Int) ≤ (9223372036854775807 : Int)) ∧
 (x.fst.fst, x.fst.snd.fst, x.fst.snd.snd.fst + (1 : Int), false, true, x.fst.snd.snd.snd.snd.snd + (1 : Int)) =
 (step x.fst x.snd.fst.fst x.snd.fst.snd).fst ∧
 ([] : List Int) = (step x.fst x.snd.fst.fst x.snd.fst.snd).snd.fst ∧
 (0 : Int) = (step x.fst x.snd.fst.fst x.snd.fst.snd).snd.snd.fst) ∧
 (x.fst.snd.snd.snd.fst = false →
 (x.fst.fst, x.fst.snd.fst, x.fst.snd.snd.fst + (1 : Int), x.fst.snd.snd.snd.fst, x.fst.snd.snd.snd.snd.fst,
 x.fst.snd.snd.snd.snd.snd) =
 (step x.fst x.snd.fst.fst x.snd.fst.snd).fst ∧
 ([] : List Int) = (step x.fst x.snd.fst.fst x.snd.fst.snd).snd.fst ∧
 (0 : Int) = (step x.fst x.snd.fst.fst x.snd.fst.snd).snd.snd.fst)) ∧
 (((↑x.fst.fst.length : Int) == x.fst.snd.fst) = false →
 (x.fst.fst.length + (((0 : Int) :: ([] : List Int)).set (0 : Nat) x.snd.fst.snd).length ≤ (9223372036854775807 : Nat) ∧
 (x.fst.fst.length + (((0 : Int) :: ([] : List Int)).set (0 : Nat) x.snd.fst.snd).length) * (8 : Nat) ≤
 (140737488355328 : Nat)) ∧
 (x.fst.snd.snd.snd.fst = true →
 ((-9223372036854775808 : Int) ≤ x.fst.snd.snd.snd.snd.snd + (1 : Int) ∧
 x.fst.snd.snd.snd.snd.snd + (1 : Int) ≤ (9223372036854775807 : Int)) ∧
 (x.fst.fst ++ ((0 : Int) :: ([] : List Int)).set (0 : Nat) x.snd.fst.snd, x.fst.snd.fst, x.fst.snd.snd.fst, false,
 true, x.fst.snd.snd.snd.snd.snd + (1 : Int)) =
 (step x.fst x.snd.fst.fst x.snd.fst.snd).fst ∧
 ([] : List Int) = (step x.fst x.snd.fst.fst x.snd.fst.snd).snd.fst ∧
 (0 : Int) = (step x.fst x.snd.fst.fst x.snd.fst.snd).snd.snd.fst) ∧
 (x.fst.snd.snd.snd.fst = false →
 (x.fst.fst ++ ((0 : Int) :: ([] : List Int)).set (0 : Nat) x.snd.fst.snd, x.fst.snd.fst, x.fst.snd.snd.fst,
 x.fst.snd.snd.snd.fst, x.fst.snd.snd.snd.snd.fst, x.fst.snd.snd.snd.snd.snd) =
 (step x.fst x.snd.fst.fst x.snd.fst.snd).fst ∧
 ([] : List Int) = (step x.fst x.snd.fst.fst x.snd.fst.snd).snd.fst ∧
 (0 : Int) = (step x.fst x.snd.fst.fst x.snd.fst.snd).snd.snd.fst)))) ∧
 ((x.snd.fst.fst == (1 : Int)) = false →
 ((x.snd.fst.fst == (2 : Int)) = true →
 (decide (x.snd.fst.snd < (1 : Int)) = true →
 (([] : List Int), (0 : Int), (0 : Int), false, false, (0 : Int)) = (step x.fst x.snd.fst.fst x.snd.fst.snd).fst ∧
 ([] : List Int) = (step x.fst x.snd.fst.fst x.snd.fst.snd).snd.fst ∧
 (2 : Int) = (step x.fst x.snd.fst.fst x.snd.fst.snd).snd.snd.fst) ∧
 (decide (x.snd.fst.snd < (1 : Int)) = false →
 ((!x.fst.snd.snd.snd.snd.fst) = true →
 (([] : List Int), (0 : Int), (0 : Int), false, false, (0 : Int)) = (step x.fst x.snd.fst.fst x.snd.fst.snd).fst ∧
 ([] : List Int) = (step x.fst x.snd.fst.fst x.snd.fst.snd).snd.fst ∧
 (7 : Int) = (step x.fst x.snd.fst.fst x.snd.fst.snd).snd.snd.fst) ∧
 ((!x.fst.snd.snd.snd.snd.fst) = false →
 ((((0 : Int) ≤ (0 : Int) ∧ (0 : Int) ≤ min x.snd.fst.snd (↑x.fst.fst.length : Int)) ∧
 min x.snd.fst.snd (↑x.fst.fst.length : Int) ≤ min x.snd.fst.snd (↑x.fst.fst.length : Int)) ∧
 min x.snd.fst.snd (↑x.fst.fst.length : Int) ≤ (↑x.fst.fst.length : Int)) ∧
 (((0 : Int) ≤ min x.snd.fst.snd (↑x.fst.fst.length : Int) ∧
 min x.snd.fst.snd (↑x.fst.fst.length : Int) ≤ (↑x.fst.fst.length : Int)) ∧
 (↑x.fst.fst.length : Int) ≤ (↑x.fst.fst.length : Int)) ∧
 Holds
 ((List.drop (min x.snd.fst.snd (↑x.fst.fst.length : Int)).toNat
 (List.take (↑x.fst.fst.length : Int).toNat x.fst.fst)).length *
 (8 : Nat) ≤
 (140737488355328 : Nat)) ∧
 (decide (min x.snd.fst.snd (↑x.fst.fst.length : Int) < x.snd.fst.snd) = true →
 (List.drop (min x.snd.fst.snd (↑x.fst.fst.length : Int)).toNat
 (List.take (↑x.fst.fst.length : Int).toNat x.fst.fst),
 x.fst.snd.fst, x.fst.snd.snd.fst, true, false, x.fst.snd.snd.snd.snd.snd) =
 (step x.fst x.snd.fst.fst x.snd.fst.snd).fst ∧
 List.drop (Int.toNat (0 : Int)) (List.take (min x.snd.fst.snd (↑x.fst.fst.length : Int)).toNat x.fst.fst) =
 (step x.fst x.snd.fst.fst x.snd.fst.snd).snd.fst ∧
 (0 : Int) = (step x.fst x.snd.fst.fst x.snd.fst.snd).snd.snd.fst) ∧
 (decide (min x.snd.fst.snd (↑x.fst.fst.length : Int) < x.snd.fst.snd) = false →
 (List.drop (min x.snd.fst.snd (↑x.fst.fst.length : Int)).toNat
 (List.take (↑x.fst.fst.length : Int).toNat x.fst.fst),
 x.fst.snd.fst, x.fst.snd.snd.fst, x.fst.snd.snd.snd.fst, x.fst.snd.snd.snd.snd.fst,
 x.fst.snd.snd.snd.snd.snd) =
 (step x.fst x.snd.fst.fst x.snd.fst.snd).fst ∧
 List.drop (Int.toNat (0 : Int)) (List.take (min x.snd.fst.snd (↑x.fst.fst.length : Int)).toNat x.fst.fst) =
 (step x.fst x.snd.fst.fst x.snd.fst.snd).snd.fst ∧
 (0 : Int) = (step x.fst x.snd.fst.fst x.snd.fst.snd).snd.snd.fst)))) ∧
 ((x.snd.fst.fst == (2 : Int)) = false →
 (([] : List Int), (0 : Int), (0 : Int), false, false, (0 : Int)) = (step x.fst x.snd.fst.fst x.snd.fst.snd).fst ∧
 ([] : List Int) = (step x.fst x.snd.fst.fst x.snd.fst.snd).snd.fst ∧
 (5 : Int) = (step x.fst x.snd.fst.fst x.snd.fst.snd).snd.snd.fst)))

theorem E_step_eq (x : HL (cStep : Ctr).as) : vc (fx_step x) 2 39 Try.f39 (cStep) x = E_step x := by kernel_rfl

def E_tstep (x : (List Int × Int × Int × Bool × Bool × Int) × (Int × Int) × Unit) : Prop :=
 (Holds True ∧
 ((!right (x.fst.fst, x.fst.snd.fst, x.fst.snd.snd.fst, x.fst.snd.snd.snd.fst, x.fst.snd.snd.snd.snd.fst, x.fst.snd.snd.snd.snd.snd)) = true →
 ((1 : Int) = err x.fst x.snd.fst.fst x.snd.fst.snd ∧ True) ∧
 ((True ∧ True) ∧ (True ∧ True) ∧ (True ∧ True) ∧ (1 : Int) = (1 : Int) ∧ True) ∧
 ((x.fst.fst = x.fst.fst ∧
 x.fst.snd.fst = x.fst.snd.fst ∧
 x.fst.snd.snd.fst = x.fst.snd.snd.fst ∧
 x.fst.snd.snd.snd.fst = x.fst.snd.snd.snd.fst ∧
 x.fst.snd.snd.snd.snd.fst = x.fst.snd.snd.snd.snd.fst ∧ x.fst.snd.snd.snd.snd.snd = x.fst.snd.snd.snd.snd.snd ∧ True) ∧
 (x.snd.fst.fst = x.snd.fst.fst ∧ x.snd.fst.snd = x.snd.fst.snd ∧ True) ∧
 (Value.slice none (0 : Nat) (0 : Nat) = Value.slice none (0 : Nat) (0 : Nat) ∧
 (0 : Int) = (0 : Int) ∧ (0 : Int) = (0 : Int) ∧ false = false ∧ false = false ∧ (0 : Int) = (0 : Int) ∧ True) ∧
 True) ∧
 True) ∧
 ((!right (x.fst.fst, x.fst.snd.fst, x.fst.snd.snd.fst, x.fst.snd.snd.snd.fst, x.fst.snd.snd.snd.snd.fst, x.fst.snd.snd.snd.snd.snd)) = false →
 ((x.snd.fst.fst != (1 : Int)) = true → (x.snd.fst.fst != (1 : Int)) = true) ∧
 ((x.snd.fst.fst != (1 : Int)) = true → (x.snd.fst.fst != (1 : Int)) = true) ∧
 ((x.snd.fst.fst != (1 : Int)) = true → (x.snd.fst.fst != (1 : Int)) = true) ∧
 ((x.snd.fst.fst != (1 : Int) && x.snd.fst.fst != (2 : Int)) = true →
 ((5 : Int) = err x.fst x.snd.fst.fst x.snd.fst.snd ∧ True) ∧
 ((True ∧ True) ∧ (True ∧ True) ∧ (True ∧ True) ∧ (5 : Int) = (5 : Int) ∧ True) ∧
 ((x.fst.fst = x.fst.fst ∧
 x.fst.snd.fst = x.fst.snd.fst ∧
 x.fst.snd.snd.fst = x.fst.snd.snd.fst ∧
 x.fst.snd.snd.snd.fst = x.fst.snd.snd.snd.fst ∧
 x.fst.snd.snd.snd.snd.fst = x.fst.snd.snd.snd.snd.fst ∧
 x.fst.snd.snd.snd.snd.snd = x.fst.snd.snd.snd.snd.snd ∧ True) ∧
 (x.snd.fst.fst = x.snd.fst.fst ∧ x.snd.fst.snd = x.snd.fst.snd ∧ True) ∧
 (Value.slice none (0 : Nat) (0 : Nat) = Value.slice none (0 : Nat) (0 : Nat) ∧
 (0 : Int) = (0 : Int) ∧ (0 : Int) = (0 : Int) ∧ false = false ∧ false = false ∧ (0 : Int) = (0 : Int) ∧ True) ∧
 True) ∧
 True) ∧
 ((x.snd.fst.fst != (1 : Int) && x.snd.fst.fst != (2 : Int)) = false →
 ((x.snd.fst.fst == (1 : Int)) = true → (x.snd.fst.fst == (1 : Int)) = true) ∧
 ((x.snd.fst.fst == (1 : Int)) = true → (x.snd.fst.fst == (1 : Int)) = true) ∧
 ((x.snd.fst.fst == (1 : Int)) = true → (x.snd.fst.fst == (1 : Int)) = true ∧ (x.snd.fst.fst == (1 : Int)) = true) ∧
 ((x.snd.fst.fst == (1 : Int)) = true → (x.snd.fst.fst == (1 : Int)) = true) ∧
 ((x.snd.fst.fst == (1 : Int)) = true → (x.snd.fst.fst == (1 : Int)) = true) ∧
 ((x.snd.fst.fst == (1 : Int) && max x.fst.snd.snd.fst x.fst.snd.snd.snd.snd.snd == (1099511627776 : Int)) = true →
 ((4 : Int) = err x.fst x.snd.fst.fst x.snd.fst.snd ∧ True) ∧
 ((True ∧ True) ∧ (True ∧ True) ∧ (True ∧ True) ∧ (4 : Int) = (4 : Int) ∧ True) ∧
 ((x.fst.fst = x.fst.fst ∧
 x.fst.snd.fst = x.fst.snd.fst ∧
 x.fst.snd.snd.fst = x.fst.snd.snd.fst ∧
 x.fst.snd.snd.snd.fst = x.fst.snd.snd.snd.fst ∧
 x.fst.snd.snd.snd.snd.fst = x.fst.snd.snd.snd.snd.fst ∧
 x.fst.snd.snd.snd.snd.snd = x.fst.snd.snd.snd.snd.snd ∧ True) ∧
 (x.snd.fst.fst = x.snd.fst.fst ∧ x.snd.fst.snd = x.snd.fst.snd ∧ True) ∧
 (Value.slice none (0 : Nat) (0 : Nat) = Value.slice none (0 : Nat) (0 : Nat) ∧
 (0 : Int) = (0 : Int) ∧
 (0 : Int) = (0 : Int) ∧ false = false ∧ false = false ∧ (0 : Int) = (0 : Int) ∧ True) ∧
 True) ∧
 True) ∧
 ((x.snd.fst.fst == (1 : Int) && max x.fst.snd.snd.fst x.fst.snd.snd.snd.snd.snd == (1099511627776 : Int)) = false →
 ((x.snd.fst.fst == (2 : Int)) = true → (x.snd.fst.fst == (2 : Int)) = true) ∧
 ((x.snd.fst.fst == (2 : Int)) = true → (x.snd.fst.fst == (2 : Int)) = true) ∧
 ((x.snd.fst.fst == (2 : Int)) = true → (x.snd.fst.fst == (2 : Int)) = true) ∧
 ((x.snd.fst.fst == (2 : Int) && decide (x.snd.fst.snd < (1 : Int))) = true →
 ((2 : Int) = err x.fst x.snd.fst.fst x.snd.fst.snd ∧ True) ∧
 ((True ∧ True) ∧ (True ∧ True) ∧ (True ∧ True) ∧ (2 : Int) = (2 : Int) ∧ True) ∧
 ((x.fst.fst = x.fst.fst ∧
 x.fst.snd.fst = x.fst.snd.fst ∧
 x.fst.snd.snd.fst = x.fst.snd.snd.fst ∧
 x.fst.snd.snd.snd.fst = x.fst.snd.snd.snd.fst ∧
 x.fst.snd.snd.snd.snd.fst = x.fst.snd.snd.snd.snd.fst ∧
 x.fst.snd.snd.snd.snd.snd = x.fst.snd.snd.snd.snd.snd ∧ True) ∧
 (x.snd.fst.fst = x.snd.fst.fst ∧ x.snd.fst.snd = x.snd.fst.snd ∧ True) ∧
 (Value.slice none (0 : Nat) (0 : Nat) = Value.slice none (0 : Nat) (0 : Nat) ∧
 (0 : Int) = (0 : Int) ∧
 (0 : Int) = (0 : Int) ∧ false = false ∧ false = false ∧ (0 : Int) = (0 : Int) ∧ True) ∧
 True) ∧
 True) ∧
 ((x.snd.fst.fst == (2 : Int) && decide (x.snd.fst.snd < (1 : Int))) = false →
 ((x.snd.fst.fst == (2 : Int)) = true → (x.snd.fst.fst == (2 : Int)) = true) ∧
 ((x.snd.fst.fst == (2 : Int)) = true → (x.snd.fst.fst == (2 : Int)) = true) ∧
 ((x.snd.fst.fst == (2 : Int) && x.fst.snd.snd.snd.fst) = true →
 ((7 : Int) = err x.fst x.snd.fst.fst x.snd.fst.snd ∧ True) ∧
 ((True ∧ True) ∧ (True ∧ True) ∧ (True ∧ True) ∧ (7 : Int) = (7 : Int) ∧ True) ∧
 ((x.fst.fst = x.fst.fst ∧
 x.fst.snd.fst = x.fst.snd.fst ∧
 x.fst.snd.snd.fst = x.fst.snd.snd.fst ∧
 x.fst.snd.snd.snd.fst = x.fst.snd.snd.snd.fst ∧
 x.fst.snd.snd.snd.snd.fst = x.fst.snd.snd.snd.snd.fst ∧
 x.fst.snd.snd.snd.snd.snd = x.fst.snd.snd.snd.snd.snd ∧ True) ∧
 (x.snd.fst.fst = x.snd.fst.fst ∧ x.snd.fst.snd = x.snd.fst.snd ∧ True) ∧
 (Value.slice none (0 : Nat) (0 : Nat) = Value.slice none (0 : Nat) (0 : Nat) ∧
 (0 : Int) = (0 : Int) ∧
 (0 : Int) = (0 : Int) ∧
 false = false ∧ false = false ∧ (0 : Int) = (0 : Int) ∧ True) ∧
 True) ∧
 True) ∧
 ((x.snd.fst.fst == (2 : Int) && x.fst.snd.snd.snd.fst) = false →
 ((0 : Int) = err x.fst x.snd.fst.fst x.snd.fst.snd ∧ True) ∧
 ((True ∧ True) ∧ (True ∧ True) ∧ (True ∧ True) ∧ (0 : Int) = (0 : Int) ∧ True) ∧
 ((x.fst.fst = x.fst.fst ∧
 x.fst.snd.fst = x.fst.snd.fst ∧
 x.fst.snd.snd.fst = x.fst.snd.snd.fst ∧
 x.fst.snd.snd.snd.fst = x.fst.snd.snd.snd.fst ∧
 x.fst.snd.snd.snd.snd.fst = x.fst.snd.snd.snd.snd.fst ∧
 x.fst.snd.snd.snd.snd.snd = x.fst.snd.snd.snd.snd.snd ∧ True) ∧
 (x.snd.fst.fst = x.snd.fst.fst ∧ x.snd.fst.snd = x.snd.fst.snd ∧ True) ∧
 (Value.slice none (0 : Nat) (0 : Nat) = Value.slice none (0 : Nat) (0 : Nat) ∧
 (0 : Int) = (0 : Int) ∧
 (0 : Int) = (0 : Int) ∧
 false = false ∧ false = false ∧ (0 : Int) = (0 : Int) ∧ True) ∧
 True) ∧
 True)))))) ∧
 ∀ (g : Int × Unit),
 g.fst = err x.fst x.snd.fst.fst x.snd.fst.snd →
 ((-9223372036854775808 : Int) ≤ g.fst ∧ g.fst ≤ (9223372036854775807 : Int)) ∧ True →
 ((g.fst != (0 : Int)) = true →
 (([] : List Int), (0 : Int), (0 : Int), false, false, (0 : Int)) = (step x.fst x.snd.fst.fst x.snd.fst.snd).fst ∧
 ([] : List Int) = (step x.fst x.snd.fst.fst x.snd.fst.snd).snd.fst ∧ g.fst = (step x.fst x.snd.fst.fst x.snd.fst.snd).snd.snd.fst) ∧
 ((g.fst != (0 : Int)) = false →
 ((x.snd.fst.fst == (1 : Int)) = true →
 (([] : List Int).length + x.fst.fst.length ≤ (9223372036854775807 : Nat) ∧
 (([] : List Int).length + x.fst.fst.length) * (8 : Nat) ≤ (140737488355328 : Nat)) ∧
 (decide ((↑x.fst.fst.length : Int) < x.fst.snd.fst) = true →
 ((([] : List Int) ++ x.fst.fst).length + (((0 : Int) :: ([] : List Int)).set (0 : Nat) x.snd.fst.snd).length ≤
 (9223372036854775807 : Nat) ∧
 ((([] : List Int) ++ x.fst.fst).length + (((0 : Int) :: ([] : List Int)).set (0 : Nat) x.snd.fst.snd).length) * (8 : Nat) ≤
 (140737488355328 : Nat)) ∧
 (x.fst.snd.snd.snd.fst = true →
 ((-9223372036854775808 : Int) ≤ x.fst.snd.snd.snd.snd.snd + (1 : Int) ∧
 x.fst.snd.snd.snd.snd.snd + (1 : Int) ≤ (9223372036854775807 : Int)) ∧
 (([] : List Int) ++ x.fst.fst ++ ((0 : Int) :: ([] : List Int)).set (0 : Nat) x.snd.fst.snd, x.fst.snd.fst,
 x.fst.snd.snd.fst, false, true, x.fst.snd.snd.snd.snd.snd + (1 : Int)) =
 (step x.fst x.snd.fst.fst x.snd.fst.snd).fst ∧
 ([] : List Int) = (step x.fst x.snd.fst.fst x.snd.fst.snd).snd.fst ∧
 (0 : Int) = (step x.fst x.snd.fst.fst x.snd.fst.snd).snd.snd.fst) ∧
 (x.fst.snd.snd.snd.fst = false →
 (([] : List Int) ++ x.fst.fst ++ ((0 : Int) :: ([] : List Int)).set (0 : Nat) x.snd.fst.snd, x.fst.snd.fst,
 x.fst.snd.snd.fst, false, true, x.fst.snd.snd.snd.snd.snd) =
 (step x.fst x.snd.fst.fst x.snd.fst.snd).fst ∧
 ([] : List Int) = (step x.fst x.snd.fst.fst x.snd.fst.snd).snd.fst ∧
 (0 : Int) = (step x.fst x.snd.fst.fst x.snd.fst.snd).snd.snd.fst)) ∧
 (decide ((↑x.fst.fst.length : Int) < x.fst.snd.fst) = false →
 ((-9223372036854775808 : Int) ≤ x.fst.snd.snd.fst + (1 : Int) ∧ x.fst.snd.snd.fst + (1 : Int) ≤ (9223372036854775807 : Int)) ∧
 (x.fst.snd.snd.snd.fst = true →
 ((-9223372036854775808 : Int) ≤ x.fst.snd.snd.snd.snd.snd + (1 : Int) ∧
 x.fst.snd.snd.snd.snd.snd + (1 : Int) ≤ (9223372036854775807 : Int)) ∧
 (([] : List Int) ++ x.fst.fst, x.fst.snd.fst, x.fst.snd.snd.fst + (1 : Int), false, true,
 x.fst.snd.snd.snd.snd.snd + (1 : Int)) =
 (step x.fst x.snd.fst.fst x.snd.fst.snd).fst ∧
 ([] : List Int) = (step x.fst x.snd.fst.fst x.snd.fst.snd).snd.fst ∧
 (0 : Int) = (step x.fst x.snd.fst.fst x.snd.fst.snd).snd.snd.fst) ∧
 (x.fst.snd.snd.snd.fst = false →
 (([] : List Int) ++ x.fst.fst, x.fst.snd.fst, x.fst.snd.snd.fst + (1 : Int), false, true, x.fst.snd.snd.snd.snd.snd) =
 (step x.fst x.snd.fst.fst x.snd.fst.snd).fst ∧
 ([] : List Int) = (step x.fst x.snd.fst.fst x.snd.fst.snd).snd.fst ∧
 (0 : Int) = (step x.fst x.snd.fst.fst x.snd.fst.snd).snd.snd.fst))) ∧
 ((x.snd.fst.fst == (1 : Int)) = false →
 ((((0 : Int) ≤ (0 : Int) ∧
 (0 : Int) ≤ (↑x.fst.fst.length : Int) ∧
 ([] : List Int) = List.drop x.snd.fst.snd.toNat (List.take (Int.toNat (0 : Int)) x.fst.fst) ∧
 ([] : List Int) = List.take x.snd.fst.snd.toNat (List.take (Int.toNat (0 : Int)) x.fst.fst)) ∧
 True) ∧
 ((True ∧ True) ∧
 (True ∧ True) ∧
 (True ∧ True) ∧
 True ∧ x.fst.fst = x.fst.fst ∧ (↑x.fst.fst.length : Int) = (↑x.fst.fst.length : Int) ∧ (0 : Int) = (0 : Int) ∧ True) ∧
 ((True ∧
 x.fst.snd.fst = x.fst.snd.fst ∧
 x.fst.snd.snd.fst = x.fst.snd.snd.fst ∧
 false = false ∧ true = true ∧ x.fst.snd.snd.snd.snd.snd = x.fst.snd.snd.snd.snd.snd ∧ True) ∧
 ([] : List Int) = ([] : List Int) ∧
 ([] : List Int) = ([] : List Int) ∧
 (x.snd.fst.fst = x.snd.fst.fst ∧ x.snd.fst.snd = x.snd.fst.snd ∧ True) ∧
 (Value.slice none (0 : Nat) (0 : Nat) = Value.slice none (0 : Nat) (0 : Nat) ∧
 (0 : Int) = (0 : Int) ∧ (0 : Int) = (0 : Int) ∧ false = false ∧ false = false ∧ (0 : Int) = (0 : Int) ∧ True) ∧
 True) ∧
 True) ∧
 ∀ (g : (List Int × Unit × Unit × Unit × Unit × Unit) × List Int × Int × Unit),
 (0 : Int) ≤ g.snd.snd.fst ∧
 g.snd.snd.fst ≤ (↑x.fst.fst.length : Int) ∧
 g.fst.fst = List.drop x.snd.fst.snd.toNat (List.take g.snd.snd.fst.toNat x.fst.fst) ∧
 g.snd.fst = List.take x.snd.fst.snd.toNat (List.take g.snd.snd.fst.toNat x.fst.fst) →
 ((g.fst.fst.length ≤ (9223372036854775807 : Nat) ∧
 ∀ (x : Int), x ∈ g.fst.fst → (-9223372036854775808 : Int) ≤ x ∧ x ≤ (9223372036854775807 : Int)) ∧
 True ∧ True ∧ True ∧ True ∧ True) ∧
 (g.snd.fst.length ≤ (9223372036854775807 : Nat) ∧
 ∀ (x : Int), x ∈ g.snd.fst → (-9223372036854775808 : Int) ≤ x ∧ x ≤ (9223372036854775807 : Int)) ∧
 ((-9223372036854775808 : Int) ≤ g.snd.snd.fst ∧ g.snd.snd.fst ≤ (9223372036854775807 : Int)) ∧ True →
 (decide (g.snd.snd.fst < (↑x.fst.fst.length : Int)) = true →
 ((0 : Int) ≤ g.snd.snd.fst ∧ g.snd.snd.fst < (↑x.fst.fst.length : Int)) ∧
 (decide (g.snd.snd.fst < x.snd.fst.snd) = true →
 (g.snd.fst.length +
 (((0 : Int) :: ([] : List Int)).set (0 : Nat) (x.fst.fst.getD g.snd.snd.fst.toNat (0 : Int))).length ≤
 (9223372036854775807 : Nat) ∧
 (g.snd.fst.length +
 (((0 : Int) :: ([] : List Int)).set (0 : Nat) (x.fst.fst.getD g.snd.snd.fst.toNat (0 : Int))).length) *
 (8 : Nat) ≤
 (140737488355328 : Nat)) ∧
 ((-9223372036854775808 : Int) ≤ g.snd.snd.fst + (1 : Int) ∧
 g.snd.snd.fst + (1 : Int) ≤ (9223372036854775807 : Int)) ∧
 (((0 : Int) ≤ g.snd.snd.fst + (1 : Int) ∧
 g.snd.snd.fst + (1 : Int) ≤ (↑x.fst.fst.length : Int) ∧
 g.fst.fst = List.drop x.snd.fst.snd.toNat (List.take (g.snd.snd.fst + (1 : Int)).toNat x.fst.fst) ∧
 g.snd.fst ++
 ((0 : Int) :: ([] : List Int)).set (0 : Nat) (x.fst.fst.getD g.snd.snd.fst.toNat (0 : Int)) =
 List.take x.snd.fst.snd.toNat (List.take (g.snd.snd.fst + (1 : Int)).toNat x.fst.fst)) ∧
 ((↑x.fst.fst.length : Int) - (g.snd.snd.fst + (1 : Int))).toNat <
 ((↑x.fst.fst.length : Int) - g.snd.snd.fst).toNat) ∧
 ((True ∧ True) ∧
 (True ∧ True) ∧
 (True ∧ True) ∧
 True ∧
 x.fst.fst = x.fst.fst ∧
 (↑x.fst.fst.length : Int) = (↑x.fst.fst.length : Int) ∧
 g.snd.snd.fst + (1 : Int) = g.snd.snd.fst + (1 : Int) ∧ True) ∧
 ((True ∧
 x.fst.snd.fst = x.fst.snd.fst ∧
 x.fst.snd.snd.fst = x.fst.snd.snd.fst ∧
 false = false ∧ true = true ∧ x.fst.snd.snd.snd.snd.snd = x.fst.snd.snd.snd.snd.snd ∧ True) ∧
 g.fst.fst = g.fst.fst ∧
 g.snd.fst ++
 ((0 : Int) :: ([] : List Int)).set (0 : Nat) (x.fst.fst.getD g.snd.snd.fst.toNat (0 : Int)) =
 g.snd.fst ++
 ((0 : Int) :: ([] : List Int)).set (0 : Nat) (x.fst.fst.getD g.snd.snd.fst.toNat (0 : Int)) ∧
 (x.snd.fst.fst = x.snd.fst.fst ∧ x.snd.fst.snd = x.snd.fst.snd ∧ True) ∧
 (Value.slice none (0 : Nat) (0 : Nat) = Value.slice none (0 : Nat) (0 : Nat) ∧
 (0 : Int) = (0 : Int) ∧
 (0 : Int) = (0 : Int) ∧ false = false ∧ false = false ∧ (0 : Int) = (0 : Int) ∧ True) ∧
 True) ∧
 True) ∧
 (decide (g.snd.snd.fst < x.snd.fst.snd) = false →
 (g.fst.fst.length +
 (((0 : Int) :: ([] : List Int)).set (0 : Nat) (x.fst.fst.getD g.snd.snd.fst.toNat (0 : Int))).length ≤
 (9223372036854775807 : Nat) ∧
 (g.fst.fst.length +
 (((0 : Int) :: ([] : List Int)).set (0 : Nat) (x.fst.fst.getD g.snd.snd.fst.toNat (0 : Int))).length) *
 (8 : Nat) ≤
 (140737488355328 : Nat)) ∧
 ((-9223372036854775808 : Int) ≤ g.snd.snd.fst + (1 : Int) ∧
 g.snd.snd.fst + (1 : Int) ≤ (9223372036854775807 : Int)) ∧
 (((0 : Int) ≤ g.snd.snd.fst + (1 : Int) ∧
 g.snd.snd.fst + (1 : Int) ≤ (↑x.fst.fst.length : Int) ∧
 g.fst.fst ++
 ((0 : Int) :: ([] : List Int)).set (0 : Nat) (x.fst.fst.getD g.snd.snd.fst.toNat (0 : Int)) =
 List.drop x.snd.fst.snd.toNat (List.take (g.snd.snd.fst + (1 : Int)).toNat x.fst.fst) ∧
 g.snd.fst = List.take x.snd.fst.snd.toNat (List.take (g.snd.snd.fst + (1 : Int)).toNat x.fst.fst)) ∧
 ((↑x.fst.fst.length : Int) - (g.snd.snd.fst + (1 : Int))).toNat <
 ((↑x.fst.fst.length : Int) - g.snd.snd.fst).toNat) ∧
 ((True ∧ True) ∧
 (True ∧ True) ∧
 (True ∧ True) ∧
 True ∧
 x.fst.fst = x.fst.fst ∧
 (↑x.fst.fst.length : Int) = (↑x.fst.fst.length : Int) ∧
 g.snd.snd.fst + (1 : Int) = g.snd.snd.fst + (1 : Int) ∧ True) ∧
 ((True ∧
 x.fst.snd.fst = x.fst.snd.fst ∧
 x.fst.snd.snd.fst = x.fst.snd.snd.fst ∧
 false = false ∧ true = true ∧ x.fst.snd.snd.snd.snd.snd = x.fst.snd.snd.snd.snd.snd ∧ True) ∧
 g.fst.fst ++
 ((0 : Int) :: ([] : List Int)).set (0 : Nat) (x.fst.fst.getD g.snd.snd.fst.toNat (0 : Int)) =
 g.fst.fst ++
 ((0 : Int) :: ([] : List Int)).set (0 : Nat) (x.fst.fst.getD g.snd.snd.fst.toNat (0 : Int)) ∧
 g.snd.fst = g.snd.fst ∧
 (x.snd.fst.fst = x.snd.fst.fst ∧ x.snd.fst.snd = x.snd.fst.snd ∧ True) ∧
 (Value.slice none (0 : Nat) (0 : Nat) = Value.slice none (0 : Nat) (0 : Nat) ∧
 (0 : Int) = (0 : Int) ∧
 (0 : Int) = (0 : Int) ∧ false = false ∧ false = false ∧ (0 : Int) = (0 : Int) ∧ True) ∧
 True) ∧
 True)) ∧
 (decide (g.snd.snd.fst < (↑x.fst.fst.length : Int)) = false →
 (decide ((↑g.snd.fst.length : Int) < x.snd.fst.snd) = true →
 (g.fst.fst, x.fst.snd.fst, x.fst.snd.snd.fst, true, false, x.fst.snd.snd.snd.snd.snd) =
 (step x.fst x.snd.fst.fst x.snd.fst.snd).fst ∧
 g.snd.fst = (step x.fst x.snd.fst.fst x.snd.fst.snd).snd.fst ∧
 (0 : Int) = (step x.fst x.snd.fst.fst x.snd.fst.snd).snd.snd.fst) ∧
 (decide ((↑g.snd.fst.length : Int) < x.snd.fst.snd) = false →
 (g.fst.fst, x.fst.snd.fst, x.fst.snd.snd.fst, false, true, x.fst.snd.snd.snd.snd.snd) =
 (step x.fst x.snd.fst.fst x.snd.fst.snd).fst ∧
 g.snd.fst = (step x.fst x.snd.fst.fst x.snd.fst.snd).snd.fst ∧
 (0 : Int) = (step x.fst x.snd.fst.fst x.snd.fst.snd).snd.snd.fst))))

theorem E_tstep_eq (x : HL (cStep : Ctr).as) : vc (fx_tstep x) 1 40 Try.f40 (cStep) x = E_tstep x := by kernel_rfl

def E_same (x : (List Int × Int × Int × Bool × Bool × Int) × (List Int × Int × Int × Bool × Bool × Int) × Unit) : Prop :=
 (((↑x.fst.fst.length : Int) != (↑x.snd.fst.fst.length : Int)) = true → false = decide (x.fst = x.snd.fst)) ∧
 (((↑x.fst.fst.length : Int) != (↑x.snd.fst.fst.length : Int)) = false →
 ((((0 : Int) ≤ (0 : Int) ∧
 (0 : Int) ≤ (↑x.fst.fst.length : Int) ∧ List.take (Int.toNat (0 : Int)) x.fst.fst = List.take (Int.toNat (0 : Int)) x.snd.fst.fst) ∧
 True) ∧
 ((True ∧ True) ∧ (True ∧ True) ∧ (↑x.fst.fst.length : Int) = (↑x.fst.fst.length : Int) ∧ (0 : Int) = (0 : Int) ∧ True) ∧
 ((x.fst.fst = x.fst.fst ∧
 x.fst.snd.fst = x.fst.snd.fst ∧
 x.fst.snd.snd.fst = x.fst.snd.snd.fst ∧
 x.fst.snd.snd.snd.fst = x.fst.snd.snd.snd.fst ∧
 x.fst.snd.snd.snd.snd.fst = x.fst.snd.snd.snd.snd.fst ∧ x.fst.snd.snd.snd.snd.snd = x.fst.snd.snd.snd.snd.snd ∧ True) ∧
 (x.snd.fst.fst = x.snd.fst.fst ∧
 x.snd.fst.snd.fst = x.snd.fst.snd.fst ∧
 x.snd.fst.snd.snd.fst = x.snd.fst.snd.snd.fst ∧
 x.snd.fst.snd.snd.snd.fst = x.snd.fst.snd.snd.snd.fst ∧
 x.snd.fst.snd.snd.snd.snd.fst = x.snd.fst.snd.snd.snd.snd.fst ∧
 x.snd.fst.snd.snd.snd.snd.snd = x.snd.fst.snd.snd.snd.snd.snd ∧ True) ∧
 True) ∧
 True) ∧
 ∀ (g : Int × Unit),
 (0 : Int) ≤ g.fst ∧ g.fst ≤ (↑x.fst.fst.length : Int) ∧ List.take g.fst.toNat x.fst.fst = List.take g.fst.toNat x.snd.fst.fst →
 ((-9223372036854775808 : Int) ≤ g.fst ∧ g.fst ≤ (9223372036854775807 : Int)) ∧ True →
 (decide (g.fst < (↑x.fst.fst.length : Int)) = true →
 ((0 : Int) ≤ g.fst ∧ g.fst < (↑x.fst.fst.length : Int)) ∧
 ((0 : Int) ≤ g.fst ∧ g.fst < (↑x.snd.fst.fst.length : Int)) ∧
 ((x.fst.fst.getD g.fst.toNat (0 : Int) != x.snd.fst.fst.getD g.fst.toNat (0 : Int)) = true → false = decide (x.fst = x.snd.fst)) ∧
 ((x.fst.fst.getD g.fst.toNat (0 : Int) != x.snd.fst.fst.getD g.fst.toNat (0 : Int)) = false →
 ((-9223372036854775808 : Int) ≤ g.fst + (1 : Int) ∧ g.fst + (1 : Int) ≤ (9223372036854775807 : Int)) ∧
 (((0 : Int) ≤ g.fst + (1 : Int) ∧
 g.fst + (1 : Int) ≤ (↑x.fst.fst.length : Int) ∧
 List.take (g.fst + (1 : Int)).toNat x.fst.fst = List.take (g.fst + (1 : Int)).toNat x.snd.fst.fst) ∧
 ((↑x.fst.fst.length : Int) - (g.fst + (1 : Int))).toNat < ((↑x.fst.fst.length : Int) - g.fst).toNat) ∧
 ((True ∧ True) ∧
 (True ∧ True) ∧
 (↑x.fst.fst.length : Int) = (↑x.fst.fst.length : Int) ∧ g.fst + (1 : Int) = g.fst + (1 : Int) ∧ True) ∧
 ((x.fst.fst = x.fst.fst ∧
 x.fst.snd.fst = x.fst.snd.fst ∧
 x.fst.snd.snd.fst = x.fst.snd.snd.fst ∧
 x.fst.snd.snd.snd.fst = x.fst.snd.snd.snd.fst ∧
 x.fst.snd.snd.snd.snd.fst = x.fst.snd.snd.snd.snd.fst ∧
 x.fst.snd.snd.snd.snd.snd = x.fst.snd.snd.snd.snd.snd ∧ True) ∧
 (x.snd.fst.fst = x.snd.fst.fst ∧
 x.snd.fst.snd.fst = x.snd.fst.snd.fst ∧
 x.snd.fst.snd.snd.fst = x.snd.fst.snd.snd.fst ∧
 x.snd.fst.snd.snd.snd.fst = x.snd.fst.snd.snd.snd.fst ∧
 x.snd.fst.snd.snd.snd.snd.fst = x.snd.fst.snd.snd.snd.snd.fst ∧
 x.snd.fst.snd.snd.snd.snd.snd = x.snd.fst.snd.snd.snd.snd.snd ∧ True) ∧
 True) ∧
 True)) ∧
 (decide (g.fst < (↑x.fst.fst.length : Int)) = false →
 ((x.fst.snd.fst == x.snd.fst.snd.fst) = true → (x.fst.snd.fst == x.snd.fst.snd.fst) = true) ∧
 ((x.fst.snd.fst == x.snd.fst.snd.fst) = true → (x.fst.snd.fst == x.snd.fst.snd.fst) = true) ∧
 ((x.fst.snd.fst == x.snd.fst.snd.fst) = true →
 (x.fst.snd.fst == x.snd.fst.snd.fst) = true ∧ (x.fst.snd.fst == x.snd.fst.snd.fst) = true) ∧
 ((x.fst.snd.fst == x.snd.fst.snd.fst) = true → (x.fst.snd.fst == x.snd.fst.snd.fst) = true) ∧
 ((x.fst.snd.fst == x.snd.fst.snd.fst && x.fst.snd.snd.fst == x.snd.fst.snd.snd.fst) = true →
 (x.fst.snd.fst == x.snd.fst.snd.fst && x.fst.snd.snd.fst == x.snd.fst.snd.snd.fst) = true) ∧
 ((x.fst.snd.fst == x.snd.fst.snd.fst && x.fst.snd.snd.fst == x.snd.fst.snd.snd.fst) = true →
 (x.fst.snd.fst == x.snd.fst.snd.fst && x.fst.snd.snd.fst == x.snd.fst.snd.snd.fst) = true) ∧
 ((x.fst.snd.fst == x.snd.fst.snd.fst && x.fst.snd.snd.fst == x.snd.fst.snd.snd.fst) = true →
 (x.fst.snd.fst == x.snd.fst.snd.fst && x.fst.snd.snd.fst == x.snd.fst.snd.snd.fst) = true ∧
 (x.fst.snd.fst == x.snd.fst.snd.fst && x.fst.snd.snd.fst == x.snd.fst.snd.snd.fst) = true) ∧
 ((x.fst.snd.fst == x.snd.fst.snd.fst && x.fst.snd.snd.fst == x.snd.fst.snd.snd.fst) = true →
 (x.fst.snd.fst == x.snd.fst.snd.fst && x.fst.snd.snd.fst == x.snd.fst.snd.snd.fst) = true) ∧
 ((x.fst.snd.fst == x.snd.fst.snd.fst && x.fst.snd.snd.fst == x.snd.fst.snd.snd.fst &&
 x.fst.snd.snd.snd.fst == x.snd.fst.snd.snd.snd.fst) =
 true →
 (x.fst.snd.fst == x.snd.fst.snd.fst && x.fst.snd.snd.fst == x.snd.fst.snd.snd.fst &&
 x.fst.snd.snd.snd.fst == x.snd.fst.snd.snd.snd.fst) =
 true) ∧
 ((x.fst.snd.fst == x.snd.fst.snd.fst && x.fst.snd.snd.fst == x.snd.fst.snd.snd.fst &&
 x.fst.snd.snd.snd.fst == x.snd.fst.snd.snd.snd.fst) =
 true →
 (x.fst.snd.fst == x.snd.fst.snd.fst && x.fst.snd.snd.fst == x.snd.fst.snd.snd.fst &&
 x.fst.snd.snd.snd.fst == x.snd.fst.snd.snd.snd.fst) =
 true) ∧
 ((x.fst.snd.fst == x.snd.fst.snd.fst && x.fst.snd.snd.fst == x.snd.fst.snd.snd.fst &&
 x.fst.snd.snd.snd.fst == x.snd.fst.snd.snd.snd.fst) =
 true →
 (x.fst.snd.fst == x.snd.fst.snd.fst && x.fst.snd.snd.fst == x.snd.fst.snd.snd.fst &&
 x.fst.snd.snd.snd.fst == x.snd.fst.snd.snd.snd.fst) =
 true ∧
 (x.fst.snd.fst == x.snd.fst.snd.fst && x.fst.snd.snd.fst == x.snd.fst.snd.snd.fst &&
 x.fst.snd.snd.snd.fst == x.snd.fst.snd.snd.snd.fst) =
 true) ∧
 ((x.fst.snd.fst == x.snd.fst.snd.fst && x.fst.snd.snd.fst == x.snd.fst.snd.snd.fst &&
 x.fst.snd.snd.snd.fst == x.snd.fst.snd.snd.snd.fst) =
 true →
 (x.fst.snd.fst == x.snd.fst.snd.fst && x.fst.snd.snd.fst == x.snd.fst.snd.snd.fst &&
 x.fst.snd.snd.snd.fst == x.snd.fst.snd.snd.snd.fst) =
 true) ∧
 ((x.fst.snd.fst == x.snd.fst.snd.fst && x.fst.snd.snd.fst == x.snd.fst.snd.snd.fst &&
 x.fst.snd.snd.snd.fst == x.snd.fst.snd.snd.snd.fst &&
 x.fst.snd.snd.snd.snd.fst == x.snd.fst.snd.snd.snd.snd.fst) =
 true →
 (x.fst.snd.fst == x.snd.fst.snd.fst && x.fst.snd.snd.fst == x.snd.fst.snd.snd.fst &&
 x.fst.snd.snd.snd.fst == x.snd.fst.snd.snd.snd.fst &&
 x.fst.snd.snd.snd.snd.fst == x.snd.fst.snd.snd.snd.snd.fst) =
 true) ∧
 ((x.fst.snd.fst == x.snd.fst.snd.fst && x.fst.snd.snd.fst == x.snd.fst.snd.snd.fst &&
 x.fst.snd.snd.snd.fst == x.snd.fst.snd.snd.snd.fst &&
 x.fst.snd.snd.snd.snd.fst == x.snd.fst.snd.snd.snd.snd.fst) =
 true →
 (x.fst.snd.fst == x.snd.fst.snd.fst && x.fst.snd.snd.fst == x.snd.fst.snd.snd.fst &&
 x.fst.snd.snd.snd.fst == x.snd.fst.snd.snd.snd.fst &&
 x.fst.snd.snd.snd.snd.fst == x.snd.fst.snd.snd.snd.snd.fst) =
 true) ∧
 ((x.fst.snd.fst == x.snd.fst.snd.fst && x.fst.snd.snd.fst == x.snd.fst.snd.snd.fst &&
 x.fst.snd.snd.snd.fst == x.snd.fst.snd.snd.snd.fst &&
 x.fst.snd.snd.snd.snd.fst == x.snd.fst.snd.snd.snd.snd.fst) =
 true →
 (x.fst.snd.fst == x.snd.fst.snd.fst && x.fst.snd.snd.fst == x.snd.fst.snd.snd.fst &&
 x.fst.snd.snd.snd.fst == x.snd.fst.snd.snd.snd.fst &&
 x.fst.snd.snd.snd.snd.fst == x.snd.fst.snd.snd.snd.snd.fst) =
 true ∧
 (x.fst.snd.fst == x.snd.fst.snd.fst && x.fst.snd.snd.fst == x.snd.fst.snd.snd.fst &&
 x.fst.snd.snd.snd.fst == x.snd.fst.snd.snd.snd.fst &&
 x.fst.snd.snd.snd.snd.fst == x.snd.fst.snd.snd.snd.snd.fst) =
 true) ∧
 ((x.fst.snd.fst == x.snd.fst.snd.fst && x.fst.snd.snd.fst == x.snd.fst.snd.snd.fst &&
 x.fst.snd.snd.snd.fst == x.snd.fst.snd.snd.snd.fst &&
 x.fst.snd.snd.snd.snd.fst == x.snd.fst.snd.snd.snd.snd.fst) =
 true →
 (x.fst.snd.fst == x.snd.fst.snd.fst && x.fst.snd.snd.fst == x.snd.fst.snd.snd.fst &&
 x.fst.snd.snd.snd.fst == x.snd.fst.snd.snd.snd.fst &&
 x.fst.snd.snd.snd.snd.fst == x.snd.fst.snd.snd.snd.snd.fst) =
 true) ∧
 (x.fst.snd.fst == x.snd.fst.snd.fst && x.fst.snd.snd.fst == x.snd.fst.snd.snd.fst &&
 x.fst.snd.snd.snd.fst == x.snd.fst.snd.snd.snd.fst &&
 x.fst.snd.snd.snd.snd.fst == x.snd.fst.snd.snd.snd.snd.fst &&
 x.fst.snd.snd.snd.snd.snd == x.snd.fst.snd.snd.snd.snd.snd) =
 decide (x.fst = x.snd.fst)))

theorem E_same_eq (x : HL (cSame : Ctr).as) : vc (fx_same x) 1 43 Try.f43 (cSame) x = E_same x := by kernel_rfl

def E_steps (x : (List Int × Int × Int × Bool × Bool × Int) × (Int × Int) × Unit) : Prop :=
 Holds True ∧
 Holds True ∧
 Holds True ∧
 Holds True ∧
 ((right (x.fst.fst, x.fst.snd.fst, x.fst.snd.snd.fst, x.fst.snd.snd.snd.fst, x.fst.snd.snd.snd.snd.fst, x.fst.snd.snd.snd.snd.snd) ==
 right (x.fst.fst, x.fst.snd.fst, x.fst.snd.snd.fst, x.fst.snd.snd.snd.fst, x.fst.snd.snd.snd.snd.fst, x.fst.snd.snd.snd.snd.snd)) =
 true →
 (((step (x.fst.fst, x.fst.snd.fst, x.fst.snd.snd.fst, x.fst.snd.snd.snd.fst, x.fst.snd.snd.snd.snd.fst, x.fst.snd.snd.snd.snd.snd)
 x.snd.fst.fst x.snd.fst.snd).snd.snd.fst ==
 (step (x.fst.fst, x.fst.snd.fst, x.fst.snd.snd.fst, x.fst.snd.snd.snd.fst, x.fst.snd.snd.snd.snd.fst, x.fst.snd.snd.snd.snd.snd)
 x.snd.fst.fst x.snd.fst.snd).snd.snd.fst) =
 true →
 Holds True ∧
 (decide
 ((step
 (x.fst.fst, x.fst.snd.fst, x.fst.snd.snd.fst, x.fst.snd.snd.snd.fst, x.fst.snd.snd.snd.snd.fst,
 x.fst.snd.snd.snd.snd.snd)
 x.snd.fst.fst x.snd.fst.snd).snd.fst =
 (step
 (x.fst.fst, x.fst.snd.fst, x.fst.snd.snd.fst, x.fst.snd.snd.snd.fst, x.fst.snd.snd.snd.snd.fst,
 x.fst.snd.snd.snd.snd.snd)
 x.snd.fst.fst x.snd.fst.snd).snd.fst) =
 true →
 Holds True ∧
 decide
 (((step
 (x.fst.fst, x.fst.snd.fst, x.fst.snd.snd.fst, x.fst.snd.snd.snd.fst, x.fst.snd.snd.snd.snd.fst,
 x.fst.snd.snd.snd.snd.snd)
 x.snd.fst.fst x.snd.fst.snd).fst.fst,
 (step
 (x.fst.fst, x.fst.snd.fst, x.fst.snd.snd.fst, x.fst.snd.snd.snd.fst, x.fst.snd.snd.snd.snd.fst,
 x.fst.snd.snd.snd.snd.snd)
 x.snd.fst.fst x.snd.fst.snd).fst.snd.fst,
 (step
 (x.fst.fst, x.fst.snd.fst, x.fst.snd.snd.fst, x.fst.snd.snd.snd.fst, x.fst.snd.snd.snd.snd.fst,
 x.fst.snd.snd.snd.snd.snd)
 x.snd.fst.fst x.snd.fst.snd).fst.snd.snd.fst,
 (step
 (x.fst.fst, x.fst.snd.fst, x.fst.snd.snd.fst, x.fst.snd.snd.snd.fst, x.fst.snd.snd.snd.snd.fst,
 x.fst.snd.snd.snd.snd.snd)
 x.snd.fst.fst x.snd.fst.snd).fst.snd.snd.snd.fst,
 (step
 (x.fst.fst, x.fst.snd.fst, x.fst.snd.snd.fst, x.fst.snd.snd.snd.fst, x.fst.snd.snd.snd.snd.fst,
 x.fst.snd.snd.snd.snd.snd)
 x.snd.fst.fst x.snd.fst.snd).fst.snd.snd.snd.snd.fst,
 (step
 (x.fst.fst, x.fst.snd.fst, x.fst.snd.snd.fst, x.fst.snd.snd.snd.fst, x.fst.snd.snd.snd.snd.fst,
 x.fst.snd.snd.snd.snd.snd)
 x.snd.fst.fst x.snd.fst.snd).fst.snd.snd.snd.snd.snd) =
 ((step
 (x.fst.fst, x.fst.snd.fst, x.fst.snd.snd.fst, x.fst.snd.snd.snd.fst, x.fst.snd.snd.snd.snd.fst,
 x.fst.snd.snd.snd.snd.snd)
 x.snd.fst.fst x.snd.fst.snd).fst.fst,
 (step
 (x.fst.fst, x.fst.snd.fst, x.fst.snd.snd.fst, x.fst.snd.snd.snd.fst, x.fst.snd.snd.snd.snd.fst,
 x.fst.snd.snd.snd.snd.snd)
 x.snd.fst.fst x.snd.fst.snd).fst.snd.fst,
 (step
 (x.fst.fst, x.fst.snd.fst, x.fst.snd.snd.fst, x.fst.snd.snd.snd.fst, x.fst.snd.snd.snd.snd.fst,
 x.fst.snd.snd.snd.snd.snd)
 x.snd.fst.fst x.snd.fst.snd).fst.snd.snd.fst,
 (step
 (x.fst.fst, x.fst.snd.fst, x.fst.snd.snd.fst, x.fst.snd.snd.snd.fst, x.fst.snd.snd.snd.snd.fst,
 x.fst.snd.snd.snd.snd.snd)
 x.snd.fst.fst x.snd.fst.snd).fst.snd.snd.snd.fst,
 (step
 (x.fst.fst, x.fst.snd.fst, x.fst.snd.snd.fst, x.fst.snd.snd.snd.fst, x.fst.snd.snd.snd.snd.fst,
 x.fst.snd.snd.snd.snd.snd)
 x.snd.fst.fst x.snd.fst.snd).fst.snd.snd.snd.snd.fst,
 (step
 (x.fst.fst, x.fst.snd.fst, x.fst.snd.snd.fst, x.fst.snd.snd.snd.fst, x.fst.snd.snd.snd.snd.fst,
 x.fst.snd.snd.snd.snd.snd)
 x.snd.fst.fst x.snd.fst.snd).fst.snd.snd.snd.snd.snd)) =
 true) ∧
 (decide
 ((step
 (x.fst.fst, x.fst.snd.fst, x.fst.snd.snd.fst, x.fst.snd.snd.snd.fst, x.fst.snd.snd.snd.snd.fst,
 x.fst.snd.snd.snd.snd.snd)
 x.snd.fst.fst x.snd.fst.snd).snd.fst =
 (step
 (x.fst.fst, x.fst.snd.fst, x.fst.snd.snd.fst, x.fst.snd.snd.snd.fst, x.fst.snd.snd.snd.snd.fst,
 x.fst.snd.snd.snd.snd.snd)
 x.snd.fst.fst x.snd.fst.snd).snd.fst) =
 !true →
 false = true)) ∧
 (((step (x.fst.fst, x.fst.snd.fst, x.fst.snd.snd.fst, x.fst.snd.snd.snd.fst, x.fst.snd.snd.snd.snd.fst, x.fst.snd.snd.snd.snd.snd)
 x.snd.fst.fst x.snd.fst.snd).snd.snd.fst ==
 (step (x.fst.fst, x.fst.snd.fst, x.fst.snd.snd.fst, x.fst.snd.snd.snd.fst, x.fst.snd.snd.snd.snd.fst, x.fst.snd.snd.snd.snd.snd)
 x.snd.fst.fst x.snd.fst.snd).snd.snd.fst) =
 !true →
 false = true)) ∧
 ((right (x.fst.fst, x.fst.snd.fst, x.fst.snd.snd.fst, x.fst.snd.snd.snd.fst, x.fst.snd.snd.snd.snd.fst, x.fst.snd.snd.snd.snd.snd) ==
 right (x.fst.fst, x.fst.snd.fst, x.fst.snd.snd.fst, x.fst.snd.snd.snd.fst, x.fst.snd.snd.snd.snd.fst, x.fst.snd.snd.snd.snd.snd)) =
 !true →
 false = true)

theorem E_steps_eq (x : HL (cLaw : Ctr).as) : vc (fx_steps x) 1 9 Try.f9 (cLaw) x = E_steps x := by kernel_rfl

end Go.Proofs.Ytollphjlheabdaa.Nic
