/-
  The conditions that the executor comes to, written out (by a tool of ours), and that they are the conditions (by the kernel).
-/
import Derived.Test.YtollphjlheabdaaRingC
namespace Go.Proofs.Ytollphjlheabdaa.Ring
open Go.Sx
set_option maxRecDepth 100000

def E_clone (x : List (Bool × Int) × Unit) : Prop :=
 ∀ (b : Bool),
 (b = true → x.fst = ([] : List (Bool × Int))) →
 (b = true → ([] : List (Bool × Int)) = x.fst) ∧
 (b = false →
 (([] : List (Bool × Int)).length + x.fst.length ≤ (9223372036854775807 : Nat) ∧
 (([] : List (Bool × Int)).length + x.fst.length) * (16 : Nat) ≤ (140737488355328 : Nat)) ∧
 ([] : List (Bool × Int)) ++ x.fst = x.fst)

theorem E_clone_eq (x : HL (cClone : Ctr).as) : vc (fx_clone x) 1 78 Try.f78 (cClone) x = E_clone x := by kernel_rfl

def E_ahead (x : (List (Bool × Int) × Int × Int × Int) × Int × Int × Unit) : Prop :=
 ((-9223372036854775808 : Int) ≤ x.snd.snd.fst - x.snd.fst ∧ x.snd.snd.fst - x.snd.fst ≤ (9223372036854775807 : Int)) ∧
 ((-9223372036854775808 : Int) ≤ x.snd.snd.fst - x.snd.fst + (↑x.fst.fst.length : Int) ∧
 x.snd.snd.fst - x.snd.fst + (↑x.fst.fst.length : Int) ≤ (9223372036854775807 : Int)) ∧
 ((0 : Int) ≤ x.snd.snd.fst - x.snd.fst + (↑x.fst.fst.length : Int) ∧ (0 : Int) < (↑x.fst.fst.length : Int)) ∧
 (x.snd.snd.fst - x.snd.fst + (↑x.fst.fst.length : Int)) % (↑x.fst.fst.length : Int) = ah (↑x.fst.fst.length : Int) x.snd.fst x.snd.snd.fst

theorem E_ahead_eq (x : HL (cAhead : Ctr).as) : vc (fx_ahead x) 1 79 Try.f79 (cAhead) x = E_ahead x := by kernel_rfl

def E_right (x : (List (Bool × Int) × Int × Int × Int) × Unit) : Prop :=
 (decide ((↑x.fst.fst.length : Int) < (2 : Int)) = false →
 (decide ((64 : Int) < (↑x.fst.fst.length : Int)) = false →
 (decide (min (min x.fst.snd.fst x.fst.snd.snd.fst) x.fst.snd.snd.snd < (0 : Int)) = false →
 (decide ((↑x.fst.fst.length : Int) ≤ max (max x.fst.snd.fst x.fst.snd.snd.fst) x.fst.snd.snd.snd) = false →
 Holds
 ((0 : Int) ≤ x.fst.snd.snd.fst ∧
 x.fst.snd.snd.fst < (↑x.fst.fst.length : Int) ∧
 (0 : Int) ≤ x.fst.snd.snd.snd ∧ x.fst.snd.snd.snd < (↑x.fst.fst.length : Int) ∧ (↑x.fst.fst.length : Int) ≤ (64 : Int)) ∧
 Holds
 ((0 : Int) ≤ x.fst.snd.snd.fst ∧
 x.fst.snd.snd.fst < (↑x.fst.fst.length : Int) ∧
 (0 : Int) ≤ x.fst.snd.fst ∧ x.fst.snd.fst < (↑x.fst.fst.length : Int) ∧ (↑x.fst.fst.length : Int) ≤ (64 : Int)) ∧
 (decide
 (ah (↑x.fst.fst.length : Int) x.fst.snd.snd.fst x.fst.snd.fst <
 ah (↑x.fst.fst.length : Int) x.fst.snd.snd.fst x.fst.snd.snd.snd) =
 true →
 false = right x.fst) ∧
 (decide
 (ah (↑x.fst.fst.length : Int) x.fst.snd.snd.fst x.fst.snd.fst <
 ah (↑x.fst.fst.length : Int) x.fst.snd.snd.fst x.fst.snd.snd.snd) =
 false →
 ((((0 : Int) ≤ (0 : Int) ∧ (0 : Int) ≤ (↑x.fst.fst.length : Int) ∧ ∀ (i : Int), (0 : Int) ≤ i → i < (0 : Int) → okC x.fst i) ∧
 True) ∧
 ((True ∧ True) ∧
 x.fst.fst = x.fst.fst ∧ (↑x.fst.fst.length : Int) = (↑x.fst.fst.length : Int) ∧ (0 : Int) = (0 : Int) ∧ True) ∧
 ((x.fst.fst = x.fst.fst ∧
 x.fst.snd.fst = x.fst.snd.fst ∧
 x.fst.snd.snd.fst = x.fst.snd.snd.fst ∧ x.fst.snd.snd.snd = x.fst.snd.snd.snd ∧ True) ∧
 True) ∧
 True) ∧
 ∀ (g : Int × Unit),
 ((0 : Int) ≤ g.fst ∧ g.fst ≤ (↑x.fst.fst.length : Int) ∧ ∀ (i : Int), (0 : Int) ≤ i → i < g.fst → okC x.fst i) →
 ((-9223372036854775808 : Int) ≤ g.fst ∧ g.fst ≤ (9223372036854775807 : Int)) ∧ True →
 (decide (g.fst < (↑x.fst.fst.length : Int)) = true →
 ((0 : Int) ≤ g.fst ∧ g.fst < (↑x.fst.fst.length : Int)) ∧
 Holds
 ((0 : Int) ≤ x.fst.snd.snd.fst ∧
 x.fst.snd.snd.fst < (↑x.fst.fst.length : Int) ∧
 (0 : Int) ≤ g.fst ∧ g.fst < (↑x.fst.fst.length : Int) ∧ (↑x.fst.fst.length : Int) ≤ (64 : Int)) ∧
 Holds
 ((0 : Int) ≤ x.fst.snd.snd.fst ∧
 x.fst.snd.snd.fst < (↑x.fst.fst.length : Int) ∧
 (0 : Int) ≤ x.fst.snd.snd.snd ∧
 x.fst.snd.snd.snd < (↑x.fst.fst.length : Int) ∧ (↑x.fst.fst.length : Int) ≤ (64 : Int)) ∧
 (decide
 (ah (↑x.fst.fst.length : Int) x.fst.snd.snd.fst x.fst.snd.snd.snd ≤
 ah (↑x.fst.fst.length : Int) x.fst.snd.snd.fst g.fst) =
 true →
 Holds
 ((0 : Int) ≤ x.fst.snd.snd.fst ∧
 x.fst.snd.snd.fst < (↑x.fst.fst.length : Int) ∧
 (0 : Int) ≤ x.fst.snd.fst ∧
 x.fst.snd.fst < (↑x.fst.fst.length : Int) ∧ (↑x.fst.fst.length : Int) ≤ (64 : Int)) ∧
 decide
 (ah (↑x.fst.fst.length : Int) x.fst.snd.snd.fst x.fst.snd.snd.snd ≤
 ah (↑x.fst.fst.length : Int) x.fst.snd.snd.fst g.fst) =
 true ∧
 (((x.fst.fst.getD g.fst.toNat (false, (0 : Int))).fst !=
 decide
 (ah (↑x.fst.fst.length : Int) x.fst.snd.snd.fst g.fst <
 ah (↑x.fst.fst.length : Int) x.fst.snd.snd.fst x.fst.snd.fst)) =
 false →
 Holds
 ((0 : Int) ≤ x.fst.snd.snd.fst ∧
 x.fst.snd.snd.fst < (↑x.fst.fst.length : Int) ∧
 (0 : Int) ≤ x.fst.snd.fst ∧
 x.fst.snd.fst < (↑x.fst.fst.length : Int) ∧ (↑x.fst.fst.length : Int) ≤ (64 : Int)) ∧
 (!(x.fst.fst.getD g.fst.toNat (false, (0 : Int))).fst !=
 decide
 (ah (↑x.fst.fst.length : Int) x.fst.snd.snd.fst g.fst <
 ah (↑x.fst.fst.length : Int) x.fst.snd.snd.fst x.fst.snd.fst)) =
 true ∧
 (decide
 (ah (↑x.fst.fst.length : Int) x.fst.snd.snd.fst x.fst.snd.fst ≤
 ah (↑x.fst.fst.length : Int) x.fst.snd.snd.fst g.fst) =
 true →
 decide
 (ah (↑x.fst.fst.length : Int) x.fst.snd.snd.fst x.fst.snd.fst ≤
 ah (↑x.fst.fst.length : Int) x.fst.snd.snd.fst g.fst) =
 true) ∧
 (decide
 (ah (↑x.fst.fst.length : Int) x.fst.snd.snd.fst x.fst.snd.fst ≤
 ah (↑x.fst.fst.length : Int) x.fst.snd.snd.fst g.fst) =
 true →
 decide
 (ah (↑x.fst.fst.length : Int) x.fst.snd.snd.fst x.fst.snd.fst ≤
 ah (↑x.fst.fst.length : Int) x.fst.snd.snd.fst g.fst) =
 true) ∧
 (decide
 (ah (↑x.fst.fst.length : Int) x.fst.snd.snd.fst x.fst.snd.fst ≤
 ah (↑x.fst.fst.length : Int) x.fst.snd.snd.fst g.fst) =
 true →
 decide
 (ah (↑x.fst.fst.length : Int) x.fst.snd.snd.fst x.fst.snd.fst ≤
 ah (↑x.fst.fst.length : Int) x.fst.snd.snd.fst g.fst) =
 true) ∧
 ((decide
 (ah (↑x.fst.fst.length : Int) x.fst.snd.snd.fst x.fst.snd.fst ≤
 ah (↑x.fst.fst.length : Int) x.fst.snd.snd.fst g.fst) &&
 (x.fst.fst.getD g.fst.toNat (false, (0 : Int))).snd != (0 : Int)) =
 true →
 false = right x.fst) ∧
 ((decide
 (ah (↑x.fst.fst.length : Int) x.fst.snd.snd.fst x.fst.snd.fst ≤
 ah (↑x.fst.fst.length : Int) x.fst.snd.snd.fst g.fst) &&
 (x.fst.fst.getD g.fst.toNat (false, (0 : Int))).snd != (0 : Int)) =
 false →
 ((-9223372036854775808 : Int) ≤ g.fst + (1 : Int) ∧
 g.fst + (1 : Int) ≤ (9223372036854775807 : Int)) ∧
 (((0 : Int) ≤ g.fst + (1 : Int) ∧
 g.fst + (1 : Int) ≤ (↑x.fst.fst.length : Int) ∧
 ∀ (i : Int), (0 : Int) ≤ i → i < g.fst + (1 : Int) → okC x.fst i) ∧
 ((↑x.fst.fst.length : Int) - (g.fst + (1 : Int))).toNat <
 ((↑x.fst.fst.length : Int) - g.fst).toNat) ∧
 ((True ∧ True) ∧
 x.fst.fst = x.fst.fst ∧
 (↑x.fst.fst.length : Int) = (↑x.fst.fst.length : Int) ∧
 g.fst + (1 : Int) = g.fst + (1 : Int) ∧ True) ∧
 ((x.fst.fst = x.fst.fst ∧
 x.fst.snd.fst = x.fst.snd.fst ∧
 x.fst.snd.snd.fst = x.fst.snd.snd.fst ∧
 x.fst.snd.snd.snd = x.fst.snd.snd.snd ∧ True) ∧
 True) ∧
 True)) ∧
 (((x.fst.fst.getD g.fst.toNat (false, (0 : Int))).fst !=
 decide
 (ah (↑x.fst.fst.length : Int) x.fst.snd.snd.fst g.fst <
 ah (↑x.fst.fst.length : Int) x.fst.snd.snd.fst x.fst.snd.fst)) =
 !false →
 false = right x.fst)) ∧
 (decide
 (ah (↑x.fst.fst.length : Int) x.fst.snd.snd.fst x.fst.snd.snd.snd ≤
 ah (↑x.fst.fst.length : Int) x.fst.snd.snd.fst g.fst) =
 !true →
 (((x.fst.fst.getD g.fst.toNat (false, (0 : Int))).fst != false) = false →
 Holds
 ((0 : Int) ≤ x.fst.snd.snd.fst ∧
 x.fst.snd.snd.fst < (↑x.fst.fst.length : Int) ∧
 (0 : Int) ≤ x.fst.snd.fst ∧
 x.fst.snd.fst < (↑x.fst.fst.length : Int) ∧ (↑x.fst.fst.length : Int) ≤ (64 : Int)) ∧
 (!(x.fst.fst.getD g.fst.toNat (false, (0 : Int))).fst != false) = true ∧
 (decide
 (ah (↑x.fst.fst.length : Int) x.fst.snd.snd.fst x.fst.snd.fst ≤
 ah (↑x.fst.fst.length : Int) x.fst.snd.snd.fst g.fst) =
 true →
 decide
 (ah (↑x.fst.fst.length : Int) x.fst.snd.snd.fst x.fst.snd.fst ≤
 ah (↑x.fst.fst.length : Int) x.fst.snd.snd.fst g.fst) =
 true) ∧
 (decide
 (ah (↑x.fst.fst.length : Int) x.fst.snd.snd.fst x.fst.snd.fst ≤
 ah (↑x.fst.fst.length : Int) x.fst.snd.snd.fst g.fst) =
 true →
 decide
 (ah (↑x.fst.fst.length : Int) x.fst.snd.snd.fst x.fst.snd.fst ≤
 ah (↑x.fst.fst.length : Int) x.fst.snd.snd.fst g.fst) =
 true) ∧
 (decide
 (ah (↑x.fst.fst.length : Int) x.fst.snd.snd.fst x.fst.snd.fst ≤
 ah (↑x.fst.fst.length : Int) x.fst.snd.snd.fst g.fst) =
 true →
 decide
 (ah (↑x.fst.fst.length : Int) x.fst.snd.snd.fst x.fst.snd.fst ≤
 ah (↑x.fst.fst.length : Int) x.fst.snd.snd.fst g.fst) =
 true) ∧
 ((decide
 (ah (↑x.fst.fst.length : Int) x.fst.snd.snd.fst x.fst.snd.fst ≤
 ah (↑x.fst.fst.length : Int) x.fst.snd.snd.fst g.fst) &&
 (x.fst.fst.getD g.fst.toNat (false, (0 : Int))).snd != (0 : Int)) =
 true →
 false = right x.fst) ∧
 ((decide
 (ah (↑x.fst.fst.length : Int) x.fst.snd.snd.fst x.fst.snd.fst ≤
 ah (↑x.fst.fst.length : Int) x.fst.snd.snd.fst g.fst) &&
 (x.fst.fst.getD g.fst.toNat (false, (0 : Int))).snd != (0 : Int)) =
 false →
 ((-9223372036854775808 : Int) ≤ g.fst + (1 : Int) ∧
 g.fst + (1 : Int) ≤ (9223372036854775807 : Int)) ∧
 (((0 : Int) ≤ g.fst + (1 : Int) ∧
 g.fst + (1 : Int) ≤ (↑x.fst.fst.length : Int) ∧
 ∀ (i : Int), (0 : Int) ≤ i → i < g.fst + (1 : Int) → okC x.fst i) ∧
 ((↑x.fst.fst.length : Int) - (g.fst + (1 : Int))).toNat <
 ((↑x.fst.fst.length : Int) - g.fst).toNat) ∧
 ((True ∧ True) ∧
 x.fst.fst = x.fst.fst ∧
 (↑x.fst.fst.length : Int) = (↑x.fst.fst.length : Int) ∧
 g.fst + (1 : Int) = g.fst + (1 : Int) ∧ True) ∧
 ((x.fst.fst = x.fst.fst ∧
 x.fst.snd.fst = x.fst.snd.fst ∧
 x.fst.snd.snd.fst = x.fst.snd.snd.fst ∧
 x.fst.snd.snd.snd = x.fst.snd.snd.snd ∧ True) ∧
 True) ∧
 True)) ∧
 (((x.fst.fst.getD g.fst.toNat (false, (0 : Int))).fst != false) = !false → false = right x.fst))) ∧
 (decide (g.fst < (↑x.fst.fst.length : Int)) = false → true = right x.fst))) ∧
 (decide ((↑x.fst.fst.length : Int) ≤ max (max x.fst.snd.fst x.fst.snd.snd.fst) x.fst.snd.snd.snd) = !false → false = right x.fst)) ∧
 (decide (min (min x.fst.snd.fst x.fst.snd.snd.fst) x.fst.snd.snd.snd < (0 : Int)) = !false → false = right x.fst)) ∧
 (decide ((64 : Int) < (↑x.fst.fst.length : Int)) = !false → false = right x.fst)) ∧
 (decide ((↑x.fst.fst.length : Int) < (2 : Int)) = !false → false = right x.fst)

theorem E_right_eq (x : HL (cRight : Ctr).as) : vc (fx_right x) 1 54 Try.f54 (cRight) x = E_right x := by kernel_rfl

def E_parts (x : (List (Bool × Int) × Int × Int × Int) × Unit) : Prop :=
 ((!decide ((↑x.fst.fst.length : Int) < (2 : Int))) = true → (!decide ((↑x.fst.fst.length : Int) < (2 : Int))) = true) ∧
 (decide ((↑x.fst.fst.length : Int) < (2 : Int)) = false → (!decide ((↑x.fst.fst.length : Int) < (2 : Int))) = true) ∧
 ((!(decide ((↑x.fst.fst.length : Int) < (2 : Int)) || decide ((64 : Int) < (↑x.fst.fst.length : Int)))) = true →
 (!(decide ((↑x.fst.fst.length : Int) < (2 : Int)) || decide ((64 : Int) < (↑x.fst.fst.length : Int)))) = true) ∧
 ((!(decide ((↑x.fst.fst.length : Int) < (2 : Int)) || decide ((64 : Int) < (↑x.fst.fst.length : Int)))) = true →
 (!(decide ((↑x.fst.fst.length : Int) < (2 : Int)) || decide ((64 : Int) < (↑x.fst.fst.length : Int)))) = true) ∧
 ((decide ((↑x.fst.fst.length : Int) < (2 : Int)) || decide ((64 : Int) < (↑x.fst.fst.length : Int))) = false →
 (!(decide ((↑x.fst.fst.length : Int) < (2 : Int)) || decide ((64 : Int) < (↑x.fst.fst.length : Int)))) = true) ∧
 ((!(decide ((↑x.fst.fst.length : Int) < (2 : Int)) || decide ((64 : Int) < (↑x.fst.fst.length : Int)) ||
 decide (x.fst.snd.fst < (0 : Int)))) =
 true →
 (!(decide ((↑x.fst.fst.length : Int) < (2 : Int)) || decide ((64 : Int) < (↑x.fst.fst.length : Int)) ||
 decide (x.fst.snd.fst < (0 : Int)))) =
 true) ∧
 ((!(decide ((↑x.fst.fst.length : Int) < (2 : Int)) || decide ((64 : Int) < (↑x.fst.fst.length : Int)) ||
 decide (x.fst.snd.fst < (0 : Int)))) =
 true →
 (!(decide ((↑x.fst.fst.length : Int) < (2 : Int)) || decide ((64 : Int) < (↑x.fst.fst.length : Int)) ||
 decide (x.fst.snd.fst < (0 : Int)))) =
 true) ∧
 ((decide ((↑x.fst.fst.length : Int) < (2 : Int)) || decide ((64 : Int) < (↑x.fst.fst.length : Int)) ||
 decide (x.fst.snd.fst < (0 : Int))) =
 false →
 (!(decide ((↑x.fst.fst.length : Int) < (2 : Int)) || decide ((64 : Int) < (↑x.fst.fst.length : Int)) ||
 decide (x.fst.snd.fst < (0 : Int)))) =
 true) ∧
 ((!(decide ((↑x.fst.fst.length : Int) < (2 : Int)) || decide ((64 : Int) < (↑x.fst.fst.length : Int)) ||
 decide (x.fst.snd.fst < (0 : Int)) ||
 decide (x.fst.snd.snd.fst < (0 : Int)))) =
 true →
 (!(decide ((↑x.fst.fst.length : Int) < (2 : Int)) || decide ((64 : Int) < (↑x.fst.fst.length : Int)) ||
 decide (x.fst.snd.fst < (0 : Int)) ||
 decide (x.fst.snd.snd.fst < (0 : Int)))) =
 true) ∧
 ((!(decide ((↑x.fst.fst.length : Int) < (2 : Int)) || decide ((64 : Int) < (↑x.fst.fst.length : Int)) ||
 decide (x.fst.snd.fst < (0 : Int)) ||
 decide (x.fst.snd.snd.fst < (0 : Int)))) =
 true →
 (!(decide ((↑x.fst.fst.length : Int) < (2 : Int)) || decide ((64 : Int) < (↑x.fst.fst.length : Int)) ||
 decide (x.fst.snd.fst < (0 : Int)) ||
 decide (x.fst.snd.snd.fst < (0 : Int)))) =
 true) ∧
 ((decide ((↑x.fst.fst.length : Int) < (2 : Int)) || decide ((64 : Int) < (↑x.fst.fst.length : Int)) ||
 decide (x.fst.snd.fst < (0 : Int)) ||
 decide (x.fst.snd.snd.fst < (0 : Int))) =
 false →
 (!(decide ((↑x.fst.fst.length : Int) < (2 : Int)) || decide ((64 : Int) < (↑x.fst.fst.length : Int)) ||
 decide (x.fst.snd.fst < (0 : Int)) ||
 decide (x.fst.snd.snd.fst < (0 : Int)))) =
 true) ∧
 ((!(decide ((↑x.fst.fst.length : Int) < (2 : Int)) || decide ((64 : Int) < (↑x.fst.fst.length : Int)) ||
 decide (x.fst.snd.fst < (0 : Int)) ||
 decide (x.fst.snd.snd.fst < (0 : Int)) ||
 decide (x.fst.snd.snd.snd < (0 : Int)))) =
 true →
 (!(decide ((↑x.fst.fst.length : Int) < (2 : Int)) || decide ((64 : Int) < (↑x.fst.fst.length : Int)) ||
 decide (x.fst.snd.fst < (0 : Int)) ||
 decide (x.fst.snd.snd.fst < (0 : Int)) ||
 decide (x.fst.snd.snd.snd < (0 : Int)))) =
 true) ∧
 ((!(decide ((↑x.fst.fst.length : Int) < (2 : Int)) || decide ((64 : Int) < (↑x.fst.fst.length : Int)) ||
 decide (x.fst.snd.fst < (0 : Int)) ||
 decide (x.fst.snd.snd.fst < (0 : Int)) ||
 decide (x.fst.snd.snd.snd < (0 : Int)))) =
 true →
 (!(decide ((↑x.fst.fst.length : Int) < (2 : Int)) || decide ((64 : Int) < (↑x.fst.fst.length : Int)) ||
 decide (x.fst.snd.fst < (0 : Int)) ||
 decide (x.fst.snd.snd.fst < (0 : Int)) ||
 decide (x.fst.snd.snd.snd < (0 : Int)))) =
 true ∧
 (!(decide ((↑x.fst.fst.length : Int) < (2 : Int)) || decide ((64 : Int) < (↑x.fst.fst.length : Int)) ||
 decide (x.fst.snd.fst < (0 : Int)) ||
 decide (x.fst.snd.snd.fst < (0 : Int)) ||
 decide (x.fst.snd.snd.snd < (0 : Int)))) =
 true) ∧
 ((decide ((↑x.fst.fst.length : Int) < (2 : Int)) || decide ((64 : Int) < (↑x.fst.fst.length : Int)) ||
 decide (x.fst.snd.fst < (0 : Int)) ||
 decide (x.fst.snd.snd.fst < (0 : Int)) ||
 decide (x.fst.snd.snd.snd < (0 : Int))) =
 false →
 (!(decide ((↑x.fst.fst.length : Int) < (2 : Int)) || decide ((64 : Int) < (↑x.fst.fst.length : Int)) ||
 decide (x.fst.snd.fst < (0 : Int)) ||
 decide (x.fst.snd.snd.fst < (0 : Int)) ||
 decide (x.fst.snd.snd.snd < (0 : Int)))) =
 true) ∧
 ((!(decide ((↑x.fst.fst.length : Int) < (2 : Int)) || decide ((64 : Int) < (↑x.fst.fst.length : Int)) ||
 decide (x.fst.snd.fst < (0 : Int)) ||
 decide (x.fst.snd.snd.fst < (0 : Int)) ||
 decide (x.fst.snd.snd.snd < (0 : Int)) ||
 decide ((↑x.fst.fst.length : Int) ≤ x.fst.snd.fst))) =
 true →
 (!(decide ((↑x.fst.fst.length : Int) < (2 : Int)) || decide ((64 : Int) < (↑x.fst.fst.length : Int)) ||
 decide (x.fst.snd.fst < (0 : Int)) ||
 decide (x.fst.snd.snd.fst < (0 : Int)) ||
 decide (x.fst.snd.snd.snd < (0 : Int)) ||
 decide ((↑x.fst.fst.length : Int) ≤ x.fst.snd.fst))) =
 true) ∧
 ((!(decide ((↑x.fst.fst.length : Int) < (2 : Int)) || decide ((64 : Int) < (↑x.fst.fst.length : Int)) ||
 decide (x.fst.snd.fst < (0 : Int)) ||
 decide (x.fst.snd.snd.fst < (0 : Int)) ||
 decide (x.fst.snd.snd.snd < (0 : Int)) ||
 decide ((↑x.fst.fst.length : Int) ≤ x.fst.snd.fst))) =
 true →
 (!(decide ((↑x.fst.fst.length : Int) < (2 : Int)) || decide ((64 : Int) < (↑x.fst.fst.length : Int)) ||
 decide (x.fst.snd.fst < (0 : Int)) ||
 decide (x.fst.snd.snd.fst < (0 : Int)) ||
 decide (x.fst.snd.snd.snd < (0 : Int)) ||
 decide ((↑x.fst.fst.length : Int) ≤ x.fst.snd.fst))) =
 true ∧
 (!(decide ((↑x.fst.fst.length : Int) < (2 : Int)) || decide ((64 : Int) < (↑x.fst.fst.length : Int)) ||
 decide (x.fst.snd.fst < (0 : Int)) ||
 decide (x.fst.snd.snd.fst < (0 : Int)) ||
 decide (x.fst.snd.snd.snd < (0 : Int)) ||
 decide ((↑x.fst.fst.length : Int) ≤ x.fst.snd.fst))) =
 true) ∧
 ((decide ((↑x.fst.fst.length : Int) < (2 : Int)) || decide ((64 : Int) < (↑x.fst.fst.length : Int)) ||
 decide (x.fst.snd.fst < (0 : Int)) ||
 decide (x.fst.snd.snd.fst < (0 : Int)) ||
 decide (x.fst.snd.snd.snd < (0 : Int)) ||
 decide ((↑x.fst.fst.length : Int) ≤ x.fst.snd.fst)) =
 false →
 (!(decide ((↑x.fst.fst.length : Int) < (2 : Int)) || decide ((64 : Int) < (↑x.fst.fst.length : Int)) ||
 decide (x.fst.snd.fst < (0 : Int)) ||
 decide (x.fst.snd.snd.fst < (0 : Int)) ||
 decide (x.fst.snd.snd.snd < (0 : Int)) ||
 decide ((↑x.fst.fst.length : Int) ≤ x.fst.snd.fst))) =
 true) ∧
 ((!(decide ((↑x.fst.fst.length : Int) < (2 : Int)) || decide ((64 : Int) < (↑x.fst.fst.length : Int)) ||
 decide (x.fst.snd.fst < (0 : Int)) ||
 decide (x.fst.snd.snd.fst < (0 : Int)) ||
 decide (x.fst.snd.snd.snd < (0 : Int)) ||
 decide ((↑x.fst.fst.length : Int) ≤ x.fst.snd.fst) ||
 decide ((↑x.fst.fst.length : Int) ≤ x.fst.snd.snd.fst))) =
 true →
 (!(decide ((↑x.fst.fst.length : Int) < (2 : Int)) || decide ((64 : Int) < (↑x.fst.fst.length : Int)) ||
 decide (x.fst.snd.fst < (0 : Int)) ||
 decide (x.fst.snd.snd.fst < (0 : Int)) ||
 decide (x.fst.snd.snd.snd < (0 : Int)) ||
 decide ((↑x.fst.fst.length : Int) ≤ x.fst.snd.fst) ||
 decide ((↑x.fst.fst.length : Int) ≤ x.fst.snd.snd.fst))) =
 true) ∧
 ((!(decide ((↑x.fst.fst.length : Int) < (2 : Int)) || decide ((64 : Int) < (↑x.fst.fst.length : Int)) ||
 decide (x.fst.snd.fst < (0 : Int)) ||
 decide (x.fst.snd.snd.fst < (0 : Int)) ||
 decide (x.fst.snd.snd.snd < (0 : Int)) ||
 decide ((↑x.fst.fst.length : Int) ≤ x.fst.snd.fst) ||
 decide ((↑x.fst.fst.length : Int) ≤ x.fst.snd.snd.fst))) =
 true →
 (!(decide ((↑x.fst.fst.length : Int) < (2 : Int)) || decide ((64 : Int) < (↑x.fst.fst.length : Int)) ||
 decide (x.fst.snd.fst < (0 : Int)) ||
 decide (x.fst.snd.snd.fst < (0 : Int)) ||
 decide (x.fst.snd.snd.snd < (0 : Int)) ||
 decide ((↑x.fst.fst.length : Int) ≤ x.fst.snd.fst) ||
 decide ((↑x.fst.fst.length : Int) ≤ x.fst.snd.snd.fst))) =
 true ∧
 (!(decide ((↑x.fst.fst.length : Int) < (2 : Int)) || decide ((64 : Int) < (↑x.fst.fst.length : Int)) ||
 decide (x.fst.snd.fst < (0 : Int)) ||
 decide (x.fst.snd.snd.fst < (0 : Int)) ||
 decide (x.fst.snd.snd.snd < (0 : Int)) ||
 decide ((↑x.fst.fst.length : Int) ≤ x.fst.snd.fst) ||
 decide ((↑x.fst.fst.length : Int) ≤ x.fst.snd.snd.fst))) =
 true) ∧
 ((decide ((↑x.fst.fst.length : Int) < (2 : Int)) || decide ((64 : Int) < (↑x.fst.fst.length : Int)) ||
 decide (x.fst.snd.fst < (0 : Int)) ||
 decide (x.fst.snd.snd.fst < (0 : Int)) ||
 decide (x.fst.snd.snd.snd < (0 : Int)) ||
 decide ((↑x.fst.fst.length : Int) ≤ x.fst.snd.fst) ||
 decide ((↑x.fst.fst.length : Int) ≤ x.fst.snd.snd.fst)) =
 false →
 (!(decide ((↑x.fst.fst.length : Int) < (2 : Int)) || decide ((64 : Int) < (↑x.fst.fst.length : Int)) ||
 decide (x.fst.snd.fst < (0 : Int)) ||
 decide (x.fst.snd.snd.fst < (0 : Int)) ||
 decide (x.fst.snd.snd.snd < (0 : Int)) ||
 decide ((↑x.fst.fst.length : Int) ≤ x.fst.snd.fst) ||
 decide ((↑x.fst.fst.length : Int) ≤ x.fst.snd.snd.fst))) =
 true) ∧
 ((decide ((↑x.fst.fst.length : Int) < (2 : Int)) || decide ((64 : Int) < (↑x.fst.fst.length : Int)) ||
 decide (x.fst.snd.fst < (0 : Int)) ||
 decide (x.fst.snd.snd.fst < (0 : Int)) ||
 decide (x.fst.snd.snd.snd < (0 : Int)) ||
 decide ((↑x.fst.fst.length : Int) ≤ x.fst.snd.fst) ||
 decide ((↑x.fst.fst.length : Int) ≤ x.fst.snd.snd.fst) ||
 decide ((↑x.fst.fst.length : Int) ≤ x.fst.snd.snd.snd)) =
 true →
 (0 : Int) = (parts x.fst).fst ∧ (0 : Int) = (parts x.fst).snd.fst ∧ false = (parts x.fst).snd.snd.fst) ∧
 ((decide ((↑x.fst.fst.length : Int) < (2 : Int)) || decide ((64 : Int) < (↑x.fst.fst.length : Int)) ||
 decide (x.fst.snd.fst < (0 : Int)) ||
 decide (x.fst.snd.snd.fst < (0 : Int)) ||
 decide (x.fst.snd.snd.snd < (0 : Int)) ||
 decide ((↑x.fst.fst.length : Int) ≤ x.fst.snd.fst) ||
 decide ((↑x.fst.fst.length : Int) ≤ x.fst.snd.snd.fst) ||
 decide ((↑x.fst.fst.length : Int) ≤ x.fst.snd.snd.snd)) =
 false →
 ((((0 : Int) ≤ (0 : Int) ∧
 (0 : Int) < (↑x.fst.fst.length : Int) ∧
 x.fst.snd.snd.fst = pl x.fst (0 : Int) ∧
 (0 : Int) ≤ ah (↑x.fst.fst.length : Int) x.fst.snd.snd.fst x.fst.snd.snd.snd ∧
 (0 : Int) ≤ ah (↑x.fst.fst.length : Int) x.fst.snd.snd.fst x.fst.snd.fst ∧
 devs x.fst (0 : Int) (0 : Int) false) ∧
 True) ∧
 ((True ∧ True) ∧
 (↑x.fst.fst.length : Int) = (↑x.fst.fst.length : Int) ∧
 (0 : Int) = (0 : Int) ∧ x.fst.snd.snd.fst = x.fst.snd.snd.fst ∧ True) ∧
 ((x.fst.fst = x.fst.fst ∧
 x.fst.snd.fst = x.fst.snd.fst ∧
 x.fst.snd.snd.fst = x.fst.snd.snd.fst ∧ x.fst.snd.snd.snd = x.fst.snd.snd.snd ∧ True) ∧
 True) ∧
 True) ∧
 ∀ (g : Int × Int × Unit),
 (0 : Int) ≤ g.fst ∧
 g.fst < (↑x.fst.fst.length : Int) ∧
 g.snd.fst = pl x.fst g.fst ∧
 g.fst ≤ ah (↑x.fst.fst.length : Int) x.fst.snd.snd.fst x.fst.snd.snd.snd ∧
 g.fst ≤ ah (↑x.fst.fst.length : Int) x.fst.snd.snd.fst x.fst.snd.fst ∧
 devs x.fst (0 : Int) g.fst false →
 ((-9223372036854775808 : Int) ≤ g.fst ∧ g.fst ≤ (9223372036854775807 : Int)) ∧
 ((-9223372036854775808 : Int) ≤ g.snd.fst ∧ g.snd.fst ≤ (9223372036854775807 : Int)) ∧ True →
 ((g.snd.fst != x.fst.snd.snd.snd) = true → (g.snd.fst != x.fst.snd.snd.snd) = true) ∧
 ((g.snd.fst != x.fst.snd.snd.snd) = true →
 (g.snd.fst != x.fst.snd.snd.snd) = true ∧ (g.snd.fst != x.fst.snd.snd.snd) = true) ∧
 ((g.snd.fst != x.fst.snd.snd.snd) = true → (g.snd.fst != x.fst.snd.snd.snd) = true) ∧
 ((g.snd.fst != x.fst.snd.snd.snd && g.snd.fst != x.fst.snd.fst) = true →
 ((0 : Int) ≤ g.snd.fst ∧ g.snd.fst < (↑x.fst.fst.length : Int)) ∧
 ((x.fst.fst.getD g.snd.fst.toNat (false, (0 : Int))).fst = true →
 (0 : Int) = (parts x.fst).fst ∧
 (0 : Int) = (parts x.fst).snd.fst ∧ false = (parts x.fst).snd.snd.fst) ∧
 ((x.fst.fst.getD g.snd.fst.toNat (false, (0 : Int))).fst = false →
 ((-9223372036854775808 : Int) ≤ g.fst + (1 : Int) ∧
 g.fst + (1 : Int) ≤ (9223372036854775807 : Int)) ∧
 ((-9223372036854775808 : Int) ≤ g.snd.fst + (1 : Int) ∧
 g.snd.fst + (1 : Int) ≤ (9223372036854775807 : Int)) ∧
 ((0 : Int) ≤ g.snd.fst + (1 : Int) ∧ (0 : Int) < (↑x.fst.fst.length : Int)) ∧
 (((0 : Int) ≤ g.fst + (1 : Int) ∧
 g.fst + (1 : Int) < (↑x.fst.fst.length : Int) ∧
 (g.snd.fst + (1 : Int)) % (↑x.fst.fst.length : Int) =
 pl x.fst (g.fst + (1 : Int)) ∧
 g.fst + (1 : Int) ≤
 ah (↑x.fst.fst.length : Int) x.fst.snd.snd.fst
 x.fst.snd.snd.snd ∧
 g.fst + (1 : Int) ≤
 ah (↑x.fst.fst.length : Int) x.fst.snd.snd.fst
 x.fst.snd.fst ∧
 devs x.fst (0 : Int) (g.fst + (1 : Int)) false) ∧
 ((↑x.fst.fst.length : Int) - (g.fst + (1 : Int))).toNat <
 ((↑x.fst.fst.length : Int) - g.fst).toNat) ∧
 ((True ∧ True) ∧
 (↑x.fst.fst.length : Int) = (↑x.fst.fst.length : Int) ∧
 g.fst + (1 : Int) = g.fst + (1 : Int) ∧
 (g.snd.fst + (1 : Int)) % (↑x.fst.fst.length : Int) =
 (g.snd.fst + (1 : Int)) % (↑x.fst.fst.length : Int) ∧
 True) ∧
 ((x.fst.fst = x.fst.fst ∧
 x.fst.snd.fst = x.fst.snd.fst ∧
 x.fst.snd.snd.fst = x.fst.snd.snd.fst ∧
 x.fst.snd.snd.snd = x.fst.snd.snd.snd ∧ True) ∧
 True) ∧
 True)) ∧
 ((g.snd.fst != x.fst.snd.snd.snd && g.snd.fst != x.fst.snd.fst) = false →
 ((g.snd.fst != x.fst.snd.snd.snd) = true →
 (0 : Int) = (parts x.fst).fst ∧
 (0 : Int) = (parts x.fst).snd.fst ∧ false = (parts x.fst).snd.snd.fst) ∧
 ((g.snd.fst != x.fst.snd.snd.snd) = false →
 ((((0 : Int) ≤ (0 : Int) ∧
 g.snd.fst =
 pl x.fst
 (ah (↑x.fst.fst.length : Int) x.fst.snd.snd.fst x.fst.snd.snd.snd +
 (0 : Int)) ∧
 ah (↑x.fst.fst.length : Int) x.fst.snd.snd.fst x.fst.snd.snd.snd +
 (0 : Int) ≤
 ah (↑x.fst.fst.length : Int) x.fst.snd.snd.fst x.fst.snd.fst ∧
 devs x.fst
 (ah (↑x.fst.fst.length : Int) x.fst.snd.snd.fst x.fst.snd.snd.snd)
 (ah (↑x.fst.fst.length : Int) x.fst.snd.snd.fst x.fst.snd.snd.snd +
 (0 : Int))
 true) ∧
 True) ∧
 ((True ∧ True) ∧
 (↑x.fst.fst.length : Int) = (↑x.fst.fst.length : Int) ∧
 g.fst = g.fst ∧ g.snd.fst = g.snd.fst ∧ (0 : Int) = (0 : Int) ∧ True) ∧
 ((x.fst.fst = x.fst.fst ∧
 x.fst.snd.fst = x.fst.snd.fst ∧
 x.fst.snd.snd.fst = x.fst.snd.snd.fst ∧
 x.fst.snd.snd.snd = x.fst.snd.snd.snd ∧ True) ∧
 True) ∧
 True) ∧
 ∀ (g_1 : Int × Int × Unit),
 (0 : Int) ≤ g_1.snd.fst ∧
 g_1.fst =
 pl x.fst
 (ah (↑x.fst.fst.length : Int) x.fst.snd.snd.fst x.fst.snd.snd.snd +
 g_1.snd.fst) ∧
 ah (↑x.fst.fst.length : Int) x.fst.snd.snd.fst x.fst.snd.snd.snd +
 g_1.snd.fst ≤
 ah (↑x.fst.fst.length : Int) x.fst.snd.snd.fst x.fst.snd.fst ∧
 devs x.fst
 (ah (↑x.fst.fst.length : Int) x.fst.snd.snd.fst x.fst.snd.snd.snd)
 (ah (↑x.fst.fst.length : Int) x.fst.snd.snd.fst x.fst.snd.snd.snd +
 g_1.snd.fst)
 true →
 ((-9223372036854775808 : Int) ≤ g_1.fst ∧
 g_1.fst ≤ (9223372036854775807 : Int)) ∧
 ((-9223372036854775808 : Int) ≤ g_1.snd.fst ∧
 g_1.snd.fst ≤ (9223372036854775807 : Int)) ∧
 True →
 ((g_1.fst != x.fst.snd.fst) = true →
 ((0 : Int) ≤ g_1.fst ∧ g_1.fst < (↑x.fst.fst.length : Int)) ∧
 ((!!(x.fst.fst.getD g_1.fst.toNat (false, (0 : Int))).fst) = true →
 (!!(x.fst.fst.getD g_1.fst.toNat (false, (0 : Int))).fst) = true ∧
 (!!(x.fst.fst.getD g_1.fst.toNat (false, (0 : Int))).fst) =
 true) ∧
 ((!(x.fst.fst.getD g_1.fst.toNat (false, (0 : Int))).fst) = false →
 (!!(x.fst.fst.getD g_1.fst.toNat (false, (0 : Int))).fst) =
 true) ∧
 ((!(x.fst.fst.getD g_1.fst.toNat (false, (0 : Int))).fst ||
 decide ((↑x.fst.fst.length : Int) < g_1.snd.fst)) =
 true →
 (0 : Int) = (parts x.fst).fst ∧
 (0 : Int) = (parts x.fst).snd.fst ∧
 false = (parts x.fst).snd.snd.fst) ∧
 ((!(x.fst.fst.getD g_1.fst.toNat (false, (0 : Int))).fst ||
 decide ((↑x.fst.fst.length : Int) < g_1.snd.fst)) =
 false →
 ((-9223372036854775808 : Int) ≤ g_1.snd.fst + (1 : Int) ∧
 g_1.snd.fst + (1 : Int) ≤ (9223372036854775807 : Int)) ∧
 ((-9223372036854775808 : Int) ≤ g_1.fst + (1 : Int) ∧
 g_1.fst + (1 : Int) ≤ (9223372036854775807 : Int)) ∧
 ((0 : Int) ≤ g_1.fst + (1 : Int) ∧
 (0 : Int) < (↑x.fst.fst.length : Int)) ∧
 (((g_1.fst + (1 : Int)) % (↑x.fst.fst.length : Int) ==
 x.fst.snd.snd.fst) =
 true →
 ((g_1.fst + (1 : Int)) %
 (↑x.fst.fst.length : Int) ==
 x.fst.snd.snd.fst) =
 true) ∧
 (((g_1.fst + (1 : Int)) % (↑x.fst.fst.length : Int) ==
 x.fst.snd.snd.fst) =
 true →
 ((g_1.fst + (1 : Int)) %
 (↑x.fst.fst.length : Int) ==
 x.fst.snd.snd.fst) =
 true ∧
 ((g_1.fst + (1 : Int)) %
 (↑x.fst.fst.length : Int) ==
 x.fst.snd.snd.fst) =
 true) ∧
 (((g_1.fst + (1 : Int)) %
 (↑x.fst.fst.length : Int) ==
 x.fst.snd.snd.fst) =
 true →
 ((g_1.fst + (1 : Int)) %
 (↑x.fst.fst.length : Int) ==
 x.fst.snd.snd.fst) =
 true) ∧
 (((g_1.fst + (1 : Int)) %
 (↑x.fst.fst.length : Int) ==
 x.fst.snd.snd.fst &&
 (g_1.fst + (1 : Int)) %
 (↑x.fst.fst.length : Int) !=
 x.fst.snd.fst) =
 true →
 (0 : Int) = (parts x.fst).fst ∧
 (0 : Int) = (parts x.fst).snd.fst ∧
 false = (parts x.fst).snd.snd.fst) ∧
 (((g_1.fst + (1 : Int)) %
 (↑x.fst.fst.length : Int) ==
 x.fst.snd.snd.fst &&
 (g_1.fst + (1 : Int)) %
 (↑x.fst.fst.length : Int) !=
 x.fst.snd.fst) =
 false →
 (((0 : Int) ≤ g_1.snd.fst + (1 : Int) ∧
 (g_1.fst + (1 : Int)) %
 (↑x.fst.fst.length : Int) =
 pl x.fst
 (ah (↑x.fst.fst.length : Int)
 x.fst.snd.snd.fst
 x.fst.snd.snd.snd +
 (g_1.snd.fst + (1 : Int))) ∧
 ah (↑x.fst.fst.length : Int)
 x.fst.snd.snd.fst
 x.fst.snd.snd.snd +
 (g_1.snd.fst + (1 : Int)) ≤
 ah (↑x.fst.fst.length : Int)
 x.fst.snd.snd.fst
 x.fst.snd.fst ∧
 devs x.fst
 (ah (↑x.fst.fst.length : Int)
 x.fst.snd.snd.fst
 x.fst.snd.snd.snd)
 (ah (↑x.fst.fst.length : Int)
 x.fst.snd.snd.fst
 x.fst.snd.snd.snd +
 (g_1.snd.fst + (1 : Int)))
 true) ∧
 ((↑x.fst.fst.length : Int) -
 (g_1.snd.fst + (1 : Int))).toNat <
 ((↑x.fst.fst.length : Int) -
 g_1.snd.fst).toNat) ∧
 ((True ∧ True) ∧
 (↑x.fst.fst.length : Int) =
 (↑x.fst.fst.length : Int) ∧
 g.fst = g.fst ∧
 (g_1.fst + (1 : Int)) %
 (↑x.fst.fst.length : Int) =
 (g_1.fst + (1 : Int)) %
 (↑x.fst.fst.length : Int) ∧
 g_1.snd.fst + (1 : Int) =
 g_1.snd.fst + (1 : Int) ∧
 True) ∧
 ((x.fst.fst = x.fst.fst ∧
 x.fst.snd.fst = x.fst.snd.fst ∧
 x.fst.snd.snd.fst =
 x.fst.snd.snd.fst ∧
 x.fst.snd.snd.snd =
 x.fst.snd.snd.snd ∧
 True) ∧
 True) ∧
 True))) ∧
 ((g_1.fst != x.fst.snd.fst) = false →
 ((-9223372036854775808 : Int) ≤ (↑x.fst.fst.length : Int) - g.fst ∧
 (↑x.fst.fst.length : Int) - g.fst ≤ (9223372036854775807 : Int)) ∧
 ((-9223372036854775808 : Int) ≤
 (↑x.fst.fst.length : Int) - g.fst - g_1.snd.fst ∧
 (↑x.fst.fst.length : Int) - g.fst - g_1.snd.fst ≤
 (9223372036854775807 : Int)) ∧
 ((((0 : Int) ≤ (0 : Int) ∧
 ah (↑x.fst.fst.length : Int) x.fst.snd.snd.fst
 x.fst.snd.fst +
 (0 : Int) ≤
 (↑x.fst.fst.length : Int) ∧
 (ah (↑x.fst.fst.length : Int) x.fst.snd.snd.fst
 x.fst.snd.fst +
 (0 : Int) <
 (↑x.fst.fst.length : Int) →
 g_1.fst =
 pl x.fst
 (ah (↑x.fst.fst.length : Int) x.fst.snd.snd.fst
 x.fst.snd.fst +
 (0 : Int))) ∧
 (0 : Int) ≤ g_1.fst ∧
 g_1.fst < (↑x.fst.fst.length : Int) ∧
 free x.fst
 (ah (↑x.fst.fst.length : Int) x.fst.snd.snd.fst
 x.fst.snd.fst)
 (ah (↑x.fst.fst.length : Int) x.fst.snd.snd.fst
 x.fst.snd.fst +
 (0 : Int))) ∧
 True) ∧
 ((True ∧ True) ∧
 (↑x.fst.fst.length : Int) = (↑x.fst.fst.length : Int) ∧
 g.fst = g.fst ∧
 g_1.fst = g_1.fst ∧
 g_1.snd.fst = g_1.snd.fst ∧
 (↑x.fst.fst.length : Int) - g.fst - g_1.snd.fst =
 (↑x.fst.fst.length : Int) - g.fst -
 g_1.snd.fst ∧
 (0 : Int) = (0 : Int) ∧ True) ∧
 ((x.fst.fst = x.fst.fst ∧
 x.fst.snd.fst = x.fst.snd.fst ∧
 x.fst.snd.snd.fst = x.fst.snd.snd.fst ∧
 x.fst.snd.snd.snd = x.fst.snd.snd.snd ∧ True) ∧
 True) ∧
 True) ∧
 ∀ (g_2 : Int × Int × Unit),
 (0 : Int) ≤ g_2.snd.fst ∧
 ah (↑x.fst.fst.length : Int) x.fst.snd.snd.fst
 x.fst.snd.fst +
 g_2.snd.fst ≤
 (↑x.fst.fst.length : Int) ∧
 (ah (↑x.fst.fst.length : Int) x.fst.snd.snd.fst
 x.fst.snd.fst +
 g_2.snd.fst <
 (↑x.fst.fst.length : Int) →
 g_2.fst =
 pl x.fst
 (ah (↑x.fst.fst.length : Int) x.fst.snd.snd.fst
 x.fst.snd.fst +
 g_2.snd.fst)) ∧
 (0 : Int) ≤ g_2.fst ∧
 g_2.fst < (↑x.fst.fst.length : Int) ∧
 free x.fst
 (ah (↑x.fst.fst.length : Int) x.fst.snd.snd.fst
 x.fst.snd.fst)
 (ah (↑x.fst.fst.length : Int) x.fst.snd.snd.fst
 x.fst.snd.fst +
 g_2.snd.fst) →
 ((-9223372036854775808 : Int) ≤ g_2.fst ∧
 g_2.fst ≤ (9223372036854775807 : Int)) ∧
 ((-9223372036854775808 : Int) ≤ g_2.snd.fst ∧
 g_2.snd.fst ≤ (9223372036854775807 : Int)) ∧
 True →
 (decide
 (g_2.snd.fst <
 (↑x.fst.fst.length : Int) - g.fst - g_1.snd.fst) =
 true →
 ((0 : Int) ≤ g_2.fst ∧
 g_2.fst < (↑x.fst.fst.length : Int)) ∧
 ((!deq (Ty.bool.pair (Ty.int IntKind.i64))
 ((x.fst.fst.getD g_2.fst.toNat
 (false, (0 : Int))).fst,
 (x.fst.fst.getD g_2.fst.toNat
 (false, (0 : Int))).snd)
 (false, (0 : Int))) =
 true →
 (0 : Int) = (parts x.fst).fst ∧
 (0 : Int) = (parts x.fst).snd.fst ∧
 false = (parts x.fst).snd.snd.fst) ∧
 ((!deq (Ty.bool.pair (Ty.int IntKind.i64))
 ((x.fst.fst.getD g_2.fst.toNat
 (false, (0 : Int))).fst,
 (x.fst.fst.getD g_2.fst.toNat
 (false, (0 : Int))).snd)
 (false, (0 : Int))) =
 false →
 ((-9223372036854775808 : Int) ≤
 g_2.fst + (1 : Int) ∧
 g_2.fst + (1 : Int) ≤
 (9223372036854775807 : Int)) ∧
 ((0 : Int) ≤ g_2.fst + (1 : Int) ∧
 (0 : Int) < (↑x.fst.fst.length : Int)) ∧
 ((-9223372036854775808 : Int) ≤
 g_2.snd.fst + (1 : Int) ∧
 g_2.snd.fst + (1 : Int) ≤
 (9223372036854775807 : Int)) ∧
 (((0 : Int) ≤ g_2.snd.fst + (1 : Int) ∧
 ah (↑x.fst.fst.length : Int)
 x.fst.snd.snd.fst
 x.fst.snd.fst +
 (g_2.snd.fst + (1 : Int)) ≤
 (↑x.fst.fst.length : Int) ∧
 (ah (↑x.fst.fst.length : Int)
 x.fst.snd.snd.fst
 x.fst.snd.fst +
 (g_2.snd.fst + (1 : Int)) <
 (↑x.fst.fst.length : Int) →
 (g_2.fst + (1 : Int)) %
 (↑x.fst.fst.length : Int) =
 pl x.fst
 (ah
 (↑x.fst.fst.length :
 Int)
 x.fst.snd.snd.fst
 x.fst.snd.fst +
 (g_2.snd.fst +
 (1 : Int)))) ∧
 (0 : Int) ≤
 (g_2.fst + (1 : Int)) %
 (↑x.fst.fst.length : Int) ∧
 (g_2.fst + (1 : Int)) %
 (↑x.fst.fst.length :
 Int) <
 (↑x.fst.fst.length : Int) ∧
 free x.fst
 (ah
 (↑x.fst.fst.length : Int)
 x.fst.snd.snd.fst
 x.fst.snd.fst)
 (ah
 (↑x.fst.fst.length :
 Int)
 x.fst.snd.snd.fst
 x.fst.snd.fst +
 (g_2.snd.fst +
 (1 : Int)))) ∧
 ((↑x.fst.fst.length : Int) -
 (g_2.snd.fst + (1 : Int))).toNat <
 ((↑x.fst.fst.length : Int) -
 g_2.snd.fst).toNat) ∧
 ((True ∧ True) ∧
 (↑x.fst.fst.length : Int) =
 (↑x.fst.fst.length : Int) ∧
 g.fst = g.fst ∧
 (g_2.fst + (1 : Int)) %
 (↑x.fst.fst.length : Int) =
 (g_2.fst + (1 : Int)) %
 (↑x.fst.fst.length : Int) ∧
 g_1.snd.fst = g_1.snd.fst ∧
 (↑x.fst.fst.length : Int) -
 g.fst -
 g_1.snd.fst =
 (↑x.fst.fst.length :
 Int) -
 g.fst -
 g_1.snd.fst ∧
 g_2.snd.fst + (1 : Int) =
 g_2.snd.fst +
 (1 : Int) ∧
 True) ∧
 ((x.fst.fst = x.fst.fst ∧
 x.fst.snd.fst = x.fst.snd.fst ∧
 x.fst.snd.snd.fst =
 x.fst.snd.snd.fst ∧
 x.fst.snd.snd.snd =
 x.fst.snd.snd.snd ∧
 True) ∧
 True) ∧
 True)) ∧
 (decide
 (g_2.snd.fst <
 (↑x.fst.fst.length : Int) - g.fst - g_1.snd.fst) =
 false →
 g.fst = (parts x.fst).fst ∧
 g_1.snd.fst = (parts x.fst).snd.fst ∧
 true = (parts x.fst).snd.snd.fst)))))

theorem E_parts_eq (x : HL (cParts : Ctr).as) : vc (fx_parts x) 1 51 Try.f51 (cParts) x = E_parts x := by kernel_rfl

def E_step (x : (List (Bool × Int) × Int × Int × Int) × (Int × Int) × Unit) : Prop :=
 Holds True ∧
 ((!right (x.fst.fst, x.fst.snd.fst, x.fst.snd.snd.fst, x.fst.snd.snd.snd)) = true →
 (([] : List (Bool × Int)), (0 : Int), (0 : Int), (0 : Int)) = (step x.fst x.snd.fst.fst x.snd.fst.snd).fst ∧
 (0 : Int) = (step x.fst x.snd.fst.fst x.snd.fst.snd).snd.fst ∧ (1 : Int) = (step x.fst x.snd.fst.fst x.snd.fst.snd).snd.snd.fst) ∧
 ((!right (x.fst.fst, x.fst.snd.fst, x.fst.snd.snd.fst, x.fst.snd.snd.snd)) = false →
 Holds (x.fst.fst.length * (16 : Nat) ≤ (140737488355328 : Nat)) ∧
 ((x.snd.fst.fst == (1 : Int)) = true →
 Holds
 ((0 : Int) ≤ x.fst.snd.snd.fst ∧
 x.fst.snd.snd.fst < (↑x.fst.fst.length : Int) ∧
 (0 : Int) ≤ x.fst.snd.fst ∧ x.fst.snd.fst < (↑x.fst.fst.length : Int) ∧ (↑x.fst.fst.length : Int) ≤ (64 : Int)) ∧
 ((-9223372036854775808 : Int) ≤ (↑x.fst.fst.length : Int) - (1 : Int) ∧
 (↑x.fst.fst.length : Int) - (1 : Int) ≤ (9223372036854775807 : Int)) ∧
 ((ah (↑x.fst.fst.length : Int) x.fst.snd.snd.fst x.fst.snd.fst == (↑x.fst.fst.length : Int) - (1 : Int)) = true →
 (([] : List (Bool × Int)), (0 : Int), (0 : Int), (0 : Int)) = (step x.fst x.snd.fst.fst x.snd.fst.snd).fst ∧
 (0 : Int) = (step x.fst x.snd.fst.fst x.snd.fst.snd).snd.fst ∧
 (7 : Int) = (step x.fst x.snd.fst.fst x.snd.fst.snd).snd.snd.fst) ∧
 ((ah (↑x.fst.fst.length : Int) x.fst.snd.snd.fst x.fst.snd.fst == (↑x.fst.fst.length : Int) - (1 : Int)) = false →
 ((0 : Int) ≤ x.fst.snd.fst ∧ x.fst.snd.fst < (↑x.fst.fst.length : Int)) ∧
 ((-9223372036854775808 : Int) ≤ x.fst.snd.fst + (1 : Int) ∧ x.fst.snd.fst + (1 : Int) ≤ (9223372036854775807 : Int)) ∧
 ((0 : Int) ≤ x.fst.snd.fst + (1 : Int) ∧ (0 : Int) < (↑x.fst.fst.length : Int)) ∧
 (x.fst.fst.set x.fst.snd.fst.toNat (true, x.snd.fst.snd), (x.fst.snd.fst + (1 : Int)) % (↑x.fst.fst.length : Int),
 x.fst.snd.snd.fst, x.fst.snd.snd.snd) =
 (step x.fst x.snd.fst.fst x.snd.fst.snd).fst ∧
 (0 : Int) = (step x.fst x.snd.fst.fst x.snd.fst.snd).snd.fst ∧
 (0 : Int) = (step x.fst x.snd.fst.fst x.snd.fst.snd).snd.snd.fst)) ∧
 ((x.snd.fst.fst == (1 : Int)) = false →
 ((x.snd.fst.fst == (2 : Int)) = true →
 ((x.fst.snd.snd.snd == x.fst.snd.fst) = true →
 (([] : List (Bool × Int)), (0 : Int), (0 : Int), (0 : Int)) = (step x.fst x.snd.fst.fst x.snd.fst.snd).fst ∧
 (0 : Int) = (step x.fst x.snd.fst.fst x.snd.fst.snd).snd.fst ∧
 (3 : Int) = (step x.fst x.snd.fst.fst x.snd.fst.snd).snd.snd.fst) ∧
 ((x.fst.snd.snd.snd == x.fst.snd.fst) = false →
 ((0 : Int) ≤ x.fst.snd.snd.snd ∧ x.fst.snd.snd.snd < (↑x.fst.fst.length : Int)) ∧
 ((0 : Int) ≤ x.fst.snd.snd.snd ∧ x.fst.snd.snd.snd < (↑x.fst.fst.length : Int)) ∧
 ((-9223372036854775808 : Int) ≤ x.fst.snd.snd.snd + (1 : Int) ∧ x.fst.snd.snd.snd + (1 : Int) ≤ (9223372036854775807 : Int)) ∧
 ((0 : Int) ≤ x.fst.snd.snd.snd + (1 : Int) ∧ (0 : Int) < (↑x.fst.fst.length : Int)) ∧
 (x.fst.fst.set x.fst.snd.snd.snd.toNat
 (false, (-1 : Int) - (x.fst.fst.getD x.fst.snd.snd.snd.toNat (false, (0 : Int))).snd),
 x.fst.snd.fst, x.fst.snd.snd.fst, (x.fst.snd.snd.snd + (1 : Int)) % (↑x.fst.fst.length : Int)) =
 (step x.fst x.snd.fst.fst x.snd.fst.snd).fst ∧
 (0 : Int) = (step x.fst x.snd.fst.fst x.snd.fst.snd).snd.fst ∧
 (0 : Int) = (step x.fst x.snd.fst.fst x.snd.fst.snd).snd.snd.fst)) ∧
 ((x.snd.fst.fst == (2 : Int)) = false →
 ((x.snd.fst.fst == (3 : Int)) = true →
 ((x.fst.snd.snd.fst == x.fst.snd.snd.snd) = true →
 (([] : List (Bool × Int)), (0 : Int), (0 : Int), (0 : Int)) = (step x.fst x.snd.fst.fst x.snd.fst.snd).fst ∧
 (0 : Int) = (step x.fst x.snd.fst.fst x.snd.fst.snd).snd.fst ∧
 (3 : Int) = (step x.fst x.snd.fst.fst x.snd.fst.snd).snd.snd.fst) ∧
 ((x.fst.snd.snd.fst == x.fst.snd.snd.snd) = false →
 ((0 : Int) ≤ x.fst.snd.snd.fst ∧ x.fst.snd.snd.fst < (↑x.fst.fst.length : Int)) ∧
 ((0 : Int) ≤ x.fst.snd.snd.fst ∧ x.fst.snd.snd.fst < (↑x.fst.fst.length : Int)) ∧
 ((-9223372036854775808 : Int) ≤ x.fst.snd.snd.fst + (1 : Int) ∧
 x.fst.snd.snd.fst + (1 : Int) ≤ (9223372036854775807 : Int)) ∧
 ((0 : Int) ≤ x.fst.snd.snd.fst + (1 : Int) ∧ (0 : Int) < (↑x.fst.fst.length : Int)) ∧
 (x.fst.fst.set x.fst.snd.snd.fst.toNat (false, (0 : Int)), x.fst.snd.fst,
 (x.fst.snd.snd.fst + (1 : Int)) % (↑x.fst.fst.length : Int), x.fst.snd.snd.snd) =
 (step x.fst x.snd.fst.fst x.snd.fst.snd).fst ∧
 (x.fst.fst.getD x.fst.snd.snd.fst.toNat (false, (0 : Int))).snd = (step x.fst x.snd.fst.fst x.snd.fst.snd).snd.fst ∧
 (0 : Int) = (step x.fst x.snd.fst.fst x.snd.fst.snd).snd.snd.fst)) ∧
 ((x.snd.fst.fst == (3 : Int)) = false →
 (([] : List (Bool × Int)), (0 : Int), (0 : Int), (0 : Int)) = (step x.fst x.snd.fst.fst x.snd.fst.snd).fst ∧
 (0 : Int) = (step x.fst x.snd.fst.fst x.snd.fst.snd).snd.fst ∧
 (5 : Int) = (step x.fst x.snd.fst.fst x.snd.fst.snd).snd.snd.fst))))

theorem E_step_eq (x : HL (cStep : Ctr).as) : vc (fx_step x) 1 49 Try.f49 (cStep) x = E_step x := by kernel_rfl

def E_rstep (x : (List (Bool × Int) × Int × Int × Int) × (Int × Int) × Unit) : Prop :=
 Holds True ∧
 (([] : List (Bool × Int)).length + x.fst.fst.length ≤ (9223372036854775807 : Nat) ∧
 (([] : List (Bool × Int)).length + x.fst.fst.length) * (16 : Nat) ≤ (140737488355328 : Nat)) ∧
 ((!(parts (x.fst.fst, x.fst.snd.fst, x.fst.snd.snd.fst, x.fst.snd.snd.snd)).snd.snd.fst) = true →
 (((1 : Int) != (0 : Int)) = true →
 (([] : List (Bool × Int)), (0 : Int), (0 : Int), (0 : Int)) = (step x.fst x.snd.fst.fst x.snd.fst.snd).fst ∧
 (0 : Int) = (step x.fst x.snd.fst.fst x.snd.fst.snd).snd.fst ∧ (1 : Int) = (step x.fst x.snd.fst.fst x.snd.fst.snd).snd.snd.fst) ∧
 (((1 : Int) != (0 : Int)) = false →
 (([] : List (Bool × Int)) ++ x.fst.fst, x.fst.snd.fst, x.fst.snd.snd.fst, x.fst.snd.snd.snd) =
 (step x.fst x.snd.fst.fst x.snd.fst.snd).fst ∧
 (0 : Int) = (step x.fst x.snd.fst.fst x.snd.fst.snd).snd.fst ∧ (1 : Int) = (step x.fst x.snd.fst.fst x.snd.fst.snd).snd.snd.fst)) ∧
 ((!(parts (x.fst.fst, x.fst.snd.fst, x.fst.snd.snd.fst, x.fst.snd.snd.snd)).snd.snd.fst) = false →
 ((!decide (x.snd.fst.fst < (1 : Int))) = true → (!decide (x.snd.fst.fst < (1 : Int))) = true) ∧
 ((!decide (x.snd.fst.fst < (1 : Int))) = true → (!decide (x.snd.fst.fst < (1 : Int))) = true) ∧
 (decide (x.snd.fst.fst < (1 : Int)) = false → (!decide (x.snd.fst.fst < (1 : Int))) = true) ∧
 ((decide (x.snd.fst.fst < (1 : Int)) || decide ((3 : Int) < x.snd.fst.fst)) = true →
 (((5 : Int) != (0 : Int)) = true →
 (([] : List (Bool × Int)), (0 : Int), (0 : Int), (0 : Int)) = (step x.fst x.snd.fst.fst x.snd.fst.snd).fst ∧
 (0 : Int) = (step x.fst x.snd.fst.fst x.snd.fst.snd).snd.fst ∧
 (5 : Int) = (step x.fst x.snd.fst.fst x.snd.fst.snd).snd.snd.fst) ∧
 (((5 : Int) != (0 : Int)) = false →
 (([] : List (Bool × Int)) ++ x.fst.fst, x.fst.snd.fst, x.fst.snd.snd.fst, x.fst.snd.snd.snd) =
 (step x.fst x.snd.fst.fst x.snd.fst.snd).fst ∧
 (0 : Int) = (step x.fst x.snd.fst.fst x.snd.fst.snd).snd.fst ∧
 (5 : Int) = (step x.fst x.snd.fst.fst x.snd.fst.snd).snd.snd.fst)) ∧
 ((decide (x.snd.fst.fst < (1 : Int)) || decide ((3 : Int) < x.snd.fst.fst)) = false →
 ((x.snd.fst.fst == (1 : Int)) = true →
 ((x.snd.fst.fst == (1 : Int)) = true ∧ (x.snd.fst.fst == (1 : Int)) = true) ∧
 (-9223372036854775808 : Int) ≤
 (parts (x.fst.fst, x.fst.snd.fst, x.fst.snd.snd.fst, x.fst.snd.snd.snd)).fst +
 (parts (x.fst.fst, x.fst.snd.fst, x.fst.snd.snd.fst, x.fst.snd.snd.snd)).snd.fst ∧
 (parts (x.fst.fst, x.fst.snd.fst, x.fst.snd.snd.fst, x.fst.snd.snd.snd)).fst +
 (parts (x.fst.fst, x.fst.snd.fst, x.fst.snd.snd.fst, x.fst.snd.snd.snd)).snd.fst ≤
 (9223372036854775807 : Int)) ∧
 ((x.snd.fst.fst == (1 : Int)) = true →
 (x.snd.fst.fst == (1 : Int)) = true ∧
 (-9223372036854775808 : Int) ≤ (↑x.fst.fst.length : Int) - (1 : Int) ∧
 (↑x.fst.fst.length : Int) - (1 : Int) ≤ (9223372036854775807 : Int)) ∧
 ((x.snd.fst.fst == (1 : Int)) = true → (x.snd.fst.fst == (1 : Int)) = true ∧ (x.snd.fst.fst == (1 : Int)) = true) ∧
 ((x.snd.fst.fst == (1 : Int)) = true → (x.snd.fst.fst == (1 : Int)) = true) ∧
 ((x.snd.fst.fst == (1 : Int) &&
 (parts (x.fst.fst, x.fst.snd.fst, x.fst.snd.snd.fst, x.fst.snd.snd.snd)).fst +
 (parts (x.fst.fst, x.fst.snd.fst, x.fst.snd.snd.fst, x.fst.snd.snd.snd)).snd.fst ==
 (↑x.fst.fst.length : Int) - (1 : Int)) =
 true →
 (((7 : Int) != (0 : Int)) = true →
 (([] : List (Bool × Int)), (0 : Int), (0 : Int), (0 : Int)) = (step x.fst x.snd.fst.fst x.snd.fst.snd).fst ∧
 (0 : Int) = (step x.fst x.snd.fst.fst x.snd.fst.snd).snd.fst ∧
 (7 : Int) = (step x.fst x.snd.fst.fst x.snd.fst.snd).snd.snd.fst) ∧
 (((7 : Int) != (0 : Int)) = false →
 (([] : List (Bool × Int)) ++ x.fst.fst, x.fst.snd.fst, x.fst.snd.snd.fst, x.fst.snd.snd.snd) =
 (step x.fst x.snd.fst.fst x.snd.fst.snd).fst ∧
 (0 : Int) = (step x.fst x.snd.fst.fst x.snd.fst.snd).snd.fst ∧
 (7 : Int) = (step x.fst x.snd.fst.fst x.snd.fst.snd).snd.snd.fst)) ∧
 ((x.snd.fst.fst == (1 : Int) &&
 (parts (x.fst.fst, x.fst.snd.fst, x.fst.snd.snd.fst, x.fst.snd.snd.snd)).fst +
 (parts (x.fst.fst, x.fst.snd.fst, x.fst.snd.snd.fst, x.fst.snd.snd.snd)).snd.fst ==
 (↑x.fst.fst.length : Int) - (1 : Int)) =
 false →
 ((x.snd.fst.fst == (2 : Int)) = true → (x.snd.fst.fst == (2 : Int)) = true) ∧
 ((x.snd.fst.fst == (2 : Int)) = true → (x.snd.fst.fst == (2 : Int)) = true) ∧
 ((x.snd.fst.fst == (2 : Int) &&
 (parts (x.fst.fst, x.fst.snd.fst, x.fst.snd.snd.fst, x.fst.snd.snd.snd)).snd.fst == (0 : Int)) =
 true →
 (((3 : Int) != (0 : Int)) = true →
 (([] : List (Bool × Int)), (0 : Int), (0 : Int), (0 : Int)) = (step x.fst x.snd.fst.fst x.snd.fst.snd).fst ∧
 (0 : Int) = (step x.fst x.snd.fst.fst x.snd.fst.snd).snd.fst ∧
 (3 : Int) = (step x.fst x.snd.fst.fst x.snd.fst.snd).snd.snd.fst) ∧
 (((3 : Int) != (0 : Int)) = false →
 (([] : List (Bool × Int)) ++ x.fst.fst, x.fst.snd.fst, x.fst.snd.snd.fst, x.fst.snd.snd.snd) =
 (step x.fst x.snd.fst.fst x.snd.fst.snd).fst ∧
 (0 : Int) = (step x.fst x.snd.fst.fst x.snd.fst.snd).snd.fst ∧
 (3 : Int) = (step x.fst x.snd.fst.fst x.snd.fst.snd).snd.snd.fst)) ∧
 ((x.snd.fst.fst == (2 : Int) &&
 (parts (x.fst.fst, x.fst.snd.fst, x.fst.snd.snd.fst, x.fst.snd.snd.snd)).snd.fst == (0 : Int)) =
 false →
 ((x.snd.fst.fst == (3 : Int)) = true → (x.snd.fst.fst == (3 : Int)) = true) ∧
 ((x.snd.fst.fst == (3 : Int)) = true → (x.snd.fst.fst == (3 : Int)) = true) ∧
 ((x.snd.fst.fst == (3 : Int) &&
 (parts (x.fst.fst, x.fst.snd.fst, x.fst.snd.snd.fst, x.fst.snd.snd.snd)).fst == (0 : Int)) =
 true →
 (((3 : Int) != (0 : Int)) = true →
 (([] : List (Bool × Int)), (0 : Int), (0 : Int), (0 : Int)) =
 (step x.fst x.snd.fst.fst x.snd.fst.snd).fst ∧
 (0 : Int) = (step x.fst x.snd.fst.fst x.snd.fst.snd).snd.fst ∧
 (3 : Int) = (step x.fst x.snd.fst.fst x.snd.fst.snd).snd.snd.fst) ∧
 (((3 : Int) != (0 : Int)) = false →
 (([] : List (Bool × Int)) ++ x.fst.fst, x.fst.snd.fst, x.fst.snd.snd.fst, x.fst.snd.snd.snd) =
 (step x.fst x.snd.fst.fst x.snd.fst.snd).fst ∧
 (0 : Int) = (step x.fst x.snd.fst.fst x.snd.fst.snd).snd.fst ∧
 (3 : Int) = (step x.fst x.snd.fst.fst x.snd.fst.snd).snd.snd.fst)) ∧
 ((x.snd.fst.fst == (3 : Int) &&
 (parts (x.fst.fst, x.fst.snd.fst, x.fst.snd.snd.fst, x.fst.snd.snd.snd)).fst == (0 : Int)) =
 false →
 ((x.snd.fst.fst == (1 : Int)) = true →
 ((0 : Int) ≤ x.fst.snd.fst ∧
 x.fst.snd.fst < (↑(([] : List (Bool × Int)) ++ x.fst.fst).length : Int)) ∧
 ((-9223372036854775808 : Int) ≤ x.fst.snd.fst + (1 : Int) ∧
 x.fst.snd.fst + (1 : Int) ≤ (9223372036854775807 : Int)) ∧
 ((x.fst.snd.fst + (1 : Int) == (↑x.fst.fst.length : Int)) = true →
 (((0 : Int) != (0 : Int)) = true →
 (([] : List (Bool × Int)), (0 : Int), (0 : Int), (0 : Int)) =
 (step x.fst x.snd.fst.fst x.snd.fst.snd).fst ∧
 (0 : Int) = (step x.fst x.snd.fst.fst x.snd.fst.snd).snd.fst ∧
 (0 : Int) = (step x.fst x.snd.fst.fst x.snd.fst.snd).snd.snd.fst) ∧
 (((0 : Int) != (0 : Int)) = false →
 ((([] : List (Bool × Int)) ++ x.fst.fst).set x.fst.snd.fst.toNat (true, x.snd.fst.snd),
 (0 : Int), x.fst.snd.snd.fst, x.fst.snd.snd.snd) =
 (step x.fst x.snd.fst.fst x.snd.fst.snd).fst ∧
 (0 : Int) = (step x.fst x.snd.fst.fst x.snd.fst.snd).snd.fst ∧
 (0 : Int) = (step x.fst x.snd.fst.fst x.snd.fst.snd).snd.snd.fst)) ∧
 ((x.fst.snd.fst + (1 : Int) == (↑x.fst.fst.length : Int)) = false →
 (((0 : Int) != (0 : Int)) = true →
 (([] : List (Bool × Int)), (0 : Int), (0 : Int), (0 : Int)) =
 (step x.fst x.snd.fst.fst x.snd.fst.snd).fst ∧
 (0 : Int) = (step x.fst x.snd.fst.fst x.snd.fst.snd).snd.fst ∧
 (0 : Int) = (step x.fst x.snd.fst.fst x.snd.fst.snd).snd.snd.fst) ∧
 (((0 : Int) != (0 : Int)) = false →
 ((([] : List (Bool × Int)) ++ x.fst.fst).set x.fst.snd.fst.toNat (true, x.snd.fst.snd),
 x.fst.snd.fst + (1 : Int), x.fst.snd.snd.fst, x.fst.snd.snd.snd) =
 (step x.fst x.snd.fst.fst x.snd.fst.snd).fst ∧
 (0 : Int) = (step x.fst x.snd.fst.fst x.snd.fst.snd).snd.fst ∧
 (0 : Int) = (step x.fst x.snd.fst.fst x.snd.fst.snd).snd.snd.fst))) ∧
 ((x.snd.fst.fst == (1 : Int)) = false →
 ((x.snd.fst.fst == (2 : Int)) = true →
 ((0 : Int) ≤ x.fst.snd.snd.snd ∧ x.fst.snd.snd.snd < (↑x.fst.fst.length : Int)) ∧
 ((-9223372036854775808 : Int) ≤
 (-1 : Int) - (x.fst.fst.getD x.fst.snd.snd.snd.toNat (false, (0 : Int))).snd ∧
 (-1 : Int) - (x.fst.fst.getD x.fst.snd.snd.snd.toNat (false, (0 : Int))).snd ≤
 (9223372036854775807 : Int)) ∧
 ((0 : Int) ≤ x.fst.snd.snd.snd ∧
 x.fst.snd.snd.snd < (↑(([] : List (Bool × Int)) ++ x.fst.fst).length : Int)) ∧
 ((-9223372036854775808 : Int) ≤ x.fst.snd.snd.snd + (1 : Int) ∧
 x.fst.snd.snd.snd + (1 : Int) ≤ (9223372036854775807 : Int)) ∧
 ((x.fst.snd.snd.snd + (1 : Int) == (↑x.fst.fst.length : Int)) = true →
 (((0 : Int) != (0 : Int)) = true →
 (([] : List (Bool × Int)), (0 : Int), (0 : Int), (0 : Int)) =
 (step x.fst x.snd.fst.fst x.snd.fst.snd).fst ∧
 (0 : Int) = (step x.fst x.snd.fst.fst x.snd.fst.snd).snd.fst ∧
 (0 : Int) = (step x.fst x.snd.fst.fst x.snd.fst.snd).snd.snd.fst) ∧
 (((0 : Int) != (0 : Int)) = false →
 ((([] : List (Bool × Int)) ++ x.fst.fst).set x.fst.snd.snd.snd.toNat
 (false,
 (-1 : Int) -
 (x.fst.fst.getD x.fst.snd.snd.snd.toNat (false, (0 : Int))).snd),
 x.fst.snd.fst, x.fst.snd.snd.fst, (0 : Int)) =
 (step x.fst x.snd.fst.fst x.snd.fst.snd).fst ∧
 (0 : Int) = (step x.fst x.snd.fst.fst x.snd.fst.snd).snd.fst ∧
 (0 : Int) = (step x.fst x.snd.fst.fst x.snd.fst.snd).snd.snd.fst)) ∧
 ((x.fst.snd.snd.snd + (1 : Int) == (↑x.fst.fst.length : Int)) = false →
 (((0 : Int) != (0 : Int)) = true →
 (([] : List (Bool × Int)), (0 : Int), (0 : Int), (0 : Int)) =
 (step x.fst x.snd.fst.fst x.snd.fst.snd).fst ∧
 (0 : Int) = (step x.fst x.snd.fst.fst x.snd.fst.snd).snd.fst ∧
 (0 : Int) = (step x.fst x.snd.fst.fst x.snd.fst.snd).snd.snd.fst) ∧
 (((0 : Int) != (0 : Int)) = false →
 ((([] : List (Bool × Int)) ++ x.fst.fst).set x.fst.snd.snd.snd.toNat
 (false,
 (-1 : Int) -
 (x.fst.fst.getD x.fst.snd.snd.snd.toNat (false, (0 : Int))).snd),
 x.fst.snd.fst, x.fst.snd.snd.fst, x.fst.snd.snd.snd + (1 : Int)) =
 (step x.fst x.snd.fst.fst x.snd.fst.snd).fst ∧
 (0 : Int) = (step x.fst x.snd.fst.fst x.snd.fst.snd).snd.fst ∧
 (0 : Int) = (step x.fst x.snd.fst.fst x.snd.fst.snd).snd.snd.fst))) ∧
 ((x.snd.fst.fst == (2 : Int)) = false →
 ((0 : Int) ≤ x.fst.snd.snd.fst ∧ x.fst.snd.snd.fst < (↑x.fst.fst.length : Int)) ∧
 ((0 : Int) ≤ x.fst.snd.snd.fst ∧
 x.fst.snd.snd.fst < (↑(([] : List (Bool × Int)) ++ x.fst.fst).length : Int)) ∧
 ((-9223372036854775808 : Int) ≤ x.fst.snd.snd.fst + (1 : Int) ∧
 x.fst.snd.snd.fst + (1 : Int) ≤ (9223372036854775807 : Int)) ∧
 ((x.fst.snd.snd.fst + (1 : Int) == (↑x.fst.fst.length : Int)) = true →
 (((0 : Int) != (0 : Int)) = true →
 (([] : List (Bool × Int)), (0 : Int), (0 : Int), (0 : Int)) =
 (step x.fst x.snd.fst.fst x.snd.fst.snd).fst ∧
 (0 : Int) = (step x.fst x.snd.fst.fst x.snd.fst.snd).snd.fst ∧
 (0 : Int) = (step x.fst x.snd.fst.fst x.snd.fst.snd).snd.snd.fst) ∧
 (((0 : Int) != (0 : Int)) = false →
 ((([] : List (Bool × Int)) ++ x.fst.fst).set x.fst.snd.snd.fst.toNat
 (false, (0 : Int)),
 x.fst.snd.fst, (0 : Int), x.fst.snd.snd.snd) =
 (step x.fst x.snd.fst.fst x.snd.fst.snd).fst ∧
 (x.fst.fst.getD x.fst.snd.snd.fst.toNat (false, (0 : Int))).snd =
 (step x.fst x.snd.fst.fst x.snd.fst.snd).snd.fst ∧
 (0 : Int) = (step x.fst x.snd.fst.fst x.snd.fst.snd).snd.snd.fst)) ∧
 ((x.fst.snd.snd.fst + (1 : Int) == (↑x.fst.fst.length : Int)) = false →
 (((0 : Int) != (0 : Int)) = true →
 (([] : List (Bool × Int)), (0 : Int), (0 : Int), (0 : Int)) =
 (step x.fst x.snd.fst.fst x.snd.fst.snd).fst ∧
 (0 : Int) = (step x.fst x.snd.fst.fst x.snd.fst.snd).snd.fst ∧
 (0 : Int) = (step x.fst x.snd.fst.fst x.snd.fst.snd).snd.snd.fst) ∧
 (((0 : Int) != (0 : Int)) = false →
 ((([] : List (Bool × Int)) ++ x.fst.fst).set x.fst.snd.snd.fst.toNat
 (false, (0 : Int)),
 x.fst.snd.fst, x.fst.snd.snd.fst + (1 : Int), x.fst.snd.snd.snd) =
 (step x.fst x.snd.fst.fst x.snd.fst.snd).fst ∧
 (x.fst.fst.getD x.fst.snd.snd.fst.toNat (false, (0 : Int))).snd =
 (step x.fst x.snd.fst.fst x.snd.fst.snd).snd.fst ∧
 (0 : Int) = (step x.fst x.snd.fst.fst x.snd.fst.snd).snd.snd.fst)))))))))

theorem E_rstep_eq (x : HL (cRStep : Ctr).as) : vc (fx_rstep x) 1 50 Try.f50 (cRStep) x = E_rstep x := by kernel_rfl

def E_new (x : Int × Unit) : Prop :=
 ((!decide (x.fst < (2 : Int))) = true → (!decide (x.fst < (2 : Int))) = true) ∧
 (decide (x.fst < (2 : Int)) = false → (!decide (x.fst < (2 : Int))) = true) ∧
 ((decide (x.fst < (2 : Int)) || decide ((64 : Int) < x.fst)) = true →
 (([] : List (Bool × Int)), (0 : Int), (0 : Int), (0 : Int)) = (new x.fst).fst ∧ (2 : Int) = (new x.fst).snd.fst) ∧
 ((decide (x.fst < (2 : Int)) || decide ((64 : Int) < x.fst)) = false →
 (((0 : Int) ≤ x.fst ∧ x.fst ≤ x.fst) ∧ x.fst * (↑(16 : Nat) : Int) ≤ (140737488355328 : Int) ∧ x.fst ≤ (9223372036854775807 : Int)) ∧
 (List.replicate x.fst.toNat (false, (0 : Int)), (0 : Int), (0 : Int), (0 : Int)) = (new x.fst).fst ∧ (0 : Int) = (new x.fst).snd.fst)

theorem E_new_eq (x : HL (cNew : Ctr).as) : vc (fx_new x) 1 52 Try.f52 (cNew) x = E_new x := by kernel_rfl

def E_none (x : Int × List (Int × Int) × Unit) : Prop :=
 ((!decide (x.fst < (2 : Int))) = true → (!decide (x.fst < (2 : Int))) = true) ∧
 (decide (x.fst < (2 : Int)) = false → (!decide (x.fst < (2 : Int))) = true) ∧
 ((decide (x.fst < (2 : Int)) || decide ((64 : Int) < x.fst)) = true →
 ([] : List Int) = ([] : List Int) ∧
 ([] : List Int) = ([] : List Int) ∧
 (([] : List (Bool × Int)), (0 : Int), (0 : Int), (0 : Int)) = (new x.fst).fst ∧ (2 : Int) = (new x.fst).snd.fst) ∧
 ((decide (x.fst < (2 : Int)) || decide ((64 : Int) < x.fst)) = false →
 (((([] : List Int) = ([] : List Int) ∧
 ([] : List Int) = ([] : List Int) ∧
 ([] : List Int) = ([] : List Int) ∧ ([] : List Int) = ([] : List Int) ∧ (0 : Int) = (0 : Int) ∧ (0 : Int) = (0 : Int)) ∧
 True) ∧
 (x.fst = x.fst ∧
 (True ∧ True) ∧
 True ∧
 True ∧
 True ∧
 True ∧
 (0 : Int) = (0 : Int) ∧
 x.snd.fst = x.snd.fst ∧ (↑x.snd.fst.length : Int) = (↑x.snd.fst.length : Int) ∧ (0 : Int) = (0 : Int) ∧ True) ∧
 (([] : List Int) = ([] : List Int) ∧
 ([] : List Int) = ([] : List Int) ∧
 ([] : List Int) = ([] : List Int) ∧
 ([] : List Int) = ([] : List Int) ∧
 (Value.slice none (0 : Nat) (0 : Nat) = Value.slice none (0 : Nat) (0 : Nat) ∧
 (0 : Int) = (0 : Int) ∧ (0 : Int) = (0 : Int) ∧ (0 : Int) = (0 : Int) ∧ True) ∧
 True) ∧
 True) ∧
 ∀ (g : List Int × List Int × List Int × List Int × Int × Int × Unit),
 g.fst = ([] : List Int) ∧
 g.snd.fst = ([] : List Int) ∧
 g.snd.snd.fst = ([] : List Int) ∧
 g.snd.snd.snd.fst = ([] : List Int) ∧ g.snd.snd.snd.snd.fst = (0 : Int) ∧ g.snd.snd.snd.snd.snd.fst = (0 : Int) →
 (g.fst.length ≤ (9223372036854775807 : Nat) ∧
 ∀ (x : Int), x ∈ g.fst → (-9223372036854775808 : Int) ≤ x ∧ x ≤ (9223372036854775807 : Int)) ∧
 (g.snd.fst.length ≤ (9223372036854775807 : Nat) ∧
 ∀ (x : Int), x ∈ g.snd.fst → (-9223372036854775808 : Int) ≤ x ∧ x ≤ (9223372036854775807 : Int)) ∧
 (g.snd.snd.fst.length ≤ (9223372036854775807 : Nat) ∧
 ∀ (x : Int), x ∈ g.snd.snd.fst → (-9223372036854775808 : Int) ≤ x ∧ x ≤ (9223372036854775807 : Int)) ∧
 (g.snd.snd.snd.fst.length ≤ (9223372036854775807 : Nat) ∧
 ∀ (x : Int), x ∈ g.snd.snd.snd.fst → (-9223372036854775808 : Int) ≤ x ∧ x ≤ (9223372036854775807 : Int)) ∧
 ((-9223372036854775808 : Int) ≤ g.snd.snd.snd.snd.fst ∧ g.snd.snd.snd.snd.fst ≤ (9223372036854775807 : Int)) ∧
 ((-9223372036854775808 : Int) ≤ g.snd.snd.snd.snd.snd.fst ∧ g.snd.snd.snd.snd.snd.fst ≤ (9223372036854775807 : Int)) ∧
 True →
 (decide (g.snd.snd.snd.snd.snd.fst < (↑x.snd.fst.length : Int)) = true →
 ((0 : Int) ≤ g.snd.snd.snd.snd.snd.fst ∧ g.snd.snd.snd.snd.snd.fst < (↑x.snd.fst.length : Int)) ∧
 (((x.snd.fst.getD g.snd.snd.snd.snd.snd.fst.toNat ((0 : Int), (0 : Int))).fst == (1 : Int)) = true →
 ((x.snd.fst.getD g.snd.snd.snd.snd.snd.fst.toNat ((0 : Int), (0 : Int))).fst == (1 : Int)) = true) ∧
 (((x.snd.fst.getD g.snd.snd.snd.snd.snd.fst.toNat ((0 : Int), (0 : Int))).fst == (1 : Int)) = true →
 ((x.snd.fst.getD g.snd.snd.snd.snd.snd.fst.toNat ((0 : Int), (0 : Int))).fst == (1 : Int)) = true) ∧
 (((x.snd.fst.getD g.snd.snd.snd.snd.snd.fst.toNat ((0 : Int), (0 : Int))).fst == (1 : Int)) = true →
 (((x.snd.fst.getD g.snd.snd.snd.snd.snd.fst.toNat ((0 : Int), (0 : Int))).fst == (1 : Int)) = true ∧
 ((x.snd.fst.getD g.snd.snd.snd.snd.snd.fst.toNat ((0 : Int), (0 : Int))).fst == (1 : Int)) = true) ∧
 (-9223372036854775808 : Int) ≤ (↑g.snd.fst.length : Int) + (↑g.snd.snd.fst.length : Int) ∧
 (↑g.snd.fst.length : Int) + (↑g.snd.snd.fst.length : Int) ≤ (9223372036854775807 : Int)) ∧
 (((x.snd.fst.getD g.snd.snd.snd.snd.snd.fst.toNat ((0 : Int), (0 : Int))).fst == (1 : Int)) = true →
 ((x.snd.fst.getD g.snd.snd.snd.snd.snd.fst.toNat ((0 : Int), (0 : Int))).fst == (1 : Int)) = true ∧
 (-9223372036854775808 : Int) ≤ x.fst - (1 : Int) ∧ x.fst - (1 : Int) ≤ (9223372036854775807 : Int)) ∧
 (((x.snd.fst.getD g.snd.snd.snd.snd.snd.fst.toNat ((0 : Int), (0 : Int))).fst == (1 : Int)) = true →
 ((x.snd.fst.getD g.snd.snd.snd.snd.snd.fst.toNat ((0 : Int), (0 : Int))).fst == (1 : Int)) = true ∧
 ((x.snd.fst.getD g.snd.snd.snd.snd.snd.fst.toNat ((0 : Int), (0 : Int))).fst == (1 : Int)) = true) ∧
 (((x.snd.fst.getD g.snd.snd.snd.snd.snd.fst.toNat ((0 : Int), (0 : Int))).fst == (1 : Int)) = true →
 ((x.snd.fst.getD g.snd.snd.snd.snd.snd.fst.toNat ((0 : Int), (0 : Int))).fst == (1 : Int)) = true) ∧
 (((x.snd.fst.getD g.snd.snd.snd.snd.snd.fst.toNat ((0 : Int), (0 : Int))).fst == (1 : Int) &&
 (↑g.snd.fst.length : Int) + (↑g.snd.snd.fst.length : Int) == x.fst - (1 : Int)) =
 true →
 (g.fst.length + (((0 : Int) :: ([] : List Int)).set (0 : Nat) (7 : Int)).length ≤ (9223372036854775807 : Nat) ∧
 (g.fst.length + (((0 : Int) :: ([] : List Int)).set (0 : Nat) (7 : Int)).length) * (8 : Nat) ≤
 (140737488355328 : Nat)) ∧
 ((-9223372036854775808 : Int) ≤ g.snd.snd.snd.snd.snd.fst + (1 : Int) ∧
 g.snd.snd.snd.snd.snd.fst + (1 : Int) ≤ (9223372036854775807 : Int)) ∧
 ((g.fst ++ ((0 : Int) :: ([] : List Int)).set (0 : Nat) (7 : Int) = ([] : List Int) ∧
 g.snd.fst = ([] : List Int) ∧
 g.snd.snd.fst = ([] : List Int) ∧
 g.snd.snd.snd.fst = ([] : List Int) ∧
 g.snd.snd.snd.snd.fst = (0 : Int) ∧ g.snd.snd.snd.snd.snd.fst + (1 : Int) = (0 : Int)) ∧
 (0 : Nat) < (0 : Nat)) ∧
 (x.fst = x.fst ∧
 (True ∧ True) ∧
 True ∧
 True ∧
 True ∧
 True ∧
 g.snd.snd.snd.snd.fst = g.snd.snd.snd.snd.fst ∧
 x.snd.fst = x.snd.fst ∧
 (↑x.snd.fst.length : Int) = (↑x.snd.fst.length : Int) ∧
 g.snd.snd.snd.snd.snd.fst + (1 : Int) = g.snd.snd.snd.snd.snd.fst + (1 : Int) ∧
 True) ∧
 (g.fst ++ ((0 : Int) :: ([] : List Int)).set (0 : Nat) (7 : Int) =
 g.fst ++ ((0 : Int) :: ([] : List Int)).set (0 : Nat) (7 : Int) ∧
 g.snd.fst = g.snd.fst ∧
 g.snd.snd.fst = g.snd.snd.fst ∧
 g.snd.snd.snd.fst = g.snd.snd.snd.fst ∧
 (Value.slice none (0 : Nat) (0 : Nat) = Value.slice none (0 : Nat) (0 : Nat) ∧
 (0 : Int) = (0 : Int) ∧ (0 : Int) = (0 : Int) ∧ (0 : Int) = (0 : Int) ∧ True) ∧
 True) ∧
 True) ∧
 (((x.snd.fst.getD g.snd.snd.snd.snd.snd.fst.toNat ((0 : Int), (0 : Int))).fst == (1 : Int) &&
 (↑g.snd.fst.length : Int) + (↑g.snd.snd.fst.length : Int) == x.fst - (1 : Int)) =
 false →
 (((x.snd.fst.getD g.snd.snd.snd.snd.snd.fst.toNat ((0 : Int), (0 : Int))).fst == (1 : Int)) = true →
 (g.snd.fst.length +
 (((0 : Int) :: ([] : List Int)).set (0 : Nat)
 (x.snd.fst.getD g.snd.snd.snd.snd.snd.fst.toNat ((0 : Int), (0 : Int))).snd).length ≤
 (9223372036854775807 : Nat) ∧
 (g.snd.fst.length +
 (((0 : Int) :: ([] : List Int)).set (0 : Nat)
 (x.snd.fst.getD g.snd.snd.snd.snd.snd.fst.toNat ((0 : Int), (0 : Int))).snd).length) *
 (8 : Nat) ≤
 (140737488355328 : Nat)) ∧
 ((-9223372036854775808 : Int) ≤ g.snd.snd.snd.snd.fst + (1 : Int) ∧
 g.snd.snd.snd.snd.fst + (1 : Int) ≤ (9223372036854775807 : Int)) ∧
 (g.fst.length + (((0 : Int) :: ([] : List Int)).set (0 : Nat) (0 : Int)).length ≤
 (9223372036854775807 : Nat) ∧
 (g.fst.length + (((0 : Int) :: ([] : List Int)).set (0 : Nat) (0 : Int)).length) * (8 : Nat) ≤
 (140737488355328 : Nat)) ∧
 ((-9223372036854775808 : Int) ≤ g.snd.snd.snd.snd.snd.fst + (1 : Int) ∧
 g.snd.snd.snd.snd.snd.fst + (1 : Int) ≤ (9223372036854775807 : Int)) ∧
 ((g.fst ++ ((0 : Int) :: ([] : List Int)).set (0 : Nat) (0 : Int) = ([] : List Int) ∧
 g.snd.fst ++
 ((0 : Int) :: ([] : List Int)).set (0 : Nat)
 (x.snd.fst.getD g.snd.snd.snd.snd.snd.fst.toNat ((0 : Int), (0 : Int))).snd =
 ([] : List Int) ∧
 g.snd.snd.fst = ([] : List Int) ∧
 g.snd.snd.snd.fst = ([] : List Int) ∧
 g.snd.snd.snd.snd.fst + (1 : Int) = (0 : Int) ∧
 g.snd.snd.snd.snd.snd.fst + (1 : Int) = (0 : Int)) ∧
 (0 : Nat) < (0 : Nat)) ∧
 (x.fst = x.fst ∧
 (True ∧ True) ∧
 True ∧
 True ∧
 True ∧
 True ∧
 g.snd.snd.snd.snd.fst + (1 : Int) = g.snd.snd.snd.snd.fst + (1 : Int) ∧
 x.snd.fst = x.snd.fst ∧
 (↑x.snd.fst.length : Int) = (↑x.snd.fst.length : Int) ∧
 g.snd.snd.snd.snd.snd.fst + (1 : Int) =
 g.snd.snd.snd.snd.snd.fst + (1 : Int) ∧
 True) ∧
 (g.fst ++ ((0 : Int) :: ([] : List Int)).set (0 : Nat) (0 : Int) =
 g.fst ++ ((0 : Int) :: ([] : List Int)).set (0 : Nat) (0 : Int) ∧
 g.snd.fst ++
 ((0 : Int) :: ([] : List Int)).set (0 : Nat)
 (x.snd.fst.getD g.snd.snd.snd.snd.snd.fst.toNat ((0 : Int), (0 : Int))).snd =
 g.snd.fst ++
 ((0 : Int) :: ([] : List Int)).set (0 : Nat)
 (x.snd.fst.getD g.snd.snd.snd.snd.snd.fst.toNat ((0 : Int), (0 : Int))).snd ∧
 g.snd.snd.fst = g.snd.snd.fst ∧
 g.snd.snd.snd.fst = g.snd.snd.snd.fst ∧
 (Value.slice none (0 : Nat) (0 : Nat) = Value.slice none (0 : Nat) (0 : Nat) ∧
 (0 : Int) = (0 : Int) ∧ (0 : Int) = (0 : Int) ∧ (0 : Int) = (0 : Int) ∧ True) ∧
 True) ∧
 True) ∧
 (((x.snd.fst.getD g.snd.snd.snd.snd.snd.fst.toNat ((0 : Int), (0 : Int))).fst == (1 : Int)) = false →
 (((x.snd.fst.getD g.snd.snd.snd.snd.snd.fst.toNat ((0 : Int), (0 : Int))).fst == (2 : Int)) = true →
 ((x.snd.fst.getD g.snd.snd.snd.snd.snd.fst.toNat ((0 : Int), (0 : Int))).fst == (2 : Int)) = true) ∧
 (((x.snd.fst.getD g.snd.snd.snd.snd.snd.fst.toNat ((0 : Int), (0 : Int))).fst == (2 : Int)) = true →
 ((x.snd.fst.getD g.snd.snd.snd.snd.snd.fst.toNat ((0 : Int), (0 : Int))).fst == (2 : Int)) = true) ∧
 (((x.snd.fst.getD g.snd.snd.snd.snd.snd.fst.toNat ((0 : Int), (0 : Int))).fst == (2 : Int)) = true →
 ((x.snd.fst.getD g.snd.snd.snd.snd.snd.fst.toNat ((0 : Int), (0 : Int))).fst == (2 : Int)) = true) ∧
 (((x.snd.fst.getD g.snd.snd.snd.snd.snd.fst.toNat ((0 : Int), (0 : Int))).fst == (2 : Int) &&
 (↑g.snd.fst.length : Int) == (0 : Int)) =
 true →
 (g.fst.length + (((0 : Int) :: ([] : List Int)).set (0 : Nat) (3 : Int)).length ≤
 (9223372036854775807 : Nat) ∧
 (g.fst.length + (((0 : Int) :: ([] : List Int)).set (0 : Nat) (3 : Int)).length) * (8 : Nat) ≤
 (140737488355328 : Nat)) ∧
 ((-9223372036854775808 : Int) ≤ g.snd.snd.snd.snd.snd.fst + (1 : Int) ∧
 g.snd.snd.snd.snd.snd.fst + (1 : Int) ≤ (9223372036854775807 : Int)) ∧
 ((g.fst ++ ((0 : Int) :: ([] : List Int)).set (0 : Nat) (3 : Int) = ([] : List Int) ∧
 g.snd.fst = ([] : List Int) ∧
 g.snd.snd.fst = ([] : List Int) ∧
 g.snd.snd.snd.fst = ([] : List Int) ∧
 g.snd.snd.snd.snd.fst = (0 : Int) ∧
 g.snd.snd.snd.snd.snd.fst + (1 : Int) = (0 : Int)) ∧
 (0 : Nat) < (0 : Nat)) ∧
 (x.fst = x.fst ∧
 (True ∧ True) ∧
 True ∧
 True ∧
 True ∧
 True ∧
 g.snd.snd.snd.snd.fst = g.snd.snd.snd.snd.fst ∧
 x.snd.fst = x.snd.fst ∧
 (↑x.snd.fst.length : Int) = (↑x.snd.fst.length : Int) ∧
 g.snd.snd.snd.snd.snd.fst + (1 : Int) =
 g.snd.snd.snd.snd.snd.fst + (1 : Int) ∧
 True) ∧
 (g.fst ++ ((0 : Int) :: ([] : List Int)).set (0 : Nat) (3 : Int) =
 g.fst ++ ((0 : Int) :: ([] : List Int)).set (0 : Nat) (3 : Int) ∧
 g.snd.fst = g.snd.fst ∧
 g.snd.snd.fst = g.snd.snd.fst ∧
 g.snd.snd.snd.fst = g.snd.snd.snd.fst ∧
 (Value.slice none (0 : Nat) (0 : Nat) = Value.slice none (0 : Nat) (0 : Nat) ∧
 (0 : Int) = (0 : Int) ∧
 (0 : Int) = (0 : Int) ∧ (0 : Int) = (0 : Int) ∧ True) ∧
 True) ∧
 True) ∧
 (((x.snd.fst.getD g.snd.snd.snd.snd.snd.fst.toNat ((0 : Int), (0 : Int))).fst == (2 : Int) &&
 (↑g.snd.fst.length : Int) == (0 : Int)) =
 false →
 (((x.snd.fst.getD g.snd.snd.snd.snd.snd.fst.toNat ((0 : Int), (0 : Int))).fst == (3 : Int)) =
 true →
 ((x.snd.fst.getD g.snd.snd.snd.snd.snd.fst.toNat ((0 : Int), (0 : Int))).fst == (3 : Int)) =
 true) ∧
 (((x.snd.fst.getD g.snd.snd.snd.snd.snd.fst.toNat ((0 : Int), (0 : Int))).fst == (3 : Int)) =
 true →
 ((x.snd.fst.getD g.snd.snd.snd.snd.snd.fst.toNat ((0 : Int), (0 : Int))).fst == (3 : Int)) =
 true) ∧
 (((x.snd.fst.getD g.snd.snd.snd.snd.snd.fst.toNat ((0 : Int), (0 : Int))).fst == (3 : Int)) =
 true →
 ((x.snd.fst.getD g.snd.snd.snd.snd.snd.fst.toNat ((0 : Int), (0 : Int))).fst ==
 (3 : Int)) =
 true) ∧
 (((x.snd.fst.getD g.snd.snd.snd.snd.snd.fst.toNat ((0 : Int), (0 : Int))).fst ==
 (3 : Int) &&
 (↑g.snd.snd.fst.length : Int) == (0 : Int)) =
 true →
 (g.fst.length + (((0 : Int) :: ([] : List Int)).set (0 : Nat) (3 : Int)).length ≤
 (9223372036854775807 : Nat) ∧
 (g.fst.length + (((0 : Int) :: ([] : List Int)).set (0 : Nat) (3 : Int)).length) *
 (8 : Nat) ≤
 (140737488355328 : Nat)) ∧
 ((-9223372036854775808 : Int) ≤ g.snd.snd.snd.snd.snd.fst + (1 : Int) ∧
 g.snd.snd.snd.snd.snd.fst + (1 : Int) ≤ (9223372036854775807 : Int)) ∧
 ((g.fst ++ ((0 : Int) :: ([] : List Int)).set (0 : Nat) (3 : Int) =
 ([] : List Int) ∧
 g.snd.fst = ([] : List Int) ∧
 g.snd.snd.fst = ([] : List Int) ∧
 g.snd.snd.snd.fst = ([] : List Int) ∧
 g.snd.snd.snd.snd.fst = (0 : Int) ∧
 g.snd.snd.snd.snd.snd.fst + (1 : Int) = (0 : Int)) ∧
 (0 : Nat) < (0 : Nat)) ∧
 (x.fst = x.fst ∧
 (True ∧ True) ∧
 True ∧
 True ∧
 True ∧
 True ∧
 g.snd.snd.snd.snd.fst = g.snd.snd.snd.snd.fst ∧
 x.snd.fst = x.snd.fst ∧
 (↑x.snd.fst.length : Int) = (↑x.snd.fst.length : Int) ∧
 g.snd.snd.snd.snd.snd.fst + (1 : Int) =
 g.snd.snd.snd.snd.snd.fst + (1 : Int) ∧
 True) ∧
 (g.fst ++ ((0 : Int) :: ([] : List Int)).set (0 : Nat) (3 : Int) =
 g.fst ++ ((0 : Int) :: ([] : List Int)).set (0 : Nat) (3 : Int) ∧
 g.snd.fst = g.snd.fst ∧
 g.snd.snd.fst = g.snd.snd.fst ∧
 g.snd.snd.snd.fst = g.snd.snd.snd.fst ∧
 (Value.slice none (0 : Nat) (0 : Nat) =
 Value.slice none (0 : Nat) (0 : Nat) ∧
 (0 : Int) = (0 : Int) ∧
 (0 : Int) = (0 : Int) ∧ (0 : Int) = (0 : Int) ∧ True) ∧
 True) ∧
 True) ∧
 (((x.snd.fst.getD g.snd.snd.snd.snd.snd.fst.toNat ((0 : Int), (0 : Int))).fst ==
 (3 : Int) &&
 (↑g.snd.snd.fst.length : Int) == (0 : Int)) =
 false →
 (((x.snd.fst.getD g.snd.snd.snd.snd.snd.fst.toNat ((0 : Int), (0 : Int))).fst ==
 (2 : Int)) =
 true →
 ((0 : Int) ≤ (0 : Int) ∧ (0 : Int) < (↑g.snd.fst.length : Int)) ∧
 ((-9223372036854775808 : Int) ≤
 (-1 : Int) - g.snd.fst.getD (Int.toNat (0 : Int)) (0 : Int) ∧
 (-1 : Int) - g.snd.fst.getD (Int.toNat (0 : Int)) (0 : Int) ≤
 (9223372036854775807 : Int)) ∧
 (g.snd.snd.fst.length +
 (((0 : Int) :: ([] : List Int)).set (0 : Nat)
 ((-1 : Int) -
 g.snd.fst.getD (Int.toNat (0 : Int)) (0 : Int))).length ≤
 (9223372036854775807 : Nat) ∧
 (g.snd.snd.fst.length +
 (((0 : Int) :: ([] : List Int)).set (0 : Nat)
 ((-1 : Int) -
 g.snd.fst.getD (Int.toNat (0 : Int)) (0 : Int))).length) *
 (8 : Nat) ≤
 (140737488355328 : Nat)) ∧
 False) ∧
 (((x.snd.fst.getD g.snd.snd.snd.snd.snd.fst.toNat ((0 : Int), (0 : Int))).fst ==
 (2 : Int)) =
 false →
 (((x.snd.fst.getD g.snd.snd.snd.snd.snd.fst.toNat ((0 : Int), (0 : Int))).fst ==
 (3 : Int)) =
 true →
 ((0 : Int) ≤ (0 : Int) ∧ (0 : Int) < (↑g.snd.snd.fst.length : Int)) ∧
 (g.snd.snd.snd.fst.length +
 (((0 : Int) :: ([] : List Int)).set (0 : Nat)
 (g.snd.snd.fst.getD (Int.toNat (0 : Int)) (0 : Int))).length ≤
 (9223372036854775807 : Nat) ∧
 (g.snd.snd.snd.fst.length +
 (((0 : Int) :: ([] : List Int)).set (0 : Nat)
 (g.snd.snd.fst.getD (Int.toNat (0 : Int)) (0 : Int))).length) *
 (8 : Nat) ≤
 (140737488355328 : Nat)) ∧
 False) ∧
 (((x.snd.fst.getD g.snd.snd.snd.snd.snd.fst.toNat ((0 : Int), (0 : Int))).fst ==
 (3 : Int)) =
 false →
 (g.fst.length +
 (((0 : Int) :: ([] : List Int)).set (0 : Nat) (5 : Int)).length ≤
 (9223372036854775807 : Nat) ∧
 (g.fst.length +
 (((0 : Int) :: ([] : List Int)).set (0 : Nat) (5 : Int)).length) *
 (8 : Nat) ≤
 (140737488355328 : Nat)) ∧
 ((-9223372036854775808 : Int) ≤ g.snd.snd.snd.snd.snd.fst + (1 : Int) ∧
 g.snd.snd.snd.snd.snd.fst + (1 : Int) ≤ (9223372036854775807 : Int)) ∧
 ((g.fst ++ ((0 : Int) :: ([] : List Int)).set (0 : Nat) (5 : Int) =
 ([] : List Int) ∧
 g.snd.fst = ([] : List Int) ∧
 g.snd.snd.fst = ([] : List Int) ∧
 g.snd.snd.snd.fst = ([] : List Int) ∧
 g.snd.snd.snd.snd.fst = (0 : Int) ∧
 g.snd.snd.snd.snd.snd.fst + (1 : Int) = (0 : Int)) ∧
 (0 : Nat) < (0 : Nat)) ∧
 (x.fst = x.fst ∧
 (True ∧ True) ∧
 True ∧
 True ∧
 True ∧
 True ∧
 g.snd.snd.snd.snd.fst = g.snd.snd.snd.snd.fst ∧
 x.snd.fst = x.snd.fst ∧
 (↑x.snd.fst.length : Int) = (↑x.snd.fst.length : Int) ∧
 g.snd.snd.snd.snd.snd.fst + (1 : Int) =
 g.snd.snd.snd.snd.snd.fst + (1 : Int) ∧
 True) ∧
 (g.fst ++ ((0 : Int) :: ([] : List Int)).set (0 : Nat) (5 : Int) =
 g.fst ++ ((0 : Int) :: ([] : List Int)).set (0 : Nat) (5 : Int) ∧
 g.snd.fst = g.snd.fst ∧
 g.snd.snd.fst = g.snd.snd.fst ∧
 g.snd.snd.snd.fst = g.snd.snd.snd.fst ∧
 (Value.slice none (0 : Nat) (0 : Nat) =
 Value.slice none (0 : Nat) (0 : Nat) ∧
 (0 : Int) = (0 : Int) ∧
 (0 : Int) = (0 : Int) ∧ (0 : Int) = (0 : Int) ∧ True) ∧
 True) ∧
 True))))))) ∧
 (decide (g.snd.snd.snd.snd.snd.fst < (↑x.snd.fst.length : Int)) = false →
 (((0 : Int) ≤ x.fst ∧ x.fst ≤ x.fst) ∧
 x.fst * (↑(16 : Nat) : Int) ≤ (140737488355328 : Int) ∧ x.fst ≤ (9223372036854775807 : Int)) ∧
 ((0 : Int) ≤ g.snd.snd.snd.snd.fst ∧ (0 : Int) < x.fst) ∧
 ((-9223372036854775808 : Int) ≤ g.snd.snd.snd.snd.fst - (↑g.snd.fst.length : Int) ∧
 g.snd.snd.snd.snd.fst - (↑g.snd.fst.length : Int) ≤ (9223372036854775807 : Int)) ∧
 ((0 : Int) ≤ g.snd.snd.snd.snd.fst - (↑g.snd.fst.length : Int) ∧ (0 : Int) < x.fst) ∧
 ((0 : Int) ≤ (↑g.snd.snd.snd.fst.length : Int) ∧ (0 : Int) < x.fst) ∧
 ((((0 : Int) = (0 : Int) ∧
 (List.replicate x.fst.toNat (false, (0 : Int)), g.snd.snd.snd.snd.fst % x.fst,
 (↑g.snd.snd.snd.fst.length : Int) % x.fst, (g.snd.snd.snd.snd.fst - (↑g.snd.fst.length : Int)) % x.fst) =
 (List.replicate x.fst.toNat (false, (0 : Int)), (0 : Int), (0 : Int), (0 : Int))) ∧
 True) ∧
 (x.fst = x.fst ∧
 (True ∧ True) ∧
 True ∧
 True ∧
 True ∧
 (True ∧ True) ∧
 True ∧ (↑g.snd.snd.fst.length : Int) = (↑g.snd.snd.fst.length : Int) ∧ (0 : Int) = (0 : Int) ∧ True) ∧
 ((True ∧
 g.snd.snd.snd.snd.fst % x.fst = g.snd.snd.snd.snd.fst % x.fst ∧
 (↑g.snd.snd.snd.fst.length : Int) % x.fst = (↑g.snd.snd.snd.fst.length : Int) % x.fst ∧
 (g.snd.snd.snd.snd.fst - (↑g.snd.fst.length : Int)) % x.fst =
 (g.snd.snd.snd.snd.fst - (↑g.snd.fst.length : Int)) % x.fst ∧
 True) ∧
 List.replicate x.fst.toNat (false, (0 : Int)) = List.replicate x.fst.toNat (false, (0 : Int)) ∧
 (Value.slice none (0 : Nat) (0 : Nat) = Value.slice none (0 : Nat) (0 : Nat) ∧
 (0 : Int) = (0 : Int) ∧ (0 : Int) = (0 : Int) ∧ (0 : Int) = (0 : Int) ∧ True) ∧
 g.fst = g.fst ∧
 g.snd.fst = g.snd.fst ∧ g.snd.snd.snd.fst = g.snd.snd.snd.fst ∧ g.snd.snd.fst = g.snd.snd.fst ∧ True) ∧
 True) ∧
 ∀ (g_1 : (List (Bool × Int) × Int × Int × Int) × Int × Unit),
 g_1.snd.fst = (0 : Int) ∧
 g_1.fst = (List.replicate x.fst.toNat (false, (0 : Int)), (0 : Int), (0 : Int), (0 : Int)) →
 ((g_1.fst.fst.length ≤ (9223372036854775807 : Nat) ∧
 ∀ (x : Bool × Int),
 x ∈ g_1.fst.fst → True ∧ (-9223372036854775808 : Int) ≤ x.snd ∧ x.snd ≤ (9223372036854775807 : Int)) ∧
 ((-9223372036854775808 : Int) ≤ g_1.fst.snd.fst ∧ g_1.fst.snd.fst ≤ (9223372036854775807 : Int)) ∧
 ((-9223372036854775808 : Int) ≤ g_1.fst.snd.snd.fst ∧ g_1.fst.snd.snd.fst ≤ (9223372036854775807 : Int)) ∧
 (-9223372036854775808 : Int) ≤ g_1.fst.snd.snd.snd ∧
 g_1.fst.snd.snd.snd ≤ (9223372036854775807 : Int)) ∧
 ((-9223372036854775808 : Int) ≤ g_1.snd.fst ∧ g_1.snd.fst ≤ (9223372036854775807 : Int)) ∧ True →
 (decide (g_1.snd.fst < (↑g.snd.snd.fst.length : Int)) = true →
 ((0 : Int) ≤ g_1.snd.fst ∧ g_1.snd.fst < (↑g.snd.snd.fst.length : Int)) ∧
 ((-9223372036854775808 : Int) ≤ g_1.fst.snd.snd.fst + g_1.snd.fst ∧
 g_1.fst.snd.snd.fst + g_1.snd.fst ≤ (9223372036854775807 : Int)) ∧
 ((0 : Int) ≤ g_1.fst.snd.snd.fst + g_1.snd.fst ∧ (0 : Int) < x.fst) ∧
 ((0 : Int) ≤ (g_1.fst.snd.snd.fst + g_1.snd.fst) % x.fst ∧
 (g_1.fst.snd.snd.fst + g_1.snd.fst) % x.fst < (↑g_1.fst.fst.length : Int)) ∧
 ((-9223372036854775808 : Int) ≤ g_1.snd.fst + (1 : Int) ∧
 g_1.snd.fst + (1 : Int) ≤ (9223372036854775807 : Int)) ∧
 ((g_1.snd.fst + (1 : Int) = (0 : Int) ∧
 (g_1.fst.fst.set ((g_1.fst.snd.snd.fst + g_1.snd.fst) % x.fst).toNat
 ((g_1.fst.fst.getD ((g_1.fst.snd.snd.fst + g_1.snd.fst) % x.fst).toNat
 (false, (0 : Int))).fst,
 g.snd.snd.fst.getD g_1.snd.fst.toNat (0 : Int)),
 g_1.fst.snd.fst, g_1.fst.snd.snd.fst, g_1.fst.snd.snd.snd) =
 (List.replicate x.fst.toNat (false, (0 : Int)), (0 : Int), (0 : Int), (0 : Int))) ∧
 (0 : Nat) < (0 : Nat)) ∧
 (x.fst = x.fst ∧
 (True ∧ True) ∧
 True ∧
 True ∧
 True ∧
 (True ∧ True) ∧
 True ∧
 (↑g.snd.snd.fst.length : Int) = (↑g.snd.snd.fst.length : Int) ∧
 g_1.snd.fst + (1 : Int) = g_1.snd.fst + (1 : Int) ∧ True) ∧
 ((True ∧
 g_1.fst.snd.fst = g_1.fst.snd.fst ∧
 g_1.fst.snd.snd.fst = g_1.fst.snd.snd.fst ∧
 g_1.fst.snd.snd.snd = g_1.fst.snd.snd.snd ∧ True) ∧
 g_1.fst.fst.set ((g_1.fst.snd.snd.fst + g_1.snd.fst) % x.fst).toNat
 ((g_1.fst.fst.getD ((g_1.fst.snd.snd.fst + g_1.snd.fst) % x.fst).toNat
 (false, (0 : Int))).fst,
 g.snd.snd.fst.getD g_1.snd.fst.toNat (0 : Int)) =
 g_1.fst.fst.set ((g_1.fst.snd.snd.fst + g_1.snd.fst) % x.fst).toNat
 ((g_1.fst.fst.getD ((g_1.fst.snd.snd.fst + g_1.snd.fst) % x.fst).toNat
 (false, (0 : Int))).fst,
 g.snd.snd.fst.getD g_1.snd.fst.toNat (0 : Int)) ∧
 (Value.slice none (0 : Nat) (0 : Nat) = Value.slice none (0 : Nat) (0 : Nat) ∧
 (0 : Int) = (0 : Int) ∧ (0 : Int) = (0 : Int) ∧ (0 : Int) = (0 : Int) ∧ True) ∧
 g.fst = g.fst ∧
 g.snd.fst = g.snd.fst ∧
 g.snd.snd.snd.fst = g.snd.snd.snd.fst ∧ g.snd.snd.fst = g.snd.snd.fst ∧ True) ∧
 True) ∧
 (decide (g_1.snd.fst < (↑g.snd.snd.fst.length : Int)) = false →
 ((((0 : Int) = (0 : Int) ∧
 (g_1.fst.fst, g_1.fst.snd.fst, g_1.fst.snd.snd.fst, g_1.fst.snd.snd.snd) =
 (List.replicate x.fst.toNat (false, (0 : Int)), (0 : Int), (0 : Int), (0 : Int))) ∧
 True) ∧
 (x.fst = x.fst ∧
 (True ∧ True) ∧
 True ∧
 True ∧
 (True ∧ True) ∧
 True ∧
 (↑g.snd.fst.length : Int) = (↑g.snd.fst.length : Int) ∧ (0 : Int) = (0 : Int) ∧ True) ∧
 ((True ∧
 g_1.fst.snd.fst = g_1.fst.snd.fst ∧
 g_1.fst.snd.snd.fst = g_1.fst.snd.snd.fst ∧
 g_1.fst.snd.snd.snd = g_1.fst.snd.snd.snd ∧ True) ∧
 g_1.fst.fst = g_1.fst.fst ∧
 (Value.slice none (0 : Nat) (0 : Nat) = Value.slice none (0 : Nat) (0 : Nat) ∧
 (0 : Int) = (0 : Int) ∧ (0 : Int) = (0 : Int) ∧ (0 : Int) = (0 : Int) ∧ True) ∧
 g.fst = g.fst ∧ g.snd.snd.snd.fst = g.snd.snd.snd.fst ∧ g.snd.fst = g.snd.fst ∧ True) ∧
 True) ∧
 ∀ (g_2 : (List (Bool × Int) × Int × Int × Int) × Int × Unit),
 g_2.snd.fst = (0 : Int) ∧
 g_2.fst = (List.replicate x.fst.toNat (false, (0 : Int)), (0 : Int), (0 : Int), (0 : Int)) →
 ((g_2.fst.fst.length ≤ (9223372036854775807 : Nat) ∧
 ∀ (x : Bool × Int),
 x ∈ g_2.fst.fst →
 True ∧ (-9223372036854775808 : Int) ≤ x.snd ∧ x.snd ≤ (9223372036854775807 : Int)) ∧
 ((-9223372036854775808 : Int) ≤ g_2.fst.snd.fst ∧
 g_2.fst.snd.fst ≤ (9223372036854775807 : Int)) ∧
 ((-9223372036854775808 : Int) ≤ g_2.fst.snd.snd.fst ∧
 g_2.fst.snd.snd.fst ≤ (9223372036854775807 : Int)) ∧
 (-9223372036854775808 : Int) ≤ g_2.fst.snd.snd.snd ∧
 g_2.fst.snd.snd.snd ≤ (9223372036854775807 : Int)) ∧
 ((-9223372036854775808 : Int) ≤ g_2.snd.fst ∧ g_2.snd.fst ≤ (9223372036854775807 : Int)) ∧ True →
 (decide (g_2.snd.fst < (↑g.snd.fst.length : Int)) = true →
 ((0 : Int) ≤ g_2.snd.fst ∧ g_2.snd.fst < (↑g.snd.fst.length : Int)) ∧
 ((-9223372036854775808 : Int) ≤ g_2.fst.snd.snd.snd + g_2.snd.fst ∧
 g_2.fst.snd.snd.snd + g_2.snd.fst ≤ (9223372036854775807 : Int)) ∧
 ((0 : Int) ≤ g_2.fst.snd.snd.snd + g_2.snd.fst ∧ (0 : Int) < x.fst) ∧
 ((0 : Int) ≤ (g_2.fst.snd.snd.snd + g_2.snd.fst) % x.fst ∧
 (g_2.fst.snd.snd.snd + g_2.snd.fst) % x.fst < (↑g_2.fst.fst.length : Int)) ∧
 ((-9223372036854775808 : Int) ≤ g_2.snd.fst + (1 : Int) ∧
 g_2.snd.fst + (1 : Int) ≤ (9223372036854775807 : Int)) ∧
 ((g_2.snd.fst + (1 : Int) = (0 : Int) ∧
 (g_2.fst.fst.set ((g_2.fst.snd.snd.snd + g_2.snd.fst) % x.fst).toNat
 (true, g.snd.fst.getD g_2.snd.fst.toNat (0 : Int)),
 g_2.fst.snd.fst, g_2.fst.snd.snd.fst, g_2.fst.snd.snd.snd) =
 (List.replicate x.fst.toNat (false, (0 : Int)), (0 : Int), (0 : Int),
 (0 : Int))) ∧
 (0 : Nat) < (0 : Nat)) ∧
 (x.fst = x.fst ∧
 (True ∧ True) ∧
 True ∧
 True ∧
 (True ∧ True) ∧
 True ∧
 (↑g.snd.fst.length : Int) = (↑g.snd.fst.length : Int) ∧
 g_2.snd.fst + (1 : Int) = g_2.snd.fst + (1 : Int) ∧ True) ∧
 ((True ∧
 g_2.fst.snd.fst = g_2.fst.snd.fst ∧
 g_2.fst.snd.snd.fst = g_2.fst.snd.snd.fst ∧
 g_2.fst.snd.snd.snd = g_2.fst.snd.snd.snd ∧ True) ∧
 g_2.fst.fst.set ((g_2.fst.snd.snd.snd + g_2.snd.fst) % x.fst).toNat
 (true, g.snd.fst.getD g_2.snd.fst.toNat (0 : Int)) =
 g_2.fst.fst.set ((g_2.fst.snd.snd.snd + g_2.snd.fst) % x.fst).toNat
 (true, g.snd.fst.getD g_2.snd.fst.toNat (0 : Int)) ∧
 (Value.slice none (0 : Nat) (0 : Nat) =
 Value.slice none (0 : Nat) (0 : Nat) ∧
 (0 : Int) = (0 : Int) ∧
 (0 : Int) = (0 : Int) ∧ (0 : Int) = (0 : Int) ∧ True) ∧
 g.fst = g.fst ∧
 g.snd.snd.snd.fst = g.snd.snd.snd.fst ∧ g.snd.fst = g.snd.fst ∧ True) ∧
 True) ∧
 (decide (g_2.snd.fst < (↑g.snd.fst.length : Int)) = false →
 g.fst = ([] : List Int) ∧
 g.snd.snd.snd.fst = ([] : List Int) ∧
 (g_2.fst.fst, g_2.fst.snd.fst, g_2.fst.snd.snd.fst, g_2.fst.snd.snd.snd) = (new x.fst).fst ∧
 (0 : Int) = (new x.fst).snd.fst))))

theorem E_none_eq (x : HL (cNone : Ctr).as) : vc (fx_none x) 1 53 Try.f53 (cNone) x = E_none x := by kernel_rfl

def E_same (x : (List (Bool × Int) × Int × Int × Int) × (List (Bool × Int) × Int × Int × Int) × Unit) : Prop :=
 ((!x.fst.snd.fst != x.snd.fst.snd.fst) = true → (!x.fst.snd.fst != x.snd.fst.snd.fst) = true) ∧
 ((!x.fst.snd.fst != x.snd.fst.snd.fst) = true → (!x.fst.snd.fst != x.snd.fst.snd.fst) = true) ∧
 ((!x.fst.snd.fst != x.snd.fst.snd.fst) = true → (!x.fst.snd.fst != x.snd.fst.snd.fst) = true ∧ (!x.fst.snd.fst != x.snd.fst.snd.fst) = true) ∧
 ((x.fst.snd.fst != x.snd.fst.snd.fst) = false → (!x.fst.snd.fst != x.snd.fst.snd.fst) = true) ∧
 ((!(x.fst.snd.fst != x.snd.fst.snd.fst || x.fst.snd.snd.fst != x.snd.fst.snd.snd.fst)) = true →
 (!(x.fst.snd.fst != x.snd.fst.snd.fst || x.fst.snd.snd.fst != x.snd.fst.snd.snd.fst)) = true) ∧
 ((!(x.fst.snd.fst != x.snd.fst.snd.fst || x.fst.snd.snd.fst != x.snd.fst.snd.snd.fst)) = true →
 (!(x.fst.snd.fst != x.snd.fst.snd.fst || x.fst.snd.snd.fst != x.snd.fst.snd.snd.fst)) = true) ∧
 ((!(x.fst.snd.fst != x.snd.fst.snd.fst || x.fst.snd.snd.fst != x.snd.fst.snd.snd.fst)) = true →
 (!(x.fst.snd.fst != x.snd.fst.snd.fst || x.fst.snd.snd.fst != x.snd.fst.snd.snd.fst)) = true ∧
 (!(x.fst.snd.fst != x.snd.fst.snd.fst || x.fst.snd.snd.fst != x.snd.fst.snd.snd.fst)) = true) ∧
 ((x.fst.snd.fst != x.snd.fst.snd.fst || x.fst.snd.snd.fst != x.snd.fst.snd.snd.fst) = false →
 (!(x.fst.snd.fst != x.snd.fst.snd.fst || x.fst.snd.snd.fst != x.snd.fst.snd.snd.fst)) = true) ∧
 ((!(x.fst.snd.fst != x.snd.fst.snd.fst || x.fst.snd.snd.fst != x.snd.fst.snd.snd.fst || x.fst.snd.snd.snd != x.snd.fst.snd.snd.snd)) =
 true →
 (!(x.fst.snd.fst != x.snd.fst.snd.fst || x.fst.snd.snd.fst != x.snd.fst.snd.snd.fst ||
 x.fst.snd.snd.snd != x.snd.fst.snd.snd.snd)) =
 true) ∧
 ((!(x.fst.snd.fst != x.snd.fst.snd.fst || x.fst.snd.snd.fst != x.snd.fst.snd.snd.fst ||
 x.fst.snd.snd.snd != x.snd.fst.snd.snd.snd)) =
 true →
 (!(x.fst.snd.fst != x.snd.fst.snd.fst || x.fst.snd.snd.fst != x.snd.fst.snd.snd.fst ||
 x.fst.snd.snd.snd != x.snd.fst.snd.snd.snd)) =
 true) ∧
 ((!(x.fst.snd.fst != x.snd.fst.snd.fst || x.fst.snd.snd.fst != x.snd.fst.snd.snd.fst ||
 x.fst.snd.snd.snd != x.snd.fst.snd.snd.snd)) =
 true →
 (!(x.fst.snd.fst != x.snd.fst.snd.fst || x.fst.snd.snd.fst != x.snd.fst.snd.snd.fst ||
 x.fst.snd.snd.snd != x.snd.fst.snd.snd.snd)) =
 true) ∧
 ((!(x.fst.snd.fst != x.snd.fst.snd.fst || x.fst.snd.snd.fst != x.snd.fst.snd.snd.fst ||
 x.fst.snd.snd.snd != x.snd.fst.snd.snd.snd)) =
 true →
 (!(x.fst.snd.fst != x.snd.fst.snd.fst || x.fst.snd.snd.fst != x.snd.fst.snd.snd.fst ||
 x.fst.snd.snd.snd != x.snd.fst.snd.snd.snd)) =
 true) ∧
 ((!(x.fst.snd.fst != x.snd.fst.snd.fst || x.fst.snd.snd.fst != x.snd.fst.snd.snd.fst ||
 x.fst.snd.snd.snd != x.snd.fst.snd.snd.snd)) =
 true →
 (!(x.fst.snd.fst != x.snd.fst.snd.fst || x.fst.snd.snd.fst != x.snd.fst.snd.snd.fst ||
 x.fst.snd.snd.snd != x.snd.fst.snd.snd.snd)) =
 true ∧
 (!(x.fst.snd.fst != x.snd.fst.snd.fst || x.fst.snd.snd.fst != x.snd.fst.snd.snd.fst ||
 x.fst.snd.snd.snd != x.snd.fst.snd.snd.snd)) =
 true) ∧
 ((x.fst.snd.fst != x.snd.fst.snd.fst || x.fst.snd.snd.fst != x.snd.fst.snd.snd.fst ||
 x.fst.snd.snd.snd != x.snd.fst.snd.snd.snd) =
 false →
 (!(x.fst.snd.fst != x.snd.fst.snd.fst || x.fst.snd.snd.fst != x.snd.fst.snd.snd.fst ||
 x.fst.snd.snd.snd != x.snd.fst.snd.snd.snd)) =
 true) ∧
 ((x.fst.snd.fst != x.snd.fst.snd.fst || x.fst.snd.snd.fst != x.snd.fst.snd.snd.fst ||
 x.fst.snd.snd.snd != x.snd.fst.snd.snd.snd ||
 (↑x.fst.fst.length : Int) != (↑x.snd.fst.fst.length : Int)) =
 true →
 false = decide (x.fst = x.snd.fst)) ∧
 ((x.fst.snd.fst != x.snd.fst.snd.fst || x.fst.snd.snd.fst != x.snd.fst.snd.snd.fst ||
 x.fst.snd.snd.snd != x.snd.fst.snd.snd.snd ||
 (↑x.fst.fst.length : Int) != (↑x.snd.fst.fst.length : Int)) =
 false →
 ((((0 : Int) ≤ (0 : Int) ∧
 (0 : Int) ≤ (↑x.fst.fst.length : Int) ∧
 List.take (Int.toNat (0 : Int)) x.fst.fst = List.take (Int.toNat (0 : Int)) x.snd.fst.fst) ∧
 True) ∧
 ((True ∧ True) ∧
 (True ∧ True) ∧ (↑x.fst.fst.length : Int) = (↑x.fst.fst.length : Int) ∧ (0 : Int) = (0 : Int) ∧ True) ∧
 ((x.fst.fst = x.fst.fst ∧
 x.fst.snd.fst = x.fst.snd.fst ∧
 x.fst.snd.snd.fst = x.fst.snd.snd.fst ∧ x.fst.snd.snd.snd = x.fst.snd.snd.snd ∧ True) ∧
 (x.snd.fst.fst = x.snd.fst.fst ∧
 x.snd.fst.snd.fst = x.snd.fst.snd.fst ∧
 x.snd.fst.snd.snd.fst = x.snd.fst.snd.snd.fst ∧
 x.snd.fst.snd.snd.snd = x.snd.fst.snd.snd.snd ∧ True) ∧
 True) ∧
 True) ∧
 ∀ (g : Int × Unit),
 (0 : Int) ≤ g.fst ∧
 g.fst ≤ (↑x.fst.fst.length : Int) ∧ List.take g.fst.toNat x.fst.fst = List.take g.fst.toNat x.snd.fst.fst →
 ((-9223372036854775808 : Int) ≤ g.fst ∧ g.fst ≤ (9223372036854775807 : Int)) ∧ True →
 (decide (g.fst < (↑x.fst.fst.length : Int)) = true →
 ((0 : Int) ≤ g.fst ∧ g.fst < (↑x.fst.fst.length : Int)) ∧
 ((0 : Int) ≤ g.fst ∧ g.fst < (↑x.snd.fst.fst.length : Int)) ∧
 ((!deq (Ty.bool.pair (Ty.int IntKind.i64))
 ((x.fst.fst.getD g.fst.toNat (false, (0 : Int))).fst,
 (x.fst.fst.getD g.fst.toNat (false, (0 : Int))).snd)
 ((x.snd.fst.fst.getD g.fst.toNat (false, (0 : Int))).fst,
 (x.snd.fst.fst.getD g.fst.toNat (false, (0 : Int))).snd)) =
 true →
 false = decide (x.fst = x.snd.fst)) ∧
 ((!deq (Ty.bool.pair (Ty.int IntKind.i64))
 ((x.fst.fst.getD g.fst.toNat (false, (0 : Int))).fst,
 (x.fst.fst.getD g.fst.toNat (false, (0 : Int))).snd)
 ((x.snd.fst.fst.getD g.fst.toNat (false, (0 : Int))).fst,
 (x.snd.fst.fst.getD g.fst.toNat (false, (0 : Int))).snd)) =
 false →
 ((-9223372036854775808 : Int) ≤ g.fst + (1 : Int) ∧
 g.fst + (1 : Int) ≤ (9223372036854775807 : Int)) ∧
 (((0 : Int) ≤ g.fst + (1 : Int) ∧
 g.fst + (1 : Int) ≤ (↑x.fst.fst.length : Int) ∧
 List.take (g.fst + (1 : Int)).toNat x.fst.fst =
 List.take (g.fst + (1 : Int)).toNat x.snd.fst.fst) ∧
 ((↑x.fst.fst.length : Int) - (g.fst + (1 : Int))).toNat <
 ((↑x.fst.fst.length : Int) - g.fst).toNat) ∧
 ((True ∧ True) ∧
 (True ∧ True) ∧
 (↑x.fst.fst.length : Int) = (↑x.fst.fst.length : Int) ∧
 g.fst + (1 : Int) = g.fst + (1 : Int) ∧ True) ∧
 ((x.fst.fst = x.fst.fst ∧
 x.fst.snd.fst = x.fst.snd.fst ∧
 x.fst.snd.snd.fst = x.fst.snd.snd.fst ∧
 x.fst.snd.snd.snd = x.fst.snd.snd.snd ∧ True) ∧
 (x.snd.fst.fst = x.snd.fst.fst ∧
 x.snd.fst.snd.fst = x.snd.fst.snd.fst ∧
 x.snd.fst.snd.snd.fst = x.snd.fst.snd.snd.fst ∧
 x.snd.fst.snd.snd.snd = x.snd.fst.snd.snd.snd ∧ True) ∧
 True) ∧
 True)) ∧
 (decide (g.fst < (↑x.fst.fst.length : Int)) = false → true = decide (x.fst = x.snd.fst)))

theorem E_same_eq (x : HL (cSame : Ctr).as) : vc (fx_same x) 1 55 Try.f55 (cSame) x = E_same x := by kernel_rfl

def E_steps (x : (List (Bool × Int) × Int × Int × Int) × (Int × Int) × Int × Unit) : Prop :=
 Holds True ∧
 Holds (x.fst.fst.length * (16 : Nat) ≤ (140737488355328 : Nat)) ∧
 Holds True ∧
 Holds True ∧
 Holds (([] : List (Int × Int)) = ([] : List (Int × Int))) ∧
 Holds True ∧
 ((right (x.fst.fst, x.fst.snd.fst, x.fst.snd.snd.fst, x.fst.snd.snd.snd) ==
 (parts (x.fst.fst, x.fst.snd.fst, x.fst.snd.snd.fst, x.fst.snd.snd.snd)).snd.snd.fst) =
 true →
 (right (x.fst.fst, x.fst.snd.fst, x.fst.snd.snd.fst, x.fst.snd.snd.snd) ==
 (parts (x.fst.fst, x.fst.snd.fst, x.fst.snd.snd.fst, x.fst.snd.snd.snd)).snd.snd.fst) =
 true ∧
 (right (x.fst.fst, x.fst.snd.fst, x.fst.snd.snd.fst, x.fst.snd.snd.snd) ==
 (parts (x.fst.fst, x.fst.snd.fst, x.fst.snd.snd.fst, x.fst.snd.snd.snd)).snd.snd.fst) =
 true) ∧
 ((right (x.fst.fst, x.fst.snd.fst, x.fst.snd.snd.fst, x.fst.snd.snd.snd) ==
 (parts (x.fst.fst, x.fst.snd.fst, x.fst.snd.snd.fst, x.fst.snd.snd.snd)).snd.snd.fst) =
 true →
 (right (x.fst.fst, x.fst.snd.fst, x.fst.snd.snd.fst, x.fst.snd.snd.snd) ==
 (parts (x.fst.fst, x.fst.snd.fst, x.fst.snd.snd.fst, x.fst.snd.snd.snd)).snd.snd.fst) =
 true) ∧
 ((right (x.fst.fst, x.fst.snd.fst, x.fst.snd.snd.fst, x.fst.snd.snd.snd) ==
 (parts (x.fst.fst, x.fst.snd.fst, x.fst.snd.snd.fst, x.fst.snd.snd.snd)).snd.snd.fst &&
 (step (x.fst.fst, x.fst.snd.fst, x.fst.snd.snd.fst, x.fst.snd.snd.snd) x.snd.fst.fst x.snd.fst.snd).snd.snd.fst ==
 (step (x.fst.fst, x.fst.snd.fst, x.fst.snd.snd.fst, x.fst.snd.snd.snd) x.snd.fst.fst x.snd.fst.snd).snd.snd.fst) =
 true →
 (right (x.fst.fst, x.fst.snd.fst, x.fst.snd.snd.fst, x.fst.snd.snd.snd) ==
 (parts (x.fst.fst, x.fst.snd.fst, x.fst.snd.snd.fst, x.fst.snd.snd.snd)).snd.snd.fst &&
 (step (x.fst.fst, x.fst.snd.fst, x.fst.snd.snd.fst, x.fst.snd.snd.snd) x.snd.fst.fst x.snd.fst.snd).snd.snd.fst ==
 (step (x.fst.fst, x.fst.snd.fst, x.fst.snd.snd.fst, x.fst.snd.snd.snd) x.snd.fst.fst x.snd.fst.snd).snd.snd.fst) =
 true ∧
 (right (x.fst.fst, x.fst.snd.fst, x.fst.snd.snd.fst, x.fst.snd.snd.snd) ==
 (parts (x.fst.fst, x.fst.snd.fst, x.fst.snd.snd.fst, x.fst.snd.snd.snd)).snd.snd.fst &&
 (step (x.fst.fst, x.fst.snd.fst, x.fst.snd.snd.fst, x.fst.snd.snd.snd) x.snd.fst.fst x.snd.fst.snd).snd.snd.fst ==
 (step (x.fst.fst, x.fst.snd.fst, x.fst.snd.snd.fst, x.fst.snd.snd.snd) x.snd.fst.fst x.snd.fst.snd).snd.snd.fst) =
 true) ∧
 ((right (x.fst.fst, x.fst.snd.fst, x.fst.snd.snd.fst, x.fst.snd.snd.snd) ==
 (parts (x.fst.fst, x.fst.snd.fst, x.fst.snd.snd.fst, x.fst.snd.snd.snd)).snd.snd.fst &&
 (step (x.fst.fst, x.fst.snd.fst, x.fst.snd.snd.fst, x.fst.snd.snd.snd) x.snd.fst.fst x.snd.fst.snd).snd.snd.fst ==
 (step (x.fst.fst, x.fst.snd.fst, x.fst.snd.snd.fst, x.fst.snd.snd.snd) x.snd.fst.fst x.snd.fst.snd).snd.snd.fst) =
 true →
 (right (x.fst.fst, x.fst.snd.fst, x.fst.snd.snd.fst, x.fst.snd.snd.snd) ==
 (parts (x.fst.fst, x.fst.snd.fst, x.fst.snd.snd.fst, x.fst.snd.snd.snd)).snd.snd.fst &&
 (step (x.fst.fst, x.fst.snd.fst, x.fst.snd.snd.fst, x.fst.snd.snd.snd) x.snd.fst.fst x.snd.fst.snd).snd.snd.fst ==
 (step (x.fst.fst, x.fst.snd.fst, x.fst.snd.snd.fst, x.fst.snd.snd.snd) x.snd.fst.fst x.snd.fst.snd).snd.snd.fst) =
 true) ∧
 ((right (x.fst.fst, x.fst.snd.fst, x.fst.snd.snd.fst, x.fst.snd.snd.snd) ==
 (parts (x.fst.fst, x.fst.snd.fst, x.fst.snd.snd.fst, x.fst.snd.snd.snd)).snd.snd.fst &&
 (step (x.fst.fst, x.fst.snd.fst, x.fst.snd.snd.fst, x.fst.snd.snd.snd) x.snd.fst.fst x.snd.fst.snd).snd.snd.fst ==
 (step (x.fst.fst, x.fst.snd.fst, x.fst.snd.snd.fst, x.fst.snd.snd.snd) x.snd.fst.fst x.snd.fst.snd).snd.snd.fst &&
 (step (x.fst.fst, x.fst.snd.fst, x.fst.snd.snd.fst, x.fst.snd.snd.snd) x.snd.fst.fst x.snd.fst.snd).snd.fst ==
 (step (x.fst.fst, x.fst.snd.fst, x.fst.snd.snd.fst, x.fst.snd.snd.snd) x.snd.fst.fst x.snd.fst.snd).snd.fst) =
 true →
 Holds True ∧
 (decide
 (((step (x.fst.fst, x.fst.snd.fst, x.fst.snd.snd.fst, x.fst.snd.snd.snd) x.snd.fst.fst x.snd.fst.snd).fst.fst,
 (step (x.fst.fst, x.fst.snd.fst, x.fst.snd.snd.fst, x.fst.snd.snd.snd) x.snd.fst.fst x.snd.fst.snd).fst.snd.fst,
 (step (x.fst.fst, x.fst.snd.fst, x.fst.snd.snd.fst, x.fst.snd.snd.snd) x.snd.fst.fst
 x.snd.fst.snd).fst.snd.snd.fst,
 (step (x.fst.fst, x.fst.snd.fst, x.fst.snd.snd.fst, x.fst.snd.snd.snd) x.snd.fst.fst
 x.snd.fst.snd).fst.snd.snd.snd) =
 ((step (x.fst.fst, x.fst.snd.fst, x.fst.snd.snd.fst, x.fst.snd.snd.snd) x.snd.fst.fst x.snd.fst.snd).fst.fst,
 (step (x.fst.fst, x.fst.snd.fst, x.fst.snd.snd.fst, x.fst.snd.snd.snd) x.snd.fst.fst x.snd.fst.snd).fst.snd.fst,
 (step (x.fst.fst, x.fst.snd.fst, x.fst.snd.snd.fst, x.fst.snd.snd.snd) x.snd.fst.fst
 x.snd.fst.snd).fst.snd.snd.fst,
 (step (x.fst.fst, x.fst.snd.fst, x.fst.snd.snd.fst, x.fst.snd.snd.snd) x.snd.fst.fst
 x.snd.fst.snd).fst.snd.snd.snd)) =
 true →
 decide
 (((step (x.fst.fst, x.fst.snd.fst, x.fst.snd.snd.fst, x.fst.snd.snd.snd) x.snd.fst.fst x.snd.fst.snd).fst.fst,
 (step (x.fst.fst, x.fst.snd.fst, x.fst.snd.snd.fst, x.fst.snd.snd.snd) x.snd.fst.fst
 x.snd.fst.snd).fst.snd.fst,
 (step (x.fst.fst, x.fst.snd.fst, x.fst.snd.snd.fst, x.fst.snd.snd.snd) x.snd.fst.fst
 x.snd.fst.snd).fst.snd.snd.fst,
 (step (x.fst.fst, x.fst.snd.fst, x.fst.snd.snd.fst, x.fst.snd.snd.snd) x.snd.fst.fst
 x.snd.fst.snd).fst.snd.snd.snd) =
 ((step (x.fst.fst, x.fst.snd.fst, x.fst.snd.snd.fst, x.fst.snd.snd.snd) x.snd.fst.fst x.snd.fst.snd).fst.fst,
 (step (x.fst.fst, x.fst.snd.fst, x.fst.snd.snd.fst, x.fst.snd.snd.snd) x.snd.fst.fst
 x.snd.fst.snd).fst.snd.fst,
 (step (x.fst.fst, x.fst.snd.fst, x.fst.snd.snd.fst, x.fst.snd.snd.snd) x.snd.fst.fst
 x.snd.fst.snd).fst.snd.snd.fst,
 (step (x.fst.fst, x.fst.snd.fst, x.fst.snd.snd.fst, x.fst.snd.snd.snd) x.snd.fst.fst
 x.snd.fst.snd).fst.snd.snd.snd)) =
 true ∧
 decide
 (((step (x.fst.fst, x.fst.snd.fst, x.fst.snd.snd.fst, x.fst.snd.snd.snd) x.snd.fst.fst x.snd.fst.snd).fst.fst,
 (step (x.fst.fst, x.fst.snd.fst, x.fst.snd.snd.fst, x.fst.snd.snd.snd) x.snd.fst.fst
 x.snd.fst.snd).fst.snd.fst,
 (step (x.fst.fst, x.fst.snd.fst, x.fst.snd.snd.fst, x.fst.snd.snd.snd) x.snd.fst.fst
 x.snd.fst.snd).fst.snd.snd.fst,
 (step (x.fst.fst, x.fst.snd.fst, x.fst.snd.snd.fst, x.fst.snd.snd.snd) x.snd.fst.fst
 x.snd.fst.snd).fst.snd.snd.snd) =
 ((step (x.fst.fst, x.fst.snd.fst, x.fst.snd.snd.fst, x.fst.snd.snd.snd) x.snd.fst.fst x.snd.fst.snd).fst.fst,
 (step (x.fst.fst, x.fst.snd.fst, x.fst.snd.snd.fst, x.fst.snd.snd.snd) x.snd.fst.fst
 x.snd.fst.snd).fst.snd.fst,
 (step (x.fst.fst, x.fst.snd.fst, x.fst.snd.snd.fst, x.fst.snd.snd.snd) x.snd.fst.fst
 x.snd.fst.snd).fst.snd.snd.fst,
 (step (x.fst.fst, x.fst.snd.fst, x.fst.snd.snd.fst, x.fst.snd.snd.snd) x.snd.fst.fst
 x.snd.fst.snd).fst.snd.snd.snd)) =
 true) ∧
 (decide
 (((step (x.fst.fst, x.fst.snd.fst, x.fst.snd.snd.fst, x.fst.snd.snd.snd) x.snd.fst.fst x.snd.fst.snd).fst.fst,
 (step (x.fst.fst, x.fst.snd.fst, x.fst.snd.snd.fst, x.fst.snd.snd.snd) x.snd.fst.fst
 x.snd.fst.snd).fst.snd.fst,
 (step (x.fst.fst, x.fst.snd.fst, x.fst.snd.snd.fst, x.fst.snd.snd.snd) x.snd.fst.fst
 x.snd.fst.snd).fst.snd.snd.fst,
 (step (x.fst.fst, x.fst.snd.fst, x.fst.snd.snd.fst, x.fst.snd.snd.snd) x.snd.fst.fst
 x.snd.fst.snd).fst.snd.snd.snd) =
 ((step (x.fst.fst, x.fst.snd.fst, x.fst.snd.snd.fst, x.fst.snd.snd.snd) x.snd.fst.fst x.snd.fst.snd).fst.fst,
 (step (x.fst.fst, x.fst.snd.fst, x.fst.snd.snd.fst, x.fst.snd.snd.snd) x.snd.fst.fst
 x.snd.fst.snd).fst.snd.fst,
 (step (x.fst.fst, x.fst.snd.fst, x.fst.snd.snd.fst, x.fst.snd.snd.snd) x.snd.fst.fst
 x.snd.fst.snd).fst.snd.snd.fst,
 (step (x.fst.fst, x.fst.snd.fst, x.fst.snd.snd.fst, x.fst.snd.snd.snd) x.snd.fst.fst
 x.snd.fst.snd).fst.snd.snd.snd)) =
 true →
 decide
 (((step (x.fst.fst, x.fst.snd.fst, x.fst.snd.snd.fst, x.fst.snd.snd.snd) x.snd.fst.fst x.snd.fst.snd).fst.fst,
 (step (x.fst.fst, x.fst.snd.fst, x.fst.snd.snd.fst, x.fst.snd.snd.snd) x.snd.fst.fst
 x.snd.fst.snd).fst.snd.fst,
 (step (x.fst.fst, x.fst.snd.fst, x.fst.snd.snd.fst, x.fst.snd.snd.snd) x.snd.fst.fst
 x.snd.fst.snd).fst.snd.snd.fst,
 (step (x.fst.fst, x.fst.snd.fst, x.fst.snd.snd.fst, x.fst.snd.snd.snd) x.snd.fst.fst
 x.snd.fst.snd).fst.snd.snd.snd) =
 ((step (x.fst.fst, x.fst.snd.fst, x.fst.snd.snd.fst, x.fst.snd.snd.snd) x.snd.fst.fst x.snd.fst.snd).fst.fst,
 (step (x.fst.fst, x.fst.snd.fst, x.fst.snd.snd.fst, x.fst.snd.snd.snd) x.snd.fst.fst
 x.snd.fst.snd).fst.snd.fst,
 (step (x.fst.fst, x.fst.snd.fst, x.fst.snd.snd.fst, x.fst.snd.snd.snd) x.snd.fst.fst
 x.snd.fst.snd).fst.snd.snd.fst,
 (step (x.fst.fst, x.fst.snd.fst, x.fst.snd.snd.fst, x.fst.snd.snd.snd) x.snd.fst.fst
 x.snd.fst.snd).fst.snd.snd.snd)) =
 true) ∧
 ((decide
 (((step (x.fst.fst, x.fst.snd.fst, x.fst.snd.snd.fst, x.fst.snd.snd.snd) x.snd.fst.fst x.snd.fst.snd).fst.fst,
 (step (x.fst.fst, x.fst.snd.fst, x.fst.snd.snd.fst, x.fst.snd.snd.snd) x.snd.fst.fst
 x.snd.fst.snd).fst.snd.fst,
 (step (x.fst.fst, x.fst.snd.fst, x.fst.snd.snd.fst, x.fst.snd.snd.snd) x.snd.fst.fst
 x.snd.fst.snd).fst.snd.snd.fst,
 (step (x.fst.fst, x.fst.snd.fst, x.fst.snd.snd.fst, x.fst.snd.snd.snd) x.snd.fst.fst
 x.snd.fst.snd).fst.snd.snd.snd) =
 ((step (x.fst.fst, x.fst.snd.fst, x.fst.snd.snd.fst, x.fst.snd.snd.snd) x.snd.fst.fst
 x.snd.fst.snd).fst.fst,
 (step (x.fst.fst, x.fst.snd.fst, x.fst.snd.snd.fst, x.fst.snd.snd.snd) x.snd.fst.fst
 x.snd.fst.snd).fst.snd.fst,
 (step (x.fst.fst, x.fst.snd.fst, x.fst.snd.snd.fst, x.fst.snd.snd.snd) x.snd.fst.fst
 x.snd.fst.snd).fst.snd.snd.fst,
 (step (x.fst.fst, x.fst.snd.fst, x.fst.snd.snd.fst, x.fst.snd.snd.snd) x.snd.fst.fst
 x.snd.fst.snd).fst.snd.snd.snd)) &&
 (new x.snd.snd.fst).snd.fst == (new x.snd.snd.fst).snd.fst) =
 true →
 Holds True ∧
 decide
 (((new x.snd.snd.fst).fst.fst, (new x.snd.snd.fst).fst.snd.fst, (new x.snd.snd.fst).fst.snd.snd.fst,
 (new x.snd.snd.fst).fst.snd.snd.snd) =
 ((new x.snd.snd.fst).fst.fst, (new x.snd.snd.fst).fst.snd.fst, (new x.snd.snd.fst).fst.snd.snd.fst,
 (new x.snd.snd.fst).fst.snd.snd.snd)) =
 true) ∧
 ((decide
 (((step (x.fst.fst, x.fst.snd.fst, x.fst.snd.snd.fst, x.fst.snd.snd.snd) x.snd.fst.fst x.snd.fst.snd).fst.fst,
 (step (x.fst.fst, x.fst.snd.fst, x.fst.snd.snd.fst, x.fst.snd.snd.snd) x.snd.fst.fst
 x.snd.fst.snd).fst.snd.fst,
 (step (x.fst.fst, x.fst.snd.fst, x.fst.snd.snd.fst, x.fst.snd.snd.snd) x.snd.fst.fst
 x.snd.fst.snd).fst.snd.snd.fst,
 (step (x.fst.fst, x.fst.snd.fst, x.fst.snd.snd.fst, x.fst.snd.snd.snd) x.snd.fst.fst
 x.snd.fst.snd).fst.snd.snd.snd) =
 ((step (x.fst.fst, x.fst.snd.fst, x.fst.snd.snd.fst, x.fst.snd.snd.snd) x.snd.fst.fst
 x.snd.fst.snd).fst.fst,
 (step (x.fst.fst, x.fst.snd.fst, x.fst.snd.snd.fst, x.fst.snd.snd.snd) x.snd.fst.fst
 x.snd.fst.snd).fst.snd.fst,
 (step (x.fst.fst, x.fst.snd.fst, x.fst.snd.snd.fst, x.fst.snd.snd.snd) x.snd.fst.fst
 x.snd.fst.snd).fst.snd.snd.fst,
 (step (x.fst.fst, x.fst.snd.fst, x.fst.snd.snd.fst, x.fst.snd.snd.snd) x.snd.fst.fst
 x.snd.fst.snd).fst.snd.snd.snd)) &&
 (new x.snd.snd.fst).snd.fst == (new x.snd.snd.fst).snd.fst) =
 !true →
 false = true)) ∧
 ((right (x.fst.fst, x.fst.snd.fst, x.fst.snd.snd.fst, x.fst.snd.snd.snd) ==
 (parts (x.fst.fst, x.fst.snd.fst, x.fst.snd.snd.fst, x.fst.snd.snd.snd)).snd.snd.fst &&
 (step (x.fst.fst, x.fst.snd.fst, x.fst.snd.snd.fst, x.fst.snd.snd.snd) x.snd.fst.fst x.snd.fst.snd).snd.snd.fst ==
 (step (x.fst.fst, x.fst.snd.fst, x.fst.snd.snd.fst, x.fst.snd.snd.snd) x.snd.fst.fst x.snd.fst.snd).snd.snd.fst &&
 (step (x.fst.fst, x.fst.snd.fst, x.fst.snd.snd.fst, x.fst.snd.snd.snd) x.snd.fst.fst x.snd.fst.snd).snd.fst ==
 (step (x.fst.fst, x.fst.snd.fst, x.fst.snd.snd.fst, x.fst.snd.snd.snd) x.snd.fst.fst x.snd.fst.snd).snd.fst) =
 !true →
 false = true)

theorem E_steps_eq (x : HL (cLaw : Ctr).as) : vc (fx_steps x) 1 11 Try.f11 (cLaw) x = E_steps x := by kernel_rfl

end Go.Proofs.Ytollphjlheabdaa.Ring
