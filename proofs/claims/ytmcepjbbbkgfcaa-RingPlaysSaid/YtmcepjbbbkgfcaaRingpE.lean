/-
  The conditions that the executor comes to, written out (by a tool of ours), and that they are the conditions (by the kernel).
-/
import Derived.Test.YtmcepjbbbkgfcaaRingpC
namespace Go.Proofs.Ytmcepjbbbkgfcaa.Ringp
open Go.Sx
set_option maxRecDepth 100000

def E_clone (x : List (Bool × Int) × Unit) : Prop :=
 ∀ (b : Bool),
 (b = true → x.fst = ([] : List (Bool × Int))) →
 (b = true → ([] : List (Bool × Int)) = x.fst) ∧
 (b = false →
 (([] : List (Bool × Int)).length + x.fst.length ≤ (9223372036854775807 : Nat) ∧
 (([] : List (Bool × Int)).length + x.fst.length + (([] : List (Bool × Int)).length + x.fst.length) / (4 : Nat) + (192 : Nat)) *
 (16 : Nat) ≤
 (281474976710656 : Nat)) ∧
 ([] : List (Bool × Int)) ++ x.fst = x.fst)

theorem E_clone_eq (x : HL (cClone : Ctr).as) : vc (fx_clone x) 1 89 Try.f89 (cClone) x = E_clone x := by kernel_rfl

def E_ahead (x : (List (Bool × Int) × Int × Int × Int) × Int × Int × Unit) : Prop :=
 ((-9223372036854775808 : Int) ≤ x.snd.snd.fst - x.snd.fst ∧ x.snd.snd.fst - x.snd.fst ≤ (9223372036854775807 : Int)) ∧
 ((-9223372036854775808 : Int) ≤ x.snd.snd.fst - x.snd.fst + (↑x.fst.fst.length : Int) ∧
 x.snd.snd.fst - x.snd.fst + (↑x.fst.fst.length : Int) ≤ (9223372036854775807 : Int)) ∧
 ((0 : Int) ≤ x.snd.snd.fst - x.snd.fst + (↑x.fst.fst.length : Int) ∧ (0 : Int) < (↑x.fst.fst.length : Int)) ∧
 (x.snd.snd.fst - x.snd.fst + (↑x.fst.fst.length : Int)) % (↑x.fst.fst.length : Int) = ah (↑x.fst.fst.length : Int) x.snd.fst x.snd.snd.fst

theorem E_ahead_eq (x : HL (cAhead : Ctr).as) : vc (fx_ahead x) 1 90 Try.f90 (cAhead) x = E_ahead x := by kernel_rfl

def E_right (x : (List (Bool × Int) × Int × Int × Int) × Unit) : Prop :=
 (decide ((↑x.fst.fst.length : Int) < (2 : Int)) = false →
 (decide ((64 : Int) < (↑x.fst.fst.length : Int)) = false →
 (decide (min (min x.fst.snd.fst x.fst.snd.snd.fst) x.fst.snd.snd.snd < (0 : Int)) = false →
 (decide ((↑x.fst.fst.length : Int) ≤ max (max x.fst.snd.fst x.fst.snd.snd.fst) x.fst.snd.snd.snd) = false →
 Holds
 ((0 : Int) ≤ x.fst.snd.snd.fst ∧
 x.fst.snd.snd.fst < (↑x.fst.fst.length : Int) ∧
 (0 : Int) ≤ x.fst.snd.snd.snd ∧ x.fst.snd.snd.snd < (↑x.fst.fst.length : Int) ∧ (↑x.fst.fst.length : Int) ≤ (64 : Int)) ∧
 Holds
 ((0 : Int) ≤ x.fst.snd.snd.fst ∧
 x.fst.snd.snd.fst < (↑x.fst.fst.length : Int) ∧
 (0 : Int) ≤ x.fst.snd.fst ∧ x.fst.snd.fst < (↑x.fst.fst.length : Int) ∧ (↑x.fst.fst.length : Int) ≤ (64 : Int)) ∧
 (decide
 (ah (↑x.fst.fst.length : Int) x.fst.snd.snd.fst x.fst.snd.fst <
 ah (↑x.fst.fst.length : Int) x.fst.snd.snd.fst x.fst.snd.snd.snd) =
 true →
 false = right x.fst) ∧
 (decide
 (ah (↑x.fst.fst.length : Int) x.fst.snd.snd.fst x.fst.snd.fst <
 ah (↑x.fst.fst.length : Int) x.fst.snd.snd.fst x.fst.snd.snd.snd) =
 false →
 ((((0 : Int) ≤ (0 : Int) ∧ (0 : Int) ≤ (↑x.fst.fst.length : Int) ∧ ∀ (i : Int), (0 : Int) ≤ i → i < (0 : Int) → okC x.fst i) ∧
 True) ∧
 ((True ∧ True) ∧
 x.fst.fst = x.fst.fst ∧ (↑x.fst.fst.length : Int) = (↑x.fst.fst.length : Int) ∧ (0 : Int) = (0 : Int) ∧ True) ∧
 ((x.fst.fst = x.fst.fst ∧
 x.fst.snd.fst = x.fst.snd.fst ∧
 x.fst.snd.snd.fst = x.fst.snd.snd.fst ∧ x.fst.snd.snd.snd = x.fst.snd.snd.snd ∧ True) ∧
 True) ∧
 True) ∧
 ∀ (g : Int × Unit),
 ((0 : Int) ≤ g.fst ∧ g.fst ≤ (↑x.fst.fst.length : Int) ∧ ∀ (i : Int), (0 : Int) ≤ i → i < g.fst → okC x.fst i) →
 ((-9223372036854775808 : Int) ≤ g.fst ∧ g.fst ≤ (9223372036854775807 : Int)) ∧ True →
 (decide (g.fst < (↑x.fst.fst.length : Int)) = true →
 ((0 : Int) ≤ g.fst ∧ g.fst < (↑x.fst.fst.length : Int)) ∧
 Holds
 ((0 : Int) ≤ x.fst.snd.snd.fst ∧
 x.fst.snd.snd.fst < (↑x.fst.fst.length : Int) ∧
 (0 : Int) ≤ g.fst ∧ g.fst < (↑x.fst.fst.length : Int) ∧ (↑x.fst.fst.length : Int) ≤ (64 : Int)) ∧
 Holds
 ((0 : Int) ≤ x.fst.snd.snd.fst ∧
 x.fst.snd.snd.fst < (↑x.fst.fst.length : Int) ∧
 (0 : Int) ≤ x.fst.snd.snd.snd ∧
 x.fst.snd.snd.snd < (↑x.fst.fst.length : Int) ∧ (↑x.fst.fst.length : Int) ≤ (64 : Int)) ∧
 (decide
 (ah (↑x.fst.fst.length : Int) x.fst.snd.snd.fst x.fst.snd.snd.snd ≤
 ah (↑x.fst.fst.length : Int) x.fst.snd.snd.fst g.fst) =
 true →
 Holds
 ((0 : Int) ≤ x.fst.snd.snd.fst ∧
 x.fst.snd.snd.fst < (↑x.fst.fst.length : Int) ∧
 (0 : Int) ≤ x.fst.snd.fst ∧
 x.fst.snd.fst < (↑x.fst.fst.length : Int) ∧ (↑x.fst.fst.length : Int) ≤ (64 : Int)) ∧
 decide
 (ah (↑x.fst.fst.length : Int) x.fst.snd.snd.fst x.fst.snd.snd.snd ≤
 ah (↑x.fst.fst.length : Int) x.fst.snd.snd.fst g.fst) =
 true ∧
 (((x.fst.fst.getD g.fst.toNat (false, (0 : Int))).fst !=
 decide
 (ah (↑x.fst.fst.length : Int) x.fst.snd.snd.fst g.fst <
 ah (↑x.fst.fst.length : Int) x.fst.snd.snd.fst x.fst.snd.fst)) =
 false →
 Holds
 ((0 : Int) ≤ x.fst.snd.snd.fst ∧
 x.fst.snd.snd.fst < (↑x.fst.fst.length : Int) ∧
 (0 : Int) ≤ x.fst.snd.fst ∧
 x.fst.snd.fst < (↑x.fst.fst.length : Int) ∧ (↑x.fst.fst.length : Int) ≤ (64 : Int)) ∧
 (!(x.fst.fst.getD g.fst.toNat (false, (0 : Int))).fst !=
 decide
 (ah (↑x.fst.fst.length : Int) x.fst.snd.snd.fst g.fst <
 ah (↑x.fst.fst.length : Int) x.fst.snd.snd.fst x.fst.snd.fst)) =
 true ∧
 (decide
 (ah (↑x.fst.fst.length : Int) x.fst.snd.snd.fst x.fst.snd.fst ≤
 ah (↑x.fst.fst.length : Int) x.fst.snd.snd.fst g.fst) =
 true →
 decide
 (ah (↑x.fst.fst.length : Int) x.fst.snd.snd.fst x.fst.snd.fst ≤
 ah (↑x.fst.fst.length : Int) x.fst.snd.snd.fst g.fst) =
 true) ∧
 (decide
 (ah (↑x.fst.fst.length : Int) x.fst.snd.snd.fst x.fst.snd.fst ≤
 ah (↑x.fst.fst.length : Int) x.fst.snd.snd.fst g.fst) =
 true →
 decide
 (ah (↑x.fst.fst.length : Int) x.fst.snd.snd.fst x.fst.snd.fst ≤
 ah (↑x.fst.fst.length : Int) x.fst.snd.snd.fst g.fst) =
 true) ∧
 (decide
 (ah (↑x.fst.fst.length : Int) x.fst.snd.snd.fst x.fst.snd.fst ≤
 ah (↑x.fst.fst.length : Int) x.fst.snd.snd.fst g.fst) =
 true →
 decide
 (ah (↑x.fst.fst.length : Int) x.fst.snd.snd.fst x.fst.snd.fst ≤
 ah (↑x.fst.fst.length : Int) x.fst.snd.snd.fst g.fst) =
 true) ∧
 ((decide
 (ah (↑x.fst.fst.length : Int) x.fst.snd.snd.fst x.fst.snd.fst ≤
 ah (↑x.fst.fst.length : Int) x.fst.snd.snd.fst g.fst) &&
 (x.fst.fst.getD g.fst.toNat (false, (0 : Int))).snd != (0 : Int)) =
 true →
 false = right x.fst) ∧
 ((decide
 (ah (↑x.fst.fst.length : Int) x.fst.snd.snd.fst x.fst.snd.fst ≤
 ah (↑x.fst.fst.length : Int) x.fst.snd.snd.fst g.fst) &&
 (x.fst.fst.getD g.fst.toNat (false, (0 : Int))).snd != (0 : Int)) =
 false →
 ((-9223372036854775808 : Int) ≤ g.fst + (1 : Int) ∧
 g.fst + (1 : Int) ≤ (9223372036854775807 : Int)) ∧
 (((0 : Int) ≤ g.fst + (1 : Int) ∧
 g.fst + (1 : Int) ≤ (↑x.fst.fst.length : Int) ∧
 ∀ (i : Int), (0 : Int) ≤ i → i < g.fst + (1 : Int) → okC x.fst i) ∧
 ((↑x.fst.fst.length : Int) - (g.fst + (1 : Int))).toNat <
 ((↑x.fst.fst.length : Int) - g.fst).toNat) ∧
 ((True ∧ True) ∧
 x.fst.fst = x.fst.fst ∧
 (↑x.fst.fst.length : Int) = (↑x.fst.fst.length : Int) ∧
 g.fst + (1 : Int) = g.fst + (1 : Int) ∧ True) ∧
 ((x.fst.fst = x.fst.fst ∧
 x.fst.snd.fst = x.fst.snd.fst ∧
 x.fst.snd.snd.fst = x.fst.snd.snd.fst ∧
 x.fst.snd.snd.snd = x.fst.snd.snd.snd ∧ True) ∧
 True) ∧
 True)) ∧
 (((x.fst.fst.getD g.fst.toNat (false, (0 : Int))).fst !=
 decide
 (ah (↑x.fst.fst.length : Int) x.fst.snd.snd.fst g.fst <
 ah (↑x.fst.fst.length : Int) x.fst.snd.snd.fst x.fst.snd.fst)) =
 !false →
 false = right x.fst)) ∧
 (decide
 (ah (↑x.fst.fst.length : Int) x.fst.snd.snd.fst x.fst.snd.snd.snd ≤
 ah (↑x.fst.fst.length : Int) x.fst.snd.snd.fst g.fst) =
 !true →
 (((x.fst.fst.getD g.fst.toNat (false, (0 : Int))).fst != false) = false →
 Holds
 ((0 : Int) ≤ x.fst.snd.snd.fst ∧
 x.fst.snd.snd.fst < (↑x.fst.fst.length : Int) ∧
 (0 : Int) ≤ x.fst.snd.fst ∧
 x.fst.snd.fst < (↑x.fst.fst.length : Int) ∧ (↑x.fst.fst.length : Int) ≤ (64 : Int)) ∧
 (!(x.fst.fst.getD g.fst.toNat (false, (0 : Int))).fst != false) = true ∧
 (decide
 (ah (↑x.fst.fst.length : Int) x.fst.snd.snd.fst x.fst.snd.fst ≤
 ah (↑x.fst.fst.length : Int) x.fst.snd.snd.fst g.fst) =
 true →
 decide
 (ah (↑x.fst.fst.length : Int) x.fst.snd.snd.fst x.fst.snd.fst ≤
 ah (↑x.fst.fst.length : Int) x.fst.snd.snd.fst g.fst) =
 true) ∧
 (decide
 (ah (↑x.fst.fst.length : Int) x.fst.snd.snd.fst x.fst.snd.fst ≤
 ah (↑x.fst.fst.length : Int) x.fst.snd.snd.fst g.fst) =
 true →
 decide
 (ah (↑x.fst.fst.length : Int) x.fst.snd.snd.fst x.fst.snd.fst ≤
 ah (↑x.fst.fst.length : Int) x.fst.snd.snd.fst g.fst) =
 true) ∧
 (decide
 (ah (↑x.fst.fst.length : Int) x.fst.snd.snd.fst x.fst.snd.fst ≤
 ah (↑x.fst.fst.length : Int) x.fst.snd.snd.fst g.fst) =
 true →
 decide
 (ah (↑x.fst.fst.length : Int) x.fst.snd.snd.fst x.fst.snd.fst ≤
 ah (↑x.fst.fst.length : Int) x.fst.snd.snd.fst g.fst) =
 true) ∧
 ((decide
 (ah (↑x.fst.fst.length : Int) x.fst.snd.snd.fst x.fst.snd.fst ≤
 ah (↑x.fst.fst.length : Int) x.fst.snd.snd.fst g.fst) &&
 (x.fst.fst.getD g.fst.toNat (false, (0 : Int))).snd != (0 : Int)) =
 true →
 false = right x.fst) ∧
 ((decide
 (ah (↑x.fst.fst.length : Int) x.fst.snd.snd.fst x.fst.snd.fst ≤
 ah (↑x.fst.fst.length : Int) x.fst.snd.snd.fst g.fst) &&
 (x.fst.fst.getD g.fst.toNat (false, (0 : Int))).snd != (0 : Int)) =
 false →
 ((-9223372036854775808 : Int) ≤ g.fst + (1 : Int) ∧
 g.fst + (1 : Int) ≤ (9223372036854775807 : Int)) ∧
 (((0 : Int) ≤ g.fst + (1 : Int) ∧
 g.fst + (1 : Int) ≤ (↑x.fst.fst.length : Int) ∧
 ∀ (i : Int), (0 : Int) ≤ i → i < g.fst + (1 : Int) → okC x.fst i) ∧
 ((↑x.fst.fst.length : Int) - (g.fst + (1 : Int))).toNat <
 ((↑x.fst.fst.length : Int) - g.fst).toNat) ∧
 ((True ∧ True) ∧
 x.fst.fst = x.fst.fst ∧
 (↑x.fst.fst.length : Int) = (↑x.fst.fst.length : Int) ∧
 g.fst + (1 : Int) = g.fst + (1 : Int) ∧ True) ∧
 ((x.fst.fst = x.fst.fst ∧
 x.fst.snd.fst = x.fst.snd.fst ∧
 x.fst.snd.snd.fst = x.fst.snd.snd.fst ∧
 x.fst.snd.snd.snd = x.fst.snd.snd.snd ∧ True) ∧
 True) ∧
 True)) ∧
 (((x.fst.fst.getD g.fst.toNat (false, (0 : Int))).fst != false) = !false → false = right x.fst))) ∧
 (decide (g.fst < (↑x.fst.fst.length : Int)) = false → true = right x.fst))) ∧
 (decide ((↑x.fst.fst.length : Int) ≤ max (max x.fst.snd.fst x.fst.snd.snd.fst) x.fst.snd.snd.snd) = !false → false = right x.fst)) ∧
 (decide (min (min x.fst.snd.fst x.fst.snd.snd.fst) x.fst.snd.snd.snd < (0 : Int)) = !false → false = right x.fst)) ∧
 (decide ((64 : Int) < (↑x.fst.fst.length : Int)) = !false → false = right x.fst)) ∧
 (decide ((↑x.fst.fst.length : Int) < (2 : Int)) = !false → false = right x.fst)

theorem E_right_eq (x : HL (cRight : Ctr).as) : vc (fx_right x) 1 88 Try.f88 (cRight) x = E_right x := by kernel_rfl

def E_step (x : (List (Bool × Int) × Int × Int × Int) × (Int × Int) × Unit) : Prop :=
 Holds True ∧
 ((!right (x.fst.fst, x.fst.snd.fst, x.fst.snd.snd.fst, x.fst.snd.snd.snd)) = true →
 (([] : List (Bool × Int)), (0 : Int), (0 : Int), (0 : Int)) = (step x.fst x.snd.fst.fst x.snd.fst.snd).fst ∧
 (0 : Int) = (step x.fst x.snd.fst.fst x.snd.fst.snd).snd.fst ∧ (1 : Int) = (step x.fst x.snd.fst.fst x.snd.fst.snd).snd.snd.fst) ∧
 ((!right (x.fst.fst, x.fst.snd.fst, x.fst.snd.snd.fst, x.fst.snd.snd.snd)) = false →
 Holds (x.fst.fst.length * (16 : Nat) ≤ (140737488355328 : Nat)) ∧
 ((x.snd.fst.fst == (1 : Int)) = true →
 Holds
 ((0 : Int) ≤ x.fst.snd.snd.fst ∧
 x.fst.snd.snd.fst < (↑x.fst.fst.length : Int) ∧
 (0 : Int) ≤ x.fst.snd.fst ∧ x.fst.snd.fst < (↑x.fst.fst.length : Int) ∧ (↑x.fst.fst.length : Int) ≤ (64 : Int)) ∧
 ((-9223372036854775808 : Int) ≤ (↑x.fst.fst.length : Int) - (1 : Int) ∧
 (↑x.fst.fst.length : Int) - (1 : Int) ≤ (9223372036854775807 : Int)) ∧
 ((ah (↑x.fst.fst.length : Int) x.fst.snd.snd.fst x.fst.snd.fst == (↑x.fst.fst.length : Int) - (1 : Int)) = true →
 (([] : List (Bool × Int)), (0 : Int), (0 : Int), (0 : Int)) = (step x.fst x.snd.fst.fst x.snd.fst.snd).fst ∧
 (0 : Int) = (step x.fst x.snd.fst.fst x.snd.fst.snd).snd.fst ∧
 (7 : Int) = (step x.fst x.snd.fst.fst x.snd.fst.snd).snd.snd.fst) ∧
 ((ah (↑x.fst.fst.length : Int) x.fst.snd.snd.fst x.fst.snd.fst == (↑x.fst.fst.length : Int) - (1 : Int)) = false →
 ((0 : Int) ≤ x.fst.snd.fst ∧ x.fst.snd.fst < (↑x.fst.fst.length : Int)) ∧
 ((-9223372036854775808 : Int) ≤ x.fst.snd.fst + (1 : Int) ∧ x.fst.snd.fst + (1 : Int) ≤ (9223372036854775807 : Int)) ∧
 ((0 : Int) ≤ x.fst.snd.fst + (1 : Int) ∧ (0 : Int) < (↑x.fst.fst.length : Int)) ∧
 (x.fst.fst.set x.fst.snd.fst.toNat (true, x.snd.fst.snd), (x.fst.snd.fst + (1 : Int)) % (↑x.fst.fst.length : Int),
 x.fst.snd.snd.fst, x.fst.snd.snd.snd) =
 (step x.fst x.snd.fst.fst x.snd.fst.snd).fst ∧
 (0 : Int) = (step x.fst x.snd.fst.fst x.snd.fst.snd).snd.fst ∧
 (0 : Int) = (step x.fst x.snd.fst.fst x.snd.fst.snd).snd.snd.fst)) ∧
 ((x.snd.fst.fst == (1 : Int)) = false →
 ((x.snd.fst.fst == (2 : Int)) = true →
 ((x.fst.snd.snd.snd == x.fst.snd.fst) = true →
 (([] : List (Bool × Int)), (0 : Int), (0 : Int), (0 : Int)) = (step x.fst x.snd.fst.fst x.snd.fst.snd).fst ∧
 (0 : Int) = (step x.fst x.snd.fst.fst x.snd.fst.snd).snd.fst ∧
 (3 : Int) = (step x.fst x.snd.fst.fst x.snd.fst.snd).snd.snd.fst) ∧
 ((x.fst.snd.snd.snd == x.fst.snd.fst) = false →
 ((0 : Int) ≤ x.fst.snd.snd.snd ∧ x.fst.snd.snd.snd < (↑x.fst.fst.length : Int)) ∧
 ((0 : Int) ≤ x.fst.snd.snd.snd ∧ x.fst.snd.snd.snd < (↑x.fst.fst.length : Int)) ∧
 ((-9223372036854775808 : Int) ≤ x.fst.snd.snd.snd + (1 : Int) ∧ x.fst.snd.snd.snd + (1 : Int) ≤ (9223372036854775807 : Int)) ∧
 ((0 : Int) ≤ x.fst.snd.snd.snd + (1 : Int) ∧ (0 : Int) < (↑x.fst.fst.length : Int)) ∧
 (x.fst.fst.set x.fst.snd.snd.snd.toNat
 (false, (-1 : Int) - (x.fst.fst.getD x.fst.snd.snd.snd.toNat (false, (0 : Int))).snd),
 x.fst.snd.fst, x.fst.snd.snd.fst, (x.fst.snd.snd.snd + (1 : Int)) % (↑x.fst.fst.length : Int)) =
 (step x.fst x.snd.fst.fst x.snd.fst.snd).fst ∧
 (0 : Int) = (step x.fst x.snd.fst.fst x.snd.fst.snd).snd.fst ∧
 (0 : Int) = (step x.fst x.snd.fst.fst x.snd.fst.snd).snd.snd.fst)) ∧
 ((x.snd.fst.fst == (2 : Int)) = false →
 ((x.snd.fst.fst == (3 : Int)) = true →
 ((x.fst.snd.snd.fst == x.fst.snd.snd.snd) = true →
 (([] : List (Bool × Int)), (0 : Int), (0 : Int), (0 : Int)) = (step x.fst x.snd.fst.fst x.snd.fst.snd).fst ∧
 (0 : Int) = (step x.fst x.snd.fst.fst x.snd.fst.snd).snd.fst ∧
 (3 : Int) = (step x.fst x.snd.fst.fst x.snd.fst.snd).snd.snd.fst) ∧
 ((x.fst.snd.snd.fst == x.fst.snd.snd.snd) = false →
 ((0 : Int) ≤ x.fst.snd.snd.fst ∧ x.fst.snd.snd.fst < (↑x.fst.fst.length : Int)) ∧
 ((0 : Int) ≤ x.fst.snd.snd.fst ∧ x.fst.snd.snd.fst < (↑x.fst.fst.length : Int)) ∧
 ((-9223372036854775808 : Int) ≤ x.fst.snd.snd.fst + (1 : Int) ∧
 x.fst.snd.snd.fst + (1 : Int) ≤ (9223372036854775807 : Int)) ∧
 ((0 : Int) ≤ x.fst.snd.snd.fst + (1 : Int) ∧ (0 : Int) < (↑x.fst.fst.length : Int)) ∧
 (x.fst.fst.set x.fst.snd.snd.fst.toNat (false, (0 : Int)), x.fst.snd.fst,
 (x.fst.snd.snd.fst + (1 : Int)) % (↑x.fst.fst.length : Int), x.fst.snd.snd.snd) =
 (step x.fst x.snd.fst.fst x.snd.fst.snd).fst ∧
 (x.fst.fst.getD x.fst.snd.snd.fst.toNat (false, (0 : Int))).snd = (step x.fst x.snd.fst.fst x.snd.fst.snd).snd.fst ∧
 (0 : Int) = (step x.fst x.snd.fst.fst x.snd.fst.snd).snd.snd.fst)) ∧
 ((x.snd.fst.fst == (3 : Int)) = false →
 (([] : List (Bool × Int)), (0 : Int), (0 : Int), (0 : Int)) = (step x.fst x.snd.fst.fst x.snd.fst.snd).fst ∧
 (0 : Int) = (step x.fst x.snd.fst.fst x.snd.fst.snd).snd.fst ∧
 (5 : Int) = (step x.fst x.snd.fst.fst x.snd.fst.snd).snd.snd.fst))))

theorem E_step_eq (x : HL (cStep : Ctr).as) : vc (fx_step x) 1 71 Try.f71 (cStep) x = E_step x := by kernel_rfl

def E_new (x : Int × Unit) : Prop :=
 ((!decide (x.fst < (2 : Int))) = true → (!decide (x.fst < (2 : Int))) = true) ∧
 (decide (x.fst < (2 : Int)) = false → (!decide (x.fst < (2 : Int))) = true) ∧
 ((decide (x.fst < (2 : Int)) || decide ((64 : Int) < x.fst)) = true →
 (([] : List (Bool × Int)), (0 : Int), (0 : Int), (0 : Int)) = (new x.fst).fst ∧ (2 : Int) = (new x.fst).snd.fst) ∧
 ((decide (x.fst < (2 : Int)) || decide ((64 : Int) < x.fst)) = false →
 (((0 : Int) ≤ x.fst ∧ x.fst ≤ x.fst) ∧ x.fst * (↑(16 : Nat) : Int) ≤ (140737488355328 : Int) ∧ x.fst ≤ (9223372036854775807 : Int)) ∧
 (List.replicate x.fst.toNat (false, (0 : Int)), (0 : Int), (0 : Int), (0 : Int)) = (new x.fst).fst ∧ (0 : Int) = (new x.fst).snd.fst)

theorem E_new_eq (x : HL (cNew : Ctr).as) : vc (fx_new x) 1 70 Try.f70 (cNew) x = E_new x := by kernel_rfl

def E_same (x : (List (Bool × Int) × Int × Int × Int) × (List (Bool × Int) × Int × Int × Int) × Unit) : Prop :=
 ((!x.fst.snd.fst != x.snd.fst.snd.fst) = true → (!x.fst.snd.fst != x.snd.fst.snd.fst) = true) ∧
 ((!x.fst.snd.fst != x.snd.fst.snd.fst) = true → (!x.fst.snd.fst != x.snd.fst.snd.fst) = true) ∧
 ((!x.fst.snd.fst != x.snd.fst.snd.fst) = true → (!x.fst.snd.fst != x.snd.fst.snd.fst) = true ∧ (!x.fst.snd.fst != x.snd.fst.snd.fst) = true) ∧
 ((x.fst.snd.fst != x.snd.fst.snd.fst) = false → (!x.fst.snd.fst != x.snd.fst.snd.fst) = true) ∧
 ((!(x.fst.snd.fst != x.snd.fst.snd.fst || x.fst.snd.snd.fst != x.snd.fst.snd.snd.fst)) = true →
 (!(x.fst.snd.fst != x.snd.fst.snd.fst || x.fst.snd.snd.fst != x.snd.fst.snd.snd.fst)) = true) ∧
 ((!(x.fst.snd.fst != x.snd.fst.snd.fst || x.fst.snd.snd.fst != x.snd.fst.snd.snd.fst)) = true →
 (!(x.fst.snd.fst != x.snd.fst.snd.fst || x.fst.snd.snd.fst != x.snd.fst.snd.snd.fst)) = true) ∧
 ((!(x.fst.snd.fst != x.snd.fst.snd.fst || x.fst.snd.snd.fst != x.snd.fst.snd.snd.fst)) = true →
 (!(x.fst.snd.fst != x.snd.fst.snd.fst || x.fst.snd.snd.fst != x.snd.fst.snd.snd.fst)) = true ∧
 (!(x.fst.snd.fst != x.snd.fst.snd.fst || x.fst.snd.snd.fst != x.snd.fst.snd.snd.fst)) = true) ∧
 ((x.fst.snd.fst != x.snd.fst.snd.fst || x.fst.snd.snd.fst != x.snd.fst.snd.snd.fst) = false →
 (!(x.fst.snd.fst != x.snd.fst.snd.fst || x.fst.snd.snd.fst != x.snd.fst.snd.snd.fst)) = true) ∧
 ((!(x.fst.snd.fst != x.snd.fst.snd.fst || x.fst.snd.snd.fst != x.snd.fst.snd.snd.fst || x.fst.snd.snd.snd != x.snd.fst.snd.snd.snd)) =
 true →
 (!(x.fst.snd.fst != x.snd.fst.snd.fst || x.fst.snd.snd.fst != x.snd.fst.snd.snd.fst ||
 x.fst.snd.snd.snd != x.snd.fst.snd.snd.snd)) =
 true) ∧
 ((!(x.fst.snd.fst != x.snd.fst.snd.fst || x.fst.snd.snd.fst != x.snd.fst.snd.snd.fst ||
 x.fst.snd.snd.snd != x.snd.fst.snd.snd.snd)) =
 true →
 (!(x.fst.snd.fst != x.snd.fst.snd.fst || x.fst.snd.snd.fst != x.snd.fst.snd.snd.fst ||
 x.fst.snd.snd.snd != x.snd.fst.snd.snd.snd)) =
 true) ∧
 ((!(x.fst.snd.fst != x.snd.fst.snd.fst || x.fst.snd.snd.fst != x.snd.fst.snd.snd.fst ||
 x.fst.snd.snd.snd != x.snd.fst.snd.snd.snd)) =
 true →
 (!(x.fst.snd.fst != x.snd.fst.snd.fst || x.fst.snd.snd.fst != x.snd.fst.snd.snd.fst ||
 x.fst.snd.snd.snd != x.snd.fst.snd.snd.snd)) =
 true) ∧
 ((!(x.fst.snd.fst != x.snd.fst.snd.fst || x.fst.snd.snd.fst != x.snd.fst.snd.snd.fst ||
 x.fst.snd.snd.snd != x.snd.fst.snd.snd.snd)) =
 true →
 (!(x.fst.snd.fst != x.snd.fst.snd.fst || x.fst.snd.snd.fst != x.snd.fst.snd.snd.fst ||
 x.fst.snd.snd.snd != x.snd.fst.snd.snd.snd)) =
 true) ∧
 ((!(x.fst.snd.fst != x.snd.fst.snd.fst || x.fst.snd.snd.fst != x.snd.fst.snd.snd.fst ||
 x.fst.snd.snd.snd != x.snd.fst.snd.snd.snd)) =
 true →
 (!(x.fst.snd.fst != x.snd.fst.snd.fst || x.fst.snd.snd.fst != x.snd.fst.snd.snd.fst ||
 x.fst.snd.snd.snd != x.snd.fst.snd.snd.snd)) =
 true ∧
 (!(x.fst.snd.fst != x.snd.fst.snd.fst || x.fst.snd.snd.fst != x.snd.fst.snd.snd.fst ||
 x.fst.snd.snd.snd != x.snd.fst.snd.snd.snd)) =
 true) ∧
 ((x.fst.snd.fst != x.snd.fst.snd.fst || x.fst.snd.snd.fst != x.snd.fst.snd.snd.fst ||
 x.fst.snd.snd.snd != x.snd.fst.snd.snd.snd) =
 false →
 (!(x.fst.snd.fst != x.snd.fst.snd.fst || x.fst.snd.snd.fst != x.snd.fst.snd.snd.fst ||
 x.fst.snd.snd.snd != x.snd.fst.snd.snd.snd)) =
 true) ∧
 ((x.fst.snd.fst != x.snd.fst.snd.fst || x.fst.snd.snd.fst != x.snd.fst.snd.snd.fst ||
 x.fst.snd.snd.snd != x.snd.fst.snd.snd.snd ||
 (↑x.fst.fst.length : Int) != (↑x.snd.fst.fst.length : Int)) =
 true →
 false = decide (x.fst = x.snd.fst)) ∧
 ((x.fst.snd.fst != x.snd.fst.snd.fst || x.fst.snd.snd.fst != x.snd.fst.snd.snd.fst ||
 x.fst.snd.snd.snd != x.snd.fst.snd.snd.snd ||
 (↑x.fst.fst.length : Int) != (↑x.snd.fst.fst.length : Int)) =
 false →
 ((((0 : Int) ≤ (0 : Int) ∧
 (0 : Int) ≤ (↑x.fst.fst.length : Int) ∧
 List.take (Int.toNat (0 : Int)) x.fst.fst = List.take (Int.toNat (0 : Int)) x.snd.fst.fst) ∧
 True) ∧
 ((True ∧ True) ∧
 (True ∧ True) ∧ (↑x.fst.fst.length : Int) = (↑x.fst.fst.length : Int) ∧ (0 : Int) = (0 : Int) ∧ True) ∧
 ((x.fst.fst = x.fst.fst ∧
 x.fst.snd.fst = x.fst.snd.fst ∧
 x.fst.snd.snd.fst = x.fst.snd.snd.fst ∧ x.fst.snd.snd.snd = x.fst.snd.snd.snd ∧ True) ∧
 (x.snd.fst.fst = x.snd.fst.fst ∧
 x.snd.fst.snd.fst = x.snd.fst.snd.fst ∧
 x.snd.fst.snd.snd.fst = x.snd.fst.snd.snd.fst ∧
 x.snd.fst.snd.snd.snd = x.snd.fst.snd.snd.snd ∧ True) ∧
 True) ∧
 True) ∧
 ∀ (g : Int × Unit),
 (0 : Int) ≤ g.fst ∧
 g.fst ≤ (↑x.fst.fst.length : Int) ∧ List.take g.fst.toNat x.fst.fst = List.take g.fst.toNat x.snd.fst.fst →
 ((-9223372036854775808 : Int) ≤ g.fst ∧ g.fst ≤ (9223372036854775807 : Int)) ∧ True →
 (decide (g.fst < (↑x.fst.fst.length : Int)) = true →
 ((0 : Int) ≤ g.fst ∧ g.fst < (↑x.fst.fst.length : Int)) ∧
 ((0 : Int) ≤ g.fst ∧ g.fst < (↑x.snd.fst.fst.length : Int)) ∧
 ((!deq (Ty.bool.pair (Ty.int IntKind.i64))
 ((x.fst.fst.getD g.fst.toNat (false, (0 : Int))).fst,
 (x.fst.fst.getD g.fst.toNat (false, (0 : Int))).snd)
 ((x.snd.fst.fst.getD g.fst.toNat (false, (0 : Int))).fst,
 (x.snd.fst.fst.getD g.fst.toNat (false, (0 : Int))).snd)) =
 true →
 false = decide (x.fst = x.snd.fst)) ∧
 ((!deq (Ty.bool.pair (Ty.int IntKind.i64))
 ((x.fst.fst.getD g.fst.toNat (false, (0 : Int))).fst,
 (x.fst.fst.getD g.fst.toNat (false, (0 : Int))).snd)
 ((x.snd.fst.fst.getD g.fst.toNat (false, (0 : Int))).fst,
 (x.snd.fst.fst.getD g.fst.toNat (false, (0 : Int))).snd)) =
 false →
 ((-9223372036854775808 : Int) ≤ g.fst + (1 : Int) ∧
 g.fst + (1 : Int) ≤ (9223372036854775807 : Int)) ∧
 (((0 : Int) ≤ g.fst + (1 : Int) ∧
 g.fst + (1 : Int) ≤ (↑x.fst.fst.length : Int) ∧
 List.take (g.fst + (1 : Int)).toNat x.fst.fst =
 List.take (g.fst + (1 : Int)).toNat x.snd.fst.fst) ∧
 ((↑x.fst.fst.length : Int) - (g.fst + (1 : Int))).toNat <
 ((↑x.fst.fst.length : Int) - g.fst).toNat) ∧
 ((True ∧ True) ∧
 (True ∧ True) ∧
 (↑x.fst.fst.length : Int) = (↑x.fst.fst.length : Int) ∧
 g.fst + (1 : Int) = g.fst + (1 : Int) ∧ True) ∧
 ((x.fst.fst = x.fst.fst ∧
 x.fst.snd.fst = x.fst.snd.fst ∧
 x.fst.snd.snd.fst = x.fst.snd.snd.fst ∧
 x.fst.snd.snd.snd = x.fst.snd.snd.snd ∧ True) ∧
 (x.snd.fst.fst = x.snd.fst.fst ∧
 x.snd.fst.snd.fst = x.snd.fst.snd.fst ∧
 x.snd.fst.snd.snd.fst = x.snd.fst.snd.snd.fst ∧
 x.snd.fst.snd.snd.snd = x.snd.fst.snd.snd.snd ∧ True) ∧
 True) ∧
 True)) ∧
 (decide (g.fst < (↑x.fst.fst.length : Int)) = false → true = decide (x.fst = x.snd.fst)))

theorem E_same_eq (x : HL (cSame : Ctr).as) : vc (fx_same x) 1 47 Try.f47 (cSame) x = E_same x := by kernel_rfl

def E_equal (x : List Int × List Int × Unit) : Prop :=
 (((↑x.fst.length : Int) != (↑x.snd.fst.length : Int)) = true → false = decide (x.fst = x.snd.fst)) ∧
 (((↑x.fst.length : Int) != (↑x.snd.fst.length : Int)) = false →
 ((((0 : Int) ≤ (0 : Int) ∧
 (0 : Int) ≤ (↑x.fst.length : Int) ∧ List.take (Int.toNat (0 : Int)) x.fst = List.take (Int.toNat (0 : Int)) x.snd.fst) ∧
 True) ∧
 (x.fst = x.fst ∧ x.snd.fst = x.snd.fst ∧ (↑x.fst.length : Int) = (↑x.fst.length : Int) ∧ (0 : Int) = (0 : Int) ∧ True) ∧ True ∧ True) ∧
 ∀ (g : Int × Unit),
 (0 : Int) ≤ g.fst ∧ g.fst ≤ (↑x.fst.length : Int) ∧ List.take g.fst.toNat x.fst = List.take g.fst.toNat x.snd.fst →
 ((-9223372036854775808 : Int) ≤ g.fst ∧ g.fst ≤ (9223372036854775807 : Int)) ∧ True →
 (decide (g.fst < (↑x.fst.length : Int)) = true →
 ((0 : Int) ≤ g.fst ∧ g.fst < (↑x.fst.length : Int)) ∧
 ((0 : Int) ≤ g.fst ∧ g.fst < (↑x.snd.fst.length : Int)) ∧
 ((x.fst.getD g.fst.toNat (0 : Int) != x.snd.fst.getD g.fst.toNat (0 : Int)) = true → false = decide (x.fst = x.snd.fst)) ∧
 ((x.fst.getD g.fst.toNat (0 : Int) != x.snd.fst.getD g.fst.toNat (0 : Int)) = false →
 ((-9223372036854775808 : Int) ≤ g.fst + (1 : Int) ∧ g.fst + (1 : Int) ≤ (9223372036854775807 : Int)) ∧
 (((0 : Int) ≤ g.fst + (1 : Int) ∧
 g.fst + (1 : Int) ≤ (↑x.fst.length : Int) ∧
 List.take (g.fst + (1 : Int)).toNat x.fst = List.take (g.fst + (1 : Int)).toNat x.snd.fst) ∧
 ((↑x.fst.length : Int) - (g.fst + (1 : Int))).toNat < ((↑x.fst.length : Int) - g.fst).toNat) ∧
 (x.fst = x.fst ∧
 x.snd.fst = x.snd.fst ∧
 (↑x.fst.length : Int) = (↑x.fst.length : Int) ∧ g.fst + (1 : Int) = g.fst + (1 : Int) ∧ True) ∧
 True ∧ True)) ∧
 (decide (g.fst < (↑x.fst.length : Int)) = false → true = decide (x.fst = x.snd.fst)))

theorem E_equal_eq (x : HL (cEqual : Ctr).as) : vc (fx_equal x) 1 18 Try.f18 (cEqual) x = E_equal x := by kernel_rfl

def E_equale (x : List Int × List Int × Unit) : Prop :=
 (((↑x.fst.length : Int) != (↑x.snd.fst.length : Int)) = true → false = decide (x.fst = x.snd.fst)) ∧
 (((↑x.fst.length : Int) != (↑x.snd.fst.length : Int)) = false →
 ((((0 : Int) ≤ (0 : Int) ∧
 (0 : Int) ≤ (↑x.fst.length : Int) ∧ List.take (Int.toNat (0 : Int)) x.fst = List.take (Int.toNat (0 : Int)) x.snd.fst) ∧
 True) ∧
 (x.fst = x.fst ∧ x.snd.fst = x.snd.fst ∧ (↑x.fst.length : Int) = (↑x.fst.length : Int) ∧ (0 : Int) = (0 : Int) ∧ True) ∧ True ∧ True) ∧
 ∀ (g : Int × Unit),
 (0 : Int) ≤ g.fst ∧ g.fst ≤ (↑x.fst.length : Int) ∧ List.take g.fst.toNat x.fst = List.take g.fst.toNat x.snd.fst →
 ((-9223372036854775808 : Int) ≤ g.fst ∧ g.fst ≤ (9223372036854775807 : Int)) ∧ True →
 (decide (g.fst < (↑x.fst.length : Int)) = true →
 ((0 : Int) ≤ g.fst ∧ g.fst < (↑x.fst.length : Int)) ∧
 ((0 : Int) ≤ g.fst ∧ g.fst < (↑x.snd.fst.length : Int)) ∧
 ((x.fst.getD g.fst.toNat (0 : Int) != x.snd.fst.getD g.fst.toNat (0 : Int)) = true → false = decide (x.fst = x.snd.fst)) ∧
 ((x.fst.getD g.fst.toNat (0 : Int) != x.snd.fst.getD g.fst.toNat (0 : Int)) = false →
 ((-9223372036854775808 : Int) ≤ g.fst + (1 : Int) ∧ g.fst + (1 : Int) ≤ (9223372036854775807 : Int)) ∧
 (((0 : Int) ≤ g.fst + (1 : Int) ∧
 g.fst + (1 : Int) ≤ (↑x.fst.length : Int) ∧
 List.take (g.fst + (1 : Int)).toNat x.fst = List.take (g.fst + (1 : Int)).toNat x.snd.fst) ∧
 ((↑x.fst.length : Int) - (g.fst + (1 : Int))).toNat < ((↑x.fst.length : Int) - g.fst).toNat) ∧
 (x.fst = x.fst ∧
 x.snd.fst = x.snd.fst ∧
 (↑x.fst.length : Int) = (↑x.fst.length : Int) ∧ g.fst + (1 : Int) = g.fst + (1 : Int) ∧ True) ∧
 True ∧ True)) ∧
 (decide (g.fst < (↑x.fst.length : Int)) = false → true = decide (x.fst = x.snd.fst)))

theorem E_equale_eq (x : HL (cEqual : Ctr).as) : vc (fx_equale x) 1 21 Try.f21 (cEqual) x = E_equale x := by kernel_rfl

def E_play (x : Int × List (Int × Int) × Unit) : Prop :=
 Holds True ∧
 (((new x.fst).snd.fst != (0 : Int)) = true →
 ([] : List Int) = (rplay x.fst x.snd.fst).fst ∧
 ([] : List Int) = (rplay x.fst x.snd.fst).snd.fst ∧
 (([] : List (Bool × Int)), (0 : Int), (0 : Int), (0 : Int)) = (rplay x.fst x.snd.fst).snd.snd.fst ∧
 (new x.fst).snd.fst = (rplay x.fst x.snd.fst).snd.snd.snd.fst) ∧
 (((new x.fst).snd.fst != (0 : Int)) = false →
 ((((0 : Int) ≤ (0 : Int) ∧
 (0 : Int) ≤ (↑x.snd.fst.length : Int) ∧
 ((2 : Int) ≤ x.fst ∧ x.fst ≤ (64 : Int)) ∧
 (qpl x.fst (List.take (Int.toNat (0 : Int)) x.snd.fst)).fst = ([] : List Int) ∧
 (qpl x.fst (List.take (Int.toNat (0 : Int)) x.snd.fst)).snd.fst = ([] : List Int) ∧
 ((new x.fst).fst.fst, (new x.fst).fst.snd.fst, (new x.fst).fst.snd.snd.fst, (new x.fst).fst.snd.snd.snd) =
 ringOf x.fst (qpl x.fst (List.take (Int.toNat (0 : Int)) x.snd.fst)) ∧
 (↑([] : List Int).length : Int) = (0 : Int) ∧ (↑([] : List Int).length : Int) ≤ (0 : Int)) ∧
 True) ∧
 ((True ∧ True) ∧
 (True ∧ True) ∧
 True ∧ True ∧ x.snd.fst = x.snd.fst ∧ (↑x.snd.fst.length : Int) = (↑x.snd.fst.length : Int) ∧ (0 : Int) = (0 : Int) ∧ True) ∧
 (((new x.fst).fst.fst = (new x.fst).fst.fst ∧
 (new x.fst).fst.snd.fst = (new x.fst).fst.snd.fst ∧
 (new x.fst).fst.snd.snd.fst = (new x.fst).fst.snd.snd.fst ∧ (new x.fst).fst.snd.snd.snd = (new x.fst).fst.snd.snd.snd ∧ True) ∧
 ([] : List Int) = ([] : List Int) ∧
 ([] : List Int) = ([] : List Int) ∧
 (Value.slice none (0 : Nat) (0 : Nat) = Value.slice none (0 : Nat) (0 : Nat) ∧
 (0 : Int) = (0 : Int) ∧ (0 : Int) = (0 : Int) ∧ (0 : Int) = (0 : Int) ∧ True) ∧
 True) ∧
 True) ∧
 ∀ (g : (List (Bool × Int) × Int × Int × Int) × List Int × List Int × Int × Unit),
 (0 : Int) ≤ g.snd.snd.snd.fst ∧
 g.snd.snd.snd.fst ≤ (↑x.snd.fst.length : Int) ∧
 ((2 : Int) ≤ x.fst ∧ x.fst ≤ (64 : Int)) ∧
 (qpl x.fst (List.take g.snd.snd.snd.fst.toNat x.snd.fst)).fst = g.snd.fst ∧
 (qpl x.fst (List.take g.snd.snd.snd.fst.toNat x.snd.fst)).snd.fst = g.snd.snd.fst ∧
 g.fst = ringOf x.fst (qpl x.fst (List.take g.snd.snd.snd.fst.toNat x.snd.fst)) ∧
 (↑g.snd.fst.length : Int) = g.snd.snd.snd.fst ∧ (↑g.snd.snd.fst.length : Int) ≤ g.snd.snd.snd.fst →
 ((g.fst.fst.length ≤ (9223372036854775807 : Nat) ∧
 ∀ (x : Bool × Int), x ∈ g.fst.fst → True ∧ (-9223372036854775808 : Int) ≤ x.snd ∧ x.snd ≤ (9223372036854775807 : Int)) ∧
 ((-9223372036854775808 : Int) ≤ g.fst.snd.fst ∧ g.fst.snd.fst ≤ (9223372036854775807 : Int)) ∧
 ((-9223372036854775808 : Int) ≤ g.fst.snd.snd.fst ∧ g.fst.snd.snd.fst ≤ (9223372036854775807 : Int)) ∧
 (-9223372036854775808 : Int) ≤ g.fst.snd.snd.snd ∧ g.fst.snd.snd.snd ≤ (9223372036854775807 : Int)) ∧
 (g.snd.fst.length ≤ (9223372036854775807 : Nat) ∧
 ∀ (x : Int), x ∈ g.snd.fst → (-9223372036854775808 : Int) ≤ x ∧ x ≤ (9223372036854775807 : Int)) ∧
 (g.snd.snd.fst.length ≤ (9223372036854775807 : Nat) ∧
 ∀ (x : Int), x ∈ g.snd.snd.fst → (-9223372036854775808 : Int) ≤ x ∧ x ≤ (9223372036854775807 : Int)) ∧
 ((-9223372036854775808 : Int) ≤ g.snd.snd.snd.fst ∧ g.snd.snd.snd.fst ≤ (9223372036854775807 : Int)) ∧ True →
 (decide (g.snd.snd.snd.fst < (↑x.snd.fst.length : Int)) = true →
 ((0 : Int) ≤ g.snd.snd.snd.fst ∧ g.snd.snd.snd.fst < (↑x.snd.fst.length : Int)) ∧
 Holds True ∧
 (((step (g.fst.fst, g.fst.snd.fst, g.fst.snd.snd.fst, g.fst.snd.snd.snd)
 (x.snd.fst.getD g.snd.snd.snd.fst.toNat ((0 : Int), (0 : Int))).fst
 (x.snd.fst.getD g.snd.snd.snd.fst.toNat ((0 : Int), (0 : Int))).snd).snd.snd.fst ==
 (0 : Int)) =
 true →
 (((x.snd.fst.getD g.snd.snd.snd.fst.toNat ((0 : Int), (0 : Int))).fst == (3 : Int)) = true →
 (g.snd.snd.fst.length +
 (((0 : Int) :: ([] : List Int)).set (0 : Nat)
 (step (g.fst.fst, g.fst.snd.fst, g.fst.snd.snd.fst, g.fst.snd.snd.snd)
 (x.snd.fst.getD g.snd.snd.snd.fst.toNat ((0 : Int), (0 : Int))).fst
 (x.snd.fst.getD g.snd.snd.snd.fst.toNat ((0 : Int), (0 : Int))).snd).snd.fst).length ≤
 (9223372036854775807 : Nat) ∧
 (g.snd.snd.fst.length +
 (((0 : Int) :: ([] : List Int)).set (0 : Nat)
 (step (g.fst.fst, g.fst.snd.fst, g.fst.snd.snd.fst, g.fst.snd.snd.snd)
 (x.snd.fst.getD g.snd.snd.snd.fst.toNat ((0 : Int), (0 : Int))).fst
 (x.snd.fst.getD g.snd.snd.snd.fst.toNat ((0 : Int), (0 : Int))).snd).snd.fst).length +
 (g.snd.snd.fst.length +
 (((0 : Int) :: ([] : List Int)).set (0 : Nat)
 (step (g.fst.fst, g.fst.snd.fst, g.fst.snd.snd.fst, g.fst.snd.snd.snd)
 (x.snd.fst.getD g.snd.snd.snd.fst.toNat ((0 : Int), (0 : Int))).fst
 (x.snd.fst.getD g.snd.snd.snd.fst.toNat ((0 : Int), (0 : Int))).snd).snd.fst).length) /
 (4 : Nat) +
 (192 : Nat)) *
 (8 : Nat) ≤
 (281474976710656 : Nat)) ∧
 (g.snd.fst.length +
 (((0 : Int) :: ([] : List Int)).set (0 : Nat)
 (step (g.fst.fst, g.fst.snd.fst, g.fst.snd.snd.fst, g.fst.snd.snd.snd)
 (x.snd.fst.getD g.snd.snd.snd.fst.toNat ((0 : Int), (0 : Int))).fst
 (x.snd.fst.getD g.snd.snd.snd.fst.toNat ((0 : Int), (0 : Int))).snd).snd.snd.fst).length ≤
 (9223372036854775807 : Nat) ∧
 (g.snd.fst.length +
 (((0 : Int) :: ([] : List Int)).set (0 : Nat)
 (step (g.fst.fst, g.fst.snd.fst, g.fst.snd.snd.fst, g.fst.snd.snd.snd)
 (x.snd.fst.getD g.snd.snd.snd.fst.toNat ((0 : Int), (0 : Int))).fst
 (x.snd.fst.getD g.snd.snd.snd.fst.toNat ((0 : Int), (0 : Int))).snd).snd.snd.fst).length +
 (g.snd.fst.length +
 (((0 : Int) :: ([] : List Int)).set (0 : Nat)
 (step (g.fst.fst, g.fst.snd.fst, g.fst.snd.snd.fst, g.fst.snd.snd.snd)
 (x.snd.fst.getD g.snd.snd.snd.fst.toNat ((0 : Int), (0 : Int))).fst
 (x.snd.fst.getD g.snd.snd.snd.fst.toNat
 ((0 : Int), (0 : Int))).snd).snd.snd.fst).length) /
 (4 : Nat) +
 (192 : Nat)) *
 (8 : Nat) ≤
 (281474976710656 : Nat)) ∧
 ((-9223372036854775808 : Int) ≤ g.snd.snd.snd.fst + (1 : Int) ∧
 g.snd.snd.snd.fst + (1 : Int) ≤ (9223372036854775807 : Int)) ∧
 (((0 : Int) ≤ g.snd.snd.snd.fst + (1 : Int) ∧
 g.snd.snd.snd.fst + (1 : Int) ≤ (↑x.snd.fst.length : Int) ∧
 ((2 : Int) ≤ x.fst ∧ x.fst ≤ (64 : Int)) ∧
 (qpl x.fst (List.take (g.snd.snd.snd.fst + (1 : Int)).toNat x.snd.fst)).fst =
 g.snd.fst ++
 ((0 : Int) :: ([] : List Int)).set (0 : Nat)
 (step (g.fst.fst, g.fst.snd.fst, g.fst.snd.snd.fst, g.fst.snd.snd.snd)
 (x.snd.fst.getD g.snd.snd.snd.fst.toNat ((0 : Int), (0 : Int))).fst
 (x.snd.fst.getD g.snd.snd.snd.fst.toNat ((0 : Int), (0 : Int))).snd).snd.snd.fst ∧
 (qpl x.fst (List.take (g.snd.snd.snd.fst + (1 : Int)).toNat x.snd.fst)).snd.fst =
 g.snd.snd.fst ++
 ((0 : Int) :: ([] : List Int)).set (0 : Nat)
 (step (g.fst.fst, g.fst.snd.fst, g.fst.snd.snd.fst, g.fst.snd.snd.snd)
 (x.snd.fst.getD g.snd.snd.snd.fst.toNat ((0 : Int), (0 : Int))).fst
 (x.snd.fst.getD g.snd.snd.snd.fst.toNat ((0 : Int), (0 : Int))).snd).snd.fst ∧
 ((step (g.fst.fst, g.fst.snd.fst, g.fst.snd.snd.fst, g.fst.snd.snd.snd)
 (x.snd.fst.getD g.snd.snd.snd.fst.toNat ((0 : Int), (0 : Int))).fst
 (x.snd.fst.getD g.snd.snd.snd.fst.toNat ((0 : Int), (0 : Int))).snd).fst.fst,
 (step (g.fst.fst, g.fst.snd.fst, g.fst.snd.snd.fst, g.fst.snd.snd.snd)
 (x.snd.fst.getD g.snd.snd.snd.fst.toNat ((0 : Int), (0 : Int))).fst
 (x.snd.fst.getD g.snd.snd.snd.fst.toNat ((0 : Int), (0 : Int))).snd).fst.snd.fst,
 (step (g.fst.fst, g.fst.snd.fst, g.fst.snd.snd.fst, g.fst.snd.snd.snd)
 (x.snd.fst.getD g.snd.snd.snd.fst.toNat ((0 : Int), (0 : Int))).fst
 (x.snd.fst.getD g.snd.snd.snd.fst.toNat
 ((0 : Int), (0 : Int))).snd).fst.snd.snd.fst,
 (step (g.fst.fst, g.fst.snd.fst, g.fst.snd.snd.fst, g.fst.snd.snd.snd)
 (x.snd.fst.getD g.snd.snd.snd.fst.toNat ((0 : Int), (0 : Int))).fst
 (x.snd.fst.getD g.snd.snd.snd.fst.toNat
 ((0 : Int), (0 : Int))).snd).fst.snd.snd.snd) =
 ringOf x.fst (qpl x.fst (List.take (g.snd.snd.snd.fst + (1 : Int)).toNat x.snd.fst)) ∧
 (↑(g.snd.fst ++
 ((0 : Int) :: ([] : List Int)).set (0 : Nat)
 (step (g.fst.fst, g.fst.snd.fst, g.fst.snd.snd.fst, g.fst.snd.snd.snd)
 (x.snd.fst.getD g.snd.snd.snd.fst.toNat ((0 : Int), (0 : Int))).fst
 (x.snd.fst.getD g.snd.snd.snd.fst.toNat
 ((0 : Int), (0 : Int))).snd).snd.snd.fst).length :
 Int) =
 g.snd.snd.snd.fst + (1 : Int) ∧
 (↑(g.snd.snd.fst ++
 ((0 : Int) :: ([] : List Int)).set (0 : Nat)
 (step (g.fst.fst, g.fst.snd.fst, g.fst.snd.snd.fst, g.fst.snd.snd.snd)
 (x.snd.fst.getD g.snd.snd.snd.fst.toNat ((0 : Int), (0 : Int))).fst
 (x.snd.fst.getD g.snd.snd.snd.fst.toNat
 ((0 : Int), (0 : Int))).snd).snd.fst).length :
 Int) ≤
 g.snd.snd.snd.fst + (1 : Int)) ∧
 ((↑x.snd.fst.length : Int) - (g.snd.snd.snd.fst + (1 : Int))).toNat <
 ((↑x.snd.fst.length : Int) - g.snd.snd.snd.fst).toNat) ∧
 ((True ∧ True) ∧
 (True ∧ True) ∧
 True ∧
 True ∧
 x.snd.fst = x.snd.fst ∧
 (↑x.snd.fst.length : Int) = (↑x.snd.fst.length : Int) ∧
 g.snd.snd.snd.fst + (1 : Int) = g.snd.snd.snd.fst + (1 : Int) ∧ True) ∧
 (((step (g.fst.fst, g.fst.snd.fst, g.fst.snd.snd.fst, g.fst.snd.snd.snd)
 (x.snd.fst.getD g.snd.snd.snd.fst.toNat ((0 : Int), (0 : Int))).fst
 (x.snd.fst.getD g.snd.snd.snd.fst.toNat ((0 : Int), (0 : Int))).snd).fst.fst =
 (step (g.fst.fst, g.fst.snd.fst, g.fst.snd.snd.fst, g.fst.snd.snd.snd)
 (x.snd.fst.getD g.snd.snd.snd.fst.toNat ((0 : Int), (0 : Int))).fst
 (x.snd.fst.getD g.snd.snd.snd.fst.toNat ((0 : Int), (0 : Int))).snd).fst.fst ∧
 (step (g.fst.fst, g.fst.snd.fst, g.fst.snd.snd.fst, g.fst.snd.snd.snd)
 (x.snd.fst.getD g.snd.snd.snd.fst.toNat ((0 : Int), (0 : Int))).fst
 (x.snd.fst.getD g.snd.snd.snd.fst.toNat ((0 : Int), (0 : Int))).snd).fst.snd.fst =
 (step (g.fst.fst, g.fst.snd.fst, g.fst.snd.snd.fst, g.fst.snd.snd.snd)
 (x.snd.fst.getD g.snd.snd.snd.fst.toNat ((0 : Int), (0 : Int))).fst
 (x.snd.fst.getD g.snd.snd.snd.fst.toNat ((0 : Int), (0 : Int))).snd).fst.snd.fst ∧
 (step (g.fst.fst, g.fst.snd.fst, g.fst.snd.snd.fst, g.fst.snd.snd.snd)
 (x.snd.fst.getD g.snd.snd.snd.fst.toNat ((0 : Int), (0 : Int))).fst
 (x.snd.fst.getD g.snd.snd.snd.fst.toNat ((0 : Int), (0 : Int))).snd).fst.snd.snd.fst =
 (step (g.fst.fst, g.fst.snd.fst, g.fst.snd.snd.fst, g.fst.snd.snd.snd)
 (x.snd.fst.getD g.snd.snd.snd.fst.toNat ((0 : Int), (0 : Int))).fst
 (x.snd.fst.getD g.snd.snd.snd.fst.toNat ((0 : Int), (0 : Int))).snd).fst.snd.snd.fst ∧
 (step (g.fst.fst, g.fst.snd.fst, g.fst.snd.snd.fst, g.fst.snd.snd.snd)
 (x.snd.fst.getD g.snd.snd.snd.fst.toNat ((0 : Int), (0 : Int))).fst
 (x.snd.fst.getD g.snd.snd.snd.fst.toNat ((0 : Int), (0 : Int))).snd).fst.snd.snd.snd =
 (step (g.fst.fst, g.fst.snd.fst, g.fst.snd.snd.fst, g.fst.snd.snd.snd)
 (x.snd.fst.getD g.snd.snd.snd.fst.toNat ((0 : Int), (0 : Int))).fst
 (x.snd.fst.getD g.snd.snd.snd.fst.toNat ((0 : Int), (0 : Int))).snd).fst.snd.snd.snd ∧
 True) ∧
 g.snd.fst ++
 ((0 : Int) :: ([] : List Int)).set (0 : Nat)
 (step (g.fst.fst, g.fst.snd.fst, g.fst.snd.snd.fst, g.fst.snd.snd.snd)
 (x.snd.fst.getD g.snd.snd.snd.fst.toNat ((0 : Int), (0 : Int))).fst
 (x.snd.fst.getD g.snd.snd.snd.fst.toNat ((0 : Int), (0 : Int))).snd).snd.snd.fst =
 g.snd.fst ++
 ((0 : Int) :: ([] : List Int)).set (0 : Nat)
 (step (g.fst.fst, g.fst.snd.fst, g.fst.snd.snd.fst, g.fst.snd.snd.snd)
 (x.snd.fst.getD g.snd.snd.snd.fst.toNat ((0 : Int), (0 : Int))).fst
 (x.snd.fst.getD g.snd.snd.snd.fst.toNat ((0 : Int), (0 : Int))).snd).snd.snd.fst ∧
 g.snd.snd.fst ++
 ((0 : Int) :: ([] : List Int)).set (0 : Nat)
 (step (g.fst.fst, g.fst.snd.fst, g.fst.snd.snd.fst, g.fst.snd.snd.snd)
 (x.snd.fst.getD g.snd.snd.snd.fst.toNat ((0 : Int), (0 : Int))).fst
 (x.snd.fst.getD g.snd.snd.snd.fst.toNat ((0 : Int), (0 : Int))).snd).snd.fst =
 g.snd.snd.fst ++
 ((0 : Int) :: ([] : List Int)).set (0 : Nat)
 (step (g.fst.fst, g.fst.snd.fst, g.fst.snd.snd.fst, g.fst.snd.snd.snd)
 (x.snd.fst.getD g.snd.snd.snd.fst.toNat ((0 : Int), (0 : Int))).fst
 (x.snd.fst.getD g.snd.snd.snd.fst.toNat ((0 : Int), (0 : Int))).snd).snd.fst ∧
 (Value.slice none (0 : Nat) (0 : Nat) = Value.slice none (0 : Nat) (0 : Nat) ∧
 (0 : Int) = (0 : Int) ∧ (0 : Int) = (0 : Int) ∧ (0 : Int) = (0 : Int) ∧ True) ∧
 True) ∧
 True) ∧
 (((x.snd.fst.getD g.snd.snd.snd.fst.toNat ((0 : Int), (0 : Int))).fst == (3 : Int)) = false →
 (g.snd.fst.length +
 (((0 : Int) :: ([] : List Int)).set (0 : Nat)
 (step (g.fst.fst, g.fst.snd.fst, g.fst.snd.snd.fst, g.fst.snd.snd.snd)
 (x.snd.fst.getD g.snd.snd.snd.fst.toNat ((0 : Int), (0 : Int))).fst
 (x.snd.fst.getD g.snd.snd.snd.fst.toNat ((0 : Int), (0 : Int))).snd).snd.snd.fst).length ≤
 (9223372036854775807 : Nat) ∧
 (g.snd.fst.length +
 (((0 : Int) :: ([] : List Int)).set (0 : Nat)
 (step (g.fst.fst, g.fst.snd.fst, g.fst.snd.snd.fst, g.fst.snd.snd.snd)
 (x.snd.fst.getD g.snd.snd.snd.fst.toNat ((0 : Int), (0 : Int))).fst
 (x.snd.fst.getD g.snd.snd.snd.fst.toNat ((0 : Int), (0 : Int))).snd).snd.snd.fst).length +
 (g.snd.fst.length +
 (((0 : Int) :: ([] : List Int)).set (0 : Nat)
 (step (g.fst.fst, g.fst.snd.fst, g.fst.snd.snd.fst, g.fst.snd.snd.snd)
 (x.snd.fst.getD g.snd.snd.snd.fst.toNat ((0 : Int), (0 : Int))).fst
 (x.snd.fst.getD g.snd.snd.snd.fst.toNat ((0 : Int), (0 : Int))).snd).snd.snd.fst).length) /
 (4 : Nat) +
 (192 : Nat)) *
 (8 : Nat) ≤
 (281474976710656 : Nat)) ∧
 ((-9223372036854775808 : Int) ≤ g.snd.snd.snd.fst + (1 : Int) ∧
 g.snd.snd.snd.fst + (1 : Int) ≤ (9223372036854775807 : Int)) ∧
 (((0 : Int) ≤ g.snd.snd.snd.fst + (1 : Int) ∧
 g.snd.snd.snd.fst + (1 : Int) ≤ (↑x.snd.fst.length : Int) ∧
 ((2 : Int) ≤ x.fst ∧ x.fst ≤ (64 : Int)) ∧
 (qpl x.fst (List.take (g.snd.snd.snd.fst + (1 : Int)).toNat x.snd.fst)).fst =
 g.snd.fst ++
 ((0 : Int) :: ([] : List Int)).set (0 : Nat)
 (step (g.fst.fst, g.fst.snd.fst, g.fst.snd.snd.fst, g.fst.snd.snd.snd)
 (x.snd.fst.getD g.snd.snd.snd.fst.toNat ((0 : Int), (0 : Int))).fst
 (x.snd.fst.getD g.snd.snd.snd.fst.toNat ((0 : Int), (0 : Int))).snd).snd.snd.fst ∧
 (qpl x.fst (List.take (g.snd.snd.snd.fst + (1 : Int)).toNat x.snd.fst)).snd.fst = g.snd.snd.fst ∧
 ((step (g.fst.fst, g.fst.snd.fst, g.fst.snd.snd.fst, g.fst.snd.snd.snd)
 (x.snd.fst.getD g.snd.snd.snd.fst.toNat ((0 : Int), (0 : Int))).fst
 (x.snd.fst.getD g.snd.snd.snd.fst.toNat ((0 : Int), (0 : Int))).snd).fst.fst,
 (step (g.fst.fst, g.fst.snd.fst, g.fst.snd.snd.fst, g.fst.snd.snd.snd)
 (x.snd.fst.getD g.snd.snd.snd.fst.toNat ((0 : Int), (0 : Int))).fst
 (x.snd.fst.getD g.snd.snd.snd.fst.toNat ((0 : Int), (0 : Int))).snd).fst.snd.fst,
 (step (g.fst.fst, g.fst.snd.fst, g.fst.snd.snd.fst, g.fst.snd.snd.snd)
 (x.snd.fst.getD g.snd.snd.snd.fst.toNat ((0 : Int), (0 : Int))).fst
 (x.snd.fst.getD g.snd.snd.snd.fst.toNat ((0 : Int), (0 : Int))).snd).fst.snd.snd.fst,
 (step (g.fst.fst, g.fst.snd.fst, g.fst.snd.snd.fst, g.fst.snd.snd.snd)
 (x.snd.fst.getD g.snd.snd.snd.fst.toNat ((0 : Int), (0 : Int))).fst
 (x.snd.fst.getD g.snd.snd.snd.fst.toNat
 ((0 : Int), (0 : Int))).snd).fst.snd.snd.snd) =
 ringOf x.fst (qpl x.fst (List.take (g.snd.snd.snd.fst + (1 : Int)).toNat x.snd.fst)) ∧
 (↑(g.snd.fst ++
 ((0 : Int) :: ([] : List Int)).set (0 : Nat)
 (step (g.fst.fst, g.fst.snd.fst, g.fst.snd.snd.fst, g.fst.snd.snd.snd)
 (x.snd.fst.getD g.snd.snd.snd.fst.toNat ((0 : Int), (0 : Int))).fst
 (x.snd.fst.getD g.snd.snd.snd.fst.toNat
 ((0 : Int), (0 : Int))).snd).snd.snd.fst).length :
 Int) =
 g.snd.snd.snd.fst + (1 : Int) ∧
 (↑g.snd.snd.fst.length : Int) ≤ g.snd.snd.snd.fst + (1 : Int)) ∧
 ((↑x.snd.fst.length : Int) - (g.snd.snd.snd.fst + (1 : Int))).toNat <
 ((↑x.snd.fst.length : Int) - g.snd.snd.snd.fst).toNat) ∧
 ((True ∧ True) ∧
 (True ∧ True) ∧
 True ∧
 True ∧
 x.snd.fst = x.snd.fst ∧
 (↑x.snd.fst.length : Int) = (↑x.snd.fst.length : Int) ∧
 g.snd.snd.snd.fst + (1 : Int) = g.snd.snd.snd.fst + (1 : Int) ∧ True) ∧
 (((step (g.fst.fst, g.fst.snd.fst, g.fst.snd.snd.fst, g.fst.snd.snd.snd)
 (x.snd.fst.getD g.snd.snd.snd.fst.toNat ((0 : Int), (0 : Int))).fst
 (x.snd.fst.getD g.snd.snd.snd.fst.toNat ((0 : Int), (0 : Int))).snd).fst.fst =
 (step (g.fst.fst, g.fst.snd.fst, g.fst.snd.snd.fst, g.fst.snd.snd.snd)
 (x.snd.fst.getD g.snd.snd.snd.fst.toNat ((0 : Int), (0 : Int))).fst
 (x.snd.fst.getD g.snd.snd.snd.fst.toNat ((0 : Int), (0 : Int))).snd).fst.fst ∧
 (step (g.fst.fst, g.fst.snd.fst, g.fst.snd.snd.fst, g.fst.snd.snd.snd)
 (x.snd.fst.getD g.snd.snd.snd.fst.toNat ((0 : Int), (0 : Int))).fst
 (x.snd.fst.getD g.snd.snd.snd.fst.toNat ((0 : Int), (0 : Int))).snd).fst.snd.fst =
 (step (g.fst.fst, g.fst.snd.fst, g.fst.snd.snd.fst, g.fst.snd.snd.snd)
 (x.snd.fst.getD g.snd.snd.snd.fst.toNat ((0 : Int), (0 : Int))).fst
 (x.snd.fst.getD g.snd.snd.snd.fst.toNat ((0 : Int), (0 : Int))).snd).fst.snd.fst ∧
 (step (g.fst.fst, g.fst.snd.fst, g.fst.snd.snd.fst, g.fst.snd.snd.snd)
 (x.snd.fst.getD g.snd.snd.snd.fst.toNat ((0 : Int), (0 : Int))).fst
 (x.snd.fst.getD g.snd.snd.snd.fst.toNat ((0 : Int), (0 : Int))).snd).fst.snd.snd.fst =
 (step (g.fst.fst, g.fst.snd.fst, g.fst.snd.snd.fst, g.fst.snd.snd.snd)
 (x.snd.fst.getD g.snd.snd.snd.fst.toNat ((0 : Int), (0 : Int))).fst
 (x.snd.fst.getD g.snd.snd.snd.fst.toNat ((0 : Int), (0 : Int))).snd).fst.snd.snd.fst ∧
 (step (g.fst.fst, g.fst.snd.fst, g.fst.snd.snd.fst, g.fst.snd.snd.snd)
 (x.snd.fst.getD g.snd.snd.snd.fst.toNat ((0 : Int), (0 : Int))).fst
 (x.snd.fst.getD g.snd.snd.snd.fst.toNat ((0 : Int), (0 : Int))).snd).fst.snd.snd.snd =
 (step (g.fst.fst, g.fst.snd.fst, g.fst.snd.snd.fst, g.fst.snd.snd.snd)
 (x.snd.fst.getD g.snd.snd.snd.fst.toNat ((0 : Int), (0 : Int))).fst
 (x.snd.fst.getD g.snd.snd.snd.fst.toNat ((0 : Int), (0 : Int))).snd).fst.snd.snd.snd ∧
 True) ∧
 g.snd.fst ++
 ((0 : Int) :: ([] : List Int)).set (0 : Nat)
 (step (g.fst.fst, g.fst.snd.fst, g.fst.snd.snd.fst, g.fst.snd.snd.snd)
 (x.snd.fst.getD g.snd.snd.snd.fst.toNat ((0 : Int), (0 : Int))).fst
 (x.snd.fst.getD g.snd.snd.snd.fst.toNat ((0 : Int), (0 : Int))).snd).snd.snd.fst =
 g.snd.fst ++
 ((0 : Int) :: ([] : List Int)).set (0 : Nat)
 (step (g.fst.fst, g.fst.snd.fst, g.fst.snd.snd.fst, g.fst.snd.snd.snd)
 (x.snd.fst.getD g.snd.snd.snd.fst.toNat ((0 : Int), (0 : Int))).fst
 (x.snd.fst.getD g.snd.snd.snd.fst.toNat ((0 : Int), (0 : Int))).snd).snd.snd.fst ∧
 g.snd.snd.fst = g.snd.snd.fst ∧
 (Value.slice none (0 : Nat) (0 : Nat) = Value.slice none (0 : Nat) (0 : Nat) ∧
 (0 : Int) = (0 : Int) ∧ (0 : Int) = (0 : Int) ∧ (0 : Int) = (0 : Int) ∧ True) ∧
 True) ∧
 True)) ∧
 (((step (g.fst.fst, g.fst.snd.fst, g.fst.snd.snd.fst, g.fst.snd.snd.snd)
 (x.snd.fst.getD g.snd.snd.snd.fst.toNat ((0 : Int), (0 : Int))).fst
 (x.snd.fst.getD g.snd.snd.snd.fst.toNat ((0 : Int), (0 : Int))).snd).snd.snd.fst ==
 (0 : Int)) =
 false →
 (g.snd.fst.length +
 (((0 : Int) :: ([] : List Int)).set (0 : Nat)
 (step (g.fst.fst, g.fst.snd.fst, g.fst.snd.snd.fst, g.fst.snd.snd.snd)
 (x.snd.fst.getD g.snd.snd.snd.fst.toNat ((0 : Int), (0 : Int))).fst
 (x.snd.fst.getD g.snd.snd.snd.fst.toNat ((0 : Int), (0 : Int))).snd).snd.snd.fst).length ≤
 (9223372036854775807 : Nat) ∧
 (g.snd.fst.length +
 (((0 : Int) :: ([] : List Int)).set (0 : Nat)
 (step (g.fst.fst, g.fst.snd.fst, g.fst.snd.snd.fst, g.fst.snd.snd.snd)
 (x.snd.fst.getD g.snd.snd.snd.fst.toNat ((0 : Int), (0 : Int))).fst
 (x.snd.fst.getD g.snd.snd.snd.fst.toNat ((0 : Int), (0 : Int))).snd).snd.snd.fst).length +
 (g.snd.fst.length +
 (((0 : Int) :: ([] : List Int)).set (0 : Nat)
 (step (g.fst.fst, g.fst.snd.fst, g.fst.snd.snd.fst, g.fst.snd.snd.snd)
 (x.snd.fst.getD g.snd.snd.snd.fst.toNat ((0 : Int), (0 : Int))).fst
 (x.snd.fst.getD g.snd.snd.snd.fst.toNat ((0 : Int), (0 : Int))).snd).snd.snd.fst).length) /
 (4 : Nat) +
 (192 : Nat)) *
 (8 : Nat) ≤
 (281474976710656 : Nat)) ∧
 ((-9223372036854775808 : Int) ≤ g.snd.snd.snd.fst + (1 : Int) ∧
 g.snd.snd.snd.fst + (1 : Int) ≤ (9223372036854775807 : Int)) ∧
 (((0 : Int) ≤ g.snd.snd.snd.fst + (1 : Int) ∧
 g.snd.snd.snd.fst + (1 : Int) ≤ (↑x.snd.fst.length : Int) ∧
 ((2 : Int) ≤ x.fst ∧ x.fst ≤ (64 : Int)) ∧
 (qpl x.fst (List.take (g.snd.snd.snd.fst + (1 : Int)).toNat x.snd.fst)).fst =
 g.snd.fst ++
 ((0 : Int) :: ([] : List Int)).set (0 : Nat)
 (step (g.fst.fst, g.fst.snd.fst, g.fst.snd.snd.fst, g.fst.snd.snd.snd)
 (x.snd.fst.getD g.snd.snd.snd.fst.toNat ((0 : Int), (0 : Int))).fst
 (x.snd.fst.getD g.snd.snd.snd.fst.toNat ((0 : Int), (0 : Int))).snd).snd.snd.fst ∧
 (qpl x.fst (List.take (g.snd.snd.snd.fst + (1 : Int)).toNat x.snd.fst)).snd.fst = g.snd.snd.fst ∧
 (g.fst.fst, g.fst.snd.fst, g.fst.snd.snd.fst, g.fst.snd.snd.snd) =
 ringOf x.fst (qpl x.fst (List.take (g.snd.snd.snd.fst + (1 : Int)).toNat x.snd.fst)) ∧
 (↑(g.snd.fst ++
 ((0 : Int) :: ([] : List Int)).set (0 : Nat)
 (step (g.fst.fst, g.fst.snd.fst, g.fst.snd.snd.fst, g.fst.snd.snd.snd)
 (x.snd.fst.getD g.snd.snd.snd.fst.toNat ((0 : Int), (0 : Int))).fst
 (x.snd.fst.getD g.snd.snd.snd.fst.toNat
 ((0 : Int), (0 : Int))).snd).snd.snd.fst).length :
 Int) =
 g.snd.snd.snd.fst + (1 : Int) ∧
 (↑g.snd.snd.fst.length : Int) ≤ g.snd.snd.snd.fst + (1 : Int)) ∧
 ((↑x.snd.fst.length : Int) - (g.snd.snd.snd.fst + (1 : Int))).toNat <
 ((↑x.snd.fst.length : Int) - g.snd.snd.snd.fst).toNat) ∧
 ((True ∧ True) ∧
 (True ∧ True) ∧
 True ∧
 True ∧
 x.snd.fst = x.snd.fst ∧
 (↑x.snd.fst.length : Int) = (↑x.snd.fst.length : Int) ∧
 g.snd.snd.snd.fst + (1 : Int) = g.snd.snd.snd.fst + (1 : Int) ∧ True) ∧
 ((g.fst.fst = g.fst.fst ∧
 g.fst.snd.fst = g.fst.snd.fst ∧
 g.fst.snd.snd.fst = g.fst.snd.snd.fst ∧ g.fst.snd.snd.snd = g.fst.snd.snd.snd ∧ True) ∧
 g.snd.fst ++
 ((0 : Int) :: ([] : List Int)).set (0 : Nat)
 (step (g.fst.fst, g.fst.snd.fst, g.fst.snd.snd.fst, g.fst.snd.snd.snd)
 (x.snd.fst.getD g.snd.snd.snd.fst.toNat ((0 : Int), (0 : Int))).fst
 (x.snd.fst.getD g.snd.snd.snd.fst.toNat ((0 : Int), (0 : Int))).snd).snd.snd.fst =
 g.snd.fst ++
 ((0 : Int) :: ([] : List Int)).set (0 : Nat)
 (step (g.fst.fst, g.fst.snd.fst, g.fst.snd.snd.fst, g.fst.snd.snd.snd)
 (x.snd.fst.getD g.snd.snd.snd.fst.toNat ((0 : Int), (0 : Int))).fst
 (x.snd.fst.getD g.snd.snd.snd.fst.toNat ((0 : Int), (0 : Int))).snd).snd.snd.fst ∧
 g.snd.snd.fst = g.snd.snd.fst ∧
 (Value.slice none (0 : Nat) (0 : Nat) = Value.slice none (0 : Nat) (0 : Nat) ∧
 (0 : Int) = (0 : Int) ∧ (0 : Int) = (0 : Int) ∧ (0 : Int) = (0 : Int) ∧ True) ∧
 True) ∧
 True)) ∧
 (decide (g.snd.snd.snd.fst < (↑x.snd.fst.length : Int)) = false →
 g.snd.fst = (rplay x.fst x.snd.fst).fst ∧
 g.snd.snd.fst = (rplay x.fst x.snd.fst).snd.fst ∧
 (g.fst.fst, g.fst.snd.fst, g.fst.snd.snd.fst, g.fst.snd.snd.snd) = (rplay x.fst x.snd.fst).snd.snd.fst ∧
 (0 : Int) = (rplay x.fst x.snd.fst).snd.snd.snd.fst))

theorem E_play_eq (x : HL (cRPlay : Ctr).as) : vc (fx_play x) 1 45 Try.f45 (cRPlay) x = E_play x := by kernel_rfl

def E_rplay (x : Int × List (Int × Int) × Unit) : Prop :=
 ((!decide (x.fst < (2 : Int))) = true → (!decide (x.fst < (2 : Int))) = true) ∧
 (decide (x.fst < (2 : Int)) = false → (!decide (x.fst < (2 : Int))) = true) ∧
 ((decide (x.fst < (2 : Int)) || decide ((64 : Int) < x.fst)) = true →
 ([] : List Int) = (rplay x.fst x.snd.fst).fst ∧
 ([] : List Int) = (rplay x.fst x.snd.fst).snd.fst ∧
 (([] : List (Bool × Int)), (0 : Int), (0 : Int), (0 : Int)) = (rplay x.fst x.snd.fst).snd.snd.fst ∧
 (2 : Int) = (rplay x.fst x.snd.fst).snd.snd.snd.fst) ∧
 ((decide (x.fst < (2 : Int)) || decide ((64 : Int) < x.fst)) = false →
 ((((0 : Int) ≤ (0 : Int) ∧
 (0 : Int) ≤ (↑x.snd.fst.length : Int) ∧
 ((2 : Int) ≤ x.fst ∧ x.fst ≤ (64 : Int)) ∧
 qpl x.fst (List.take (Int.toNat (0 : Int)) x.snd.fst) = (([] : List Int), ([] : List Int), ([] : List Int), ([] : List Int)) ∧
 (↑([] : List Int).length : Int) = (0 : Int) ∧
 (0 : Int) = (↑([] : List Int).length : Int) + (↑([] : List Int).length : Int) + (↑([] : List Int).length : Int) ∧
 (0 : Int) ≤ (0 : Int) ∧ (↑([] : List Int).length : Int) + (↑([] : List Int).length : Int) ≤ x.fst - (1 : Int)) ∧
 True) ∧
 (x.fst = x.fst ∧
 (True ∧ True) ∧
 True ∧
 True ∧
 True ∧
 True ∧
 (0 : Int) = (0 : Int) ∧
 x.snd.fst = x.snd.fst ∧ (↑x.snd.fst.length : Int) = (↑x.snd.fst.length : Int) ∧ (0 : Int) = (0 : Int) ∧ True) ∧
 (([] : List Int) = ([] : List Int) ∧
 ([] : List Int) = ([] : List Int) ∧
 ([] : List Int) = ([] : List Int) ∧
 ([] : List Int) = ([] : List Int) ∧
 (Value.slice none (0 : Nat) (0 : Nat) = Value.slice none (0 : Nat) (0 : Nat) ∧
 (0 : Int) = (0 : Int) ∧ (0 : Int) = (0 : Int) ∧ (0 : Int) = (0 : Int) ∧ True) ∧
 True) ∧
 True) ∧
 ∀ (g : List Int × List Int × List Int × List Int × Int × Int × Unit),
 (0 : Int) ≤ g.snd.snd.snd.snd.snd.fst ∧
 g.snd.snd.snd.snd.snd.fst ≤ (↑x.snd.fst.length : Int) ∧
 ((2 : Int) ≤ x.fst ∧ x.fst ≤ (64 : Int)) ∧
 qpl x.fst (List.take g.snd.snd.snd.snd.snd.fst.toNat x.snd.fst) = (g.fst, g.snd.snd.snd.fst, g.snd.snd.fst, g.snd.fst) ∧
 (↑g.fst.length : Int) = g.snd.snd.snd.snd.snd.fst ∧
 g.snd.snd.snd.snd.fst = (↑g.snd.snd.snd.fst.length : Int) + (↑g.snd.snd.fst.length : Int) + (↑g.snd.fst.length : Int) ∧
 g.snd.snd.snd.snd.fst ≤ g.snd.snd.snd.snd.snd.fst ∧
 (↑g.snd.snd.fst.length : Int) + (↑g.snd.fst.length : Int) ≤ x.fst - (1 : Int) →
 (g.fst.length ≤ (9223372036854775807 : Nat) ∧
 ∀ (x : Int), x ∈ g.fst → (-9223372036854775808 : Int) ≤ x ∧ x ≤ (9223372036854775807 : Int)) ∧
 (g.snd.fst.length ≤ (9223372036854775807 : Nat) ∧
 ∀ (x : Int), x ∈ g.snd.fst → (-9223372036854775808 : Int) ≤ x ∧ x ≤ (9223372036854775807 : Int)) ∧
 (g.snd.snd.fst.length ≤ (9223372036854775807 : Nat) ∧
 ∀ (x : Int), x ∈ g.snd.snd.fst → (-9223372036854775808 : Int) ≤ x ∧ x ≤ (9223372036854775807 : Int)) ∧
 (g.snd.snd.snd.fst.length ≤ (9223372036854775807 : Nat) ∧
 ∀ (x : Int), x ∈ g.snd.snd.snd.fst → (-9223372036854775808 : Int) ≤ x ∧ x ≤ (9223372036854775807 : Int)) ∧
 ((-9223372036854775808 : Int) ≤ g.snd.snd.snd.snd.fst ∧ g.snd.snd.snd.snd.fst ≤ (9223372036854775807 : Int)) ∧
 ((-9223372036854775808 : Int) ≤ g.snd.snd.snd.snd.snd.fst ∧ g.snd.snd.snd.snd.snd.fst ≤ (9223372036854775807 : Int)) ∧
 True →
 (decide (g.snd.snd.snd.snd.snd.fst < (↑x.snd.fst.length : Int)) = true →
 ((0 : Int) ≤ g.snd.snd.snd.snd.snd.fst ∧ g.snd.snd.snd.snd.snd.fst < (↑x.snd.fst.length : Int)) ∧
 (((x.snd.fst.getD g.snd.snd.snd.snd.snd.fst.toNat ((0 : Int), (0 : Int))).fst == (1 : Int)) = true →
 ((x.snd.fst.getD g.snd.snd.snd.snd.snd.fst.toNat ((0 : Int), (0 : Int))).fst == (1 : Int)) = true) ∧
 (((x.snd.fst.getD g.snd.snd.snd.snd.snd.fst.toNat ((0 : Int), (0 : Int))).fst == (1 : Int)) = true →
 ((x.snd.fst.getD g.snd.snd.snd.snd.snd.fst.toNat ((0 : Int), (0 : Int))).fst == (1 : Int)) = true) ∧
 (((x.snd.fst.getD g.snd.snd.snd.snd.snd.fst.toNat ((0 : Int), (0 : Int))).fst == (1 : Int)) = true →
 (((x.snd.fst.getD g.snd.snd.snd.snd.snd.fst.toNat ((0 : Int), (0 : Int))).fst == (1 : Int)) = true ∧
 ((x.snd.fst.getD g.snd.snd.snd.snd.snd.fst.toNat ((0 : Int), (0 : Int))).fst == (1 : Int)) = true) ∧
 (-9223372036854775808 : Int) ≤ (↑g.snd.fst.length : Int) + (↑g.snd.snd.fst.length : Int) ∧
 (↑g.snd.fst.length : Int) + (↑g.snd.snd.fst.length : Int) ≤ (9223372036854775807 : Int)) ∧
 (((x.snd.fst.getD g.snd.snd.snd.snd.snd.fst.toNat ((0 : Int), (0 : Int))).fst == (1 : Int)) = true →
 ((x.snd.fst.getD g.snd.snd.snd.snd.snd.fst.toNat ((0 : Int), (0 : Int))).fst == (1 : Int)) = true ∧
 (-9223372036854775808 : Int) ≤ x.fst - (1 : Int) ∧ x.fst - (1 : Int) ≤ (9223372036854775807 : Int)) ∧
 (((x.snd.fst.getD g.snd.snd.snd.snd.snd.fst.toNat ((0 : Int), (0 : Int))).fst == (1 : Int)) = true →
 ((x.snd.fst.getD g.snd.snd.snd.snd.snd.fst.toNat ((0 : Int), (0 : Int))).fst == (1 : Int)) = true ∧
 ((x.snd.fst.getD g.snd.snd.snd.snd.snd.fst.toNat ((0 : Int), (0 : Int))).fst == (1 : Int)) = true) ∧
 (((x.snd.fst.getD g.snd.snd.snd.snd.snd.fst.toNat ((0 : Int), (0 : Int))).fst == (1 : Int)) = true →
 ((x.snd.fst.getD g.snd.snd.snd.snd.snd.fst.toNat ((0 : Int), (0 : Int))).fst == (1 : Int)) = true) ∧
 (((x.snd.fst.getD g.snd.snd.snd.snd.snd.fst.toNat ((0 : Int), (0 : Int))).fst == (1 : Int) &&
 (↑g.snd.fst.length : Int) + (↑g.snd.snd.fst.length : Int) == x.fst - (1 : Int)) =
 true →
 (g.fst.length + (((0 : Int) :: ([] : List Int)).set (0 : Nat) (7 : Int)).length ≤ (9223372036854775807 : Nat) ∧
 (g.fst.length + (((0 : Int) :: ([] : List Int)).set (0 : Nat) (7 : Int)).length +
 (g.fst.length + (((0 : Int) :: ([] : List Int)).set (0 : Nat) (7 : Int)).length) / (4 : Nat) +
 (192 : Nat)) *
 (8 : Nat) ≤
 (281474976710656 : Nat)) ∧
 ((-9223372036854775808 : Int) ≤ g.snd.snd.snd.snd.snd.fst + (1 : Int) ∧
 g.snd.snd.snd.snd.snd.fst + (1 : Int) ≤ (9223372036854775807 : Int)) ∧
 (((0 : Int) ≤ g.snd.snd.snd.snd.snd.fst + (1 : Int) ∧
 g.snd.snd.snd.snd.snd.fst + (1 : Int) ≤ (↑x.snd.fst.length : Int) ∧
 ((2 : Int) ≤ x.fst ∧ x.fst ≤ (64 : Int)) ∧
 qpl x.fst (List.take (g.snd.snd.snd.snd.snd.fst + (1 : Int)).toNat x.snd.fst) =
 (g.fst ++ ((0 : Int) :: ([] : List Int)).set (0 : Nat) (7 : Int), g.snd.snd.snd.fst,
 g.snd.snd.fst, g.snd.fst) ∧
 (↑(g.fst ++ ((0 : Int) :: ([] : List Int)).set (0 : Nat) (7 : Int)).length : Int) =
 g.snd.snd.snd.snd.snd.fst + (1 : Int) ∧
 g.snd.snd.snd.snd.fst =
 (↑g.snd.snd.snd.fst.length : Int) + (↑g.snd.snd.fst.length : Int) +
 (↑g.snd.fst.length : Int) ∧
 g.snd.snd.snd.snd.fst ≤ g.snd.snd.snd.snd.snd.fst + (1 : Int) ∧
 (↑g.snd.snd.fst.length : Int) + (↑g.snd.fst.length : Int) ≤ x.fst - (1 : Int)) ∧
 ((↑x.snd.fst.length : Int) - (g.snd.snd.snd.snd.snd.fst + (1 : Int))).toNat <
 ((↑x.snd.fst.length : Int) - g.snd.snd.snd.snd.snd.fst).toNat) ∧
 (x.fst = x.fst ∧
 (True ∧ True) ∧
 True ∧
 True ∧
 True ∧
 True ∧
 g.snd.snd.snd.snd.fst = g.snd.snd.snd.snd.fst ∧
 x.snd.fst = x.snd.fst ∧
 (↑x.snd.fst.length : Int) = (↑x.snd.fst.length : Int) ∧
 g.snd.snd.snd.snd.snd.fst + (1 : Int) = g.snd.snd.snd.snd.snd.fst + (1 : Int) ∧
 True) ∧
 (g.fst ++ ((0 : Int) :: ([] : List Int)).set (0 : Nat) (7 : Int) =
 g.fst ++ ((0 : Int) :: ([] : List Int)).set (0 : Nat) (7 : Int) ∧
 g.snd.fst = g.snd.fst ∧
 g.snd.snd.fst = g.snd.snd.fst ∧
 g.snd.snd.snd.fst = g.snd.snd.snd.fst ∧
 (Value.slice none (0 : Nat) (0 : Nat) = Value.slice none (0 : Nat) (0 : Nat) ∧
 (0 : Int) = (0 : Int) ∧ (0 : Int) = (0 : Int) ∧ (0 : Int) = (0 : Int) ∧ True) ∧
 True) ∧
 True) ∧
 (((x.snd.fst.getD g.snd.snd.snd.snd.snd.fst.toNat ((0 : Int), (0 : Int))).fst == (1 : Int) &&
 (↑g.snd.fst.length : Int) + (↑g.snd.snd.fst.length : Int) == x.fst - (1 : Int)) =
 false →
 (((x.snd.fst.getD g.snd.snd.snd.snd.snd.fst.toNat ((0 : Int), (0 : Int))).fst == (1 : Int)) = true →
 (g.snd.fst.length +
 (((0 : Int) :: ([] : List Int)).set (0 : Nat)
 (x.snd.fst.getD g.snd.snd.snd.snd.snd.fst.toNat ((0 : Int), (0 : Int))).snd).length ≤
 (9223372036854775807 : Nat) ∧
 (g.snd.fst.length +
 (((0 : Int) :: ([] : List Int)).set (0 : Nat)
 (x.snd.fst.getD g.snd.snd.snd.snd.snd.fst.toNat ((0 : Int), (0 : Int))).snd).length +
 (g.snd.fst.length +
 (((0 : Int) :: ([] : List Int)).set (0 : Nat)
 (x.snd.fst.getD g.snd.snd.snd.snd.snd.fst.toNat ((0 : Int), (0 : Int))).snd).length) /
 (4 : Nat) +
 (192 : Nat)) *
 (8 : Nat) ≤
 (281474976710656 : Nat)) ∧
 ((-9223372036854775808 : Int) ≤ g.snd.snd.snd.snd.fst + (1 : Int) ∧
 g.snd.snd.snd.snd.fst + (1 : Int) ≤ (9223372036854775807 : Int)) ∧
 (g.fst.length + (((0 : Int) :: ([] : List Int)).set (0 : Nat) (0 : Int)).length ≤
 (9223372036854775807 : Nat) ∧
 (g.fst.length + (((0 : Int) :: ([] : List Int)).set (0 : Nat) (0 : Int)).length +
 (g.fst.length + (((0 : Int) :: ([] : List Int)).set (0 : Nat) (0 : Int)).length) /
 (4 : Nat) +
 (192 : Nat)) *
 (8 : Nat) ≤
 (281474976710656 : Nat)) ∧
 ((-9223372036854775808 : Int) ≤ g.snd.snd.snd.snd.snd.fst + (1 : Int) ∧
 g.snd.snd.snd.snd.snd.fst + (1 : Int) ≤ (9223372036854775807 : Int)) ∧
 (((0 : Int) ≤ g.snd.snd.snd.snd.snd.fst + (1 : Int) ∧
 g.snd.snd.snd.snd.snd.fst + (1 : Int) ≤ (↑x.snd.fst.length : Int) ∧
 ((2 : Int) ≤ x.fst ∧ x.fst ≤ (64 : Int)) ∧
 qpl x.fst (List.take (g.snd.snd.snd.snd.snd.fst + (1 : Int)).toNat x.snd.fst) =
 (g.fst ++ ((0 : Int) :: ([] : List Int)).set (0 : Nat) (0 : Int), g.snd.snd.snd.fst,
 g.snd.snd.fst,
 g.snd.fst ++
 ((0 : Int) :: ([] : List Int)).set (0 : Nat)
 (x.snd.fst.getD g.snd.snd.snd.snd.snd.fst.toNat ((0 : Int), (0 : Int))).snd) ∧
 (↑(g.fst ++ ((0 : Int) :: ([] : List Int)).set (0 : Nat) (0 : Int)).length : Int) =
 g.snd.snd.snd.snd.snd.fst + (1 : Int) ∧
 g.snd.snd.snd.snd.fst + (1 : Int) =
 (↑g.snd.snd.snd.fst.length : Int) + (↑g.snd.snd.fst.length : Int) +
 (↑(g.snd.fst ++
 ((0 : Int) :: ([] : List Int)).set (0 : Nat)
 (x.snd.fst.getD g.snd.snd.snd.snd.snd.fst.toNat
 ((0 : Int), (0 : Int))).snd).length :
 Int) ∧
 g.snd.snd.snd.snd.fst + (1 : Int) ≤ g.snd.snd.snd.snd.snd.fst + (1 : Int) ∧
 (↑g.snd.snd.fst.length : Int) +
 (↑(g.snd.fst ++
 ((0 : Int) :: ([] : List Int)).set (0 : Nat)
 (x.snd.fst.getD g.snd.snd.snd.snd.snd.fst.toNat
 ((0 : Int), (0 : Int))).snd).length :
 Int) ≤
 x.fst - (1 : Int)) ∧
 ((↑x.snd.fst.length : Int) - (g.snd.snd.snd.snd.snd.fst + (1 : Int))).toNat <
 ((↑x.snd.fst.length : Int) - g.snd.snd.snd.snd.snd.fst).toNat) ∧
 (x.fst = x.fst ∧
 (True ∧ True) ∧
 True ∧
 True ∧
 True ∧
 True ∧
 g.snd.snd.snd.snd.fst + (1 : Int) = g.snd.snd.snd.snd.fst + (1 : Int) ∧
 x.snd.fst = x.snd.fst ∧
 (↑x.snd.fst.length : Int) = (↑x.snd.fst.length : Int) ∧
 g.snd.snd.snd.snd.snd.fst + (1 : Int) =
 g.snd.snd.snd.snd.snd.fst + (1 : Int) ∧
 True) ∧
 (g.fst ++ ((0 : Int) :: ([] : List Int)).set (0 : Nat) (0 : Int) =
 g.fst ++ ((0 : Int) :: ([] : List Int)).set (0 : Nat) (0 : Int) ∧
 g.snd.fst ++
 ((0 : Int) :: ([] : List Int)).set (0 : Nat)
 (x.snd.fst.getD g.snd.snd.snd.snd.snd.fst.toNat ((0 : Int), (0 : Int))).snd =
 g.snd.fst ++
 ((0 : Int) :: ([] : List Int)).set (0 : Nat)
 (x.snd.fst.getD g.snd.snd.snd.snd.snd.fst.toNat ((0 : Int), (0 : Int))).snd ∧
 g.snd.snd.fst = g.snd.snd.fst ∧
 g.snd.snd.snd.fst = g.snd.snd.snd.fst ∧
 (Value.slice none (0 : Nat) (0 : Nat) = Value.slice none (0 : Nat) (0 : Nat) ∧
 (0 : Int) = (0 : Int) ∧ (0 : Int) = (0 : Int) ∧ (0 : Int) = (0 : Int) ∧ True) ∧
 True) ∧
 True) ∧
 (((x.snd.fst.getD g.snd.snd.snd.snd.snd.fst.toNat ((0 : Int), (0 : Int))).fst == (1 : Int)) = false →
 (((x.snd.fst.getD g.snd.snd.snd.snd.snd.fst.toNat ((0 : Int), (0 : Int))).fst == (2 : Int)) = true →
 ((x.snd.fst.getD g.snd.snd.snd.snd.snd.fst.toNat ((0 : Int), (0 : Int))).fst == (2 : Int)) = true) ∧
 (((x.snd.fst.getD g.snd.snd.snd.snd.snd.fst.toNat ((0 : Int), (0 : Int))).fst == (2 : Int)) = true →
 ((x.snd.fst.getD g.snd.snd.snd.snd.snd.fst.toNat ((0 : Int), (0 : Int))).fst == (2 : Int)) = true) ∧
 (((x.snd.fst.getD g.snd.snd.snd.snd.snd.fst.toNat ((0 : Int), (0 : Int))).fst == (2 : Int)) = true →
 ((x.snd.fst.getD g.snd.snd.snd.snd.snd.fst.toNat ((0 : Int), (0 : Int))).fst == (2 : Int)) = true) ∧
 (((x.snd.fst.getD g.snd.snd.snd.snd.snd.fst.toNat ((0 : Int), (0 : Int))).fst == (2 : Int) &&
 (↑g.snd.fst.length : Int) == (0 : Int)) =
 true →
 (g.fst.length + (((0 : Int) :: ([] : List Int)).set (0 : Nat) (3 : Int)).length ≤
 (9223372036854775807 : Nat) ∧
 (g.fst.length + (((0 : Int) :: ([] : List Int)).set (0 : Nat) (3 : Int)).length +
 (g.fst.length + (((0 : Int) :: ([] : List Int)).set (0 : Nat) (3 : Int)).length) /
 (4 : Nat) +
 (192 : Nat)) *
 (8 : Nat) ≤
 (281474976710656 : Nat)) ∧
 ((-9223372036854775808 : Int) ≤ g.snd.snd.snd.snd.snd.fst + (1 : Int) ∧
 g.snd.snd.snd.snd.snd.fst + (1 : Int) ≤ (9223372036854775807 : Int)) ∧
 (((0 : Int) ≤ g.snd.snd.snd.snd.snd.fst + (1 : Int) ∧
 g.snd.snd.snd.snd.snd.fst + (1 : Int) ≤ (↑x.snd.fst.length : Int) ∧
 ((2 : Int) ≤ x.fst ∧ x.fst ≤ (64 : Int)) ∧
 qpl x.fst (List.take (g.snd.snd.snd.snd.snd.fst + (1 : Int)).toNat x.snd.fst) =
 (g.fst ++ ((0 : Int) :: ([] : List Int)).set (0 : Nat) (3 : Int),
 g.snd.snd.snd.fst, g.snd.snd.fst, g.snd.fst) ∧
 (↑(g.fst ++ ((0 : Int) :: ([] : List Int)).set (0 : Nat) (3 : Int)).length :
 Int) =
 g.snd.snd.snd.snd.snd.fst + (1 : Int) ∧
 g.snd.snd.snd.snd.fst =
 (↑g.snd.snd.snd.fst.length : Int) + (↑g.snd.snd.fst.length : Int) +
 (↑g.snd.fst.length : Int) ∧
 g.snd.snd.snd.snd.fst ≤ g.snd.snd.snd.snd.snd.fst + (1 : Int) ∧
 (↑g.snd.snd.fst.length : Int) + (↑g.snd.fst.length : Int) ≤
 x.fst - (1 : Int)) ∧
 ((↑x.snd.fst.length : Int) - (g.snd.snd.snd.snd.snd.fst + (1 : Int))).toNat <
 ((↑x.snd.fst.length : Int) - g.snd.snd.snd.snd.snd.fst).toNat) ∧
 (x.fst = x.fst ∧
 (True ∧ True) ∧
 True ∧
 True ∧
 True ∧
 True ∧
 g.snd.snd.snd.snd.fst = g.snd.snd.snd.snd.fst ∧
 x.snd.fst = x.snd.fst ∧
 (↑x.snd.fst.length : Int) = (↑x.snd.fst.length : Int) ∧
 g.snd.snd.snd.snd.snd.fst + (1 : Int) =
 g.snd.snd.snd.snd.snd.fst + (1 : Int) ∧
 True) ∧
 (g.fst ++ ((0 : Int) :: ([] : List Int)).set (0 : Nat) (3 : Int) =
 g.fst ++ ((0 : Int) :: ([] : List Int)).set (0 : Nat) (3 : Int) ∧
 g.snd.fst = g.snd.fst ∧
 g.snd.snd.fst = g.snd.snd.fst ∧
 g.snd.snd.snd.fst = g.snd.snd.snd.fst ∧
 (Value.slice none (0 : Nat) (0 : Nat) = Value.slice none (0 : Nat) (0 : Nat) ∧
 (0 : Int) = (0 : Int) ∧
 (0 : Int) = (0 : Int) ∧ (0 : Int) = (0 : Int) ∧ True) ∧
 True) ∧
 True) ∧
 (((x.snd.fst.getD g.snd.snd.snd.snd.snd.fst.toNat ((0 : Int), (0 : Int))).fst == (2 : Int) &&
 (↑g.snd.fst.length : Int) == (0 : Int)) =
 false →
 (((x.snd.fst.getD g.snd.snd.snd.snd.snd.fst.toNat ((0 : Int), (0 : Int))).fst == (3 : Int)) =
 true →
 ((x.snd.fst.getD g.snd.snd.snd.snd.snd.fst.toNat ((0 : Int), (0 : Int))).fst == (3 : Int)) =
 true) ∧
 (((x.snd.fst.getD g.snd.snd.snd.snd.snd.fst.toNat ((0 : Int), (0 : Int))).fst == (3 : Int)) =
 true →
 ((x.snd.fst.getD g.snd.snd.snd.snd.snd.fst.toNat ((0 : Int), (0 : Int))).fst == (3 : Int)) =
 true) ∧
 (((x.snd.fst.getD g.snd.snd.snd.snd.snd.fst.toNat ((0 : Int), (0 : Int))).fst == (3 : Int)) =
 true →
 ((x.snd.fst.getD g.snd.snd.snd.snd.snd.fst.toNat ((0 : Int), (0 : Int))).fst ==
 (3 : Int)) =
 true) ∧
 (((x.snd.fst.getD g.snd.snd.snd.snd.snd.fst.toNat ((0 : Int), (0 : Int))).fst ==
 (3 : Int) &&
 (↑g.snd.snd.fst.length : Int) == (0 : Int)) =
 true →
 (g.fst.length + (((0 : Int) :: ([] : List Int)).set (0 : Nat) (3 : Int)).length ≤
 (9223372036854775807 : Nat) ∧
 (g.fst.length + (((0 : Int) :: ([] : List Int)).set (0 : Nat) (3 : Int)).length +
 (g.fst.length +
 (((0 : Int) :: ([] : List Int)).set (0 : Nat) (3 : Int)).length) /
 (4 : Nat) +
 (192 : Nat)) *
 (8 : Nat) ≤
 (281474976710656 : Nat)) ∧
 ((-9223372036854775808 : Int) ≤ g.snd.snd.snd.snd.snd.fst + (1 : Int) ∧
 g.snd.snd.snd.snd.snd.fst + (1 : Int) ≤ (9223372036854775807 : Int)) ∧
 (((0 : Int) ≤ g.snd.snd.snd.snd.snd.fst + (1 : Int) ∧
 g.snd.snd.snd.snd.snd.fst + (1 : Int) ≤ (↑x.snd.fst.length : Int) ∧
 ((2 : Int) ≤ x.fst ∧ x.fst ≤ (64 : Int)) ∧
 qpl x.fst
 (List.take (g.snd.snd.snd.snd.snd.fst + (1 : Int)).toNat
 x.snd.fst) =
 (g.fst ++ ((0 : Int) :: ([] : List Int)).set (0 : Nat) (3 : Int),
 g.snd.snd.snd.fst, g.snd.snd.fst, g.snd.fst) ∧
 (↑(g.fst ++
 ((0 : Int) :: ([] : List Int)).set (0 : Nat)
 (3 : Int)).length :
 Int) =
 g.snd.snd.snd.snd.snd.fst + (1 : Int) ∧
 g.snd.snd.snd.snd.fst =
 (↑g.snd.snd.snd.fst.length : Int) +
 (↑g.snd.snd.fst.length : Int) +
 (↑g.snd.fst.length : Int) ∧
 g.snd.snd.snd.snd.fst ≤ g.snd.snd.snd.snd.snd.fst + (1 : Int) ∧
 (↑g.snd.snd.fst.length : Int) + (↑g.snd.fst.length : Int) ≤
 x.fst - (1 : Int)) ∧
 ((↑x.snd.fst.length : Int) - (g.snd.snd.snd.snd.snd.fst + (1 : Int))).toNat <
 ((↑x.snd.fst.length : Int) - g.snd.snd.snd.snd.snd.fst).toNat) ∧
 (x.fst = x.fst ∧
 (True ∧ True) ∧
 True ∧
 True ∧
 True ∧
 True ∧
 g.snd.snd.snd.snd.fst = g.snd.snd.snd.snd.fst ∧
 x.snd.fst = x.snd.fst ∧
 (↑x.snd.fst.length : Int) = (↑x.snd.fst.length : Int) ∧
 g.snd.snd.snd.snd.snd.fst + (1 : Int) =
 g.snd.snd.snd.snd.snd.fst + (1 : Int) ∧
 True) ∧
 (g.fst ++ ((0 : Int) :: ([] : List Int)).set (0 : Nat) (3 : Int) =
 g.fst ++ ((0 : Int) :: ([] : List Int)).set (0 : Nat) (3 : Int) ∧
 g.snd.fst = g.snd.fst ∧
 g.snd.snd.fst = g.snd.snd.fst ∧
 g.snd.snd.snd.fst = g.snd.snd.snd.fst ∧
 (Value.slice none (0 : Nat) (0 : Nat) =
 Value.slice none (0 : Nat) (0 : Nat) ∧
 (0 : Int) = (0 : Int) ∧
 (0 : Int) = (0 : Int) ∧ (0 : Int) = (0 : Int) ∧ True) ∧
 True) ∧
 True) ∧
 (((x.snd.fst.getD g.snd.snd.snd.snd.snd.fst.toNat ((0 : Int), (0 : Int))).fst ==
 (3 : Int) &&
 (↑g.snd.snd.fst.length : Int) == (0 : Int)) =
 false →
 (((x.snd.fst.getD g.snd.snd.snd.snd.snd.fst.toNat ((0 : Int), (0 : Int))).fst ==
 (2 : Int)) =
 true →
 ((0 : Int) ≤ (0 : Int) ∧ (0 : Int) < (↑g.snd.fst.length : Int)) ∧
 ((-9223372036854775808 : Int) ≤
 (-1 : Int) - g.snd.fst.getD (Int.toNat (0 : Int)) (0 : Int) ∧
 (-1 : Int) - g.snd.fst.getD (Int.toNat (0 : Int)) (0 : Int) ≤
 (9223372036854775807 : Int)) ∧
 (g.snd.snd.fst.length +
 (((0 : Int) :: ([] : List Int)).set (0 : Nat)
 ((-1 : Int) -
 g.snd.fst.getD (Int.toNat (0 : Int)) (0 : Int))).length ≤
 (9223372036854775807 : Nat) ∧
 (g.snd.snd.fst.length +
 (((0 : Int) :: ([] : List Int)).set (0 : Nat)
 ((-1 : Int) -
 g.snd.fst.getD (Int.toNat (0 : Int)) (0 : Int))).length +
 (g.snd.snd.fst.length +
 (((0 : Int) :: ([] : List Int)).set (0 : Nat)
 ((-1 : Int) -
 g.snd.fst.getD (Int.toNat (0 : Int)) (0 : Int))).length) /
 (4 : Nat) +
 (192 : Nat)) *
 (8 : Nat) ≤
 (281474976710656 : Nat)) ∧
 (((0 : Int) ≤ (1 : Int) ∧ (1 : Int) ≤ (↑g.snd.fst.length : Int)) ∧
 (↑g.snd.fst.length : Int) ≤ (↑g.snd.fst.length : Int)) ∧
 (g.fst.length +
 (((0 : Int) :: ([] : List Int)).set (0 : Nat) (0 : Int)).length ≤
 (9223372036854775807 : Nat) ∧
 (g.fst.length +
 (((0 : Int) :: ([] : List Int)).set (0 : Nat)
 (0 : Int)).length +
 (g.fst.length +
 (((0 : Int) :: ([] : List Int)).set (0 : Nat)
 (0 : Int)).length) /
 (4 : Nat) +
 (192 : Nat)) *
 (8 : Nat) ≤
 (281474976710656 : Nat)) ∧
 ((-9223372036854775808 : Int) ≤ g.snd.snd.snd.snd.snd.fst + (1 : Int) ∧
 g.snd.snd.snd.snd.snd.fst + (1 : Int) ≤ (9223372036854775807 : Int)) ∧
 (((0 : Int) ≤ g.snd.snd.snd.snd.snd.fst + (1 : Int) ∧
 g.snd.snd.snd.snd.snd.fst + (1 : Int) ≤
 (↑x.snd.fst.length : Int) ∧
 ((2 : Int) ≤ x.fst ∧ x.fst ≤ (64 : Int)) ∧
 qpl x.fst
 (List.take (g.snd.snd.snd.snd.snd.fst + (1 : Int)).toNat
 x.snd.fst) =
 (g.fst ++
 ((0 : Int) :: ([] : List Int)).set (0 : Nat)
 (0 : Int),
 g.snd.snd.snd.fst,
 g.snd.snd.fst ++
 ((0 : Int) :: ([] : List Int)).set (0 : Nat)
 ((-1 : Int) -
 g.snd.fst.getD (Int.toNat (0 : Int)) (0 : Int)),
 List.drop (Int.toNat (1 : Int))
 (List.take (↑g.snd.fst.length : Int).toNat
 g.snd.fst)) ∧
 (↑(g.fst ++
 ((0 : Int) :: ([] : List Int)).set (0 : Nat)
 (0 : Int)).length :
 Int) =
 g.snd.snd.snd.snd.snd.fst + (1 : Int) ∧
 g.snd.snd.snd.snd.fst =
 (↑g.snd.snd.snd.fst.length : Int) +
 (↑(g.snd.snd.fst ++
 ((0 : Int) :: ([] : List Int)).set
 (0 : Nat)
 ((-1 : Int) -
 g.snd.fst.getD (Int.toNat (0 : Int))
 (0 : Int))).length :
 Int) +
 (↑(List.drop (Int.toNat (1 : Int))
 (List.take (↑g.snd.fst.length : Int).toNat
 g.snd.fst)).length :
 Int) ∧
 g.snd.snd.snd.snd.fst ≤
 g.snd.snd.snd.snd.snd.fst + (1 : Int) ∧
 (↑(g.snd.snd.fst ++
 ((0 : Int) :: ([] : List Int)).set
 (0 : Nat)
 ((-1 : Int) -
 g.snd.fst.getD (Int.toNat (0 : Int))
 (0 : Int))).length :
 Int) +
 (↑(List.drop (Int.toNat (1 : Int))
 (List.take (↑g.snd.fst.length : Int).toNat
 g.snd.fst)).length :
 Int) ≤
 x.fst - (1 : Int)) ∧
 ((↑x.snd.fst.length : Int) -
 (g.snd.snd.snd.snd.snd.fst + (1 : Int))).toNat <
 ((↑x.snd.fst.length : Int) - g.snd.snd.snd.snd.snd.fst).toNat) ∧
 (x.fst = x.fst ∧
 (True ∧ True) ∧
 True ∧
 True ∧
 True ∧
 True ∧
 g.snd.snd.snd.snd.fst = g.snd.snd.snd.snd.fst ∧
 x.snd.fst = x.snd.fst ∧
 (↑x.snd.fst.length : Int) =
 (↑x.snd.fst.length : Int) ∧
 g.snd.snd.snd.snd.snd.fst + (1 : Int) =
 g.snd.snd.snd.snd.snd.fst + (1 : Int) ∧
 True) ∧
 (g.fst ++ ((0 : Int) :: ([] : List Int)).set (0 : Nat) (0 : Int) =
 g.fst ++
 ((0 : Int) :: ([] : List Int)).set (0 : Nat) (0 : Int) ∧
 List.drop (Int.toNat (1 : Int))
 (List.take (↑g.snd.fst.length : Int).toNat g.snd.fst) =
 List.drop (Int.toNat (1 : Int))
 (List.take (↑g.snd.fst.length : Int).toNat g.snd.fst) ∧
 g.snd.snd.fst ++
 ((0 : Int) :: ([] : List Int)).set (0 : Nat)
 ((-1 : Int) -
 g.snd.fst.getD (Int.toNat (0 : Int)) (0 : Int)) =
 g.snd.snd.fst ++
 ((0 : Int) :: ([] : List Int)).set (0 : Nat)
 ((-1 : Int) -
 g.snd.fst.getD (Int.toNat (0 : Int)) (0 : Int)) ∧
 g.snd.snd.snd.fst = g.snd.snd.snd.fst ∧
 (Value.slice none (0 : Nat) (0 : Nat) =
 Value.slice none (0 : Nat) (0 : Nat) ∧
 (0 : Int) = (0 : Int) ∧
 (0 : Int) = (0 : Int) ∧
 (0 : Int) = (0 : Int) ∧ True) ∧
 True) ∧
 True) ∧
 (((x.snd.fst.getD g.snd.snd.snd.snd.snd.fst.toNat ((0 : Int), (0 : Int))).fst ==
 (2 : Int)) =
 false →
 (((x.snd.fst.getD g.snd.snd.snd.snd.snd.fst.toNat ((0 : Int), (0 : Int))).fst ==
 (3 : Int)) =
 true →
 ((0 : Int) ≤ (0 : Int) ∧ (0 : Int) < (↑g.snd.snd.fst.length : Int)) ∧
 (g.snd.snd.snd.fst.length +
 (((0 : Int) :: ([] : List Int)).set (0 : Nat)
 (g.snd.snd.fst.getD (Int.toNat (0 : Int)) (0 : Int))).length ≤
 (9223372036854775807 : Nat) ∧
 (g.snd.snd.snd.fst.length +
 (((0 : Int) :: ([] : List Int)).set (0 : Nat)
 (g.snd.snd.fst.getD (Int.toNat (0 : Int))
 (0 : Int))).length +
 (g.snd.snd.snd.fst.length +
 (((0 : Int) :: ([] : List Int)).set (0 : Nat)
 (g.snd.snd.fst.getD (Int.toNat (0 : Int))
 (0 : Int))).length) /
 (4 : Nat) +
 (192 : Nat)) *
 (8 : Nat) ≤
 (281474976710656 : Nat)) ∧
 (((0 : Int) ≤ (1 : Int) ∧ (1 : Int) ≤ (↑g.snd.snd.fst.length : Int)) ∧
 (↑g.snd.snd.fst.length : Int) ≤ (↑g.snd.snd.fst.length : Int)) ∧
 (g.fst.length +
 (((0 : Int) :: ([] : List Int)).set (0 : Nat) (0 : Int)).length ≤
 (9223372036854775807 : Nat) ∧
 (g.fst.length +
 (((0 : Int) :: ([] : List Int)).set (0 : Nat)
 (0 : Int)).length +
 (g.fst.length +
 (((0 : Int) :: ([] : List Int)).set (0 : Nat)
 (0 : Int)).length) /
 (4 : Nat) +
 (192 : Nat)) *
 (8 : Nat) ≤
 (281474976710656 : Nat)) ∧
 ((-9223372036854775808 : Int) ≤ g.snd.snd.snd.snd.snd.fst + (1 : Int) ∧
 g.snd.snd.snd.snd.snd.fst + (1 : Int) ≤
 (9223372036854775807 : Int)) ∧
 (((0 : Int) ≤ g.snd.snd.snd.snd.snd.fst + (1 : Int) ∧
 g.snd.snd.snd.snd.snd.fst + (1 : Int) ≤
 (↑x.snd.fst.length : Int) ∧
 ((2 : Int) ≤ x.fst ∧ x.fst ≤ (64 : Int)) ∧
 qpl x.fst
 (List.take
 (g.snd.snd.snd.snd.snd.fst + (1 : Int)).toNat
 x.snd.fst) =
 (g.fst ++
 ((0 : Int) :: ([] : List Int)).set (0 : Nat)
 (0 : Int),
 g.snd.snd.snd.fst ++
 ((0 : Int) :: ([] : List Int)).set (0 : Nat)
 (g.snd.snd.fst.getD (Int.toNat (0 : Int))
 (0 : Int)),
 List.drop (Int.toNat (1 : Int))
 (List.take (↑g.snd.snd.fst.length : Int).toNat
 g.snd.snd.fst),
 g.snd.fst) ∧
 (↑(g.fst ++
 ((0 : Int) :: ([] : List Int)).set (0 : Nat)
 (0 : Int)).length :
 Int) =
 g.snd.snd.snd.snd.snd.fst + (1 : Int) ∧
 g.snd.snd.snd.snd.fst =
 (↑(g.snd.snd.snd.fst ++
 ((0 : Int) :: ([] : List Int)).set
 (0 : Nat)
 (g.snd.snd.fst.getD
 (Int.toNat (0 : Int))
 (0 : Int))).length :
 Int) +
 (↑(List.drop (Int.toNat (1 : Int))
 (List.take
 (↑g.snd.snd.fst.length : Int).toNat
 g.snd.snd.fst)).length :
 Int) +
 (↑g.snd.fst.length : Int) ∧
 g.snd.snd.snd.snd.fst ≤
 g.snd.snd.snd.snd.snd.fst + (1 : Int) ∧
 (↑(List.drop (Int.toNat (1 : Int))
 (List.take
 (↑g.snd.snd.fst.length : Int).toNat
 g.snd.snd.fst)).length :
 Int) +
 (↑g.snd.fst.length : Int) ≤
 x.fst - (1 : Int)) ∧
 ((↑x.snd.fst.length : Int) -
 (g.snd.snd.snd.snd.snd.fst + (1 : Int))).toNat <
 ((↑x.snd.fst.length : Int) - g.snd.snd.snd.snd.snd.fst).toNat) ∧
 (x.fst = x.fst ∧
 (True ∧ True) ∧
 True ∧
 True ∧
 True ∧
 True ∧
 g.snd.snd.snd.snd.fst = g.snd.snd.snd.snd.fst ∧
 x.snd.fst = x.snd.fst ∧
 (↑x.snd.fst.length : Int) =
 (↑x.snd.fst.length : Int) ∧
 g.snd.snd.snd.snd.snd.fst + (1 : Int) =
 g.snd.snd.snd.snd.snd.fst + (1 : Int) ∧
 True) ∧
 (g.fst ++ ((0 : Int) :: ([] : List Int)).set (0 : Nat) (0 : Int) =
 g.fst ++
 ((0 : Int) :: ([] : List Int)).set (0 : Nat) (0 : Int) ∧
 g.snd.fst = g.snd.fst ∧
 List.drop (Int.toNat (1 : Int))
 (List.take (↑g.snd.snd.fst.length : Int).toNat
 g.snd.snd.fst) =
 List.drop (Int.toNat (1 : Int))
 (List.take (↑g.snd.snd.fst.length : Int).toNat
 g.snd.snd.fst) ∧
 g.snd.snd.snd.fst ++
 ((0 : Int) :: ([] : List Int)).set (0 : Nat)
 (g.snd.snd.fst.getD (Int.toNat (0 : Int))
 (0 : Int)) =
 g.snd.snd.snd.fst ++
 ((0 : Int) :: ([] : List Int)).set (0 : Nat)
 (g.snd.snd.fst.getD (Int.toNat (0 : Int))
 (0 : Int)) ∧
 (Value.slice none (0 : Nat) (0 : Nat) =
 Value.slice none (0 : Nat) (0 : Nat) ∧
 (0 : Int) = (0 : Int) ∧
 (0 : Int) = (0 : Int) ∧
 (0 : Int) = (0 : Int) ∧ True) ∧
 True) ∧
 True) ∧
 (((x.snd.fst.getD g.snd.snd.snd.snd.snd.fst.toNat ((0 : Int), (0 : Int))).fst ==
 (3 : Int)) =
 false →
 (g.fst.length +
 (((0 : Int) :: ([] : List Int)).set (0 : Nat) (5 : Int)).length ≤
 (9223372036854775807 : Nat) ∧
 (g.fst.length +
 (((0 : Int) :: ([] : List Int)).set (0 : Nat) (5 : Int)).length +
 (g.fst.length +
 (((0 : Int) :: ([] : List Int)).set (0 : Nat)
 (5 : Int)).length) /
 (4 : Nat) +
 (192 : Nat)) *
 (8 : Nat) ≤
 (281474976710656 : Nat)) ∧
 ((-9223372036854775808 : Int) ≤ g.snd.snd.snd.snd.snd.fst + (1 : Int) ∧
 g.snd.snd.snd.snd.snd.fst + (1 : Int) ≤ (9223372036854775807 : Int)) ∧
 (((0 : Int) ≤ g.snd.snd.snd.snd.snd.fst + (1 : Int) ∧
 g.snd.snd.snd.snd.snd.fst + (1 : Int) ≤ (↑x.snd.fst.length : Int) ∧
 ((2 : Int) ≤ x.fst ∧ x.fst ≤ (64 : Int)) ∧
 qpl x.fst
 (List.take (g.snd.snd.snd.snd.snd.fst + (1 : Int)).toNat
 x.snd.fst) =
 (g.fst ++
 ((0 : Int) :: ([] : List Int)).set (0 : Nat) (5 : Int),
 g.snd.snd.snd.fst, g.snd.snd.fst, g.snd.fst) ∧
 (↑(g.fst ++
 ((0 : Int) :: ([] : List Int)).set (0 : Nat)
 (5 : Int)).length :
 Int) =
 g.snd.snd.snd.snd.snd.fst + (1 : Int) ∧
 g.snd.snd.snd.snd.fst =
 (↑g.snd.snd.snd.fst.length : Int) +
 (↑g.snd.snd.fst.length : Int) +
 (↑g.snd.fst.length : Int) ∧
 g.snd.snd.snd.snd.fst ≤
 g.snd.snd.snd.snd.snd.fst + (1 : Int) ∧
 (↑g.snd.snd.fst.length : Int) +
 (↑g.snd.fst.length : Int) ≤
 x.fst - (1 : Int)) ∧
 ((↑x.snd.fst.length : Int) -
 (g.snd.snd.snd.snd.snd.fst + (1 : Int))).toNat <
 ((↑x.snd.fst.length : Int) - g.snd.snd.snd.snd.snd.fst).toNat) ∧
 (x.fst = x.fst ∧
 (True ∧ True) ∧
 True ∧
 True ∧
 True ∧
 True ∧
 g.snd.snd.snd.snd.fst = g.snd.snd.snd.snd.fst ∧
 x.snd.fst = x.snd.fst ∧
 (↑x.snd.fst.length : Int) = (↑x.snd.fst.length : Int) ∧
 g.snd.snd.snd.snd.snd.fst + (1 : Int) =
 g.snd.snd.snd.snd.snd.fst + (1 : Int) ∧
 True) ∧
 (g.fst ++ ((0 : Int) :: ([] : List Int)).set (0 : Nat) (5 : Int) =
 g.fst ++ ((0 : Int) :: ([] : List Int)).set (0 : Nat) (5 : Int) ∧
 g.snd.fst = g.snd.fst ∧
 g.snd.snd.fst = g.snd.snd.fst ∧
 g.snd.snd.snd.fst = g.snd.snd.snd.fst ∧
 (Value.slice none (0 : Nat) (0 : Nat) =
 Value.slice none (0 : Nat) (0 : Nat) ∧
 (0 : Int) = (0 : Int) ∧
 (0 : Int) = (0 : Int) ∧ (0 : Int) = (0 : Int) ∧ True) ∧
 True) ∧
 True))))))) ∧
 (decide (g.snd.snd.snd.snd.snd.fst < (↑x.snd.fst.length : Int)) = false →
 (((0 : Int) ≤ x.fst ∧ x.fst ≤ x.fst) ∧
 x.fst * (↑(16 : Nat) : Int) ≤ (140737488355328 : Int) ∧ x.fst ≤ (9223372036854775807 : Int)) ∧
 ((0 : Int) ≤ g.snd.snd.snd.snd.fst ∧ (0 : Int) < x.fst) ∧
 ((-9223372036854775808 : Int) ≤ g.snd.snd.snd.snd.fst - (↑g.snd.fst.length : Int) ∧
 g.snd.snd.snd.snd.fst - (↑g.snd.fst.length : Int) ≤ (9223372036854775807 : Int)) ∧
 ((0 : Int) ≤ g.snd.snd.snd.snd.fst - (↑g.snd.fst.length : Int) ∧ (0 : Int) < x.fst) ∧
 ((0 : Int) ≤ (↑g.snd.snd.snd.fst.length : Int) ∧ (0 : Int) < x.fst) ∧
 ((((0 : Int) ≤ (0 : Int) ∧
 (0 : Int) ≤ (↑g.snd.snd.1.length : Int) ∧
 (g.snd.snd.snd.snd.fst % x.fst, (↑g.snd.snd.snd.fst.length : Int) % x.fst,
 (g.snd.snd.snd.snd.fst - (↑g.snd.fst.length : Int)) % x.fst) =
 (ringOf x.fst (qpl x.fst x.snd.fst)).snd ∧
 List.replicate x.fst.toNat (false, (0 : Int)) =
 cellsF x.fst ((↑g.snd.snd.snd.1.length : Int) % x.fst)
 (Fq (List.take (Int.toNat (0 : Int)) g.snd.snd.1) ([] : List Int))) ∧
 True) ∧
 (x.fst = x.fst ∧
 (True ∧ True) ∧
 True ∧
 True ∧
 True ∧
 (True ∧ True) ∧
 True ∧ (↑g.snd.snd.fst.length : Int) = (↑g.snd.snd.fst.length : Int) ∧ (0 : Int) = (0 : Int) ∧ True) ∧
 ((True ∧
 g.snd.snd.snd.snd.fst % x.fst = g.snd.snd.snd.snd.fst % x.fst ∧
 (↑g.snd.snd.snd.fst.length : Int) % x.fst = (↑g.snd.snd.snd.fst.length : Int) % x.fst ∧
 (g.snd.snd.snd.snd.fst - (↑g.snd.fst.length : Int)) % x.fst =
 (g.snd.snd.snd.snd.fst - (↑g.snd.fst.length : Int)) % x.fst ∧
 True) ∧
 List.replicate x.fst.toNat (false, (0 : Int)) = List.replicate x.fst.toNat (false, (0 : Int)) ∧
 (Value.slice none (0 : Nat) (0 : Nat) = Value.slice none (0 : Nat) (0 : Nat) ∧
 (0 : Int) = (0 : Int) ∧ (0 : Int) = (0 : Int) ∧ (0 : Int) = (0 : Int) ∧ True) ∧
 g.fst = g.fst ∧
 g.snd.fst = g.snd.fst ∧ g.snd.snd.snd.fst = g.snd.snd.snd.fst ∧ g.snd.snd.fst = g.snd.snd.fst ∧ True) ∧
 True) ∧
 ∀ (g_1 : (List (Bool × Int) × Int × Int × Int) × Int × Unit),
 (0 : Int) ≤ g_1.snd.fst ∧
 g_1.snd.fst ≤ (↑g.snd.snd.1.length : Int) ∧
 g_1.fst.snd = (ringOf x.fst (qpl x.fst x.snd.fst)).snd ∧
 g_1.fst.fst =
 cellsF x.fst ((↑g.snd.snd.snd.1.length : Int) % x.fst)
 (Fq (List.take g_1.snd.fst.toNat g.snd.snd.1) ([] : List Int)) →
 ((g_1.fst.fst.length ≤ (9223372036854775807 : Nat) ∧
 ∀ (x : Bool × Int),
 x ∈ g_1.fst.fst → True ∧ (-9223372036854775808 : Int) ≤ x.snd ∧ x.snd ≤ (9223372036854775807 : Int)) ∧
 ((-9223372036854775808 : Int) ≤ g_1.fst.snd.fst ∧ g_1.fst.snd.fst ≤ (9223372036854775807 : Int)) ∧
 ((-9223372036854775808 : Int) ≤ g_1.fst.snd.snd.fst ∧ g_1.fst.snd.snd.fst ≤ (9223372036854775807 : Int)) ∧
 (-9223372036854775808 : Int) ≤ g_1.fst.snd.snd.snd ∧
 g_1.fst.snd.snd.snd ≤ (9223372036854775807 : Int)) ∧
 ((-9223372036854775808 : Int) ≤ g_1.snd.fst ∧ g_1.snd.fst ≤ (9223372036854775807 : Int)) ∧ True →
 (decide (g_1.snd.fst < (↑g.snd.snd.fst.length : Int)) = true →
 ((0 : Int) ≤ g_1.snd.fst ∧ g_1.snd.fst < (↑g.snd.snd.fst.length : Int)) ∧
 ((-9223372036854775808 : Int) ≤ g_1.fst.snd.snd.fst + g_1.snd.fst ∧
 g_1.fst.snd.snd.fst + g_1.snd.fst ≤ (9223372036854775807 : Int)) ∧
 ((0 : Int) ≤ g_1.fst.snd.snd.fst + g_1.snd.fst ∧ (0 : Int) < x.fst) ∧
 ((0 : Int) ≤ (g_1.fst.snd.snd.fst + g_1.snd.fst) % x.fst ∧
 (g_1.fst.snd.snd.fst + g_1.snd.fst) % x.fst < (↑g_1.fst.fst.length : Int)) ∧
 ((-9223372036854775808 : Int) ≤ g_1.snd.fst + (1 : Int) ∧
 g_1.snd.fst + (1 : Int) ≤ (9223372036854775807 : Int)) ∧
 (((0 : Int) ≤ g_1.snd.fst + (1 : Int) ∧
 g_1.snd.fst + (1 : Int) ≤ (↑g.snd.snd.1.length : Int) ∧
 (g_1.fst.snd.fst, g_1.fst.snd.snd.fst, g_1.fst.snd.snd.snd) =
 (ringOf x.fst (qpl x.fst x.snd.fst)).snd ∧
 g_1.fst.fst.set ((g_1.fst.snd.snd.fst + g_1.snd.fst) % x.fst).toNat
 ((g_1.fst.fst.getD ((g_1.fst.snd.snd.fst + g_1.snd.fst) % x.fst).toNat
 (false, (0 : Int))).fst,
 g.snd.snd.fst.getD g_1.snd.fst.toNat (0 : Int)) =
 cellsF x.fst ((↑g.snd.snd.snd.1.length : Int) % x.fst)
 (Fq (List.take (g_1.snd.fst + (1 : Int)).toNat g.snd.snd.1) ([] : List Int))) ∧
 ((↑g.snd.snd.1.length : Int) - (g_1.snd.fst + (1 : Int))).toNat <
 ((↑g.snd.snd.1.length : Int) - g_1.snd.fst).toNat) ∧
 (x.fst = x.fst ∧
 (True ∧ True) ∧
 True ∧
 True ∧
 True ∧
 (True ∧ True) ∧
 True ∧
 (↑g.snd.snd.fst.length : Int) = (↑g.snd.snd.fst.length : Int) ∧
 g_1.snd.fst + (1 : Int) = g_1.snd.fst + (1 : Int) ∧ True) ∧
 ((True ∧
 g_1.fst.snd.fst = g_1.fst.snd.fst ∧
 g_1.fst.snd.snd.fst = g_1.fst.snd.snd.fst ∧
 g_1.fst.snd.snd.snd = g_1.fst.snd.snd.snd ∧ True) ∧
 g_1.fst.fst.set ((g_1.fst.snd.snd.fst + g_1.snd.fst) % x.fst).toNat
 ((g_1.fst.fst.getD ((g_1.fst.snd.snd.fst + g_1.snd.fst) % x.fst).toNat
 (false, (0 : Int))).fst,
 g.snd.snd.fst.getD g_1.snd.fst.toNat (0 : Int)) =
 g_1.fst.fst.set ((g_1.fst.snd.snd.fst + g_1.snd.fst) % x.fst).toNat
 ((g_1.fst.fst.getD ((g_1.fst.snd.snd.fst + g_1.snd.fst) % x.fst).toNat
 (false, (0 : Int))).fst,
 g.snd.snd.fst.getD g_1.snd.fst.toNat (0 : Int)) ∧
 (Value.slice none (0 : Nat) (0 : Nat) = Value.slice none (0 : Nat) (0 : Nat) ∧
 (0 : Int) = (0 : Int) ∧ (0 : Int) = (0 : Int) ∧ (0 : Int) = (0 : Int) ∧ True) ∧
 g.fst = g.fst ∧
 g.snd.fst = g.snd.fst ∧
 g.snd.snd.snd.fst = g.snd.snd.snd.fst ∧ g.snd.snd.fst = g.snd.snd.fst ∧ True) ∧
 True) ∧
 (decide (g_1.snd.fst < (↑g.snd.snd.fst.length : Int)) = false →
 ((((0 : Int) ≤ (0 : Int) ∧
 (0 : Int) ≤ (↑g.snd.1.length : Int) ∧
 (g_1.fst.snd.fst, g_1.fst.snd.snd.fst, g_1.fst.snd.snd.snd) =
 (ringOf x.fst (qpl x.fst x.snd.fst)).snd ∧
 g_1.fst.fst =
 cellsF x.fst ((↑g.snd.snd.snd.1.length : Int) % x.fst)
 (Fq (qpl x.fst x.snd.fst).snd.snd.fst (List.take (Int.toNat (0 : Int)) g.snd.1))) ∧
 True) ∧
 (x.fst = x.fst ∧
 (True ∧ True) ∧
 True ∧
 True ∧
 (True ∧ True) ∧
 True ∧
 (↑g.snd.fst.length : Int) = (↑g.snd.fst.length : Int) ∧ (0 : Int) = (0 : Int) ∧ True) ∧
 ((True ∧
 g_1.fst.snd.fst = g_1.fst.snd.fst ∧
 g_1.fst.snd.snd.fst = g_1.fst.snd.snd.fst ∧
 g_1.fst.snd.snd.snd = g_1.fst.snd.snd.snd ∧ True) ∧
 g_1.fst.fst = g_1.fst.fst ∧
 (Value.slice none (0 : Nat) (0 : Nat) = Value.slice none (0 : Nat) (0 : Nat) ∧
 (0 : Int) = (0 : Int) ∧ (0 : Int) = (0 : Int) ∧ (0 : Int) = (0 : Int) ∧ True) ∧
 g.fst = g.fst ∧ g.snd.snd.snd.fst = g.snd.snd.snd.fst ∧ g.snd.fst = g.snd.fst ∧ True) ∧
 True) ∧
 ∀ (g_2 : (List (Bool × Int) × Int × Int × Int) × Int × Unit),
 (0 : Int) ≤ g_2.snd.fst ∧
 g_2.snd.fst ≤ (↑g.snd.1.length : Int) ∧
 g_2.fst.snd = (ringOf x.fst (qpl x.fst x.snd.fst)).snd ∧
 g_2.fst.fst =
 cellsF x.fst ((↑g.snd.snd.snd.1.length : Int) % x.fst)
 (Fq (qpl x.fst x.snd.fst).snd.snd.fst (List.take g_2.snd.fst.toNat g.snd.1)) →
 ((g_2.fst.fst.length ≤ (9223372036854775807 : Nat) ∧
 ∀ (x : Bool × Int),
 x ∈ g_2.fst.fst →
 True ∧ (-9223372036854775808 : Int) ≤ x.snd ∧ x.snd ≤ (9223372036854775807 : Int)) ∧
 ((-9223372036854775808 : Int) ≤ g_2.fst.snd.fst ∧
 g_2.fst.snd.fst ≤ (9223372036854775807 : Int)) ∧
 ((-9223372036854775808 : Int) ≤ g_2.fst.snd.snd.fst ∧
 g_2.fst.snd.snd.fst ≤ (9223372036854775807 : Int)) ∧
 (-9223372036854775808 : Int) ≤ g_2.fst.snd.snd.snd ∧
 g_2.fst.snd.snd.snd ≤ (9223372036854775807 : Int)) ∧
 ((-9223372036854775808 : Int) ≤ g_2.snd.fst ∧ g_2.snd.fst ≤ (9223372036854775807 : Int)) ∧ True →
 (decide (g_2.snd.fst < (↑g.snd.fst.length : Int)) = true →
 ((0 : Int) ≤ g_2.snd.fst ∧ g_2.snd.fst < (↑g.snd.fst.length : Int)) ∧
 ((-9223372036854775808 : Int) ≤ g_2.fst.snd.snd.snd + g_2.snd.fst ∧
 g_2.fst.snd.snd.snd + g_2.snd.fst ≤ (9223372036854775807 : Int)) ∧
 ((0 : Int) ≤ g_2.fst.snd.snd.snd + g_2.snd.fst ∧ (0 : Int) < x.fst) ∧
 ((0 : Int) ≤ (g_2.fst.snd.snd.snd + g_2.snd.fst) % x.fst ∧
 (g_2.fst.snd.snd.snd + g_2.snd.fst) % x.fst < (↑g_2.fst.fst.length : Int)) ∧
 ((-9223372036854775808 : Int) ≤ g_2.snd.fst + (1 : Int) ∧
 g_2.snd.fst + (1 : Int) ≤ (9223372036854775807 : Int)) ∧
 (((0 : Int) ≤ g_2.snd.fst + (1 : Int) ∧
 g_2.snd.fst + (1 : Int) ≤ (↑g.snd.1.length : Int) ∧
 (g_2.fst.snd.fst, g_2.fst.snd.snd.fst, g_2.fst.snd.snd.snd) =
 (ringOf x.fst (qpl x.fst x.snd.fst)).snd ∧
 g_2.fst.fst.set ((g_2.fst.snd.snd.snd + g_2.snd.fst) % x.fst).toNat
 (true, g.snd.fst.getD g_2.snd.fst.toNat (0 : Int)) =
 cellsF x.fst ((↑g.snd.snd.snd.1.length : Int) % x.fst)
 (Fq (qpl x.fst x.snd.fst).snd.snd.fst
 (List.take (g_2.snd.fst + (1 : Int)).toNat g.snd.1))) ∧
 ((↑g.snd.1.length : Int) - (g_2.snd.fst + (1 : Int))).toNat <
 ((↑g.snd.1.length : Int) - g_2.snd.fst).toNat) ∧
 (x.fst = x.fst ∧
 (True ∧ True) ∧
 True ∧
 True ∧
 (True ∧ True) ∧
 True ∧
 (↑g.snd.fst.length : Int) = (↑g.snd.fst.length : Int) ∧
 g_2.snd.fst + (1 : Int) = g_2.snd.fst + (1 : Int) ∧ True) ∧
 ((True ∧
 g_2.fst.snd.fst = g_2.fst.snd.fst ∧
 g_2.fst.snd.snd.fst = g_2.fst.snd.snd.fst ∧
 g_2.fst.snd.snd.snd = g_2.fst.snd.snd.snd ∧ True) ∧
 g_2.fst.fst.set ((g_2.fst.snd.snd.snd + g_2.snd.fst) % x.fst).toNat
 (true, g.snd.fst.getD g_2.snd.fst.toNat (0 : Int)) =
 g_2.fst.fst.set ((g_2.fst.snd.snd.snd + g_2.snd.fst) % x.fst).toNat
 (true, g.snd.fst.getD g_2.snd.fst.toNat (0 : Int)) ∧
 (Value.slice none (0 : Nat) (0 : Nat) =
 Value.slice none (0 : Nat) (0 : Nat) ∧
 (0 : Int) = (0 : Int) ∧
 (0 : Int) = (0 : Int) ∧ (0 : Int) = (0 : Int) ∧ True) ∧
 g.fst = g.fst ∧
 g.snd.snd.snd.fst = g.snd.snd.snd.fst ∧ g.snd.fst = g.snd.fst ∧ True) ∧
 True) ∧
 (decide (g_2.snd.fst < (↑g.snd.fst.length : Int)) = false →
 g.fst = (rplay x.fst x.snd.fst).fst ∧
 g.snd.snd.snd.fst = (rplay x.fst x.snd.fst).snd.fst ∧
 (g_2.fst.fst, g_2.fst.snd.fst, g_2.fst.snd.snd.fst, g_2.fst.snd.snd.snd) =
 (rplay x.fst x.snd.fst).snd.snd.fst ∧
 (0 : Int) = (rplay x.fst x.snd.fst).snd.snd.snd.fst))))

theorem E_rplay_eq (x : HL (cRPlay : Ctr).as) : vc (fx_rplay x) 1 46 Try.f46 (cRPlay) x = E_rplay x := by kernel_rfl

def E_plays (x : Int × List (Int × Int) × Unit) : Prop :=
 Holds (x.snd.fst.length * (16 : Nat) ≤ (140737488355328 : Nat)) ∧
 Holds (x.snd.fst.length * (16 : Nat) ≤ (140737488355328 : Nat)) ∧
 (((rplay x.fst x.snd.fst).snd.snd.snd.fst == (rplay x.fst x.snd.fst).snd.snd.snd.fst) = true →
 (((rplay x.fst x.snd.fst).snd.snd.snd.fst == (rplay x.fst x.snd.fst).snd.snd.snd.fst) = true ∧
 ((rplay x.fst x.snd.fst).snd.snd.snd.fst == (rplay x.fst x.snd.fst).snd.snd.snd.fst) = true) ∧
 Holds True) ∧
 (((rplay x.fst x.snd.fst).snd.snd.snd.fst == (rplay x.fst x.snd.fst).snd.snd.snd.fst) = true →
 ((rplay x.fst x.snd.fst).snd.snd.snd.fst == (rplay x.fst x.snd.fst).snd.snd.snd.fst) = true) ∧
 (((rplay x.fst x.snd.fst).snd.snd.snd.fst == (rplay x.fst x.snd.fst).snd.snd.snd.fst &&
 decide ((rplay x.fst x.snd.fst).fst = (rplay x.fst x.snd.fst).fst)) =
 true →
 (((rplay x.fst x.snd.fst).snd.snd.snd.fst == (rplay x.fst x.snd.fst).snd.snd.snd.fst &&
 decide ((rplay x.fst x.snd.fst).fst = (rplay x.fst x.snd.fst).fst)) =
 true ∧
 ((rplay x.fst x.snd.fst).snd.snd.snd.fst == (rplay x.fst x.snd.fst).snd.snd.snd.fst &&
 decide ((rplay x.fst x.snd.fst).fst = (rplay x.fst x.snd.fst).fst)) =
 true) ∧
 Holds True) ∧
 (((rplay x.fst x.snd.fst).snd.snd.snd.fst == (rplay x.fst x.snd.fst).snd.snd.snd.fst &&
 decide ((rplay x.fst x.snd.fst).fst = (rplay x.fst x.snd.fst).fst)) =
 true →
 ((rplay x.fst x.snd.fst).snd.snd.snd.fst == (rplay x.fst x.snd.fst).snd.snd.snd.fst &&
 decide ((rplay x.fst x.snd.fst).fst = (rplay x.fst x.snd.fst).fst)) =
 true) ∧
 (((rplay x.fst x.snd.fst).snd.snd.snd.fst == (rplay x.fst x.snd.fst).snd.snd.snd.fst &&
 decide ((rplay x.fst x.snd.fst).fst = (rplay x.fst x.snd.fst).fst) &&
 decide ((rplay x.fst x.snd.fst).snd.fst = (rplay x.fst x.snd.fst).snd.fst)) =
 true →
 Holds True ∧
 decide
 (((rplay x.fst x.snd.fst).snd.snd.fst.fst, (rplay x.fst x.snd.fst).snd.snd.fst.snd.fst,
 (rplay x.fst x.snd.fst).snd.snd.fst.snd.snd.fst, (rplay x.fst x.snd.fst).snd.snd.fst.snd.snd.snd) =
 ((rplay x.fst x.snd.fst).snd.snd.fst.fst, (rplay x.fst x.snd.fst).snd.snd.fst.snd.fst,
 (rplay x.fst x.snd.fst).snd.snd.fst.snd.snd.fst, (rplay x.fst x.snd.fst).snd.snd.fst.snd.snd.snd)) =
 true) ∧
 (((rplay x.fst x.snd.fst).snd.snd.snd.fst == (rplay x.fst x.snd.fst).snd.snd.snd.fst &&
 decide ((rplay x.fst x.snd.fst).fst = (rplay x.fst x.snd.fst).fst) &&
 decide ((rplay x.fst x.snd.fst).snd.fst = (rplay x.fst x.snd.fst).snd.fst)) =
 !true →
 false = true)

theorem E_plays_eq (x : HL (cLawP : Ctr).as) : vc (fx_plays x) 1 12 Try.f12 (cLawP) x = E_plays x := by kernel_rfl

end Go.Proofs.Ytmcepjbbbkgfcaa.Ringp
