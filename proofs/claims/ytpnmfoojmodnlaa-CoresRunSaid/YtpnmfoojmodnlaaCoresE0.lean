/-
  The conditions that the executor comes to, written out (by a tool of ours), and that they are the conditions (by the kernel).
-/
import Derived.Test.YtpnmfoojmodnlaaCoresC
namespace Go.Proofs.Ytpnmfoojmodnlaa.Cores
open Go.Sx
set_option maxRecDepth 100000

def E_equal (x : List Int × List Int × Unit) : Prop :=
 (((↑x.1.length : Int) != (↑x.2.1.length : Int)) = true → false = decide (x.1 = x.2.1)) ∧
 (((↑x.1.length : Int) != (↑x.2.1.length : Int)) = false →
 ((((0 : Int) ≤ (0 : Int) ∧
 (0 : Int) ≤ (↑x.1.length : Int) ∧ List.take (Int.toNat (0 : Int)) x.1 = List.take (Int.toNat (0 : Int)) x.2.1) ∧
 True) ∧
 (x.1 = x.1 ∧ x.2.1 = x.2.1 ∧ (↑x.1.length : Int) = (↑x.1.length : Int) ∧ (0 : Int) = (0 : Int) ∧ True) ∧ True ∧ True) ∧
 ∀ (g : Int × Unit),
 (0 : Int) ≤ g.1 ∧ g.1 ≤ (↑x.1.length : Int) ∧ List.take g.1.toNat x.1 = List.take g.1.toNat x.2.1 →
 ((-9223372036854775808 : Int) ≤ g.1 ∧ g.1 ≤ (9223372036854775807 : Int)) ∧ True →
 (decide (g.1 < (↑x.1.length : Int)) = true →
 ((0 : Int) ≤ g.1 ∧ g.1 < (↑x.1.length : Int)) ∧
 ((0 : Int) ≤ g.1 ∧ g.1 < (↑x.2.1.length : Int)) ∧
 ((x.1.getD g.1.toNat (0 : Int) != x.2.1.getD g.1.toNat (0 : Int)) = true → false = decide (x.1 = x.2.1)) ∧
 ((x.1.getD g.1.toNat (0 : Int) != x.2.1.getD g.1.toNat (0 : Int)) = false →
 ((-9223372036854775808 : Int) ≤ g.1 + (1 : Int) ∧ g.1 + (1 : Int) ≤ (9223372036854775807 : Int)) ∧
 (((0 : Int) ≤ g.1 + (1 : Int) ∧
 g.1 + (1 : Int) ≤ (↑x.1.length : Int) ∧
 List.take (g.1 + (1 : Int)).toNat x.1 = List.take (g.1 + (1 : Int)).toNat x.2.1) ∧
 ((↑x.1.length : Int) - (g.1 + (1 : Int))).toNat < ((↑x.1.length : Int) - g.1).toNat) ∧
 (x.1 = x.1 ∧
 x.2.1 = x.2.1 ∧
 (↑x.1.length : Int) = (↑x.1.length : Int) ∧ g.1 + (1 : Int) = g.1 + (1 : Int) ∧ True) ∧
 True ∧ True)) ∧
 (decide (g.1 < (↑x.1.length : Int)) = false → true = decide (x.1 = x.2.1)))

theorem E_equal_eq (x : HL (cEqual : Ctr).as) : vc (fx_equal x) 1 16 Try.f16 (cEqual) x = E_equal x := by kernel_rfl

def E_equalf (x : List (List Int) × List (List Int) × Unit) : Prop :=
 (((↑x.1.length : Int) != (↑x.2.1.length : Int)) = true → false = decide (x.1 = x.2.1)) ∧
 (((↑x.1.length : Int) != (↑x.2.1.length : Int)) = false →
 ((((0 : Int) ≤ (0 : Int) ∧
 (0 : Int) ≤ (↑x.1.length : Int) ∧ List.take (Int.toNat (0 : Int)) x.1 = List.take (Int.toNat (0 : Int)) x.2.1) ∧
 True) ∧
 (x.2.1 = x.2.1 ∧
 Value.func (Fn.func (28 : Nat)) ([] : List Value).toArray ([] : List Value).toArray =
 Value.func (Fn.func (28 : Nat)) ([] : List Value).toArray ([] : List Value).toArray ∧
 x.1 = x.1 ∧ (↑x.1.length : Int) = (↑x.1.length : Int) ∧ (0 : Int) = (0 : Int) ∧ True) ∧
 True ∧ True) ∧
 ∀ (g : Int × Unit),
 (0 : Int) ≤ g.1 ∧ g.1 ≤ (↑x.1.length : Int) ∧ List.take g.1.toNat x.1 = List.take g.1.toNat x.2.1 →
 ((-9223372036854775808 : Int) ≤ g.1 ∧ g.1 ≤ (9223372036854775807 : Int)) ∧ True →
 (decide (g.1 < (↑x.1.length : Int)) = true →
 ((0 : Int) ≤ g.1 ∧ g.1 < (↑x.1.length : Int)) ∧
 ((0 : Int) ≤ g.1 ∧ g.1 < (↑x.2.1.length : Int)) ∧
 Holds True ∧
 ((!decide (x.1.getD g.1.toNat ([] : List Int) = x.2.1.getD g.1.toNat ([] : List Int))) = true →
 false = decide (x.1 = x.2.1)) ∧
 ((!decide (x.1.getD g.1.toNat ([] : List Int) = x.2.1.getD g.1.toNat ([] : List Int))) = false →
 ((-9223372036854775808 : Int) ≤ g.1 + (1 : Int) ∧ g.1 + (1 : Int) ≤ (9223372036854775807 : Int)) ∧
 (((0 : Int) ≤ g.1 + (1 : Int) ∧
 g.1 + (1 : Int) ≤ (↑x.1.length : Int) ∧
 List.take (g.1 + (1 : Int)).toNat x.1 = List.take (g.1 + (1 : Int)).toNat x.2.1) ∧
 ((↑x.1.length : Int) - (g.1 + (1 : Int))).toNat < ((↑x.1.length : Int) - g.1).toNat) ∧
 (x.2.1 = x.2.1 ∧
 Value.func (Fn.func (28 : Nat)) ([] : List Value).toArray ([] : List Value).toArray =
 Value.func (Fn.func (28 : Nat)) ([] : List Value).toArray ([] : List Value).toArray ∧
 x.1 = x.1 ∧ (↑x.1.length : Int) = (↑x.1.length : Int) ∧ g.1 + (1 : Int) = g.1 + (1 : Int) ∧ True) ∧
 True ∧ True)) ∧
 (decide (g.1 < (↑x.1.length : Int)) = false → true = decide (x.1 = x.2.1)))

theorem E_equalf_eq (x : HL (cEqualF : Ctr).as) : vcF (fx_equalf x) 2 26 28 Try.f26 (cEqualF) x = E_equalf x := by kernel_rfl

def E_clone (x : List Int × Unit) : Prop :=
 ∀ (b : Bool),
 (b = true → x.1 = ([] : List Int)) →
 (b = true → ([] : List Int) = x.1) ∧
 (b = false →
 (([] : List Int).length + x.1.length ≤ (9223372036854775807 : Nat) ∧
 (([] : List Int).length + x.1.length + (([] : List Int).length + x.1.length) / (4 : Nat) + (192 : Nat)) * (8 : Nat) ≤
 (281474976710656 : Nat)) ∧
 ([] : List Int) ++ x.1 = x.1)

theorem E_clone_eq (x : HL (cClone : Ctr).as) : vc (fx_clone x) 1 37 Try.f37 (cClone) x = E_clone x := by kernel_rfl

def E_nwrong (x : Int × Int × List (Int × Int × Int) × Unit) : Prop :=
 (decide ((1 : Int) ≤ x.1) = true → decide ((1 : Int) ≤ x.1) = true) ∧
 (decide ((1 : Int) ≤ x.1) = true → decide ((1 : Int) ≤ x.1) = true) ∧
 ((decide ((1 : Int) ≤ x.1) && decide (x.1 ≤ (8 : Int))) = true → (decide ((1 : Int) ≤ x.1) && decide (x.1 ≤ (8 : Int))) = true) ∧
 ((decide ((1 : Int) ≤ x.1) && decide (x.1 ≤ (8 : Int))) = true → (decide ((1 : Int) ≤ x.1) && decide (x.1 ≤ (8 : Int))) = true) ∧
 ((decide ((1 : Int) ≤ x.1) && decide (x.1 ≤ (8 : Int)) && decide ((1 : Int) ≤ x.2.1)) = true →
 (decide ((1 : Int) ≤ x.1) && decide (x.1 ≤ (8 : Int)) && decide ((1 : Int) ≤ x.2.1)) = true) ∧
 ((decide ((1 : Int) ≤ x.1) && decide (x.1 ≤ (8 : Int)) && decide ((1 : Int) ≤ x.2.1)) = true →
 (decide ((1 : Int) ≤ x.1) && decide (x.1 ≤ (8 : Int)) && decide ((1 : Int) ≤ x.2.1)) = true) ∧
 ((decide ((1 : Int) ≤ x.1) && decide (x.1 ≤ (8 : Int)) && decide ((1 : Int) ≤ x.2.1) && decide (x.2.1 ≤ (100 : Int))) = true →
 (decide ((1 : Int) ≤ x.1) && decide (x.1 ≤ (8 : Int)) && decide ((1 : Int) ≤ x.2.1) && decide (x.2.1 ≤ (100 : Int))) =
 true) ∧
 ((decide ((1 : Int) ≤ x.1) && decide (x.1 ≤ (8 : Int)) && decide ((1 : Int) ≤ x.2.1) && decide (x.2.1 ≤ (100 : Int))) =
 true →
 (decide ((1 : Int) ≤ x.1) && decide (x.1 ≤ (8 : Int)) && decide ((1 : Int) ≤ x.2.1) && decide (x.2.1 ≤ (100 : Int))) =
 true) ∧
 ((decide ((1 : Int) ≤ x.1) && decide (x.1 ≤ (8 : Int)) && decide ((1 : Int) ≤ x.2.1) && decide (x.2.1 ≤ (100 : Int))) =
 true →
 (decide ((1 : Int) ≤ x.1) && decide (x.1 ≤ (8 : Int)) && decide ((1 : Int) ≤ x.2.1) && decide (x.2.1 ≤ (100 : Int))) =
 true) ∧
 ((((0 : Int) ≤ (0 : Int) ∧
 (0 : Int) ≤ (↑x.2.2.1.length : Int) ∧
 (decide ((1 : Int) ≤ x.1) && decide (x.1 ≤ (8 : Int)) && decide ((1 : Int) ≤ x.2.1) &&
 decide (x.2.1 ≤ (100 : Int)) &&
 decide ((↑x.2.2.1.length : Int) ≤ (64 : Int))) =
 (decide (okA x.1 x.2.1 x.2.2.1) && (List.take (Int.toNat (0 : Int)) x.2.2.1).all okT)) ∧
 True) ∧
 ((decide ((1 : Int) ≤ x.1) && decide (x.1 ≤ (8 : Int)) && decide ((1 : Int) ≤ x.2.1) &&
 decide (x.2.1 ≤ (100 : Int)) &&
 decide ((↑x.2.2.1.length : Int) ≤ (64 : Int))) =
 (decide ((1 : Int) ≤ x.1) && decide (x.1 ≤ (8 : Int)) && decide ((1 : Int) ≤ x.2.1) &&
 decide (x.2.1 ≤ (100 : Int)) &&
 decide ((↑x.2.2.1.length : Int) ≤ (64 : Int))) ∧
 x.2.2.1 = x.2.2.1 ∧
 (↑x.2.2.1.length : Int) = (↑x.2.2.1.length : Int) ∧ (0 : Int) = (0 : Int) ∧ True) ∧
 True ∧ True) ∧
 ∀ (g : Bool × Int × Unit),
 (0 : Int) ≤ g.2.1 ∧
 g.2.1 ≤ (↑x.2.2.1.length : Int) ∧
 g.1 = (decide (okA x.1 x.2.1 x.2.2.1) && (List.take g.2.1.toNat x.2.2.1).all okT) →
 True ∧ ((-9223372036854775808 : Int) ≤ g.2.1 ∧ g.2.1 ≤ (9223372036854775807 : Int)) ∧ True →
 (decide (g.2.1 < (↑x.2.2.1.length : Int)) = true →
 ((0 : Int) ≤ g.2.1 ∧ g.2.1 < (↑x.2.2.1.length : Int)) ∧
 (g.1 = true → g.1 = true) ∧
 (g.1 = true → g.1 = true) ∧
 (g.1 = true → g.1 = true) ∧
 (g.1 = true → g.1 = true ∧ g.1 = true ∧ g.1 = true) ∧
 (g.1 = true → g.1 = true) ∧
 (g.1 = true → g.1 = true) ∧
 ((g.1 &&
 decide
 ((0 : Int) ≤
 min
 (min (x.2.2.1.getD g.2.1.toNat ((0 : Int), (0 : Int), (0 : Int))).1
 (x.2.2.1.getD g.2.1.toNat ((0 : Int), (0 : Int), (0 : Int))).2.1)
 (x.2.2.1.getD g.2.1.toNat ((0 : Int), (0 : Int), (0 : Int))).2.2)) =
 true →
 (g.1 &&
 decide
 ((0 : Int) ≤
 min
 (min (x.2.2.1.getD g.2.1.toNat ((0 : Int), (0 : Int), (0 : Int))).1
 (x.2.2.1.getD g.2.1.toNat ((0 : Int), (0 : Int), (0 : Int))).2.1)
 (x.2.2.1.getD g.2.1.toNat ((0 : Int), (0 : Int), (0 : Int))).2.2)) =
 true) ∧
 ((g.1 &&
 decide
 ((0 : Int) ≤
 min
 (min (x.2.2.1.getD g.2.1.toNat ((0 : Int), (0 : Int), (0 : Int))).1
 (x.2.2.1.getD g.2.1.toNat ((0 : Int), (0 : Int), (0 : Int))).2.1)
 (x.2.2.1.getD g.2.1.toNat ((0 : Int), (0 : Int), (0 : Int))).2.2)) =
 true →
 (g.1 &&
 decide
 ((0 : Int) ≤
 min
 (min (x.2.2.1.getD g.2.1.toNat ((0 : Int), (0 : Int), (0 : Int))).1
 (x.2.2.1.getD g.2.1.toNat ((0 : Int), (0 : Int), (0 : Int))).2.1)
 (x.2.2.1.getD g.2.1.toNat ((0 : Int), (0 : Int), (0 : Int))).2.2)) =
 true) ∧
 ((g.1 &&
 decide
 ((0 : Int) ≤
 min
 (min (x.2.2.1.getD g.2.1.toNat ((0 : Int), (0 : Int), (0 : Int))).1
 (x.2.2.1.getD g.2.1.toNat ((0 : Int), (0 : Int), (0 : Int))).2.1)
 (x.2.2.1.getD g.2.1.toNat ((0 : Int), (0 : Int), (0 : Int))).2.2)) =
 true →
 (g.1 &&
 decide
 ((0 : Int) ≤
 min
 (min (x.2.2.1.getD g.2.1.toNat ((0 : Int), (0 : Int), (0 : Int))).1
 (x.2.2.1.getD g.2.1.toNat ((0 : Int), (0 : Int), (0 : Int))).2.1)
 (x.2.2.1.getD g.2.1.toNat ((0 : Int), (0 : Int), (0 : Int))).2.2)) =
 true ∧
 (g.1 &&
 decide
 ((0 : Int) ≤
 min
 (min (x.2.2.1.getD g.2.1.toNat ((0 : Int), (0 : Int), (0 : Int))).1
 (x.2.2.1.getD g.2.1.toNat ((0 : Int), (0 : Int), (0 : Int))).2.1)
 (x.2.2.1.getD g.2.1.toNat ((0 : Int), (0 : Int), (0 : Int))).2.2)) =
 true) ∧
 ((g.1 &&
 decide
 ((0 : Int) ≤
 min
 (min (x.2.2.1.getD g.2.1.toNat ((0 : Int), (0 : Int), (0 : Int))).1
 (x.2.2.1.getD g.2.1.toNat ((0 : Int), (0 : Int), (0 : Int))).2.1)
 (x.2.2.1.getD g.2.1.toNat ((0 : Int), (0 : Int), (0 : Int))).2.2)) =
 true →
 (g.1 &&
 decide
 ((0 : Int) ≤
 min
 (min (x.2.2.1.getD g.2.1.toNat ((0 : Int), (0 : Int), (0 : Int))).1
 (x.2.2.1.getD g.2.1.toNat ((0 : Int), (0 : Int), (0 : Int))).2.1)
 (x.2.2.1.getD g.2.1.toNat ((0 : Int), (0 : Int), (0 : Int))).2.2)) =
 true) ∧
 ((g.1 &&
 decide
 ((0 : Int) ≤
 min
 (min (x.2.2.1.getD g.2.1.toNat ((0 : Int), (0 : Int), (0 : Int))).1
 (x.2.2.1.getD g.2.1.toNat ((0 : Int), (0 : Int), (0 : Int))).2.1)
 (x.2.2.1.getD g.2.1.toNat ((0 : Int), (0 : Int), (0 : Int))).2.2)) =
 true →
 (g.1 &&
 decide
 ((0 : Int) ≤
 min
 (min (x.2.2.1.getD g.2.1.toNat ((0 : Int), (0 : Int), (0 : Int))).1
 (x.2.2.1.getD g.2.1.toNat ((0 : Int), (0 : Int), (0 : Int))).2.1)
 (x.2.2.1.getD g.2.1.toNat ((0 : Int), (0 : Int), (0 : Int))).2.2)) =
 true) ∧
 ((g.1 &&
 decide
 ((0 : Int) ≤
 min
 (min (x.2.2.1.getD g.2.1.toNat ((0 : Int), (0 : Int), (0 : Int))).1
 (x.2.2.1.getD g.2.1.toNat
 ((0 : Int), (0 : Int), (0 : Int))).2.1)
 (x.2.2.1.getD g.2.1.toNat
 ((0 : Int), (0 : Int), (0 : Int))).2.2) &&
 decide
 (max (x.2.2.1.getD g.2.1.toNat ((0 : Int), (0 : Int), (0 : Int))).1
 (x.2.2.1.getD g.2.1.toNat ((0 : Int), (0 : Int), (0 : Int))).2.2 ≤
 (10000 : Int))) =
 true →
 (g.1 &&
 decide
 ((0 : Int) ≤
 min
 (min (x.2.2.1.getD g.2.1.toNat ((0 : Int), (0 : Int), (0 : Int))).1
 (x.2.2.1.getD g.2.1.toNat
 ((0 : Int), (0 : Int), (0 : Int))).2.1)
 (x.2.2.1.getD g.2.1.toNat
 ((0 : Int), (0 : Int), (0 : Int))).2.2) &&
 decide
 (max (x.2.2.1.getD g.2.1.toNat ((0 : Int), (0 : Int), (0 : Int))).1
 (x.2.2.1.getD g.2.1.toNat ((0 : Int), (0 : Int), (0 : Int))).2.2 ≤
 (10000 : Int))) =
 true) ∧
 ((g.1 &&
 decide
 ((0 : Int) ≤
 min
 (min
 (x.2.2.1.getD g.2.1.toNat ((0 : Int), (0 : Int), (0 : Int))).1
 (x.2.2.1.getD g.2.1.toNat
 ((0 : Int), (0 : Int), (0 : Int))).2.1)
 (x.2.2.1.getD g.2.1.toNat
 ((0 : Int), (0 : Int), (0 : Int))).2.2) &&
 decide
 (max (x.2.2.1.getD g.2.1.toNat ((0 : Int), (0 : Int), (0 : Int))).1
 (x.2.2.1.getD g.2.1.toNat ((0 : Int), (0 : Int), (0 : Int))).2.2 ≤
 (10000 : Int))) =
 true →
 (g.1 &&
 decide
 ((0 : Int) ≤
 min
 (min
 (x.2.2.1.getD g.2.1.toNat ((0 : Int), (0 : Int), (0 : Int))).1
 (x.2.2.1.getD g.2.1.toNat
 ((0 : Int), (0 : Int), (0 : Int))).2.1)
 (x.2.2.1.getD g.2.1.toNat
 ((0 : Int), (0 : Int), (0 : Int))).2.2) &&
 decide
 (max (x.2.2.1.getD g.2.1.toNat ((0 : Int), (0 : Int), (0 : Int))).1
 (x.2.2.1.getD g.2.1.toNat ((0 : Int), (0 : Int), (0 : Int))).2.2 ≤
 (10000 : Int))) =
 true) ∧
 ((g.1 &&
 decide
 ((0 : Int) ≤
 min
 (min
 (x.2.2.1.getD g.2.1.toNat ((0 : Int), (0 : Int), (0 : Int))).1
 (x.2.2.1.getD g.2.1.toNat
 ((0 : Int), (0 : Int), (0 : Int))).2.1)
 (x.2.2.1.getD g.2.1.toNat
 ((0 : Int), (0 : Int), (0 : Int))).2.2) &&
 decide
 (max (x.2.2.1.getD g.2.1.toNat ((0 : Int), (0 : Int), (0 : Int))).1
 (x.2.2.1.getD g.2.1.toNat
 ((0 : Int), (0 : Int), (0 : Int))).2.2 ≤
 (10000 : Int))) =
 true →
 (g.1 &&
 decide
 ((0 : Int) ≤
 min
 (min
 (x.2.2.1.getD g.2.1.toNat ((0 : Int), (0 : Int), (0 : Int))).1
 (x.2.2.1.getD g.2.1.toNat
 ((0 : Int), (0 : Int), (0 : Int))).2.1)
 (x.2.2.1.getD g.2.1.toNat
 ((0 : Int), (0 : Int), (0 : Int))).2.2) &&
 decide
 (max (x.2.2.1.getD g.2.1.toNat ((0 : Int), (0 : Int), (0 : Int))).1
 (x.2.2.1.getD g.2.1.toNat
 ((0 : Int), (0 : Int), (0 : Int))).2.2 ≤
 (10000 : Int))) =
 true) ∧
 ((-9223372036854775808 : Int) ≤ g.2.1 + (1 : Int) ∧
 g.2.1 + (1 : Int) ≤ (9223372036854775807 : Int)) ∧
 (((0 : Int) ≤ g.2.1 + (1 : Int) ∧
 g.2.1 + (1 : Int) ≤ (↑x.2.2.1.length : Int) ∧
 (g.1 &&
 decide
 ((0 : Int) ≤
 min
 (min
 (x.2.2.1.getD g.2.1.toNat
 ((0 : Int), (0 : Int), (0 : Int))).1
 (x.2.2.1.getD g.2.1.toNat
 ((0 : Int), (0 : Int), (0 : Int))).2.1)
 (x.2.2.1.getD g.2.1.toNat
 ((0 : Int), (0 : Int), (0 : Int))).2.2) &&
 decide
 (max
 (x.2.2.1.getD g.2.1.toNat
 ((0 : Int), (0 : Int), (0 : Int))).1
 (x.2.2.1.getD g.2.1.toNat
 ((0 : Int), (0 : Int), (0 : Int))).2.2 ≤
 (10000 : Int)) &&
 decide
 ((x.2.2.1.getD g.2.1.toNat
 ((0 : Int), (0 : Int), (0 : Int))).2.1 ≤
 (31 : Int))) =
 (decide (okA x.1 x.2.1 x.2.2.1) &&
 (List.take (g.2.1 + (1 : Int)).toNat x.2.2.1).all okT)) ∧
 ((↑x.2.2.1.length : Int) - (g.2.1 + (1 : Int))).toNat <
 ((↑x.2.2.1.length : Int) - g.2.1).toNat) ∧
 ((g.1 &&
 decide
 ((0 : Int) ≤
 min
 (min
 (x.2.2.1.getD g.2.1.toNat
 ((0 : Int), (0 : Int), (0 : Int))).1
 (x.2.2.1.getD g.2.1.toNat
 ((0 : Int), (0 : Int), (0 : Int))).2.1)
 (x.2.2.1.getD g.2.1.toNat
 ((0 : Int), (0 : Int), (0 : Int))).2.2) &&
 decide
 (max
 (x.2.2.1.getD g.2.1.toNat
 ((0 : Int), (0 : Int), (0 : Int))).1
 (x.2.2.1.getD g.2.1.toNat
 ((0 : Int), (0 : Int), (0 : Int))).2.2 ≤
 (10000 : Int)) &&
 decide
 ((x.2.2.1.getD g.2.1.toNat
 ((0 : Int), (0 : Int), (0 : Int))).2.1 ≤
 (31 : Int))) =
 (g.1 &&
 decide
 ((0 : Int) ≤
 min
 (min
 (x.2.2.1.getD g.2.1.toNat
 ((0 : Int), (0 : Int), (0 : Int))).1
 (x.2.2.1.getD g.2.1.toNat
 ((0 : Int), (0 : Int), (0 : Int))).2.1)
 (x.2.2.1.getD g.2.1.toNat
 ((0 : Int), (0 : Int), (0 : Int))).2.2) &&
 decide
 (max
 (x.2.2.1.getD g.2.1.toNat
 ((0 : Int), (0 : Int), (0 : Int))).1
 (x.2.2.1.getD g.2.1.toNat
 ((0 : Int), (0 : Int), (0 : Int))).2.2 ≤
 (10000 : Int)) &&
 decide
 ((x.2.2.1.getD g.2.1.toNat
 ((0 : Int), (0 : Int), (0 : Int))).2.1 ≤
 (31 : Int))) ∧
 x.2.2.1 = x.2.2.1 ∧
 (↑x.2.2.1.length : Int) = (↑x.2.2.1.length : Int) ∧
 g.2.1 + (1 : Int) = g.2.1 + (1 : Int) ∧ True) ∧
 True ∧ True) ∧
 (decide (g.2.1 < (↑x.2.2.1.length : Int)) = false →
 ((!g.1) = true → (2 : Int) = wr x.1 x.2.1 x.2.2.1) ∧
 ((!g.1) = false → (0 : Int) = wr x.1 x.2.1 x.2.2.1))

theorem E_nwrong_eq (x : HL (cWrong : Ctr).as) : vc (fx_nwrong x) 1 24 Try.f24 (cWrong) x = E_nwrong x := by kernel_rfl

def E_wrong (x : Int × Int × List (Int × Int × Int) × Unit) : Prop :=
 ((!decide (x.1 < (1 : Int))) = true → (!decide (x.1 < (1 : Int))) = true) ∧
 (decide (x.1 < (1 : Int)) = false → (!decide (x.1 < (1 : Int))) = true) ∧
 ((!(decide (x.1 < (1 : Int)) || decide ((8 : Int) < x.1))) = true → (!(decide (x.1 < (1 : Int)) || decide ((8 : Int) < x.1))) = true) ∧
 ((decide (x.1 < (1 : Int)) || decide ((8 : Int) < x.1)) = false → (!(decide (x.1 < (1 : Int)) || decide ((8 : Int) < x.1))) = true) ∧
 ((!(decide (x.1 < (1 : Int)) || decide ((8 : Int) < x.1) || decide (x.2.1 < (1 : Int)))) = true →
 (!(decide (x.1 < (1 : Int)) || decide ((8 : Int) < x.1) || decide (x.2.1 < (1 : Int)))) = true) ∧
 ((decide (x.1 < (1 : Int)) || decide ((8 : Int) < x.1) || decide (x.2.1 < (1 : Int))) = false →
 (!(decide (x.1 < (1 : Int)) || decide ((8 : Int) < x.1) || decide (x.2.1 < (1 : Int)))) = true) ∧
 ((!(decide (x.1 < (1 : Int)) || decide ((8 : Int) < x.1) || decide (x.2.1 < (1 : Int)) || decide ((100 : Int) < x.2.1))) =
 true →
 (!(decide (x.1 < (1 : Int)) || decide ((8 : Int) < x.1) || decide (x.2.1 < (1 : Int)) || decide ((100 : Int) < x.2.1))) =
 true) ∧
 ((!(decide (x.1 < (1 : Int)) || decide ((8 : Int) < x.1) || decide (x.2.1 < (1 : Int)) || decide ((100 : Int) < x.2.1))) =
 true →
 (!(decide (x.1 < (1 : Int)) || decide ((8 : Int) < x.1) || decide (x.2.1 < (1 : Int)) ||
 decide ((100 : Int) < x.2.1))) =
 true) ∧
 ((decide (x.1 < (1 : Int)) || decide ((8 : Int) < x.1) || decide (x.2.1 < (1 : Int)) || decide ((100 : Int) < x.2.1)) =
 false →
 (!(decide (x.1 < (1 : Int)) || decide ((8 : Int) < x.1) || decide (x.2.1 < (1 : Int)) ||
 decide ((100 : Int) < x.2.1))) =
 true) ∧
 ((decide (x.1 < (1 : Int)) || decide ((8 : Int) < x.1) || decide (x.2.1 < (1 : Int)) || decide ((100 : Int) < x.2.1) ||
 decide ((64 : Int) < (↑x.2.2.1.length : Int))) =
 true →
 (2 : Int) = wr x.1 x.2.1 x.2.2.1) ∧
 ((decide (x.1 < (1 : Int)) || decide ((8 : Int) < x.1) || decide (x.2.1 < (1 : Int)) ||
 decide ((100 : Int) < x.2.1) ||
 decide ((64 : Int) < (↑x.2.2.1.length : Int))) =
 false →
 ((((0 : Int) ≤ (0 : Int) ∧
 (0 : Int) ≤ (↑x.2.2.1.length : Int) ∧ (List.take (Int.toNat (0 : Int)) x.2.2.1).all okT = true) ∧
 True) ∧
 (x.2.2.1 = x.2.2.1 ∧
 (↑x.2.2.1.length : Int) = (↑x.2.2.1.length : Int) ∧ (0 : Int) = (0 : Int) ∧ True) ∧
 True ∧ True) ∧
 ∀ (g : Int × Unit),
 (0 : Int) ≤ g.1 ∧ g.1 ≤ (↑x.2.2.1.length : Int) ∧ (List.take g.1.toNat x.2.2.1).all okT = true →
 ((-9223372036854775808 : Int) ≤ g.1 ∧ g.1 ≤ (9223372036854775807 : Int)) ∧ True →
 (decide (g.1 < (↑x.2.2.1.length : Int)) = true →
 ((0 : Int) ≤ g.1 ∧ g.1 < (↑x.2.2.1.length : Int)) ∧
 ((!decide ((x.2.2.1.getD g.1.toNat ((0 : Int), (0 : Int), (0 : Int))).1 < (0 : Int))) = true →
 (!decide ((x.2.2.1.getD g.1.toNat ((0 : Int), (0 : Int), (0 : Int))).1 < (0 : Int))) = true) ∧
 ((!decide ((x.2.2.1.getD g.1.toNat ((0 : Int), (0 : Int), (0 : Int))).1 < (0 : Int))) = true →
 (!decide ((x.2.2.1.getD g.1.toNat ((0 : Int), (0 : Int), (0 : Int))).1 < (0 : Int))) = true) ∧
 (decide ((x.2.2.1.getD g.1.toNat ((0 : Int), (0 : Int), (0 : Int))).1 < (0 : Int)) = false →
 (!decide ((x.2.2.1.getD g.1.toNat ((0 : Int), (0 : Int), (0 : Int))).1 < (0 : Int))) = true) ∧
 ((!(decide ((x.2.2.1.getD g.1.toNat ((0 : Int), (0 : Int), (0 : Int))).1 < (0 : Int)) ||
 decide
 ((10000 : Int) < (x.2.2.1.getD g.1.toNat ((0 : Int), (0 : Int), (0 : Int))).1))) =
 true →
 (!(decide ((x.2.2.1.getD g.1.toNat ((0 : Int), (0 : Int), (0 : Int))).1 < (0 : Int)) ||
 decide
 ((10000 : Int) < (x.2.2.1.getD g.1.toNat ((0 : Int), (0 : Int), (0 : Int))).1))) =
 true) ∧
 ((!(decide ((x.2.2.1.getD g.1.toNat ((0 : Int), (0 : Int), (0 : Int))).1 < (0 : Int)) ||
 decide
 ((10000 : Int) < (x.2.2.1.getD g.1.toNat ((0 : Int), (0 : Int), (0 : Int))).1))) =
 true →
 (!(decide ((x.2.2.1.getD g.1.toNat ((0 : Int), (0 : Int), (0 : Int))).1 < (0 : Int)) ||
 decide
 ((10000 : Int) < (x.2.2.1.getD g.1.toNat ((0 : Int), (0 : Int), (0 : Int))).1))) =
 true) ∧
 ((decide ((x.2.2.1.getD g.1.toNat ((0 : Int), (0 : Int), (0 : Int))).1 < (0 : Int)) ||
 decide
 ((10000 : Int) < (x.2.2.1.getD g.1.toNat ((0 : Int), (0 : Int), (0 : Int))).1)) =
 false →
 (!(decide ((x.2.2.1.getD g.1.toNat ((0 : Int), (0 : Int), (0 : Int))).1 < (0 : Int)) ||
 decide
 ((10000 : Int) < (x.2.2.1.getD g.1.toNat ((0 : Int), (0 : Int), (0 : Int))).1))) =
 true) ∧
 ((!(decide ((x.2.2.1.getD g.1.toNat ((0 : Int), (0 : Int), (0 : Int))).1 < (0 : Int)) ||
 decide
 ((10000 : Int) <
 (x.2.2.1.getD g.1.toNat ((0 : Int), (0 : Int), (0 : Int))).1) ||
 decide
 ((x.2.2.1.getD g.1.toNat ((0 : Int), (0 : Int), (0 : Int))).2.1 <
 (0 : Int)))) =
 true →
 (!(decide ((x.2.2.1.getD g.1.toNat ((0 : Int), (0 : Int), (0 : Int))).1 < (0 : Int)) ||
 decide
 ((10000 : Int) <
 (x.2.2.1.getD g.1.toNat ((0 : Int), (0 : Int), (0 : Int))).1) ||
 decide
 ((x.2.2.1.getD g.1.toNat ((0 : Int), (0 : Int), (0 : Int))).2.1 <
 (0 : Int)))) =
 true) ∧
 ((!(decide ((x.2.2.1.getD g.1.toNat ((0 : Int), (0 : Int), (0 : Int))).1 < (0 : Int)) ||
 decide
 ((10000 : Int) <
 (x.2.2.1.getD g.1.toNat ((0 : Int), (0 : Int), (0 : Int))).1) ||
 decide
 ((x.2.2.1.getD g.1.toNat ((0 : Int), (0 : Int), (0 : Int))).2.1 <
 (0 : Int)))) =
 true →
 (!(decide
 ((x.2.2.1.getD g.1.toNat ((0 : Int), (0 : Int), (0 : Int))).1 <
 (0 : Int)) ||
 decide
 ((10000 : Int) <
 (x.2.2.1.getD g.1.toNat ((0 : Int), (0 : Int), (0 : Int))).1) ||
 decide
 ((x.2.2.1.getD g.1.toNat ((0 : Int), (0 : Int), (0 : Int))).2.1 <
 (0 : Int)))) =
 true) ∧
 ((decide ((x.2.2.1.getD g.1.toNat ((0 : Int), (0 : Int), (0 : Int))).1 < (0 : Int)) ||
 decide
 ((10000 : Int) <
 (x.2.2.1.getD g.1.toNat ((0 : Int), (0 : Int), (0 : Int))).1) ||
 decide
 ((x.2.2.1.getD g.1.toNat ((0 : Int), (0 : Int), (0 : Int))).2.1 <
 (0 : Int))) =
 false →
 (!(decide
 ((x.2.2.1.getD g.1.toNat ((0 : Int), (0 : Int), (0 : Int))).1 <
 (0 : Int)) ||
 decide
 ((10000 : Int) <
 (x.2.2.1.getD g.1.toNat ((0 : Int), (0 : Int), (0 : Int))).1) ||
 decide
 ((x.2.2.1.getD g.1.toNat ((0 : Int), (0 : Int), (0 : Int))).2.1 <
 (0 : Int)))) =
 true) ∧
 ((!(decide
 ((x.2.2.1.getD g.1.toNat ((0 : Int), (0 : Int), (0 : Int))).1 <
 (0 : Int)) ||
 decide
 ((10000 : Int) <
 (x.2.2.1.getD g.1.toNat ((0 : Int), (0 : Int), (0 : Int))).1) ||
 decide
 ((x.2.2.1.getD g.1.toNat ((0 : Int), (0 : Int), (0 : Int))).2.1 <
 (0 : Int)) ||
 decide
 ((32 : Int) ≤
 (x.2.2.1.getD g.1.toNat ((0 : Int), (0 : Int), (0 : Int))).2.1))) =
 true →
 (!(decide
 ((x.2.2.1.getD g.1.toNat ((0 : Int), (0 : Int), (0 : Int))).1 <
 (0 : Int)) ||
 decide
 ((10000 : Int) <
 (x.2.2.1.getD g.1.toNat ((0 : Int), (0 : Int), (0 : Int))).1) ||
 decide
 ((x.2.2.1.getD g.1.toNat ((0 : Int), (0 : Int), (0 : Int))).2.1 <
 (0 : Int)) ||
 decide
 ((32 : Int) ≤
 (x.2.2.1.getD g.1.toNat ((0 : Int), (0 : Int), (0 : Int))).2.1))) =
 true) ∧
 ((!(decide
 ((x.2.2.1.getD g.1.toNat ((0 : Int), (0 : Int), (0 : Int))).1 <
 (0 : Int)) ||
 decide
 ((10000 : Int) <
 (x.2.2.1.getD g.1.toNat ((0 : Int), (0 : Int), (0 : Int))).1) ||
 decide
 ((x.2.2.1.getD g.1.toNat ((0 : Int), (0 : Int), (0 : Int))).2.1 <
 (0 : Int)) ||
 decide
 ((32 : Int) ≤
 (x.2.2.1.getD g.1.toNat ((0 : Int), (0 : Int), (0 : Int))).2.1))) =
 true →
 (!(decide
 ((x.2.2.1.getD g.1.toNat ((0 : Int), (0 : Int), (0 : Int))).1 <
 (0 : Int)) ||
 decide
 ((10000 : Int) <
 (x.2.2.1.getD g.1.toNat ((0 : Int), (0 : Int), (0 : Int))).1) ||
 decide
 ((x.2.2.1.getD g.1.toNat ((0 : Int), (0 : Int), (0 : Int))).2.1 <
 (0 : Int)) ||
 decide
 ((32 : Int) ≤
 (x.2.2.1.getD g.1.toNat ((0 : Int), (0 : Int), (0 : Int))).2.1))) =
 true) ∧
 ((decide
 ((x.2.2.1.getD g.1.toNat ((0 : Int), (0 : Int), (0 : Int))).1 <
 (0 : Int)) ||
 decide
 ((10000 : Int) <
 (x.2.2.1.getD g.1.toNat ((0 : Int), (0 : Int), (0 : Int))).1) ||
 decide
 ((x.2.2.1.getD g.1.toNat ((0 : Int), (0 : Int), (0 : Int))).2.1 <
 (0 : Int)) ||
 decide
 ((32 : Int) ≤
 (x.2.2.1.getD g.1.toNat ((0 : Int), (0 : Int), (0 : Int))).2.1)) =
 false →
 (!(decide
 ((x.2.2.1.getD g.1.toNat ((0 : Int), (0 : Int), (0 : Int))).1 <
 (0 : Int)) ||
 decide
 ((10000 : Int) <
 (x.2.2.1.getD g.1.toNat ((0 : Int), (0 : Int), (0 : Int))).1) ||
 decide
 ((x.2.2.1.getD g.1.toNat ((0 : Int), (0 : Int), (0 : Int))).2.1 <
 (0 : Int)) ||
 decide
 ((32 : Int) ≤
 (x.2.2.1.getD g.1.toNat
 ((0 : Int), (0 : Int), (0 : Int))).2.1))) =
 true) ∧
 ((!(decide
 ((x.2.2.1.getD g.1.toNat
 ((0 : Int), (0 : Int), (0 : Int))).1 <
 (0 : Int)) ||
 decide
 ((10000 : Int) <
 (x.2.2.1.getD g.1.toNat
 ((0 : Int), (0 : Int), (0 : Int))).1) ||
 decide
 ((x.2.2.1.getD g.1.toNat
 ((0 : Int), (0 : Int), (0 : Int))).2.1 <
 (0 : Int)) ||
 decide
 ((32 : Int) ≤
 (x.2.2.1.getD g.1.toNat
 ((0 : Int), (0 : Int), (0 : Int))).2.1) ||
 decide
 ((x.2.2.1.getD g.1.toNat ((0 : Int), (0 : Int), (0 : Int))).2.2 <
 (0 : Int)))) =
 true →
 (!(decide
 ((x.2.2.1.getD g.1.toNat
 ((0 : Int), (0 : Int), (0 : Int))).1 <
 (0 : Int)) ||
 decide
 ((10000 : Int) <
 (x.2.2.1.getD g.1.toNat
 ((0 : Int), (0 : Int), (0 : Int))).1) ||
 decide
 ((x.2.2.1.getD g.1.toNat
 ((0 : Int), (0 : Int), (0 : Int))).2.1 <
 (0 : Int)) ||
 decide
 ((32 : Int) ≤
 (x.2.2.1.getD g.1.toNat
 ((0 : Int), (0 : Int), (0 : Int))).2.1) ||
 decide
 ((x.2.2.1.getD g.1.toNat ((0 : Int), (0 : Int), (0 : Int))).2.2 <
 (0 : Int)))) =
 true) ∧
 ((!(decide
 ((x.2.2.1.getD g.1.toNat
 ((0 : Int), (0 : Int), (0 : Int))).1 <
 (0 : Int)) ||
 decide
 ((10000 : Int) <
 (x.2.2.1.getD g.1.toNat
 ((0 : Int), (0 : Int), (0 : Int))).1) ||
 decide
 ((x.2.2.1.getD g.1.toNat
 ((0 : Int), (0 : Int), (0 : Int))).2.1 <
 (0 : Int)) ||
 decide
 ((32 : Int) ≤
 (x.2.2.1.getD g.1.toNat
 ((0 : Int), (0 : Int), (0 : Int))).2.1) ||
 decide
 ((x.2.2.1.getD g.1.toNat
 ((0 : Int), (0 : Int), (0 : Int))).2.2 <
 (0 : Int)))) =
 true →
 (!(decide
 ((x.2.2.1.getD g.1.toNat
 ((0 : Int), (0 : Int), (0 : Int))).1 <
 (0 : Int)) ||
 decide
 ((10000 : Int) <
 (x.2.2.1.getD g.1.toNat
 ((0 : Int), (0 : Int), (0 : Int))).1) ||
 decide
 ((x.2.2.1.getD g.1.toNat
 ((0 : Int), (0 : Int), (0 : Int))).2.1 <
 (0 : Int)) ||
 decide
 ((32 : Int) ≤
 (x.2.2.1.getD g.1.toNat
 ((0 : Int), (0 : Int), (0 : Int))).2.1) ||
 decide
 ((x.2.2.1.getD g.1.toNat
 ((0 : Int), (0 : Int), (0 : Int))).2.2 <
 (0 : Int)))) =
 true) ∧
 ((decide
 ((x.2.2.1.getD g.1.toNat
 ((0 : Int), (0 : Int), (0 : Int))).1 <
 (0 : Int)) ||
 decide
 ((10000 : Int) <
 (x.2.2.1.getD g.1.toNat
 ((0 : Int), (0 : Int), (0 : Int))).1) ||
 decide
 ((x.2.2.1.getD g.1.toNat
 ((0 : Int), (0 : Int), (0 : Int))).2.1 <
 (0 : Int)) ||
 decide
 ((32 : Int) ≤
 (x.2.2.1.getD g.1.toNat
 ((0 : Int), (0 : Int), (0 : Int))).2.1) ||
 decide
 ((x.2.2.1.getD g.1.toNat
 ((0 : Int), (0 : Int), (0 : Int))).2.2 <
 (0 : Int))) =
 false →
 (!(decide
 ((x.2.2.1.getD g.1.toNat
 ((0 : Int), (0 : Int), (0 : Int))).1 <
 (0 : Int)) ||
 decide
 ((10000 : Int) <
 (x.2.2.1.getD g.1.toNat
 ((0 : Int), (0 : Int), (0 : Int))).1) ||
 decide
 ((x.2.2.1.getD g.1.toNat
 ((0 : Int), (0 : Int), (0 : Int))).2.1 <
 (0 : Int)) ||
 decide
 ((32 : Int) ≤
 (x.2.2.1.getD g.1.toNat
 ((0 : Int), (0 : Int), (0 : Int))).2.1) ||
 decide
 ((x.2.2.1.getD g.1.toNat
 ((0 : Int), (0 : Int), (0 : Int))).2.2 <
 (0 : Int)))) =
 true) ∧
 ((decide
 ((x.2.2.1.getD g.1.toNat
 ((0 : Int), (0 : Int), (0 : Int))).1 <
 (0 : Int)) ||
 decide
 ((10000 : Int) <
 (x.2.2.1.getD g.1.toNat
 ((0 : Int), (0 : Int), (0 : Int))).1) ||
 decide
 ((x.2.2.1.getD g.1.toNat
 ((0 : Int), (0 : Int), (0 : Int))).2.1 <
 (0 : Int)) ||
 decide
 ((32 : Int) ≤
 (x.2.2.1.getD g.1.toNat
 ((0 : Int), (0 : Int), (0 : Int))).2.1) ||
 decide
 ((x.2.2.1.getD g.1.toNat
 ((0 : Int), (0 : Int), (0 : Int))).2.2 <
 (0 : Int)) ||
 decide
 ((10000 : Int) <
 (x.2.2.1.getD g.1.toNat
 ((0 : Int), (0 : Int), (0 : Int))).2.2)) =
 true →
 (2 : Int) = wr x.1 x.2.1 x.2.2.1) ∧
 ((decide
 ((x.2.2.1.getD g.1.toNat
 ((0 : Int), (0 : Int), (0 : Int))).1 <
 (0 : Int)) ||
 decide
 ((10000 : Int) <
 (x.2.2.1.getD g.1.toNat
 ((0 : Int), (0 : Int), (0 : Int))).1) ||
 decide
 ((x.2.2.1.getD g.1.toNat
 ((0 : Int), (0 : Int), (0 : Int))).2.1 <
 (0 : Int)) ||
 decide
 ((32 : Int) ≤
 (x.2.2.1.getD g.1.toNat
 ((0 : Int), (0 : Int), (0 : Int))).2.1) ||
 decide
 ((x.2.2.1.getD g.1.toNat
 ((0 : Int), (0 : Int), (0 : Int))).2.2 <
 (0 : Int)) ||
 decide
 ((10000 : Int) <
 (x.2.2.1.getD g.1.toNat
 ((0 : Int), (0 : Int), (0 : Int))).2.2)) =
 false →
 ((-9223372036854775808 : Int) ≤ g.1 + (1 : Int) ∧
 g.1 + (1 : Int) ≤ (9223372036854775807 : Int)) ∧
 (((0 : Int) ≤ g.1 + (1 : Int) ∧
 g.1 + (1 : Int) ≤ (↑x.2.2.1.length : Int) ∧
 (List.take (g.1 + (1 : Int)).toNat x.2.2.1).all okT = true) ∧
 ((↑x.2.2.1.length : Int) - (g.1 + (1 : Int))).toNat <
 ((↑x.2.2.1.length : Int) - g.1).toNat) ∧
 (x.2.2.1 = x.2.2.1 ∧
 (↑x.2.2.1.length : Int) = (↑x.2.2.1.length : Int) ∧
 g.1 + (1 : Int) = g.1 + (1 : Int) ∧ True) ∧
 True ∧ True)) ∧
 (decide (g.1 < (↑x.2.2.1.length : Int)) = false → (0 : Int) = wr x.1 x.2.1 x.2.2.1))

theorem E_wrong_eq (x : HL (cWrong : Ctr).as) : vc (fx_wrong x) 1 25 Try.f25 (cWrong) x = E_wrong x := by kernel_rfl

def E_idx (x : List Int × Int × Unit) : Prop :=
 ((((0 : Int) ≤ (0 : Int) ∧ (0 : Int) ≤ (↑x.1.length : Int) ∧ List.idxOf? x.2.1 (List.take (Int.toNat (0 : Int)) x.1) = none) ∧ True) ∧
 (True ∧ True ∧ (↑x.1.length : Int) = (↑x.1.length : Int) ∧ (0 : Int) = (0 : Int) ∧ True) ∧
 (x.1 = x.1 ∧ (x.2.1 = x.2.1 ∧ True) ∧ (True ∧ (True ∧ True) ∧ True) ∧ True) ∧ True ∧ (True ∧ True) ∧ True ∧ True) ∧
 ∀ (g : Int × Unit),
 (0 : Int) ≤ g.1 ∧ g.1 ≤ (↑x.1.length : Int) ∧ List.idxOf? x.2.1 (List.take g.1.toNat x.1) = none →
 ((-9223372036854775808 : Int) ≤ g.1 ∧ g.1 ≤ (9223372036854775807 : Int)) ∧ True →
 (decide (g.1 < (↑x.1.length : Int)) = true →
 ((0 : Int) ≤ g.1 ∧ g.1 < (↑x.1.length : Int)) ∧
 ((x.1.getD g.1.toNat (0 : Int) == x.2.1) = true →
 g.1 = idx x.1 x.2.1 ∧
 (True ∧ (True ∧ True) ∧ True ∧ True) ∧
 (x.1 = x.1 ∧ (x.2.1 = x.2.1 ∧ True) ∧ (True ∧ (True ∧ True) ∧ True) ∧ True) ∧ True) ∧
 ((x.1.getD g.1.toNat (0 : Int) == x.2.1) = false →
 ((-9223372036854775808 : Int) ≤ g.1 + (1 : Int) ∧ g.1 + (1 : Int) ≤ (9223372036854775807 : Int)) ∧
 (((0 : Int) ≤ g.1 + (1 : Int) ∧
 g.1 + (1 : Int) ≤ (↑x.1.length : Int) ∧ List.idxOf? x.2.1 (List.take (g.1 + (1 : Int)).toNat x.1) = none) ∧
 ((↑x.1.length : Int) - (g.1 + (1 : Int))).toNat < ((↑x.1.length : Int) - g.1).toNat) ∧
 (True ∧ True ∧ (↑x.1.length : Int) = (↑x.1.length : Int) ∧ g.1 + (1 : Int) = g.1 + (1 : Int) ∧ True) ∧
 (x.1 = x.1 ∧ (x.2.1 = x.2.1 ∧ True) ∧ (True ∧ (True ∧ True) ∧ True) ∧ True) ∧
 True ∧ (True ∧ True) ∧ True ∧ True)) ∧
 (decide (g.1 < (↑x.1.length : Int)) = false →
 (-1 : Int) = idx x.1 x.2.1 ∧
 (True ∧ (True ∧ True) ∧ True ∧ True) ∧ (x.1 = x.1 ∧ (x.2.1 = x.2.1 ∧ True) ∧ (True ∧ (True ∧ True) ∧ True) ∧ True) ∧ True)

theorem E_idx_eq (x : (pIdx : Prc).G) : vcPr (fx_idx x) 1 62 Try.f62 (pIdx) x = E_idx x := by kernel_rfl

def E_nrun (x : Int × Int × List (Int × Int × Int) × Int × Unit) : Prop :=
 (((0 : Int) ≤ (↑x.2.2.1.length : Int) ∧ (↑x.2.2.1.length : Int) ≤ (↑x.2.2.1.length : Int)) ∧
 (↑x.2.2.1.length : Int) * (↑(8 : Nat) : Int) ≤ (140737488355328 : Int) ∧ (↑x.2.2.1.length : Int) ≤ (9223372036854775807 : Int)) ∧
 (((0 : Int) ≤ (↑x.2.2.1.length : Int) ∧ (↑x.2.2.1.length : Int) ≤ (↑x.2.2.1.length : Int)) ∧
 (↑x.2.2.1.length : Int) * (↑(8 : Nat) : Int) ≤ (140737488355328 : Int) ∧ (↑x.2.2.1.length : Int) ≤ (9223372036854775807 : Int)) ∧
 ((((0 : Int) ≤ (0 : Int) ∧
 (0 : Int) ≤ x.2.2.2.1 ∧
 nst x.1 x.2.1 x.2.2.1 (Int.toNat (0 : Int)) =
 ((([] : List Int), List.replicate (↑x.2.2.1.length : Int).toNat (0 : Int),
 List.replicate (↑x.2.2.1.length : Int).toNat (0 : Int)),
 ([] : List (List Int)))) ∧
 True) ∧
 (x.1 = x.1 ∧
 x.2.1 = x.2.1 ∧
 x.2.2.1 = x.2.2.1 ∧ True ∧ True ∧ True ∧ True ∧ x.2.2.2.1 = x.2.2.2.1 ∧ (0 : Int) = (0 : Int) ∧ True) ∧
 (([] : List Int) = ([] : List Int) ∧
 List.replicate (↑x.2.2.1.length : Int).toNat (0 : Int) = List.replicate (↑x.2.2.1.length : Int).toNat (0 : Int) ∧
 List.replicate (↑x.2.2.1.length : Int).toNat (0 : Int) = List.replicate (↑x.2.2.1.length : Int).toNat (0 : Int) ∧
 ([] : List (List Int)) = ([] : List (List Int)) ∧ True) ∧
 True) ∧
 ∀ (g : List Int × List Int × List Int × List (List Int) × Int × Unit),
 (0 : Int) ≤ g.2.2.2.2.1 ∧
 g.2.2.2.2.1 ≤ x.2.2.2.1 ∧
 nst x.1 x.2.1 x.2.2.1 g.2.2.2.2.1.toNat = ((g.1, g.2.1, g.2.2.1), g.2.2.2.1) →
 (g.1.length ≤ (9223372036854775807 : Nat) ∧ ∀ (x : Int), x ∈ g.1 → (-9223372036854775808 : Int) ≤ x ∧ x ≤ (9223372036854775807 : Int)) ∧
 (g.2.1.length ≤ (9223372036854775807 : Nat) ∧
 ∀ (x : Int), x ∈ g.2.1 → (-9223372036854775808 : Int) ≤ x ∧ x ≤ (9223372036854775807 : Int)) ∧
 (g.2.2.1.length ≤ (9223372036854775807 : Nat) ∧
 ∀ (x : Int), x ∈ g.2.2.1 → (-9223372036854775808 : Int) ≤ x ∧ x ≤ (9223372036854775807 : Int)) ∧
 (g.2.2.2.1.length ≤ (9223372036854775807 : Nat) ∧
 ∀ (x : List Int),
 x ∈ g.2.2.2.1 →
 x.length ≤ (9223372036854775807 : Nat) ∧
 ∀ (x_1 : Int), x_1 ∈ x → (-9223372036854775808 : Int) ≤ x_1 ∧ x_1 ≤ (9223372036854775807 : Int)) ∧
 ((-9223372036854775808 : Int) ≤ g.2.2.2.2.1 ∧ g.2.2.2.2.1 ≤ (9223372036854775807 : Int)) ∧ True →
 (decide (g.2.2.2.2.1 < x.2.2.2.1) = true →
 ((((0 : Int) ≤ (0 : Int) ∧
 (0 : Int) ≤ (↑x.2.2.1.length : Int) ∧
 (g.1, g.2.1) = comes x.2.2.1 g.2.2.2.2.1 (Int.toNat (0 : Int)) (g.1, g.2.1)) ∧
 True) ∧
 (x.1 = x.1 ∧
 x.2.1 = x.2.1 ∧
 x.2.2.1 = x.2.2.1 ∧
 True ∧
 True ∧
 True ∧
 True ∧
 g.2.2.2.2.1 = g.2.2.2.2.1 ∧
 x.2.2.2.1 = x.2.2.2.1 ∧
 g.2.2.2.2.1 = g.2.2.2.2.1 ∧
 x.2.2.1 = x.2.2.1 ∧
 (↑x.2.2.1.length : Int) = (↑x.2.2.1.length : Int) ∧ (0 : Int) = (0 : Int) ∧ True) ∧
 (g.1 = g.1 ∧ g.2.1 = g.2.1 ∧ g.2.2.1 = g.2.2.1 ∧ g.2.2.2.1 = g.2.2.2.1 ∧ True) ∧ True) ∧
 ∀ (g_1 : List Int × List Int × Int × Unit),
 (0 : Int) ≤ g_1.2.2.1 ∧
 g_1.2.2.1 ≤ (↑x.2.2.1.length : Int) ∧
 (g_1.1, g_1.2.1) = comes x.2.2.1 g.2.2.2.2.1 g_1.2.2.1.toNat (g.1, g.2.1) →
 (g_1.1.length ≤ (9223372036854775807 : Nat) ∧
 ∀ (x : Int), x ∈ g_1.1 → (-9223372036854775808 : Int) ≤ x ∧ x ≤ (9223372036854775807 : Int)) ∧
 (g_1.2.1.length ≤ (9223372036854775807 : Nat) ∧
 ∀ (x : Int), x ∈ g_1.2.1 → (-9223372036854775808 : Int) ≤ x ∧ x ≤ (9223372036854775807 : Int)) ∧
 ((-9223372036854775808 : Int) ≤ g_1.2.2.1 ∧ g_1.2.2.1 ≤ (9223372036854775807 : Int)) ∧ True →
 (decide (g_1.2.2.1 < (↑x.2.2.1.length : Int)) = true →
 ((0 : Int) ≤ g_1.2.2.1 ∧ g_1.2.2.1 < (↑x.2.2.1.length : Int)) ∧
 (((x.2.2.1.getD g_1.2.2.1.toNat ((0 : Int), (0 : Int), (0 : Int))).1 == g.2.2.2.2.1) = true →
 (g_1.1.length + (((0 : Int) :: ([] : List Int)).set (0 : Nat) g_1.2.2.1).length ≤
 (9223372036854775807 : Nat) ∧
 (g_1.1.length + (((0 : Int) :: ([] : List Int)).set (0 : Nat) g_1.2.2.1).length +
 (g_1.1.length + (((0 : Int) :: ([] : List Int)).set (0 : Nat) g_1.2.2.1).length) / (4 : Nat) +
 (192 : Nat)) *
 (8 : Nat) ≤
 (281474976710656 : Nat)) ∧
 ((0 : Int) ≤ g_1.2.2.1 ∧ g_1.2.2.1 < (↑g_1.2.1.length : Int)) ∧
 ((-9223372036854775808 : Int) ≤ g_1.2.2.1 + (1 : Int) ∧
 g_1.2.2.1 + (1 : Int) ≤ (9223372036854775807 : Int)) ∧
 (((0 : Int) ≤ g_1.2.2.1 + (1 : Int) ∧
 g_1.2.2.1 + (1 : Int) ≤ (↑x.2.2.1.length : Int) ∧
 (g_1.1 ++ ((0 : Int) :: ([] : List Int)).set (0 : Nat) g_1.2.2.1,
 g_1.2.1.set g_1.2.2.1.toNat
 (x.2.2.1.getD g_1.2.2.1.toNat ((0 : Int), (0 : Int), (0 : Int))).2.2) =
 comes x.2.2.1 g.2.2.2.2.1 (g_1.2.2.1 + (1 : Int)).toNat (g.1, g.2.1)) ∧
 ((↑x.2.2.1.length : Int) - (g_1.2.2.1 + (1 : Int))).toNat <
 ((↑x.2.2.1.length : Int) - g_1.2.2.1).toNat) ∧
 (x.1 = x.1 ∧
 x.2.1 = x.2.1 ∧
 x.2.2.1 = x.2.2.1 ∧
 True ∧
 True ∧
 True ∧
 True ∧
 g.2.2.2.2.1 = g.2.2.2.2.1 ∧
 x.2.2.2.1 = x.2.2.2.1 ∧
 g.2.2.2.2.1 = g.2.2.2.2.1 ∧
 x.2.2.1 = x.2.2.1 ∧
 (↑x.2.2.1.length : Int) = (↑x.2.2.1.length : Int) ∧
 g_1.2.2.1 + (1 : Int) = g_1.2.2.1 + (1 : Int) ∧ True) ∧
 (g_1.1 ++ ((0 : Int) :: ([] : List Int)).set (0 : Nat) g_1.2.2.1 =
 g_1.1 ++ ((0 : Int) :: ([] : List Int)).set (0 : Nat) g_1.2.2.1 ∧
 g_1.2.1.set g_1.2.2.1.toNat
 (x.2.2.1.getD g_1.2.2.1.toNat ((0 : Int), (0 : Int), (0 : Int))).2.2 =
 g_1.2.1.set g_1.2.2.1.toNat
 (x.2.2.1.getD g_1.2.2.1.toNat ((0 : Int), (0 : Int), (0 : Int))).2.2 ∧
 g.2.2.1 = g.2.2.1 ∧ g.2.2.2.1 = g.2.2.2.1 ∧ True) ∧
 True) ∧
 (((x.2.2.1.getD g_1.2.2.1.toNat ((0 : Int), (0 : Int), (0 : Int))).1 == g.2.2.2.2.1) = false →
 ((-9223372036854775808 : Int) ≤ g_1.2.2.1 + (1 : Int) ∧
 g_1.2.2.1 + (1 : Int) ≤ (9223372036854775807 : Int)) ∧
 (((0 : Int) ≤ g_1.2.2.1 + (1 : Int) ∧
 g_1.2.2.1 + (1 : Int) ≤ (↑x.2.2.1.length : Int) ∧
 (g_1.1, g_1.2.1) =
 comes x.2.2.1 g.2.2.2.2.1 (g_1.2.2.1 + (1 : Int)).toNat (g.1, g.2.1)) ∧
 ((↑x.2.2.1.length : Int) - (g_1.2.2.1 + (1 : Int))).toNat <
 ((↑x.2.2.1.length : Int) - g_1.2.2.1).toNat) ∧
 (x.1 = x.1 ∧
 x.2.1 = x.2.1 ∧
 x.2.2.1 = x.2.2.1 ∧
 True ∧
 True ∧
 True ∧
 True ∧
 g.2.2.2.2.1 = g.2.2.2.2.1 ∧
 x.2.2.2.1 = x.2.2.2.1 ∧
 g.2.2.2.2.1 = g.2.2.2.2.1 ∧
 x.2.2.1 = x.2.2.1 ∧
 (↑x.2.2.1.length : Int) = (↑x.2.2.1.length : Int) ∧
 g_1.2.2.1 + (1 : Int) = g_1.2.2.1 + (1 : Int) ∧ True) ∧
 (g_1.1 = g_1.1 ∧
 g_1.2.1 = g_1.2.1 ∧
 g.2.2.1 = g.2.2.1 ∧ g.2.2.2.1 = g.2.2.2.1 ∧ True) ∧
 True)) ∧
 (decide (g_1.2.2.1 < (↑x.2.2.1.length : Int)) = false →
 ((((-1 : Int) ≤ (31 : Int) ∧
 (31 : Int) ≤ (31 : Int) ∧
 ([] : List Int) =
 List.take x.1.toNat (pk x.2.2.1 g_1.2.1 g_1.1 ((31 : Int) - (31 : Int)).toNat)) ∧
 True) ∧
 (x.1 = x.1 ∧
 x.2.1 = x.2.1 ∧
 x.2.2.1 = x.2.2.1 ∧
 True ∧
 True ∧
 True ∧
 True ∧
 True ∧
 (31 : Int) = (31 : Int) ∧
 x.2.2.2.1 = x.2.2.2.1 ∧ g.2.2.2.2.1 = g.2.2.2.2.1 ∧ True) ∧
 (([] : List Int) = ([] : List Int) ∧
 g_1.1 = g_1.1 ∧
 g_1.2.1 = g_1.2.1 ∧ g.2.2.1 = g.2.2.1 ∧ g.2.2.2.1 = g.2.2.2.1 ∧ True) ∧
 True) ∧
 ∀ (g_2 : List Int × Int × Unit),
 (-1 : Int) ≤ g_2.2.1 ∧
 g_2.2.1 ≤ (31 : Int) ∧
 g_2.1 = List.take x.1.toNat (pk x.2.2.1 g_1.2.1 g_1.1 ((31 : Int) - g_2.2.1).toNat) →
 (g_2.1.length ≤ (9223372036854775807 : Nat) ∧
 ∀ (x : Int), x ∈ g_2.1 → (-9223372036854775808 : Int) ≤ x ∧ x ≤ (9223372036854775807 : Int)) ∧
 ((-9223372036854775808 : Int) ≤ g_2.2.1 ∧ g_2.2.1 ≤ (9223372036854775807 : Int)) ∧ True →
 (decide ((0 : Int) ≤ g_2.2.1) = true →
 ((((0 : Int) ≤ (0 : Int) ∧
 (0 : Int) ≤ (↑g_1.1.length : Int) ∧
 g_2.1 =
 List.take x.1.toNat
 (pk x.2.2.1 g_1.2.1 g_1.1 ((31 : Int) - g_2.2.1).toNat ++
 selL x.2.2.1 g_1.2.1 (List.take (Int.toNat (0 : Int)) g_1.1) g_2.2.1)) ∧
 True) ∧
 (x.1 = x.1 ∧
 x.2.1 = x.2.1 ∧
 x.2.2.1 = x.2.2.1 ∧
 True ∧
 True ∧
 True ∧
 True ∧
 True ∧
 g_2.2.1 = g_2.2.1 ∧
 x.2.2.2.1 = x.2.2.2.1 ∧
 g.2.2.2.2.1 = g.2.2.2.2.1 ∧
 True ∧
 (↑g_1.1.length : Int) = (↑g_1.1.length : Int) ∧
 (0 : Int) = (0 : Int) ∧ True) ∧
 (g_2.1 = g_2.1 ∧
 g_1.1 = g_1.1 ∧
 g_1.2.1 = g_1.2.1 ∧
 g.2.2.1 = g.2.2.1 ∧ g.2.2.2.1 = g.2.2.2.1 ∧ True) ∧
 True) ∧
 ∀ (g_3 : List Int × Int × Unit),
 (0 : Int) ≤ g_3.2.1 ∧
 g_3.2.1 ≤ (↑g_1.1.length : Int) ∧
 g_3.1 =
 List.take x.1.toNat
 (pk x.2.2.1 g_1.2.1 g_1.1 ((31 : Int) - g_2.2.1).toNat ++
 selL x.2.2.1 g_1.2.1 (List.take g_3.2.1.toNat g_1.1) g_2.2.1) →
 (g_3.1.length ≤ (9223372036854775807 : Nat) ∧
 ∀ (x : Int), x ∈ g_3.1 → (-9223372036854775808 : Int) ≤ x ∧ x ≤ (9223372036854775807 : Int)) ∧
 ((-9223372036854775808 : Int) ≤ g_3.2.1 ∧ g_3.2.1 ≤ (9223372036854775807 : Int)) ∧ True →
 (decide (g_3.2.1 < (↑g_1.1.length : Int)) = true →
 ((0 : Int) ≤ g_3.2.1 ∧ g_3.2.1 < (↑g_1.1.length : Int)) ∧
 ((0 : Int) ≤ g_1.1.getD g_3.2.1.toNat (0 : Int) ∧
 g_1.1.getD g_3.2.1.toNat (0 : Int) < (↑x.2.2.1.length : Int)) ∧
 (((x.2.2.1.getD (g_1.1.getD g_3.2.1.toNat (0 : Int)).toNat
 ((0 : Int), (0 : Int), (0 : Int))).2.1 ==
 g_2.2.1) =
 true →
 (((x.2.2.1.getD (g_1.1.getD g_3.2.1.toNat (0 : Int)).toNat
 ((0 : Int), (0 : Int), (0 : Int))).2.1 ==
 g_2.2.1) =
 true ∧
 ((x.2.2.1.getD (g_1.1.getD g_3.2.1.toNat (0 : Int)).toNat
 ((0 : Int), (0 : Int), (0 : Int))).2.1 ==
 g_2.2.1) =
 true) ∧
 (0 : Int) ≤ g_1.1.getD g_3.2.1.toNat (0 : Int) ∧
 g_1.1.getD g_3.2.1.toNat (0 : Int) < (↑g_1.2.1.length : Int)) ∧
 (((x.2.2.1.getD (g_1.1.getD g_3.2.1.toNat (0 : Int)).toNat
 ((0 : Int), (0 : Int), (0 : Int))).2.1 ==
 g_2.2.1) =
 true →
 ((x.2.2.1.getD (g_1.1.getD g_3.2.1.toNat (0 : Int)).toNat
 ((0 : Int), (0 : Int), (0 : Int))).2.1 ==
 g_2.2.1) =
 true) ∧
 (((x.2.2.1.getD (g_1.1.getD g_3.2.1.toNat (0 : Int)).toNat
 ((0 : Int), (0 : Int), (0 : Int))).2.1 ==
 g_2.2.1) =
 true →
 ((x.2.2.1.getD (g_1.1.getD g_3.2.1.toNat (0 : Int)).toNat
 ((0 : Int), (0 : Int), (0 : Int))).2.1 ==
 g_2.2.1) =
 true) ∧
 (((x.2.2.1.getD (g_1.1.getD g_3.2.1.toNat (0 : Int)).toNat
 ((0 : Int), (0 : Int), (0 : Int))).2.1 ==
 g_2.2.1) =
 true →
 ((x.2.2.1.getD (g_1.1.getD g_3.2.1.toNat (0 : Int)).toNat
 ((0 : Int), (0 : Int), (0 : Int))).2.1 ==
 g_2.2.1) =
 true) ∧
 (((x.2.2.1.getD (g_1.1.getD g_3.2.1.toNat (0 : Int)).toNat
 ((0 : Int), (0 : Int), (0 : Int))).2.1 ==
 g_2.2.1 &&
 decide
 ((0 : Int) <
 g_1.2.1.getD (g_1.1.getD g_3.2.1.toNat (0 : Int)).toNat
 (0 : Int))) =
 true →
 ((x.2.2.1.getD (g_1.1.getD g_3.2.1.toNat (0 : Int)).toNat
 ((0 : Int), (0 : Int), (0 : Int))).2.1 ==
 g_2.2.1 &&
 decide
 ((0 : Int) <
 g_1.2.1.getD (g_1.1.getD g_3.2.1.toNat (0 : Int)).toNat
 (0 : Int))) =
 true) ∧
 (((x.2.2.1.getD (g_1.1.getD g_3.2.1.toNat (0 : Int)).toNat
 ((0 : Int), (0 : Int), (0 : Int))).2.1 ==
 g_2.2.1 &&
 decide
 ((0 : Int) <
 g_1.2.1.getD (g_1.1.getD g_3.2.1.toNat (0 : Int)).toNat
 (0 : Int))) =
 true →
 ((x.2.2.1.getD (g_1.1.getD g_3.2.1.toNat (0 : Int)).toNat
 ((0 : Int), (0 : Int), (0 : Int))).2.1 ==
 g_2.2.1 &&
 decide
 ((0 : Int) <
 g_1.2.1.getD (g_1.1.getD g_3.2.1.toNat (0 : Int)).toNat
 (0 : Int))) =
 true ∧
 ((x.2.2.1.getD (g_1.1.getD g_3.2.1.toNat (0 : Int)).toNat
 ((0 : Int), (0 : Int), (0 : Int))).2.1 ==
 g_2.2.1 &&
 decide
 ((0 : Int) <
 g_1.2.1.getD (g_1.1.getD g_3.2.1.toNat (0 : Int)).toNat
 (0 : Int))) =
 true) ∧
 (((x.2.2.1.getD (g_1.1.getD g_3.2.1.toNat (0 : Int)).toNat
 ((0 : Int), (0 : Int), (0 : Int))).2.1 ==
 g_2.2.1 &&
 decide
 ((0 : Int) <
 g_1.2.1.getD (g_1.1.getD g_3.2.1.toNat (0 : Int)).toNat
 (0 : Int))) =
 true →
 ((x.2.2.1.getD (g_1.1.getD g_3.2.1.toNat (0 : Int)).toNat
 ((0 : Int), (0 : Int), (0 : Int))).2.1 ==
 g_2.2.1 &&
 decide
 ((0 : Int) <
 g_1.2.1.getD (g_1.1.getD g_3.2.1.toNat (0 : Int)).toNat
 (0 : Int))) =
 true) ∧
 (((x.2.2.1.getD (g_1.1.getD g_3.2.1.toNat (0 : Int)).toNat
 ((0 : Int), (0 : Int), (0 : Int))).2.1 ==
 g_2.2.1 &&
 decide
 ((0 : Int) <
 g_1.2.1.getD (g_1.1.getD g_3.2.1.toNat (0 : Int)).toNat
 (0 : Int)) &&
 decide ((↑g_3.1.length : Int) < x.1)) =
 true →
 (g_3.1.length +
 (((0 : Int) :: ([] : List Int)).set (0 : Nat)
 (g_1.1.getD g_3.2.1.toNat (0 : Int))).length ≤
 (9223372036854775807 : Nat) ∧
 (g_3.1.length +
 (((0 : Int) :: ([] : List Int)).set (0 : Nat)
 (g_1.1.getD g_3.2.1.toNat (0 : Int))).length +
 (g_3.1.length +
 (((0 : Int) :: ([] : List Int)).set (0 : Nat)
 (g_1.1.getD g_3.2.1.toNat (0 : Int))).length) /
 (4 : Nat) +
 (192 : Nat)) *
 (8 : Nat) ≤
 (281474976710656 : Nat)) ∧
 ((-9223372036854775808 : Int) ≤ g_3.2.1 + (1 : Int) ∧
 g_3.2.1 + (1 : Int) ≤ (9223372036854775807 : Int)) ∧
 (((0 : Int) ≤ g_3.2.1 + (1 : Int) ∧
 g_3.2.1 + (1 : Int) ≤ (↑g_1.1.length : Int) ∧
 g_3.1 ++
 ((0 : Int) :: ([] : List Int)).set (0 : Nat)
 (g_1.1.getD g_3.2.1.toNat (0 : Int)) =
 List.take x.1.toNat
 (pk x.2.2.1 g_1.2.1 g_1.1
 ((31 : Int) - g_2.2.1).toNat ++
 selL x.2.2.1 g_1.2.1
 (List.take (g_3.2.1 + (1 : Int)).toNat g_1.1)
 g_2.2.1)) ∧
 ((↑g_1.1.length : Int) - (g_3.2.1 + (1 : Int))).toNat <
 ((↑g_1.1.length : Int) - g_3.2.1).toNat) ∧
 (x.1 = x.1 ∧
 x.2.1 = x.2.1 ∧
 x.2.2.1 = x.2.2.1 ∧
 True ∧
 True ∧
 True ∧
 True ∧
 True ∧
 g_2.2.1 = g_2.2.1 ∧
 x.2.2.2.1 = x.2.2.2.1 ∧
 g.2.2.2.2.1 = g.2.2.2.2.1 ∧
 True ∧
 (↑g_1.1.length : Int) =
 (↑g_1.1.length : Int) ∧
 g_3.2.1 + (1 : Int) =
 g_3.2.1 + (1 : Int) ∧
 True) ∧
 (g_3.1 ++
 ((0 : Int) :: ([] : List Int)).set (0 : Nat)
 (g_1.1.getD g_3.2.1.toNat (0 : Int)) =
 g_3.1 ++
 ((0 : Int) :: ([] : List Int)).set (0 : Nat)
 (g_1.1.getD g_3.2.1.toNat (0 : Int)) ∧
 g_1.1 = g_1.1 ∧
 g_1.2.1 = g_1.2.1 ∧
 g.2.2.1 = g.2.2.1 ∧
 g.2.2.2.1 = g.2.2.2.1 ∧ True) ∧
 True) ∧
 (((x.2.2.1.getD (g_1.1.getD g_3.2.1.toNat (0 : Int)).toNat
 ((0 : Int), (0 : Int), (0 : Int))).2.1 ==
 g_2.2.1 &&
 decide
 ((0 : Int) <
 g_1.2.1.getD (g_1.1.getD g_3.2.1.toNat (0 : Int)).toNat
 (0 : Int)) &&
 decide ((↑g_3.1.length : Int) < x.1)) =
 false →
 ((-9223372036854775808 : Int) ≤ g_3.2.1 + (1 : Int) ∧
 g_3.2.1 + (1 : Int) ≤ (9223372036854775807 : Int)) ∧
 (((0 : Int) ≤ g_3.2.1 + (1 : Int) ∧
 g_3.2.1 + (1 : Int) ≤ (↑g_1.1.length : Int) ∧
 g_3.1 =
 List.take x.1.toNat
 (pk x.2.2.1 g_1.2.1 g_1.1
 ((31 : Int) - g_2.2.1).toNat ++
 selL x.2.2.1 g_1.2.1
 (List.take (g_3.2.1 + (1 : Int)).toNat g_1.1)
 g_2.2.1)) ∧
 ((↑g_1.1.length : Int) - (g_3.2.1 + (1 : Int))).toNat <
 ((↑g_1.1.length : Int) - g_3.2.1).toNat) ∧
 (x.1 = x.1 ∧
 x.2.1 = x.2.1 ∧
 x.2.2.1 = x.2.2.1 ∧
 True ∧
 True ∧
 True ∧
 True ∧
 True ∧
 g_2.2.1 = g_2.2.1 ∧
 x.2.2.2.1 = x.2.2.2.1 ∧
 g.2.2.2.2.1 = g.2.2.2.2.1 ∧
 True ∧
 (↑g_1.1.length : Int) =
 (↑g_1.1.length : Int) ∧
 g_3.2.1 + (1 : Int) =
 g_3.2.1 + (1 : Int) ∧
 True) ∧
 (g_3.1 = g_3.1 ∧
 g_1.1 = g_1.1 ∧
 g_1.2.1 = g_1.2.1 ∧
 g.2.2.1 = g.2.2.1 ∧
 g.2.2.2.1 = g.2.2.2.1 ∧ True) ∧
 True)) ∧
 (decide (g_3.2.1 < (↑g_1.1.length : Int)) = false →
 ((-9223372036854775808 : Int) ≤ g_2.2.1 - (1 : Int) ∧
 g_2.2.1 - (1 : Int) ≤ (9223372036854775807 : Int)) ∧
 (((-1 : Int) ≤ g_2.2.1 - (1 : Int) ∧
 g_2.2.1 - (1 : Int) ≤ (31 : Int) ∧
 g_3.1 =
 List.take x.1.toNat
 (pk x.2.2.1 g_1.2.1 g_1.1
 ((31 : Int) - (g_2.2.1 - (1 : Int))).toNat)) ∧
 (g_2.2.1 - (1 : Int) + (1 : Int)).toNat < (g_2.2.1 + (1 : Int)).toNat) ∧
 (x.1 = x.1 ∧
 x.2.1 = x.2.1 ∧
 x.2.2.1 = x.2.2.1 ∧
 True ∧
 True ∧
 True ∧
 True ∧
 True ∧
 g_2.2.1 - (1 : Int) = g_2.2.1 - (1 : Int) ∧
 x.2.2.2.1 = x.2.2.2.1 ∧
 g.2.2.2.2.1 = g.2.2.2.2.1 ∧ True) ∧
 (g_3.1 = g_3.1 ∧
 g_1.1 = g_1.1 ∧
 g_1.2.1 = g_1.2.1 ∧
 g.2.2.1 = g.2.2.1 ∧ g.2.2.2.1 = g.2.2.2.1 ∧ True) ∧
 True)) ∧
 (decide ((0 : Int) ≤ g_2.2.1) = false →
 Holds (g_2.1.length ≤ (400 : Nat)) ∧
 ((((0 : Int) ≤ (0 : Int) ∧
 (0 : Int) ≤ (↑g_2.1.length : Int) ∧
 (g_1.1, g_1.2.1, g.2.2.1) =
 List.foldl (stA x.2.1) (g_1.1, g_1.2.1, g.2.2.1)
 (List.take (Int.toNat (0 : Int)) g_2.1)) ∧
 True) ∧
 (x.1 = x.1 ∧
 x.2.1 = x.2.1 ∧
 x.2.2.1 = x.2.2.1 ∧
 True ∧
 True ∧
 True ∧
 True ∧
 True ∧
 x.2.2.2.1 = x.2.2.2.1 ∧
 g.2.2.2.2.1 = g.2.2.2.2.1 ∧
 True ∧
 (↑g_2.1.length : Int) = (↑g_2.1.length : Int) ∧
 (0 : Int) = (0 : Int) ∧ True) ∧
 (g_1.1 = g_1.1 ∧
 g_1.2.1 = g_1.2.1 ∧
 g.2.2.1 = g.2.2.1 ∧
 g.2.2.2.1 = g.2.2.2.1 ∧ g_2.1 = g_2.1 ∧ g_2.1 = g_2.1 ∧ True) ∧
 True) ∧
 ∀ (g_3 : List Int × List Int × List Int × Int × Unit),
 (0 : Int) ≤ g_3.2.2.2.1 ∧
 g_3.2.2.2.1 ≤ (↑g_2.1.length : Int) ∧
 (g_3.1, g_3.2.1, g_3.2.2.1) =
 List.foldl (stA x.2.1) (g_1.1, g_1.2.1, g.2.2.1)
 (List.take g_3.2.2.2.1.toNat g_2.1) →
 (g_3.1.length ≤ (9223372036854775807 : Nat) ∧
 ∀ (x : Int), x ∈ g_3.1 → (-9223372036854775808 : Int) ≤ x ∧ x ≤ (9223372036854775807 : Int)) ∧
 (g_3.2.1.length ≤ (9223372036854775807 : Nat) ∧
 ∀ (x : Int),
 x ∈ g_3.2.1 → (-9223372036854775808 : Int) ≤ x ∧ x ≤ (9223372036854775807 : Int)) ∧
 (g_3.2.2.1.length ≤ (9223372036854775807 : Nat) ∧
 ∀ (x : Int),
 x ∈ g_3.2.2.1 →
 (-9223372036854775808 : Int) ≤ x ∧ x ≤ (9223372036854775807 : Int)) ∧
 ((-9223372036854775808 : Int) ≤ g_3.2.2.2.1 ∧
 g_3.2.2.2.1 ≤ (9223372036854775807 : Int)) ∧
 True →
 (decide (g_3.2.2.2.1 < (↑g_2.1.length : Int)) = true →
 ((0 : Int) ≤ g_3.2.2.2.1 ∧ g_3.2.2.2.1 < (↑g_2.1.length : Int)) ∧
 ((0 : Int) ≤ g_2.1.getD g_3.2.2.2.1.toNat (0 : Int) ∧
 g_2.1.getD g_3.2.2.2.1.toNat (0 : Int) < (↑g_3.2.1.length : Int)) ∧
 ((-9223372036854775808 : Int) ≤
 g_3.2.1.getD (g_2.1.getD g_3.2.2.2.1.toNat (0 : Int)).toNat (0 : Int) -
 (1 : Int) ∧
 g_3.2.1.getD (g_2.1.getD g_3.2.2.2.1.toNat (0 : Int)).toNat (0 : Int) -
 (1 : Int) ≤
 (9223372036854775807 : Int)) ∧
 ((0 : Int) ≤ g_2.1.getD g_3.2.2.2.1.toNat (0 : Int) ∧
 g_2.1.getD g_3.2.2.2.1.toNat (0 : Int) < (↑g_3.2.1.length : Int)) ∧
 ((0 : Int) ≤ g_2.1.getD g_3.2.2.2.1.toNat (0 : Int) ∧
 g_2.1.getD g_3.2.2.2.1.toNat (0 : Int) <
 (↑g_3.2.2.1.length : Int)) ∧
 ((-9223372036854775808 : Int) ≤
 g_3.2.2.1.getD (g_2.1.getD g_3.2.2.2.1.toNat (0 : Int)).toNat
 (0 : Int) +
 (1 : Int) ∧
 g_3.2.2.1.getD (g_2.1.getD g_3.2.2.2.1.toNat (0 : Int)).toNat
 (0 : Int) +
 (1 : Int) ≤
 (9223372036854775807 : Int)) ∧
 ((0 : Int) ≤ g_2.1.getD g_3.2.2.2.1.toNat (0 : Int) ∧
 g_2.1.getD g_3.2.2.2.1.toNat (0 : Int) <
 (↑g_3.2.2.1.length : Int)) ∧
 ((0 : Int) ≤ g_2.1.getD g_3.2.2.2.1.toNat (0 : Int) ∧
 g_2.1.getD g_3.2.2.2.1.toNat (0 : Int) <
 (↑(g_3.2.2.1.set
 (g_2.1.getD g_3.2.2.2.1.toNat (0 : Int)).toNat
 (g_3.2.2.1.getD
 (g_2.1.getD g_3.2.2.2.1.toNat (0 : Int)).toNat
 (0 : Int) +
 (1 : Int))).length :
 Int)) ∧
 ((0 : Int) ≤
 (g_3.2.2.1.set
 (g_2.1.getD g_3.2.2.2.1.toNat (0 : Int)).toNat
 (g_3.2.2.1.getD
 (g_2.1.getD g_3.2.2.2.1.toNat (0 : Int)).toNat
 (0 : Int) +
 (1 : Int))).getD
 (g_2.1.getD g_3.2.2.2.1.toNat (0 : Int)).toNat (0 : Int) ∧
 (0 : Int) < x.2.1) ∧
 (((g_3.2.2.1.set
 (g_2.1.getD g_3.2.2.2.1.toNat (0 : Int)).toNat
 (g_3.2.2.1.getD
 (g_2.1.getD g_3.2.2.2.1.toNat (0 : Int)).toNat
 (0 : Int) +
 (1 : Int))).getD
 (g_2.1.getD g_3.2.2.2.1.toNat (0 : Int)).toNat
 (0 : Int) %
 x.2.1 ==
 (0 : Int)) =
 true →
 (Holds (g_3.1.length ≤ (400 : Nat)) ∧
 Holds True ∧
 ((True ∧ True ∧ True) ∧
 g_3.1 = g_3.1 ∧
 (g_2.1.getD g_3.2.2.2.1.toNat (0 : Int) =
 g_2.1.getD g_3.2.2.2.1.toNat (0 : Int) ∧
 True) ∧
 (True ∧ (True ∧ True) ∧ True) ∧ True) ∧
 ((idx g_3.1
 (g_2.1.getD g_3.2.2.2.1.toNat (0 : Int)) ==
 (-1 : Int)) =
 true →
 (g_3.1.length +
 (((0 : Int) :: ([] : List Int)).set (0 : Nat)
 (g_2.1.getD g_3.2.2.2.1.toNat
 (0 : Int))).length ≤
 (9223372036854775807 : Nat) ∧
 (g_3.1.length +
 (((0 : Int) :: ([] : List Int)).set (0 : Nat)
 (g_2.1.getD g_3.2.2.2.1.toNat
 (0 : Int))).length +
 (g_3.1.length +
 (((0 : Int) :: ([] : List Int)).set (0 : Nat)
 (g_2.1.getD g_3.2.2.2.1.toNat
 (0 : Int))).length) /
 (4 : Nat) +
 (192 : Nat)) *
 (8 : Nat) ≤
 (281474976710656 : Nat)) ∧
 ((-9223372036854775808 : Int) ≤
 g_3.2.2.2.1 + (1 : Int) ∧
 g_3.2.2.2.1 + (1 : Int) ≤
 (9223372036854775807 : Int)) ∧
 (((0 : Int) ≤ g_3.2.2.2.1 + (1 : Int) ∧
 g_3.2.2.2.1 + (1 : Int) ≤
 (↑g_2.1.length : Int) ∧
 (g_3.1 ++
 ((0 : Int) :: ([] : List Int)).set (0 : Nat)
 (g_2.1.getD g_3.2.2.2.1.toNat
 (0 : Int)),
 g_3.2.1.set
 (g_2.1.getD g_3.2.2.2.1.toNat
 (0 : Int)).toNat
 (g_3.2.1.getD
 (g_2.1.getD g_3.2.2.2.1.toNat
 (0 : Int)).toNat
 (0 : Int) -
 (1 : Int)),
 g_3.2.2.1.set
 (g_2.1.getD g_3.2.2.2.1.toNat
 (0 : Int)).toNat
 (g_3.2.2.1.getD
 (g_2.1.getD g_3.2.2.2.1.toNat
 (0 : Int)).toNat
 (0 : Int) +
 (1 : Int))) =
 List.foldl (stA x.2.1)
 (g_1.1, g_1.2.1, g.2.2.1)
 (List.take
 (g_3.2.2.2.1 + (1 : Int)).toNat
 g_2.1)) ∧
 ((↑g_2.1.length : Int) -
 (g_3.2.2.2.1 + (1 : Int))).toNat <
 ((↑g_2.1.length : Int) -
 g_3.2.2.2.1).toNat) ∧
 (x.1 = x.1 ∧
 x.2.1 = x.2.1 ∧
 x.2.2.1 = x.2.2.1 ∧
 True ∧
 True ∧
 True ∧
 True ∧
 True ∧
 x.2.2.2.1 =
 x.2.2.2.1 ∧
 g.2.2.2.2.1 =
 g.2.2.2.2.1 ∧
 True ∧
 (↑g_2.1.length : Int) =
 (↑g_2.1.length : Int) ∧
 g_3.2.2.2.1 +
 (1 : Int) =
 g_3.2.2.2.1 +
 (1 : Int) ∧
 True) ∧
 (g_3.1 ++
 ((0 : Int) :: ([] : List Int)).set (0 : Nat)
 (g_2.1.getD g_3.2.2.2.1.toNat
 (0 : Int)) =
 g_3.1 ++
 ((0 : Int) :: ([] : List Int)).set (0 : Nat)
 (g_2.1.getD g_3.2.2.2.1.toNat
 (0 : Int)) ∧
 g_3.2.1.set
 (g_2.1.getD g_3.2.2.2.1.toNat
 (0 : Int)).toNat
 (g_3.2.1.getD
 (g_2.1.getD g_3.2.2.2.1.toNat
 (0 : Int)).toNat
 (0 : Int) -
 (1 : Int)) =
 g_3.2.1.set
 (g_2.1.getD g_3.2.2.2.1.toNat
 (0 : Int)).toNat
 (g_3.2.1.getD
 (g_2.1.getD g_3.2.2.2.1.toNat
 (0 : Int)).toNat
 (0 : Int) -
 (1 : Int)) ∧
 g_3.2.2.1.set
 (g_2.1.getD g_3.2.2.2.1.toNat
 (0 : Int)).toNat
 (g_3.2.2.1.getD
 (g_2.1.getD
 g_3.2.2.2.1.toNat
 (0 : Int)).toNat
 (0 : Int) +
 (1 : Int)) =
 g_3.2.2.1.set
 (g_2.1.getD g_3.2.2.2.1.toNat
 (0 : Int)).toNat
 (g_3.2.2.1.getD
 (g_2.1.getD
 g_3.2.2.2.1.toNat
 (0 : Int)).toNat
 (0 : Int) +
 (1 : Int)) ∧
 g.2.2.2.1 = g.2.2.2.1 ∧
 g_2.1 = g_2.1 ∧
 g_2.1 = g_2.1 ∧ True) ∧
 True) ∧
 ((idx g_3.1
 (g_2.1.getD g_3.2.2.2.1.toNat (0 : Int)) ==
 (-1 : Int)) =
 false →
 ((-9223372036854775808 : Int) ≤
 idx g_3.1
 (g_2.1.getD g_3.2.2.2.1.toNat (0 : Int)) +
 (1 : Int) ∧
 idx g_3.1
 (g_2.1.getD g_3.2.2.2.1.toNat (0 : Int)) +
 (1 : Int) ≤
 (9223372036854775807 : Int)) ∧
 (((((0 : Int) ≤
 idx g_3.1
 (g_2.1.getD g_3.2.2.2.1.toNat
 (0 : Int)) ∧
 idx g_3.1
 (g_2.1.getD g_3.2.2.2.1.toNat
 (0 : Int)) ≤
 idx g_3.1
 (g_2.1.getD g_3.2.2.2.1.toNat
 (0 : Int)) +
 (1 : Int) ∧
 idx g_3.1
 (g_2.1.getD g_3.2.2.2.1.toNat
 (0 : Int)) +
 (1 : Int) ≤
 (↑g_3.1.length : Int)) ∧
 g_3.1.length = g_3.1.length ∧
 List.take
 (idx g_3.1
 (g_2.1.getD g_3.2.2.2.1.toNat
 (0 : Int))).toNat
 g_3.1 =
 List.filter
 (fun y ↦
 !decide
 (y =
 capK
 (some
 (g_2.1.getD
 g_3.2.2.2.1.toNat
 (0 : Int)))))
 (List.take
 (idx g_3.1
 (g_2.1.getD
 g_3.2.2.2.1.toNat
 (0 : Int)) +
 (1 : Int)).toNat
 g_3.1) ∧
 List.drop
 (idx g_3.1
 (g_2.1.getD
 g_3.2.2.2.1.toNat
 (0 : Int)) +
 (1 : Int)).toNat
 g_3.1 =
 List.drop
 (idx g_3.1
 (g_2.1.getD
 g_3.2.2.2.1.toNat
 (0 : Int)) +
 (1 : Int)).toNat
 g_3.1) ∧
 True) ∧
 (True ∧
 True ∧
 idx g_3.1
 (g_2.1.getD g_3.2.2.2.1.toNat
 (0 : Int)) =
 idx g_3.1
 (g_2.1.getD g_3.2.2.2.1.toNat
 (0 : Int)) ∧
 idx g_3.1
 (g_2.1.getD g_3.2.2.2.1.toNat
 (0 : Int)) +
 (1 : Int) =
 idx g_3.1
 (g_2.1.getD g_3.2.2.2.1.toNat
 (0 : Int)) +
 (1 : Int) ∧
 True) ∧
 (g_3.1 = g_3.1 ∧
 g_3.1 = g_3.1 ∧
 g_3.2.1.set
 (g_2.1.getD g_3.2.2.2.1.toNat
 (0 : Int)).toNat
 (g_3.2.1.getD
 (g_2.1.getD
 g_3.2.2.2.1.toNat
 (0 : Int)).toNat
 (0 : Int) -
 (1 : Int)) =
 g_3.2.1.set
 (g_2.1.getD g_3.2.2.2.1.toNat
 (0 : Int)).toNat
 (g_3.2.1.getD
 (g_2.1.getD
 g_3.2.2.2.1.toNat
 (0 : Int)).toNat
 (0 : Int) -
 (1 : Int)) ∧
 g_3.2.2.1.set
 (g_2.1.getD g_3.2.2.2.1.toNat
 (0 : Int)).toNat
 (g_3.2.2.1.getD
 (g_2.1.getD
 g_3.2.2.2.1.toNat
 (0 : Int)).toNat
 (0 : Int) +
 (1 : Int)) =
 g_3.2.2.1.set
 (g_2.1.getD g_3.2.2.2.1.toNat
 (0 : Int)).toNat
 (g_3.2.2.1.getD
 (g_2.1.getD
 g_3.2.2.2.1.toNat
 (0 : Int)).toNat
 (0 : Int) +
 (1 : Int)) ∧
 g.2.2.2.1 = g.2.2.2.1 ∧
 g_2.1 = g_2.1 ∧
 (g_2.1.getD g_3.2.2.2.1.toNat
 (0 : Int) =
 g_2.1.getD
 g_3.2.2.2.1.toNat
 (0 : Int) ∧
 True) ∧
 g_2.1 = g_2.1 ∧
 (True ∧ (True ∧ True) ∧ True) ∧
 True) ∧
 x.1 = x.1 ∧
 x.2.1 = x.2.1 ∧
 x.2.2.1 = x.2.2.1 ∧
 True ∧
 True ∧
 True ∧
 True ∧
 True ∧
 True ∧
 True ∧
 True ∧
 True ∧
 True ∧
 True ∧
 True ∧
 True ∧
 True ∧
 True ∧
 True ∧
 True ∧
 True ∧
 (True ∧
 True) ∧
 True ∧
 True ∧
 True ∧
 True ∧
 True ∧
 True ∧
 x.2.2.2.1 =
 x.2.2.2.1 ∧
 g.2.2.2.2.1 =
 g.2.2.2.2.1 ∧
 True ∧
 True ∧
 True ∧
 True ∧
 True ∧
 True ∧
 True ∧
 True ∧
 True ∧
 True ∧
 True ∧
 True ∧
 True ∧
 True ∧
 True ∧
 True ∧
 True ∧
 True ∧
 True ∧
 True ∧
 True ∧
 True ∧
 True ∧
 True ∧
 True ∧
 True ∧
 True ∧
 True ∧
 True ∧
 True ∧
 True ∧
 True ∧
 True ∧
 True ∧
 True ∧
 True ∧
 True ∧
 True ∧
 True ∧
 True ∧
 True ∧
 True ∧
 True ∧
 True ∧
 True ∧
 True ∧
 True ∧
 True ∧
 True ∧
 True ∧
 True ∧
 True ∧
 True ∧
 True ∧
 True ∧
 True ∧
 True ∧
 True ∧
 True ∧
 True ∧
 (↑g_2.1.length :
 Int) =
 (↑g_2.1.length :
 Int) ∧
 g_3.2.2.2.1 =
 g_3.2.2.2.1 ∧
 true =
 true ∧
 ((True ∧
 True ∧
 True) ∧
 g_3.2.2.2.1.toNat =
 g_3.2.2.2.1.toNat) ∧
 g_2.1.getD
 g_3.2.2.2.1.toNat
 (0 :
 Int) =
 g_2.1.getD
 g_3.2.2.2.1.toNat
 (0 :
 Int) ∧
 True ∧
 g_2.1.getD
 g_3.2.2.2.1.toNat
 (0 :
 Int) =
 g_2.1.getD
 g_3.2.2.2.1.toNat
 (0 :
 Int) ∧
 ((True ∧
 True ∧
 True) ∧
 (g_2.1.getD
 g_3.2.2.2.1.toNat
 (0 :
 Int)).toNat =
 (g_2.1.getD
 g_3.2.2.2.1.toNat
 (0 :
 Int)).toNat) ∧
 g_3.2.1.getD
 (g_2.1.getD
 g_3.2.2.2.1.toNat
 (0 :
 Int)).toNat
 (0 :
 Int) =
 g_3.2.1.getD
 (g_2.1.getD
 g_3.2.2.2.1.toNat
 (0 :
 Int)).toNat
 (0 :
 Int) ∧
 g_3.2.1.getD
 (g_2.1.getD
 g_3.2.2.2.1.toNat
 (0 :
 Int)).toNat
 (0 :
 Int) -
 (1 :
 Int) =
 g_3.2.1.getD
 (g_2.1.getD
 g_3.2.2.2.1.toNat
 (0 :
 Int)).toNat
 (0 :
 Int) -
 (1 :
 Int) ∧
 ((True ∧
 True ∧
 True) ∧
 (g_2.1.getD
 g_3.2.2.2.1.toNat
 (0 :
 Int)).toNat =
 (g_2.1.getD
 g_3.2.2.2.1.toNat
 (0 :
 Int)).toNat) ∧
 True ∧
 g_2.1.getD
 g_3.2.2.2.1.toNat
 (0 :
 Int) =
 g_2.1.getD
 g_3.2.2.2.1.toNat
 (0 :
 Int) ∧
 ((True ∧
 True ∧
 True) ∧
 (g_2.1.getD
 g_3.2.2.2.1.toNat
 (0 :
 Int)).toNat =
 (g_2.1.getD
 g_3.2.2.2.1.toNat
 (0 :
 Int)).toNat) ∧
 g_3.2.2.1.getD
 (g_2.1.getD
 g_3.2.2.2.1.toNat
 (0 :
 Int)).toNat
 (0 :
 Int) =
 g_3.2.2.1.getD
 (g_2.1.getD
 g_3.2.2.2.1.toNat
 (0 :
 Int)).toNat
 (0 :
 Int) ∧
 g_3.2.2.1.getD
 (g_2.1.getD
 g_3.2.2.2.1.toNat
 (0 :
 Int)).toNat
 (0 :
 Int) +
 (1 :
 Int) =
 g_3.2.2.1.getD
 (g_2.1.getD
 g_3.2.2.2.1.toNat
 (0 :
 Int)).toNat
 (0 :
 Int) +
 (1 :
 Int) ∧
 ((True ∧
 True ∧
 True) ∧
 (g_2.1.getD
 g_3.2.2.2.1.toNat
 (0 :
 Int)).toNat =
 (g_2.1.getD
 g_3.2.2.2.1.toNat
 (0 :
 Int)).toNat) ∧
 True ∧
 g_2.1.getD
 g_3.2.2.2.1.toNat
 (0 :
 Int) =
 g_2.1.getD
 g_3.2.2.2.1.toNat
 (0 :
 Int) ∧
 ((True ∧
 True ∧
 True) ∧
 (g_2.1.getD
 g_3.2.2.2.1.toNat
 (0 :
 Int)).toNat =
 (g_2.1.getD
 g_3.2.2.2.1.toNat
 (0 :
 Int)).toNat) ∧
 (g_3.2.2.1.set
 (g_2.1.getD
 g_3.2.2.2.1.toNat
 (0 :
 Int)).toNat
 (g_3.2.2.1.getD
 (g_2.1.getD
 g_3.2.2.2.1.toNat
 (0 :
 Int)).toNat
 (0 :
 Int) +
 (1 :
 Int))).getD
 (g_2.1.getD
 g_3.2.2.2.1.toNat
 (0 :
 Int)).toNat
 (0 :
 Int) =
 (g_3.2.2.1.set
 (g_2.1.getD
 g_3.2.2.2.1.toNat
 (0 :
 Int)).toNat
 (g_3.2.2.1.getD
 (g_2.1.getD
 g_3.2.2.2.1.toNat
 (0 :
 Int)).toNat
 (0 :
 Int) +
 (1 :
 Int))).getD
 (g_2.1.getD
 g_3.2.2.2.1.toNat
 (0 :
 Int)).toNat
 (0 :
 Int) ∧
 x.2.1 =
 x.2.1 ∧
 (g_3.2.2.1.set
 (g_2.1.getD
 g_3.2.2.2.1.toNat
 (0 :
 Int)).toNat
 (g_3.2.2.1.getD
 (g_2.1.getD
 g_3.2.2.2.1.toNat
 (0 :
 Int)).toNat
 (0 :
 Int) +
 (1 :
 Int))).getD
 (g_2.1.getD
 g_3.2.2.2.1.toNat
 (0 :
 Int)).toNat
 (0 :
 Int) %
 x.2.1 =
 (g_3.2.2.1.set
 (g_2.1.getD
 g_3.2.2.2.1.toNat
 (0 :
 Int)).toNat
 (g_3.2.2.1.getD
 (g_2.1.getD
 g_3.2.2.2.1.toNat
 (0 :
 Int)).toNat
 (0 :
 Int) +
 (1 :
 Int))).getD
 (g_2.1.getD
 g_3.2.2.2.1.toNat
 (0 :
 Int)).toNat
 (0 :
 Int) %
 x.2.1 ∧
 true =
 true ∧
 True ∧
 True ∧
 True ∧
 True ∧
 True ∧
 True ∧
 True ∧
 True ∧
 True ∧
 True ∧
 True ∧
 True ∧
 True ∧
 True ∧
 True ∧
 True ∧
 True) ∧
 ∀ (g_4 : List Int × Int × Int × Unit),
 ((0 : Int) ≤ g_4.2.1 ∧
 g_4.2.1 ≤ g_4.2.2.1 ∧
 g_4.2.2.1 ≤ (↑g_3.1.length : Int)) ∧
 g_4.1.length = g_3.1.length ∧
 List.take g_4.2.1.toNat g_4.1 =
 List.filter
 (fun y ↦
 !decide
 (y =
 capK
 (some
 (g_2.1.getD
 g_3.2.2.2.1.toNat
 (0 : Int)))))
 (List.take g_4.2.2.1.toNat g_3.1) ∧
 List.drop g_4.2.2.1.toNat g_4.1 =
 List.drop g_4.2.2.1.toNat g_3.1 →
 (g_4.1.length ≤ (9223372036854775807 : Nat) ∧
 ∀ (x : Int),
 x ∈ g_4.1 →
 (-9223372036854775808 : Int) ≤ x ∧
 x ≤ (9223372036854775807 : Int)) ∧
 ((-9223372036854775808 : Int) ≤ g_4.2.1 ∧
 g_4.2.1 ≤ (9223372036854775807 : Int)) ∧
 ((-9223372036854775808 : Int) ≤
 g_4.2.2.1 ∧
 g_4.2.2.1 ≤
 (9223372036854775807 : Int)) ∧
 True →
 (decide
 (g_4.2.2.1 <
 (↑g_4.1.length : Int)) =
 true →
 ((0 : Int) ≤ g_4.2.2.1 ∧
 g_4.2.2.1 < (↑g_4.1.length : Int)) ∧
 ((!g_4.1.getD g_4.2.2.1.toNat
 (0 : Int) ==
 g_2.1.getD
 g_3.2.2.2.1.toNat
 (0 : Int)) =
 true →
 ((0 : Int) ≤ g_4.2.1 ∧
 g_4.2.1 <
 (↑g_4.1.length : Int)) ∧
 ((-9223372036854775808 : Int) ≤
 g_4.2.1 + (1 : Int) ∧
 g_4.2.1 + (1 : Int) ≤
 (9223372036854775807 : Int)) ∧
 ((-9223372036854775808 : Int) ≤
 g_4.2.2.1 + (1 : Int) ∧
 g_4.2.2.1 + (1 : Int) ≤
 (9223372036854775807 : Int)) ∧
 ((((0 : Int) ≤
 g_4.2.1 + (1 : Int) ∧
 g_4.2.1 + (1 : Int) ≤
 g_4.2.2.1 +
 (1 : Int) ∧
 g_4.2.2.1 +
 (1 : Int) ≤
 (↑g_3.1.length :
 Int)) ∧
 (g_4.1.set g_4.2.1.toNat
 (g_4.1.getD
 g_4.2.2.1.toNat
 (0 : Int))).length =
 g_3.1.length ∧
 List.take
 (g_4.2.1 +
 (1 : Int)).toNat
 (g_4.1.set
 g_4.2.1.toNat
 (g_4.1.getD
 g_4.2.2.1.toNat
 (0 : Int))) =
 List.filter
 (fun y ↦
 !decide
 (y =
 capK
 (some
 (g_2.1.getD
 g_3.2.2.2.1.toNat
 (0 :
 Int)))))
 (List.take
 (g_4.2.2.1 +
 (1 : Int)).toNat
 g_3.1) ∧
 List.drop
 (g_4.2.2.1 +
 (1 : Int)).toNat
 (g_4.1.set
 g_4.2.1.toNat
 (g_4.1.getD
 g_4.2.2.1.toNat
 (0 : Int))) =
 List.drop
 (g_4.2.2.1 +
 (1 : Int)).toNat
 g_3.1) ∧
 ((↑g_3.1.length : Int) -
 (g_4.2.2.1 +
 (1 : Int))).toNat <
 ((↑g_3.1.length : Int) -
 g_4.2.2.1).toNat) ∧
 (True ∧
 True ∧
 g_4.2.1 + (1 : Int) =
 g_4.2.1 +
 (1 : Int) ∧
 g_4.2.2.1 +
 (1 : Int) =
 g_4.2.2.1 +
 (1 : Int) ∧
 True) ∧
 (g_4.1.set g_4.2.1.toNat
 (g_4.1.getD
 g_4.2.2.1.toNat
 (0 : Int)) =
 g_4.1.set
 g_4.2.1.toNat
 (g_4.1.getD
 g_4.2.2.1.toNat
 (0 : Int)) ∧
 g_3.1 = g_3.1 ∧
 g_3.2.1.set
 (g_2.1.getD
 g_3.2.2.2.1.toNat
 (0 : Int)).toNat
 (g_3.2.1.getD
 (g_2.1.getD
 g_3.2.2.2.1.toNat
 (0 :
 Int)).toNat
 (0 : Int) -
 (1 : Int)) =
 g_3.2.1.set
 (g_2.1.getD
 g_3.2.2.2.1.toNat
 (0 : Int)).toNat
 (g_3.2.1.getD
 (g_2.1.getD
 g_3.2.2.2.1.toNat
 (0 :
 Int)).toNat
 (0 : Int) -
 (1 : Int)) ∧
 g_3.2.2.1.set
 (g_2.1.getD
 g_3.2.2.2.1.toNat
 (0 :
 Int)).toNat
 (g_3.2.2.1.getD
 (g_2.1.getD
 g_3.2.2.2.1.toNat
 (0 :
 Int)).toNat
 (0 : Int) +
 (1 : Int)) =
 g_3.2.2.1.set
 (g_2.1.getD
 g_3.2.2.2.1.toNat
 (0 :
 Int)).toNat
 (g_3.2.2.1.getD
 (g_2.1.getD
 g_3.2.2.2.1.toNat
 (0 :
 Int)).toNat
 (0 : Int) +
 (1 : Int)) ∧
 g.2.2.2.1 =
 g.2.2.2.1 ∧
 g_2.1 = g_2.1 ∧
 (g_2.1.getD
 g_3.2.2.2.1.toNat
 (0 :
 Int) =
 g_2.1.getD
 g_3.2.2.2.1.toNat
 (0 :
 Int) ∧
 True) ∧
 g_2.1 =
 g_2.1 ∧
 (True ∧
 (True ∧
 True) ∧
 True) ∧
 True) ∧
 x.1 = x.1 ∧
 x.2.1 = x.2.1 ∧
 x.2.2.1 =
 x.2.2.1 ∧
 True ∧
 True ∧
 True ∧
 True ∧
 True ∧
 True ∧
 True ∧
 True ∧
 True ∧
 True ∧
 True ∧
 True ∧
 True ∧
 True ∧
 True ∧
 True ∧
 True ∧
 True ∧
 (True ∧
 True) ∧
 True ∧
 True ∧
 True ∧
 True ∧
 True ∧
 True ∧
 x.2.2.2.1 =
 x.2.2.2.1 ∧
 g.2.2.2.2.1 =
 g.2.2.2.2.1 ∧
 True ∧
 True ∧
 True ∧
 True ∧
 True ∧
 True ∧
 True ∧
 True ∧
 True ∧
 True ∧
 True ∧
 True ∧
 True ∧
 True ∧
 True ∧
 True ∧
 True ∧
 True ∧
 True ∧
 True ∧
 True ∧
 True ∧
 True ∧
 True ∧
 True ∧
 True ∧
 True ∧
 True ∧
 True ∧
 True ∧
 True ∧
 True ∧
 True ∧
 True ∧
 True ∧
 True ∧
 True ∧
 True ∧
 True ∧
 True ∧
 True ∧
 True ∧
 True ∧
 True ∧
 True ∧
 True ∧
 True ∧
 True ∧
 True ∧
 True ∧
 True ∧
 True ∧
 True ∧
 True ∧
 True ∧
 True ∧
 True ∧
 True ∧
 True ∧
 True ∧
 (↑g_2.1.length :
 Int) =
 (↑g_2.1.length :
 Int) ∧
 g_3.2.2.2.1 =
 g_3.2.2.2.1 ∧
 true =
 true ∧
 ((True ∧
 True ∧
 True) ∧
 g_3.2.2.2.1.toNat =
 g_3.2.2.2.1.toNat) ∧
 g_2.1.getD
 g_3.2.2.2.1.toNat
 (0 :
 Int) =
 g_2.1.getD
 g_3.2.2.2.1.toNat
 (0 :
 Int) ∧
 True ∧
 g_2.1.getD
 g_3.2.2.2.1.toNat
 (0 :
 Int) =
 g_2.1.getD
 g_3.2.2.2.1.toNat
 (0 :
 Int) ∧
 ((True ∧
 True ∧
 True) ∧
 (g_2.1.getD
 g_3.2.2.2.1.toNat
 (0 :
 Int)).toNat =
 (g_2.1.getD
 g_3.2.2.2.1.toNat
 (0 :
 Int)).toNat) ∧
 g_3.2.1.getD
 (g_2.1.getD
 g_3.2.2.2.1.toNat
 (0 :
 Int)).toNat
 (0 :
 Int) =
 g_3.2.1.getD
 (g_2.1.getD
 g_3.2.2.2.1.toNat
 (0 :
 Int)).toNat
 (0 :
 Int) ∧
 g_3.2.1.getD
 (g_2.1.getD
 g_3.2.2.2.1.toNat
 (0 :
 Int)).toNat
 (0 :
 Int) -
 (1 :
 Int) =
 g_3.2.1.getD
 (g_2.1.getD
 g_3.2.2.2.1.toNat
 (0 :
 Int)).toNat
 (0 :
 Int) -
 (1 :
 Int) ∧
 ((True ∧
 True ∧
 True) ∧
 (g_2.1.getD
 g_3.2.2.2.1.toNat
 (0 :
 Int)).toNat =
 (g_2.1.getD
 g_3.2.2.2.1.toNat
 (0 :
 Int)).toNat) ∧
 True ∧
 g_2.1.getD
 g_3.2.2.2.1.toNat
 (0 :
 Int) =
 g_2.1.getD
 g_3.2.2.2.1.toNat
 (0 :
 Int) ∧
 ((True ∧
 True ∧
 True) ∧
 (g_2.1.getD
 g_3.2.2.2.1.toNat
 (0 :
 Int)).toNat =
 (g_2.1.getD
 g_3.2.2.2.1.toNat
 (0 :
 Int)).toNat) ∧
 g_3.2.2.1.getD
 (g_2.1.getD
 g_3.2.2.2.1.toNat
 (0 :
 Int)).toNat
 (0 :
 Int) =
 g_3.2.2.1.getD
 (g_2.1.getD
 g_3.2.2.2.1.toNat
 (0 :
 Int)).toNat
 (0 :
 Int) ∧
 g_3.2.2.1.getD
 (g_2.1.getD
 g_3.2.2.2.1.toNat
 (0 :
 Int)).toNat
 (0 :
 Int) +
 (1 :
 Int) =
 g_3.2.2.1.getD
 (g_2.1.getD
 g_3.2.2.2.1.toNat
 (0 :
 Int)).toNat
 (0 :
 Int) +
 (1 :
 Int) ∧
 ((True ∧
 True ∧
 True) ∧
 (g_2.1.getD
 g_3.2.2.2.1.toNat
 (0 :
 Int)).toNat =
 (g_2.1.getD
 g_3.2.2.2.1.toNat
 (0 :
 Int)).toNat) ∧
 True ∧
 g_2.1.getD
 g_3.2.2.2.1.toNat
 (0 :
 Int) =
 g_2.1.getD
 g_3.2.2.2.1.toNat
 (0 :
 Int) ∧
 ((True ∧
 True ∧
 True) ∧
 (g_2.1.getD
 g_3.2.2.2.1.toNat
 (0 :
 Int)).toNat =
 (g_2.1.getD
 g_3.2.2.2.1.toNat
 (0 :
 Int)).toNat) ∧
 (g_3.2.2.1.set
 (g_2.1.getD
 g_3.2.2.2.1.toNat
 (0 :
 Int)).toNat
 (g_3.2.2.1.getD
 (g_2.1.getD
 g_3.2.2.2.1.toNat
 (0 :
 Int)).toNat
 (0 :
 Int) +
 (1 :
 Int))).getD
 (g_2.1.getD
 g_3.2.2.2.1.toNat
 (0 :
 Int)).toNat
 (0 :
 Int) =
 (g_3.2.2.1.set
 (g_2.1.getD
 g_3.2.2.2.1.toNat
 (0 :
 Int)).toNat
 (g_3.2.2.1.getD
 (g_2.1.getD
 g_3.2.2.2.1.toNat
 (0 :
 Int)).toNat
 (0 :
 Int) +
 (1 :
 Int))).getD
 (g_2.1.getD
 g_3.2.2.2.1.toNat
 (0 :
 Int)).toNat
 (0 :
 Int) ∧
 x.2.1 =
 x.2.1 ∧
 (g_3.2.2.1.set
 (g_2.1.getD
 g_3.2.2.2.1.toNat
 (0 :
 Int)).toNat
 (g_3.2.2.1.getD
 (g_2.1.getD
 g_3.2.2.2.1.toNat
 (0 :
 Int)).toNat
 (0 :
 Int) +
 (1 :
 Int))).getD
 (g_2.1.getD
 g_3.2.2.2.1.toNat
 (0 :
 Int)).toNat
 (0 :
 Int) %
 x.2.1 =
 (g_3.2.2.1.set
 (g_2.1.getD
 g_3.2.2.2.1.toNat
 (0 :
 Int)).toNat
 (g_3.2.2.1.getD
 (g_2.1.getD
 g_3.2.2.2.1.toNat
 (0 :
 Int)).toNat
 (0 :
 Int) +
 (1 :
 Int))).getD
 (g_2.1.getD
 g_3.2.2.2.1.toNat
 (0 :
 Int)).toNat
 (0 :
 Int) %
 x.2.1 ∧
 true =
 true ∧
 True ∧
 True ∧
 True ∧
 True ∧
 True ∧
 True ∧
 True ∧
 True ∧
 True ∧
 True ∧
 True ∧
 True ∧
 True ∧
 True ∧
 True ∧
 True ∧
 True) ∧
 ((!g_4.1.getD g_4.2.2.1.toNat
 (0 : Int) ==
 g_2.1.getD
 g_3.2.2.2.1.toNat
 (0 : Int)) =
 false →
 ((-9223372036854775808 : Int) ≤
 g_4.2.2.1 + (1 : Int) ∧
 g_4.2.2.1 + (1 : Int) ≤
 (9223372036854775807 : Int)) ∧
 ((((0 : Int) ≤ g_4.2.1 ∧
 g_4.2.1 ≤
 g_4.2.2.1 +
 (1 : Int) ∧
 g_4.2.2.1 + (1 : Int) ≤
 (↑g_3.1.length : Int)) ∧
 g_4.1.length = g_3.1.length ∧
 List.take g_4.2.1.toNat
 g_4.1 =
 List.filter
 (fun y ↦
 !decide
 (y =
 capK
 (some
 (g_2.1.getD
 g_3.2.2.2.1.toNat
 (0 :
 Int)))))
 (List.take
 (g_4.2.2.1 +
 (1 : Int)).toNat
 g_3.1) ∧
 List.drop
 (g_4.2.2.1 +
 (1 : Int)).toNat
 g_4.1 =
 List.drop
 (g_4.2.2.1 +
 (1 : Int)).toNat
 g_3.1) ∧
 ((↑g_3.1.length : Int) -
 (g_4.2.2.1 +
 (1 : Int))).toNat <
 ((↑g_3.1.length : Int) -
 g_4.2.2.1).toNat) ∧
 (True ∧
 True ∧
 g_4.2.1 = g_4.2.1 ∧
 g_4.2.2.1 + (1 : Int) =
 g_4.2.2.1 +
 (1 : Int) ∧
 True) ∧
 (g_4.1 = g_4.1 ∧
 g_3.1 = g_3.1 ∧
 g_3.2.1.set
 (g_2.1.getD
 g_3.2.2.2.1.toNat
 (0 : Int)).toNat
 (g_3.2.1.getD
 (g_2.1.getD
 g_3.2.2.2.1.toNat
 (0 : Int)).toNat
 (0 : Int) -
 (1 : Int)) =
 g_3.2.1.set
 (g_2.1.getD
 g_3.2.2.2.1.toNat
 (0 : Int)).toNat
 (g_3.2.1.getD
 (g_2.1.getD
 g_3.2.2.2.1.toNat
 (0 : Int)).toNat
 (0 : Int) -
 (1 : Int)) ∧
 g_3.2.2.1.set
 (g_2.1.getD
 g_3.2.2.2.1.toNat
 (0 : Int)).toNat
 (g_3.2.2.1.getD
 (g_2.1.getD
 g_3.2.2.2.1.toNat
 (0 :
 Int)).toNat
 (0 : Int) +
 (1 : Int)) =
 g_3.2.2.1.set
 (g_2.1.getD
 g_3.2.2.2.1.toNat
 (0 : Int)).toNat
 (g_3.2.2.1.getD
 (g_2.1.getD
 g_3.2.2.2.1.toNat
 (0 :
 Int)).toNat
 (0 : Int) +
 (1 : Int)) ∧
 g.2.2.2.1 =
 g.2.2.2.1 ∧
 g_2.1 = g_2.1 ∧
 (g_2.1.getD
 g_3.2.2.2.1.toNat
 (0 : Int) =
 g_2.1.getD
 g_3.2.2.2.1.toNat
 (0 : Int) ∧
 True) ∧
 g_2.1 = g_2.1 ∧
 (True ∧
 (True ∧
 True) ∧
 True) ∧
 True) ∧
 x.1 = x.1 ∧
 x.2.1 = x.2.1 ∧
 x.2.2.1 =
 x.2.2.1 ∧
 True ∧
 True ∧
 True ∧
 True ∧
 True ∧
 True ∧
 True ∧
 True ∧
 True ∧
 True ∧
 True ∧
 True ∧
 True ∧
 True ∧
 True ∧
 True ∧
 True ∧
 True ∧
 (True ∧
 True) ∧
 True ∧
 True ∧
 True ∧
 True ∧
 True ∧
 True ∧
 x.2.2.2.1 =
 x.2.2.2.1 ∧
 g.2.2.2.2.1 =
 g.2.2.2.2.1 ∧
 True ∧
 True ∧
 True ∧
 True ∧
 True ∧
 True ∧
 True ∧
 True ∧
 True ∧
 True ∧
 True ∧
 True ∧
 True ∧
 True ∧
 True ∧
 True ∧
 True ∧
 True ∧
 True ∧
 True ∧
 True ∧
 True ∧
 True ∧
 True ∧
 True ∧
 True ∧
 True ∧
 True ∧
 True ∧
 True ∧
 True ∧
 True ∧
 True ∧
 True ∧
 True ∧
 True ∧
 True ∧
 True ∧
 True ∧
 True ∧
 True ∧
 True ∧
 True ∧
 True ∧
 True ∧
 True ∧
 True ∧
 True ∧
 True ∧
 True ∧
 True ∧
 True ∧
 True ∧
 True ∧
 True ∧
 True ∧
 True ∧
 True ∧
 True ∧
 True ∧
 (↑g_2.1.length :
 Int) =
 (↑g_2.1.length :
 Int) ∧
 g_3.2.2.2.1 =
 g_3.2.2.2.1 ∧
 true =
 true ∧
 ((True ∧
 True ∧
 True) ∧
 g_3.2.2.2.1.toNat =
 g_3.2.2.2.1.toNat) ∧
 g_2.1.getD
 g_3.2.2.2.1.toNat
 (0 :
 Int) =
 g_2.1.getD
 g_3.2.2.2.1.toNat
 (0 :
 Int) ∧
 True ∧
 g_2.1.getD
 g_3.2.2.2.1.toNat
 (0 :
 Int) =
 g_2.1.getD
 g_3.2.2.2.1.toNat
 (0 :
 Int) ∧
 ((True ∧
 True ∧
 True) ∧
 (g_2.1.getD
 g_3.2.2.2.1.toNat
 (0 :
 Int)).toNat =
 (g_2.1.getD
 g_3.2.2.2.1.toNat
 (0 :
 Int)).toNat) ∧
 g_3.2.1.getD
 (g_2.1.getD
 g_3.2.2.2.1.toNat
 (0 :
 Int)).toNat
 (0 :
 Int) =
 g_3.2.1.getD
 (g_2.1.getD
 g_3.2.2.2.1.toNat
 (0 :
 Int)).toNat
 (0 :
 Int) ∧
 g_3.2.1.getD
 (g_2.1.getD
 g_3.2.2.2.1.toNat
 (0 :
 Int)).toNat
 (0 :
 Int) -
 (1 :
 Int) =
 g_3.2.1.getD
 (g_2.1.getD
 g_3.2.2.2.1.toNat
 (0 :
 Int)).toNat
 (0 :
 Int) -
 (1 :
 Int) ∧
 ((True ∧
 True ∧
 True) ∧
 (g_2.1.getD
 g_3.2.2.2.1.toNat
 (0 :
 Int)).toNat =
 (g_2.1.getD
 g_3.2.2.2.1.toNat
 (0 :
 Int)).toNat) ∧
 True ∧
 g_2.1.getD
 g_3.2.2.2.1.toNat
 (0 :
 Int) =
 g_2.1.getD
 g_3.2.2.2.1.toNat
 (0 :
 Int) ∧
 ((True ∧
 True ∧
 True) ∧
 (g_2.1.getD
 g_3.2.2.2.1.toNat
 (0 :
 Int)).toNat =
 (g_2.1.getD
 g_3.2.2.2.1.toNat
 (0 :
 Int)).toNat) ∧
 g_3.2.2.1.getD
 (g_2.1.getD
 g_3.2.2.2.1.toNat
 (0 :
 Int)).toNat
 (0 :
 Int) =
 g_3.2.2.1.getD
 (g_2.1.getD
 g_3.2.2.2.1.toNat
 (0 :
 Int)).toNat
 (0 :
 Int) ∧
 g_3.2.2.1.getD
 (g_2.1.getD
 g_3.2.2.2.1.toNat
 (0 :
 Int)).toNat
 (0 :
 Int) +
 (1 :
 Int) =
 g_3.2.2.1.getD
 (g_2.1.getD
 g_3.2.2.2.1.toNat
 (0 :
 Int)).toNat
 (0 :
 Int) +
 (1 :
 Int) ∧
 ((True ∧
 True ∧
 True) ∧
 (g_2.1.getD
 g_3.2.2.2.1.toNat
 (0 :
 Int)).toNat =
 (g_2.1.getD
 g_3.2.2.2.1.toNat
 (0 :
 Int)).toNat) ∧
 True ∧
 g_2.1.getD
 g_3.2.2.2.1.toNat
 (0 :
 Int) =
 g_2.1.getD
 g_3.2.2.2.1.toNat
 (0 :
 Int) ∧
 ((True ∧
 True ∧
 True) ∧
 (g_2.1.getD
 g_3.2.2.2.1.toNat
 (0 :
 Int)).toNat =
 (g_2.1.getD
 g_3.2.2.2.1.toNat
 (0 :
 Int)).toNat) ∧
 (g_3.2.2.1.set
 (g_2.1.getD
 g_3.2.2.2.1.toNat
 (0 :
 Int)).toNat
 (g_3.2.2.1.getD
 (g_2.1.getD
 g_3.2.2.2.1.toNat
 (0 :
 Int)).toNat
 (0 :
 Int) +
 (1 :
 Int))).getD
 (g_2.1.getD
 g_3.2.2.2.1.toNat
 (0 :
 Int)).toNat
 (0 :
 Int) =
 (g_3.2.2.1.set
 (g_2.1.getD
 g_3.2.2.2.1.toNat
 (0 :
 Int)).toNat
 (g_3.2.2.1.getD
 (g_2.1.getD
 g_3.2.2.2.1.toNat
 (0 :
 Int)).toNat
 (0 :
 Int) +
 (1 :
 Int))).getD
 (g_2.1.getD
 g_3.2.2.2.1.toNat
 (0 :
 Int)).toNat
 (0 :
 Int) ∧
 x.2.1 =
 x.2.1 ∧
 (g_3.2.2.1.set
 (g_2.1.getD
 g_3.2.2.2.1.toNat
 (0 :
 Int)).toNat
 (g_3.2.2.1.getD
 (g_2.1.getD
 g_3.2.2.2.1.toNat
 (0 :
 Int)).toNat
 (0 :
 Int) +
 (1 :
 Int))).getD
 (g_2.1.getD
 g_3.2.2.2.1.toNat
 (0 :
 Int)).toNat
 (0 :
 Int) %
 x.2.1 =
 (g_3.2.2.1.set
 (g_2.1.getD
 g_3.2.2.2.1.toNat
 (0 :
 Int)).toNat
 (g_3.2.2.1.getD
 (g_2.1.getD
 g_3.2.2.2.1.toNat
 (0 :
 Int)).toNat
 (0 :
 Int) +
 (1 :
 Int))).getD
 (g_2.1.getD
 g_3.2.2.2.1.toNat
 (0 :
 Int)).toNat
 (0 :
 Int) %
 x.2.1 ∧
 true =
 true ∧
 True ∧
 True ∧
 True ∧
 True ∧
 True ∧
 True ∧
 True ∧
 True ∧
 True ∧
 True ∧
 True ∧
 True ∧
 True ∧
 True ∧
 True ∧
 True ∧
 True)) ∧
 (decide
 (g_4.2.2.1 <
 (↑g_4.1.length : Int)) =
 false →
 (((0 : Int) ≤ g_4.2.1 ∧
 g_4.2.1 ≤ (↑g_4.1.length : Int)) ∧
 (↑g_4.1.length : Int) ≤
 (↑g_4.1.length : Int)) ∧
 (((0 : Int) ≤ (0 : Int) ∧
 (0 : Int) ≤ g_4.2.1) ∧
 g_4.2.1 ≤
 (↑(List.take g_4.2.1.toNat
 g_4.1 ++
 (List.replicate
 ((↑g_4.1.length :
 Int).toNat -
 g_4.2.1.toNat)
 (0 : Int) ++
 List.drop
 (g_4.2.1.toNat +
 ((↑g_4.1.length :
 Int).toNat -
 g_4.2.1.toNat))
 g_4.1)).length :
 Int)) ∧
 ((List.drop (nat_lit 0)
 (List.take g_4.2.1.toNat
 (List.take g_4.2.1.toNat
 g_4.1 ++
 (List.replicate
 ((↑g_4.1.length :
 Int).toNat -
 g_4.2.1.toNat)
 (0 : Int) ++
 List.drop
 (g_4.2.1.toNat +
 ((↑g_4.1.length :
 Int).toNat -
 g_4.2.1.toNat))
 g_4.1)))).length +
 (((0 : Int) :: ([] : List Int)).set
 (0 : Nat)
 (g_2.1.getD
 g_3.2.2.2.1.toNat
 (0 : Int))).length ≤
 (9223372036854775807 : Nat) ∧
 ((List.drop (nat_lit 0)
 (List.take
 g_4.2.1.toNat
 (List.take
 g_4.2.1.toNat
 g_4.1 ++
 (List.replicate
 ((↑g_4.1.length :
 Int).toNat -
 g_4.2.1.toNat)
 (0 : Int) ++
 List.drop
 (g_4.2.1.toNat +
 ((↑g_4.1.length :
 Int).toNat -
 g_4.2.1.toNat))
 g_4.1)))).length +
 (((0 : Int) ::
 ([] : List Int)).set
 (0 : Nat)
 (g_2.1.getD
 g_3.2.2.2.1.toNat
 (0 : Int))).length +
 ((List.drop (nat_lit 0)
 (List.take
 g_4.2.1.toNat
 (List.take
 g_4.2.1.toNat
 g_4.1 ++
 (List.replicate
 ((↑g_4.1.length :
 Int).toNat -
 g_4.2.1.toNat)
 (0 : Int) ++
 List.drop
 (g_4.2.1.toNat +
 ((↑g_4.1.length :
 Int).toNat -
 g_4.2.1.toNat))
 g_4.1)))).length +
 (((0 : Int) ::
 ([] : List Int)).set
 (0 : Nat)
 (g_2.1.getD
 g_3.2.2.2.1.toNat
 (0 : Int))).length) /
 (4 : Nat) +
 (192 : Nat)) *
 (8 : Nat) ≤
 (281474976710656 : Nat)) ∧
 ((-9223372036854775808 : Int) ≤
 g_3.2.2.2.1 + (1 : Int) ∧
 g_3.2.2.2.1 + (1 : Int) ≤
 (9223372036854775807 : Int)) ∧
 (((0 : Int) ≤
 g_3.2.2.2.1 +
 (1 : Int) ∧
 g_3.2.2.2.1 + (1 : Int) ≤
 (↑g_2.1.length : Int) ∧
 (List.drop (nat_lit 0)
 (List.take
 g_4.2.1.toNat
 (List.take
 g_4.2.1.toNat
 g_4.1 ++
 (List.replicate
 ((↑g_4.1.length :
 Int).toNat -
 g_4.2.1.toNat)
 (0 : Int) ++
 List.drop
 (g_4.2.1.toNat +
 ((↑g_4.1.length :
 Int).toNat -
 g_4.2.1.toNat))
 g_4.1))) ++
 ((0 : Int) ::
 ([] : List Int)).set
 (0 : Nat)
 (g_2.1.getD
 g_3.2.2.2.1.toNat
 (0 : Int)),
 g_3.2.1.set
 (g_2.1.getD
 g_3.2.2.2.1.toNat
 (0 : Int)).toNat
 (g_3.2.1.getD
 (g_2.1.getD
 g_3.2.2.2.1.toNat
 (0 : Int)).toNat
 (0 : Int) -
 (1 : Int)),
 g_3.2.2.1.set
 (g_2.1.getD
 g_3.2.2.2.1.toNat
 (0 : Int)).toNat
 (g_3.2.2.1.getD
 (g_2.1.getD
 g_3.2.2.2.1.toNat
 (0 : Int)).toNat
 (0 : Int) +
 (1 : Int))) =
 List.foldl (stA x.2.1)
 (g_1.1, g_1.2.1,
 g.2.2.1)
 (List.take
 (g_3.2.2.2.1 +
 (1 : Int)).toNat
 g_2.1)) ∧
 ((↑g_2.1.length : Int) -
 (g_3.2.2.2.1 +
 (1 : Int))).toNat <
 ((↑g_2.1.length : Int) -
 g_3.2.2.2.1).toNat) ∧
 (x.1 = x.1 ∧
 x.2.1 = x.2.1 ∧
 x.2.2.1 = x.2.2.1 ∧
 True ∧
 True ∧
 True ∧
 True ∧
 True ∧
 x.2.2.2.1 =
 x.2.2.2.1 ∧
 g.2.2.2.2.1 =
 g.2.2.2.2.1 ∧
 True ∧
 (↑g_2.1.length :
 Int) =
 (↑g_2.1.length :
 Int) ∧
 g_3.2.2.2.1 +
 (1 :
 Int) =
 g_3.2.2.2.1 +
 (1 :
 Int) ∧
 True) ∧
 (List.drop (nat_lit 0)
 (List.take
 g_4.2.1.toNat
 (List.take
 g_4.2.1.toNat
 g_4.1 ++
 (List.replicate
 ((↑g_4.1.length :
 Int).toNat -
 g_4.2.1.toNat)
 (0 : Int) ++
 List.drop
 (g_4.2.1.toNat +
 ((↑g_4.1.length :
 Int).toNat -
 g_4.2.1.toNat))
 g_4.1))) ++
 ((0 : Int) ::
 ([] : List Int)).set
 (0 : Nat)
 (g_2.1.getD
 g_3.2.2.2.1.toNat
 (0 : Int)) =
 List.drop (nat_lit 0)
 (List.take
 g_4.2.1.toNat
 (List.take
 g_4.2.1.toNat
 g_4.1 ++
 (List.replicate
 ((↑g_4.1.length :
 Int).toNat -
 g_4.2.1.toNat)
 (0 : Int) ++
 List.drop
 (g_4.2.1.toNat +
 ((↑g_4.1.length :
 Int).toNat -
 g_4.2.1.toNat))
 g_4.1))) ++
 ((0 : Int) ::
 ([] : List Int)).set
 (0 : Nat)
 (g_2.1.getD
 g_3.2.2.2.1.toNat
 (0 : Int)) ∧
 g_3.2.1.set
 (g_2.1.getD
 g_3.2.2.2.1.toNat
 (0 : Int)).toNat
 (g_3.2.1.getD
 (g_2.1.getD
 g_3.2.2.2.1.toNat
 (0 : Int)).toNat
 (0 : Int) -
 (1 : Int)) =
 g_3.2.1.set
 (g_2.1.getD
 g_3.2.2.2.1.toNat
 (0 : Int)).toNat
 (g_3.2.1.getD
 (g_2.1.getD
 g_3.2.2.2.1.toNat
 (0 : Int)).toNat
 (0 : Int) -
 (1 : Int)) ∧
 g_3.2.2.1.set
 (g_2.1.getD
 g_3.2.2.2.1.toNat
 (0 : Int)).toNat
 (g_3.2.2.1.getD
 (g_2.1.getD
 g_3.2.2.2.1.toNat
 (0 : Int)).toNat
 (0 : Int) +
 (1 : Int)) =
 g_3.2.2.1.set
 (g_2.1.getD
 g_3.2.2.2.1.toNat
 (0 : Int)).toNat
 (g_3.2.2.1.getD
 (g_2.1.getD
 g_3.2.2.2.1.toNat
 (0 : Int)).toNat
 (0 : Int) +
 (1 : Int)) ∧
 g.2.2.2.1 =
 g.2.2.2.1 ∧
 g_2.1 = g_2.1 ∧
 g_2.1 = g_2.1 ∧
 True) ∧
 True))) ∧
 (Holds (g_3.1.length ≤ (400 : Nat)) ∧
 Holds True ∧
 ((True ∧ True ∧ True) ∧
 g_3.1 = g_3.1 ∧
 (g_2.1.getD g_3.2.2.2.1.toNat (0 : Int) =
 g_2.1.getD g_3.2.2.2.1.toNat (0 : Int) ∧
 True) ∧
 (True ∧ (True ∧ True) ∧ True) ∧ True) ∧
 ((idx g_3.1
 (g_2.1.getD g_3.2.2.2.1.toNat (0 : Int)) ==
 (-1 : Int)) =
 true →
 (g_3.1.length +
 (((0 : Int) :: ([] : List Int)).set (0 : Nat)
 (g_2.1.getD g_3.2.2.2.1.toNat
 (0 : Int))).length ≤
 (9223372036854775807 : Nat) ∧
 (g_3.1.length +
 (((0 : Int) :: ([] : List Int)).set (0 : Nat)
 (g_2.1.getD g_3.2.2.2.1.toNat
 (0 : Int))).length +
 (g_3.1.length +
 (((0 : Int) :: ([] : List Int)).set
 (0 : Nat)
 (g_2.1.getD g_3.2.2.2.1.toNat
 (0 : Int))).length) /
 (4 : Nat) +
 (192 : Nat)) *
 (8 : Nat) ≤
 (281474976710656 : Nat)) ∧
 ((-9223372036854775808 : Int) ≤
 g_3.2.2.2.1 + (1 : Int) ∧
 g_3.2.2.2.1 + (1 : Int) ≤
 (9223372036854775807 : Int)) ∧
 (((0 : Int) ≤ g_3.2.2.2.1 + (1 : Int) ∧
 g_3.2.2.2.1 + (1 : Int) ≤
 (↑g_2.1.length : Int) ∧
 (g_3.1 ++
 ((0 : Int) :: ([] : List Int)).set
 (0 : Nat)
 (g_2.1.getD g_3.2.2.2.1.toNat
 (0 : Int)),
 g_3.2.1.set
 (g_2.1.getD g_3.2.2.2.1.toNat
 (0 : Int)).toNat
 (g_3.2.1.getD
 (g_2.1.getD
 g_3.2.2.2.1.toNat
 (0 : Int)).toNat
 (0 : Int) -
 (1 : Int)),
 g_3.2.2.1.set
 (g_2.1.getD g_3.2.2.2.1.toNat
 (0 : Int)).toNat
 (g_3.2.2.1.getD
 (g_2.1.getD
 g_3.2.2.2.1.toNat
 (0 : Int)).toNat
 (0 : Int) +
 (1 : Int))) =
 List.foldl (stA x.2.1)
 (g_1.1, g_1.2.1, g.2.2.1)
 (List.take
 (g_3.2.2.2.1 + (1 : Int)).toNat
 g_2.1)) ∧
 ((↑g_2.1.length : Int) -
 (g_3.2.2.2.1 + (1 : Int))).toNat <
 ((↑g_2.1.length : Int) -
 g_3.2.2.2.1).toNat) ∧
 (x.1 = x.1 ∧
 x.2.1 = x.2.1 ∧
 x.2.2.1 = x.2.2.1 ∧
 True ∧
 True ∧
 True ∧
 True ∧
 True ∧
 x.2.2.2.1 =
 x.2.2.2.1 ∧
 g.2.2.2.2.1 =
 g.2.2.2.2.1 ∧
 True ∧
 (↑g_2.1.length : Int) =
 (↑g_2.1.length : Int) ∧
 g_3.2.2.2.1 +
 (1 : Int) =
 g_3.2.2.2.1 +
 (1 : Int) ∧
 True) ∧
 (g_3.1 ++
 ((0 : Int) :: ([] : List Int)).set (0 : Nat)
 (g_2.1.getD g_3.2.2.2.1.toNat
 (0 : Int)) =
 g_3.1 ++
 ((0 : Int) :: ([] : List Int)).set (0 : Nat)
 (g_2.1.getD g_3.2.2.2.1.toNat
 (0 : Int)) ∧
 g_3.2.1.set
 (g_2.1.getD g_3.2.2.2.1.toNat
 (0 : Int)).toNat
 (g_3.2.1.getD
 (g_2.1.getD
 g_3.2.2.2.1.toNat
 (0 : Int)).toNat
 (0 : Int) -
 (1 : Int)) =
 g_3.2.1.set
 (g_2.1.getD g_3.2.2.2.1.toNat
 (0 : Int)).toNat
 (g_3.2.1.getD
 (g_2.1.getD
 g_3.2.2.2.1.toNat
 (0 : Int)).toNat
 (0 : Int) -
 (1 : Int)) ∧
 g_3.2.2.1.set
 (g_2.1.getD g_3.2.2.2.1.toNat
 (0 : Int)).toNat
 (g_3.2.2.1.getD
 (g_2.1.getD
 g_3.2.2.2.1.toNat
 (0 : Int)).toNat
 (0 : Int) +
 (1 : Int)) =
 g_3.2.2.1.set
 (g_2.1.getD g_3.2.2.2.1.toNat
 (0 : Int)).toNat
 (g_3.2.2.1.getD
 (g_2.1.getD
 g_3.2.2.2.1.toNat
 (0 : Int)).toNat
 (0 : Int) +
 (1 : Int)) ∧
 g.2.2.2.1 = g.2.2.2.1 ∧
 g_2.1 = g_2.1 ∧
 g_2.1 = g_2.1 ∧ True) ∧
 True) ∧
 ((idx g_3.1
 (g_2.1.getD g_3.2.2.2.1.toNat (0 : Int)) ==
 (-1 : Int)) =
 false →
 ((-9223372036854775808 : Int) ≤
 idx g_3.1
 (g_2.1.getD g_3.2.2.2.1.toNat
 (0 : Int)) +
 (1 : Int) ∧
 idx g_3.1
 (g_2.1.getD g_3.2.2.2.1.toNat
 (0 : Int)) +
 (1 : Int) ≤
 (9223372036854775807 : Int)) ∧
 (((((0 : Int) ≤
 idx g_3.1
 (g_2.1.getD g_3.2.2.2.1.toNat
 (0 : Int)) ∧
 idx g_3.1
 (g_2.1.getD g_3.2.2.2.1.toNat
 (0 : Int)) ≤
 idx g_3.1
 (g_2.1.getD g_3.2.2.2.1.toNat
 (0 : Int)) +
 (1 : Int) ∧
 idx g_3.1
 (g_2.1.getD g_3.2.2.2.1.toNat
 (0 : Int)) +
 (1 : Int) ≤
 (↑g_3.1.length : Int)) ∧
 g_3.1.length = g_3.1.length ∧
 List.take
 (idx g_3.1
 (g_2.1.getD
 g_3.2.2.2.1.toNat
 (0 : Int))).toNat
 g_3.1 =
 List.filter
 (fun y ↦
 !decide
 (y =
 capK
 (some
 (g_2.1.getD
 g_3.2.2.2.1.toNat
 (0 : Int)))))
 (List.take
 (idx g_3.1
 (g_2.1.getD
 g_3.2.2.2.1.toNat
 (0 : Int)) +
 (1 : Int)).toNat
 g_3.1) ∧
 List.drop
 (idx g_3.1
 (g_2.1.getD
 g_3.2.2.2.1.toNat
 (0 : Int)) +
 (1 : Int)).toNat
 g_3.1 =
 List.drop
 (idx g_3.1
 (g_2.1.getD
 g_3.2.2.2.1.toNat
 (0 : Int)) +
 (1 : Int)).toNat
 g_3.1) ∧
 True) ∧
 (True ∧
 True ∧
 idx g_3.1
 (g_2.1.getD g_3.2.2.2.1.toNat
 (0 : Int)) =
 idx g_3.1
 (g_2.1.getD g_3.2.2.2.1.toNat
 (0 : Int)) ∧
 idx g_3.1
 (g_2.1.getD
 g_3.2.2.2.1.toNat
 (0 : Int)) +
 (1 : Int) =
 idx g_3.1
 (g_2.1.getD
 g_3.2.2.2.1.toNat
 (0 : Int)) +
 (1 : Int) ∧
 True) ∧
 (g_3.1 = g_3.1 ∧
 g_3.1 = g_3.1 ∧
 g_3.2.1.set
 (g_2.1.getD g_3.2.2.2.1.toNat
 (0 : Int)).toNat
 (g_3.2.1.getD
 (g_2.1.getD
 g_3.2.2.2.1.toNat
 (0 : Int)).toNat
 (0 : Int) -
 (1 : Int)) =
 g_3.2.1.set
 (g_2.1.getD g_3.2.2.2.1.toNat
 (0 : Int)).toNat
 (g_3.2.1.getD
 (g_2.1.getD
 g_3.2.2.2.1.toNat
 (0 : Int)).toNat
 (0 : Int) -
 (1 : Int)) ∧
 g_3.2.2.1.set
 (g_2.1.getD
 g_3.2.2.2.1.toNat
 (0 : Int)).toNat
 (g_3.2.2.1.getD
 (g_2.1.getD
 g_3.2.2.2.1.toNat
 (0 : Int)).toNat
 (0 : Int) +
 (1 : Int)) =
 g_3.2.2.1.set
 (g_2.1.getD
 g_3.2.2.2.1.toNat
 (0 : Int)).toNat
 (g_3.2.2.1.getD
 (g_2.1.getD
 g_3.2.2.2.1.toNat
 (0 : Int)).toNat
 (0 : Int) +
 (1 : Int)) ∧
 g.2.2.2.1 = g.2.2.2.1 ∧
 g_2.1 = g_2.1 ∧
 (g_2.1.getD
 g_3.2.2.2.1.toNat
 (0 : Int) =
 g_2.1.getD
 g_3.2.2.2.1.toNat
 (0 : Int) ∧
 True) ∧
 g_2.1 = g_2.1 ∧
 (True ∧ (True ∧ True) ∧ True) ∧
 True) ∧
 x.1 = x.1 ∧
 x.2.1 = x.2.1 ∧
 x.2.2.1 = x.2.2.1 ∧
 True ∧
 True ∧
 True ∧
 True ∧
 True ∧
 True ∧
 True ∧
 True ∧
 True ∧
 True ∧
 True ∧
 True ∧
 True ∧
 True ∧
 True ∧
 True ∧
 True ∧
 True ∧
 (True ∧
 True) ∧
 True ∧
 True ∧
 True ∧
 True ∧
 True ∧
 True ∧
 x.2.2.2.1 =
 x.2.2.2.1 ∧
 g.2.2.2.2.1 =
 g.2.2.2.2.1 ∧
 True ∧
 True ∧
 True ∧
 True ∧
 True ∧
 True ∧
 True ∧
 True ∧
 True ∧
 True ∧
 True ∧
 True ∧
 True ∧
 True ∧
 True ∧
 True ∧
 True ∧
 True ∧
 True ∧
 True ∧
 True ∧
 True ∧
 True ∧
 True ∧
 True ∧
 True ∧
 True ∧
 True ∧
 True ∧
 True ∧
 True ∧
 True ∧
 True ∧
 True ∧
 True ∧
 True ∧
 True ∧
 True ∧
 True ∧
 True ∧
 True ∧
 True ∧
 True ∧
 True ∧
 True ∧
 True ∧
 True ∧
 True ∧
 True ∧
 True ∧
 True ∧
 True ∧
 True ∧
 True ∧
 True ∧
 True ∧
 True ∧
 True ∧
 True ∧
 True ∧
 (↑g_2.1.length :
 Int) =
 (↑g_2.1.length :
 Int) ∧
 g_3.2.2.2.1 =
 g_3.2.2.2.1 ∧
 true =
 true ∧
 ((True ∧
 True ∧
 True) ∧
 g_3.2.2.2.1.toNat =
 g_3.2.2.2.1.toNat) ∧
 g_2.1.getD
 g_3.2.2.2.1.toNat
 (0 :
 Int) =
 g_2.1.getD
 g_3.2.2.2.1.toNat
 (0 :
 Int) ∧
 True ∧
 g_2.1.getD
 g_3.2.2.2.1.toNat
 (0 :
 Int) =
 g_2.1.getD
 g_3.2.2.2.1.toNat
 (0 :
 Int) ∧
 ((True ∧
 True ∧
 True) ∧
 (g_2.1.getD
 g_3.2.2.2.1.toNat
 (0 :
 Int)).toNat =
 (g_2.1.getD
 g_3.2.2.2.1.toNat
 (0 :
 Int)).toNat) ∧
 g_3.2.1.getD
 (g_2.1.getD
 g_3.2.2.2.1.toNat
 (0 :
 Int)).toNat
 (0 :
 Int) =
 g_3.2.1.getD
 (g_2.1.getD
 g_3.2.2.2.1.toNat
 (0 :
 Int)).toNat
 (0 :
 Int) ∧
 g_3.2.1.getD
 (g_2.1.getD
 g_3.2.2.2.1.toNat
 (0 :
 Int)).toNat
 (0 :
 Int) -
 (1 :
 Int) =
 g_3.2.1.getD
 (g_2.1.getD
 g_3.2.2.2.1.toNat
 (0 :
 Int)).toNat
 (0 :
 Int) -
 (1 :
 Int) ∧
 ((True ∧
 True ∧
 True) ∧
 (g_2.1.getD
 g_3.2.2.2.1.toNat
 (0 :
 Int)).toNat =
 (g_2.1.getD
 g_3.2.2.2.1.toNat
 (0 :
 Int)).toNat) ∧
 True ∧
 g_2.1.getD
 g_3.2.2.2.1.toNat
 (0 :
 Int) =
 g_2.1.getD
 g_3.2.2.2.1.toNat
 (0 :
 Int) ∧
 ((True ∧
 True ∧
 True) ∧
 (g_2.1.getD
 g_3.2.2.2.1.toNat
 (0 :
 Int)).toNat =
 (g_2.1.getD
 g_3.2.2.2.1.toNat
 (0 :
 Int)).toNat) ∧
 g_3.2.2.1.getD
 (g_2.1.getD
 g_3.2.2.2.1.toNat
 (0 :
 Int)).toNat
 (0 :
 Int) =
 g_3.2.2.1.getD
 (g_2.1.getD
 g_3.2.2.2.1.toNat
 (0 :
 Int)).toNat
 (0 :
 Int) ∧
 g_3.2.2.1.getD
 (g_2.1.getD
 g_3.2.2.2.1.toNat
 (0 :
 Int)).toNat
 (0 :
 Int) +
 (1 :
 Int) =
 g_3.2.2.1.getD
 (g_2.1.getD
 g_3.2.2.2.1.toNat
 (0 :
 Int)).toNat
 (0 :
 Int) +
 (1 :
 Int) ∧
 ((True ∧
 True ∧
 True) ∧
 (g_2.1.getD
 g_3.2.2.2.1.toNat
 (0 :
 Int)).toNat =
 (g_2.1.getD
 g_3.2.2.2.1.toNat
 (0 :
 Int)).toNat) ∧
 True ∧
 g_2.1.getD
 g_3.2.2.2.1.toNat
 (0 :
 Int) =
 g_2.1.getD
 g_3.2.2.2.1.toNat
 (0 :
 Int) ∧
 ((True ∧
 True ∧
 True) ∧
 (g_2.1.getD
 g_3.2.2.2.1.toNat
 (0 :
 Int)).toNat =
 (g_2.1.getD
 g_3.2.2.2.1.toNat
 (0 :
 Int)).toNat) ∧
 (g_3.2.2.1.set
 (g_2.1.getD
 g_3.2.2.2.1.toNat
 (0 :
 Int)).toNat
 (g_3.2.2.1.getD
 (g_2.1.getD
 g_3.2.2.2.1.toNat
 (0 :
 Int)).toNat
 (0 :
 Int) +
 (1 :
 Int))).getD
 (g_2.1.getD
 g_3.2.2.2.1.toNat
 (0 :
 Int)).toNat
 (0 :
 Int) =
 (g_3.2.2.1.set
 (g_2.1.getD
 g_3.2.2.2.1.toNat
 (0 :
 Int)).toNat
 (g_3.2.2.1.getD
 (g_2.1.getD
 g_3.2.2.2.1.toNat
 (0 :
 Int)).toNat
 (0 :
 Int) +
 (1 :
 Int))).getD
 (g_2.1.getD
 g_3.2.2.2.1.toNat
 (0 :
 Int)).toNat
 (0 :
 Int) ∧
 x.2.1 =
 x.2.1 ∧
 (g_3.2.2.1.set
 (g_2.1.getD
 g_3.2.2.2.1.toNat
 (0 :
 Int)).toNat
 (g_3.2.2.1.getD
 (g_2.1.getD
 g_3.2.2.2.1.toNat
 (0 :
 Int)).toNat
 (0 :
 Int) +
 (1 :
 Int))).getD
 (g_2.1.getD
 g_3.2.2.2.1.toNat
 (0 :
 Int)).toNat
 (0 :
 Int) %
 x.2.1 =
 (g_3.2.2.1.set
 (g_2.1.getD
 g_3.2.2.2.1.toNat
 (0 :
 Int)).toNat
 (g_3.2.2.1.getD
 (g_2.1.getD
 g_3.2.2.2.1.toNat
 (0 :
 Int)).toNat
 (0 :
 Int) +
 (1 :
 Int))).getD
 (g_2.1.getD
 g_3.2.2.2.1.toNat
 (0 :
 Int)).toNat
 (0 :
 Int) %
 x.2.1 ∧
 true =
 true ∧
 True ∧
 True ∧
 True ∧
 True ∧
 g_2.1.getD
 g_3.2.2.2.1.toNat
 (0 :
 Int) =
 g_2.1.getD
 g_3.2.2.2.1.toNat
 (0 :
 Int) ∧
 True ∧
 True ∧
 True ∧
 True ∧
 True ∧
 True ∧
 True ∧
 True ∧
 True ∧
 True ∧
 True ∧
 True) ∧
 ∀ (g_4 : List Int × Int × Int × Unit),
 ((0 : Int) ≤ g_4.2.1 ∧
 g_4.2.1 ≤ g_4.2.2.1 ∧
 g_4.2.2.1 ≤ (↑g_3.1.length : Int)) ∧
 g_4.1.length = g_3.1.length ∧
 List.take g_4.2.1.toNat g_4.1 =
 List.filter
 (fun y ↦
 !decide
 (y =
 capK
 (some
 (g_2.1.getD
 g_3.2.2.2.1.toNat
 (0 : Int)))))
 (List.take g_4.2.2.1.toNat
 g_3.1) ∧
 List.drop g_4.2.2.1.toNat g_4.1 =
 List.drop g_4.2.2.1.toNat g_3.1 →
 (g_4.1.length ≤ (9223372036854775807 : Nat) ∧
 ∀ (x : Int),
 x ∈ g_4.1 →
 (-9223372036854775808 : Int) ≤ x ∧
 x ≤ (9223372036854775807 : Int)) ∧
 ((-9223372036854775808 : Int) ≤ g_4.2.1 ∧
 g_4.2.1 ≤ (9223372036854775807 : Int)) ∧
 ((-9223372036854775808 : Int) ≤
 g_4.2.2.1 ∧
 g_4.2.2.1 ≤
 (9223372036854775807 : Int)) ∧
 True →
 (decide
 (g_4.2.2.1 <
 (↑g_4.1.length : Int)) =
 true →
 ((0 : Int) ≤ g_4.2.2.1 ∧
 g_4.2.2.1 <
 (↑g_4.1.length : Int)) ∧
 ((!g_4.1.getD g_4.2.2.1.toNat
 (0 : Int) ==
 g_2.1.getD
 g_3.2.2.2.1.toNat
 (0 : Int)) =
 true →
 ((0 : Int) ≤ g_4.2.1 ∧
 g_4.2.1 <
 (↑g_4.1.length : Int)) ∧
 ((-9223372036854775808 : Int) ≤
 g_4.2.1 + (1 : Int) ∧
 g_4.2.1 + (1 : Int) ≤
 (9223372036854775807 : Int)) ∧
 ((-9223372036854775808 : Int) ≤
 g_4.2.2.1 + (1 : Int) ∧
 g_4.2.2.1 + (1 : Int) ≤
 (9223372036854775807 : Int)) ∧
 ((((0 : Int) ≤
 g_4.2.1 +
 (1 : Int) ∧
 g_4.2.1 + (1 : Int) ≤
 g_4.2.2.1 +
 (1 : Int) ∧
 g_4.2.2.1 +
 (1 : Int) ≤
 (↑g_3.1.length :
 Int)) ∧
 (g_4.1.set
 g_4.2.1.toNat
 (g_4.1.getD
 g_4.2.2.1.toNat
 (0 :
 Int))).length =
 g_3.1.length ∧
 List.take
 (g_4.2.1 +
 (1 : Int)).toNat
 (g_4.1.set
 g_4.2.1.toNat
 (g_4.1.getD
 g_4.2.2.1.toNat
 (0 : Int))) =
 List.filter
 (fun y ↦
 !decide
 (y =
 capK
 (some
 (g_2.1.getD
 g_3.2.2.2.1.toNat
 (0 :
 Int)))))
 (List.take
 (g_4.2.2.1 +
 (1 :
 Int)).toNat
 g_3.1) ∧
 List.drop
 (g_4.2.2.1 +
 (1 : Int)).toNat
 (g_4.1.set
 g_4.2.1.toNat
 (g_4.1.getD
 g_4.2.2.1.toNat
 (0 : Int))) =
 List.drop
 (g_4.2.2.1 +
 (1 : Int)).toNat
 g_3.1) ∧
 ((↑g_3.1.length : Int) -
 (g_4.2.2.1 +
 (1 : Int))).toNat <
 ((↑g_3.1.length : Int) -
 g_4.2.2.1).toNat) ∧
 (True ∧
 True ∧
 g_4.2.1 + (1 : Int) =
 g_4.2.1 +
 (1 : Int) ∧
 g_4.2.2.1 +
 (1 : Int) =
 g_4.2.2.1 +
 (1 : Int) ∧
 True) ∧
 (g_4.1.set g_4.2.1.toNat
 (g_4.1.getD
 g_4.2.2.1.toNat
 (0 : Int)) =
 g_4.1.set
 g_4.2.1.toNat
 (g_4.1.getD
 g_4.2.2.1.toNat
 (0 : Int)) ∧
 g_3.1 = g_3.1 ∧
 g_3.2.1.set
 (g_2.1.getD
 g_3.2.2.2.1.toNat
 (0 :
 Int)).toNat
 (g_3.2.1.getD
 (g_2.1.getD
 g_3.2.2.2.1.toNat
 (0 :
 Int)).toNat
 (0 : Int) -
 (1 : Int)) =
 g_3.2.1.set
 (g_2.1.getD
 g_3.2.2.2.1.toNat
 (0 :
 Int)).toNat
 (g_3.2.1.getD
 (g_2.1.getD
 g_3.2.2.2.1.toNat
 (0 :
 Int)).toNat
 (0 : Int) -
 (1 : Int)) ∧
 g_3.2.2.1.set
 (g_2.1.getD
 g_3.2.2.2.1.toNat
 (0 :
 Int)).toNat
 (g_3.2.2.1.getD
 (g_2.1.getD
 g_3.2.2.2.1.toNat
 (0 :
 Int)).toNat
 (0 : Int) +
 (1 : Int)) =
 g_3.2.2.1.set
 (g_2.1.getD
 g_3.2.2.2.1.toNat
 (0 :
 Int)).toNat
 (g_3.2.2.1.getD
 (g_2.1.getD
 g_3.2.2.2.1.toNat
 (0 :
 Int)).toNat
 (0 : Int) +
 (1 : Int)) ∧
 g.2.2.2.1 =
 g.2.2.2.1 ∧
 g_2.1 =
 g_2.1 ∧
 (g_2.1.getD
 g_3.2.2.2.1.toNat
 (0 :
 Int) =
 g_2.1.getD
 g_3.2.2.2.1.toNat
 (0 :
 Int) ∧
 True) ∧
 g_2.1 =
 g_2.1 ∧
 (True ∧
 (True ∧
 True) ∧
 True) ∧
 True) ∧
 x.1 = x.1 ∧
 x.2.1 = x.2.1 ∧
 x.2.2.1 =
 x.2.2.1 ∧
 True ∧
 True ∧
 True ∧
 True ∧
 True ∧
 True ∧
 True ∧
 True ∧
 True ∧
 True ∧
 True ∧
 True ∧
 True ∧
 True ∧
 True ∧
 True ∧
 True ∧
 True ∧
 (True ∧
 True) ∧
 True ∧
 True ∧
 True ∧
 True ∧
 True ∧
 True ∧
 x.2.2.2.1 =
 x.2.2.2.1 ∧
 g.2.2.2.2.1 =
 g.2.2.2.2.1 ∧
 True ∧
 True ∧
 True ∧
 True ∧
 True ∧
 True ∧
 True ∧
 True ∧
 True ∧
 True ∧
 True ∧
 True ∧
 True ∧
 True ∧
 True ∧
 True ∧
 True ∧
 True ∧
 True ∧
 True ∧
 True ∧
 True ∧
 True ∧
 True ∧
 True ∧
 True ∧
 True ∧
 True ∧
 True ∧
 True ∧
 True ∧
 True ∧
 True ∧
 True ∧
 True ∧
 True ∧
 True ∧
 True ∧
 True ∧
 True ∧
 True ∧
 True ∧
 True ∧
 True ∧
 True ∧
 True ∧
 True ∧
 True ∧
 True ∧
 True ∧
 True ∧
 True ∧
 True ∧
 True ∧
 True ∧
 True ∧
 True ∧
 True ∧
 True ∧
 True ∧
 (↑g_2.1.length :
 Int) =
 (↑g_2.1.length :
 Int) ∧
 g_3.2.2.2.1 =
 g_3.2.2.2.1 ∧
 true =
 true ∧
 ((True ∧
 True ∧
 True) ∧
 g_3.2.2.2.1.toNat =
 g_3.2.2.2.1.toNat) ∧
 g_2.1.getD
 g_3.2.2.2.1.toNat
 (0 :
 Int) =
 g_2.1.getD
 g_3.2.2.2.1.toNat
 (0 :
 Int) ∧
 True ∧
 g_2.1.getD
 g_3.2.2.2.1.toNat
 (0 :
 Int) =
 g_2.1.getD
 g_3.2.2.2.1.toNat
 (0 :
 Int) ∧
 ((True ∧
 True ∧
 True) ∧
 (g_2.1.getD
 g_3.2.2.2.1.toNat
 (0 :
 Int)).toNat =
 (g_2.1.getD
 g_3.2.2.2.1.toNat
 (0 :
 Int)).toNat) ∧
 g_3.2.1.getD
 (g_2.1.getD
 g_3.2.2.2.1.toNat
 (0 :
 Int)).toNat
 (0 :
 Int) =
 g_3.2.1.getD
 (g_2.1.getD
 g_3.2.2.2.1.toNat
 (0 :
 Int)).toNat
 (0 :
 Int) ∧
 g_3.2.1.getD
 (g_2.1.getD
 g_3.2.2.2.1.toNat
 (0 :
 Int)).toNat
 (0 :
 Int) -
 (1 :
 Int) =
 g_3.2.1.getD
 (g_2.1.getD
 g_3.2.2.2.1.toNat
 (0 :
 Int)).toNat
 (0 :
 Int) -
 (1 :
 Int) ∧
 ((True ∧
 True ∧
 True) ∧
 (g_2.1.getD
 g_3.2.2.2.1.toNat
 (0 :
 Int)).toNat =
 (g_2.1.getD
 g_3.2.2.2.1.toNat
 (0 :
 Int)).toNat) ∧
 True ∧
 g_2.1.getD
 g_3.2.2.2.1.toNat
 (0 :
 Int) =
 g_2.1.getD
 g_3.2.2.2.1.toNat
 (0 :
 Int) ∧
 ((True ∧
 True ∧
 True) ∧
 (g_2.1.getD
 g_3.2.2.2.1.toNat
 (0 :
 Int)).toNat =
 (g_2.1.getD
 g_3.2.2.2.1.toNat
 (0 :
 Int)).toNat) ∧
 g_3.2.2.1.getD
 (g_2.1.getD
 g_3.2.2.2.1.toNat
 (0 :
 Int)).toNat
 (0 :
 Int) =
 g_3.2.2.1.getD
 (g_2.1.getD
 g_3.2.2.2.1.toNat
 (0 :
 Int)).toNat
 (0 :
 Int) ∧
 g_3.2.2.1.getD
 (g_2.1.getD
 g_3.2.2.2.1.toNat
 (0 :
 Int)).toNat
 (0 :
 Int) +
 (1 :
 Int) =
 g_3.2.2.1.getD
 (g_2.1.getD
 g_3.2.2.2.1.toNat
 (0 :
 Int)).toNat
 (0 :
 Int) +
 (1 :
 Int) ∧
 ((True ∧
 True ∧
 True) ∧
 (g_2.1.getD
 g_3.2.2.2.1.toNat
 (0 :
 Int)).toNat =
 (g_2.1.getD
 g_3.2.2.2.1.toNat
 (0 :
 Int)).toNat) ∧
 True ∧
 g_2.1.getD
 g_3.2.2.2.1.toNat
 (0 :
 Int) =
 g_2.1.getD
 g_3.2.2.2.1.toNat
 (0 :
 Int) ∧
 ((True ∧
 True ∧
 True) ∧
 (g_2.1.getD
 g_3.2.2.2.1.toNat
 (0 :
 Int)).toNat =
 (g_2.1.getD
 g_3.2.2.2.1.toNat
 (0 :
 Int)).toNat) ∧
 (g_3.2.2.1.set
 (g_2.1.getD
 g_3.2.2.2.1.toNat
 (0 :
 Int)).toNat
 (g_3.2.2.1.getD
 (g_2.1.getD
 g_3.2.2.2.1.toNat
 (0 :
 Int)).toNat
 (0 :
 Int) +
 (1 :
 Int))).getD
 (g_2.1.getD
 g_3.2.2.2.1.toNat
 (0 :
 Int)).toNat
 (0 :
 Int) =
 (g_3.2.2.1.set
 (g_2.1.getD
 g_3.2.2.2.1.toNat
 (0 :
 Int)).toNat
 (g_3.2.2.1.getD
 (g_2.1.getD
 g_3.2.2.2.1.toNat
 (0 :
 Int)).toNat
 (0 :
 Int) +
 (1 :
 Int))).getD
 (g_2.1.getD
 g_3.2.2.2.1.toNat
 (0 :
 Int)).toNat
 (0 :
 Int) ∧
 x.2.1 =
 x.2.1 ∧
 (g_3.2.2.1.set
 (g_2.1.getD
 g_3.2.2.2.1.toNat
 (0 :
 Int)).toNat
 (g_3.2.2.1.getD
 (g_2.1.getD
 g_3.2.2.2.1.toNat
 (0 :
 Int)).toNat
 (0 :
 Int) +
 (1 :
 Int))).getD
 (g_2.1.getD
 g_3.2.2.2.1.toNat
 (0 :
 Int)).toNat
 (0 :
 Int) %
 x.2.1 =
 (g_3.2.2.1.set
 (g_2.1.getD
 g_3.2.2.2.1.toNat
 (0 :
 Int)).toNat
 (g_3.2.2.1.getD
 (g_2.1.getD
 g_3.2.2.2.1.toNat
 (0 :
 Int)).toNat
 (0 :
 Int) +
 (1 :
 Int))).getD
 (g_2.1.getD
 g_3.2.2.2.1.toNat
 (0 :
 Int)).toNat
 (0 :
 Int) %
 x.2.1 ∧
 true =
 true ∧
 True ∧
 True ∧
 True ∧
 True ∧
 g_2.1.getD
 g_3.2.2.2.1.toNat
 (0 :
 Int) =
 g_2.1.getD
 g_3.2.2.2.1.toNat
 (0 :
 Int) ∧
 True ∧
 True ∧
 True ∧
 True ∧
 True ∧
 True ∧
 True ∧
 True ∧
 True ∧
 True ∧
 True ∧
 True) ∧
 ((!g_4.1.getD g_4.2.2.1.toNat
 (0 : Int) ==
 g_2.1.getD
 g_3.2.2.2.1.toNat
 (0 : Int)) =
 false →
 ((-9223372036854775808 : Int) ≤
 g_4.2.2.1 + (1 : Int) ∧
 g_4.2.2.1 + (1 : Int) ≤
 (9223372036854775807 : Int)) ∧
 ((((0 : Int) ≤ g_4.2.1 ∧
 g_4.2.1 ≤
 g_4.2.2.1 +
 (1 : Int) ∧
 g_4.2.2.1 +
 (1 : Int) ≤
 (↑g_3.1.length : Int)) ∧
 g_4.1.length =
 g_3.1.length ∧
 List.take g_4.2.1.toNat
 g_4.1 =
 List.filter
 (fun y ↦
 !decide
 (y =
 capK
 (some
 (g_2.1.getD
 g_3.2.2.2.1.toNat
 (0 :
 Int)))))
 (List.take
 (g_4.2.2.1 +
 (1 : Int)).toNat
 g_3.1) ∧
 List.drop
 (g_4.2.2.1 +
 (1 : Int)).toNat
 g_4.1 =
 List.drop
 (g_4.2.2.1 +
 (1 : Int)).toNat
 g_3.1) ∧
 ((↑g_3.1.length : Int) -
 (g_4.2.2.1 +
 (1 : Int))).toNat <
 ((↑g_3.1.length : Int) -
 g_4.2.2.1).toNat) ∧
 (True ∧
 True ∧
 g_4.2.1 = g_4.2.1 ∧
 g_4.2.2.1 +
 (1 : Int) =
 g_4.2.2.1 +
 (1 : Int) ∧
 True) ∧
 (g_4.1 = g_4.1 ∧
 g_3.1 = g_3.1 ∧
 g_3.2.1.set
 (g_2.1.getD
 g_3.2.2.2.1.toNat
 (0 : Int)).toNat
 (g_3.2.1.getD
 (g_2.1.getD
 g_3.2.2.2.1.toNat
 (0 :
 Int)).toNat
 (0 : Int) -
 (1 : Int)) =
 g_3.2.1.set
 (g_2.1.getD
 g_3.2.2.2.1.toNat
 (0 : Int)).toNat
 (g_3.2.1.getD
 (g_2.1.getD
 g_3.2.2.2.1.toNat
 (0 :
 Int)).toNat
 (0 : Int) -
 (1 : Int)) ∧
 g_3.2.2.1.set
 (g_2.1.getD
 g_3.2.2.2.1.toNat
 (0 : Int)).toNat
 (g_3.2.2.1.getD
 (g_2.1.getD
 g_3.2.2.2.1.toNat
 (0 :
 Int)).toNat
 (0 : Int) +
 (1 : Int)) =
 g_3.2.2.1.set
 (g_2.1.getD
 g_3.2.2.2.1.toNat
 (0 : Int)).toNat
 (g_3.2.2.1.getD
 (g_2.1.getD
 g_3.2.2.2.1.toNat
 (0 :
 Int)).toNat
 (0 : Int) +
 (1 : Int)) ∧
 g.2.2.2.1 =
 g.2.2.2.1 ∧
 g_2.1 = g_2.1 ∧
 (g_2.1.getD
 g_3.2.2.2.1.toNat
 (0 : Int) =
 g_2.1.getD
 g_3.2.2.2.1.toNat
 (0 : Int) ∧
 True) ∧
 g_2.1 =
 g_2.1 ∧
 (True ∧
 (True ∧
 True) ∧
 True) ∧
 True) ∧
 x.1 = x.1 ∧
 x.2.1 = x.2.1 ∧
 x.2.2.1 =
 x.2.2.1 ∧
 True ∧
 True ∧
 True ∧
 True ∧
 True ∧
 True ∧
 True ∧
 True ∧
 True ∧
 True ∧
 True ∧
 True ∧
 True ∧
 True ∧
 True ∧
 True ∧
 True ∧
 True ∧
 (True ∧
 True) ∧
 True ∧
 True ∧
 True ∧
 True ∧
 True ∧
 True ∧
 x.2.2.2.1 =
 x.2.2.2.1 ∧
 g.2.2.2.2.1 =
 g.2.2.2.2.1 ∧
 True ∧
 True ∧
 True ∧
 True ∧
 True ∧
 True ∧
 True ∧
 True ∧
 True ∧
 True ∧
 True ∧
 True ∧
 True ∧
 True ∧
 True ∧
 True ∧
 True ∧
 True ∧
 True ∧
 True ∧
 True ∧
 True ∧
 True ∧
 True ∧
 True ∧
 True ∧
 True ∧
 True ∧
 True ∧
 True ∧
 True ∧
 True ∧
 True ∧
 True ∧
 True ∧
 True ∧
 True ∧
 True ∧
 True ∧
 True ∧
 True ∧
 True ∧
 True ∧
 True ∧
 True ∧
 True ∧
 True ∧
 True ∧
 True ∧
 True ∧
 True ∧
 True ∧
 True ∧
 True ∧
 True ∧
 True ∧
 True ∧
 True ∧
 True ∧
 True ∧
 (↑g_2.1.length :
 Int) =
 (↑g_2.1.length :
 Int) ∧
 g_3.2.2.2.1 =
 g_3.2.2.2.1 ∧
 true =
 true ∧
 ((True ∧
 True ∧
 True) ∧
 g_3.2.2.2.1.toNat =
 g_3.2.2.2.1.toNat) ∧
 g_2.1.getD
 g_3.2.2.2.1.toNat
 (0 :
 Int) =
 g_2.1.getD
 g_3.2.2.2.1.toNat
 (0 :
 Int) ∧
 True ∧
 g_2.1.getD
 g_3.2.2.2.1.toNat
 (0 :
 Int) =
 g_2.1.getD
 g_3.2.2.2.1.toNat
 (0 :
 Int) ∧
 ((True ∧
 True ∧
 True) ∧
 (g_2.1.getD
 g_3.2.2.2.1.toNat
 (0 :
 Int)).toNat =
 (g_2.1.getD
 g_3.2.2.2.1.toNat
 (0 :
 Int)).toNat) ∧
 g_3.2.1.getD
 (g_2.1.getD
 g_3.2.2.2.1.toNat
 (0 :
 Int)).toNat
 (0 :
 Int) =
 g_3.2.1.getD
 (g_2.1.getD
 g_3.2.2.2.1.toNat
 (0 :
 Int)).toNat
 (0 :
 Int) ∧
 g_3.2.1.getD
 (g_2.1.getD
 g_3.2.2.2.1.toNat
 (0 :
 Int)).toNat
 (0 :
 Int) -
 (1 :
 Int) =
 g_3.2.1.getD
 (g_2.1.getD
 g_3.2.2.2.1.toNat
 (0 :
 Int)).toNat
 (0 :
 Int) -
 (1 :
 Int) ∧
 ((True ∧
 True ∧
 True) ∧
 (g_2.1.getD
 g_3.2.2.2.1.toNat
 (0 :
 Int)).toNat =
 (g_2.1.getD
 g_3.2.2.2.1.toNat
 (0 :
 Int)).toNat) ∧
 True ∧
 g_2.1.getD
 g_3.2.2.2.1.toNat
 (0 :
 Int) =
 g_2.1.getD
 g_3.2.2.2.1.toNat
 (0 :
 Int) ∧
 ((True ∧
 True ∧
 True) ∧
 (g_2.1.getD
 g_3.2.2.2.1.toNat
 (0 :
 Int)).toNat =
 (g_2.1.getD
 g_3.2.2.2.1.toNat
 (0 :
 Int)).toNat) ∧
 g_3.2.2.1.getD
 (g_2.1.getD
 g_3.2.2.2.1.toNat
 (0 :
 Int)).toNat
 (0 :
 Int) =
 g_3.2.2.1.getD
 (g_2.1.getD
 g_3.2.2.2.1.toNat
 (0 :
 Int)).toNat
 (0 :
 Int) ∧
 g_3.2.2.1.getD
 (g_2.1.getD
 g_3.2.2.2.1.toNat
 (0 :
 Int)).toNat
 (0 :
 Int) +
 (1 :
 Int) =
 g_3.2.2.1.getD
 (g_2.1.getD
 g_3.2.2.2.1.toNat
 (0 :
 Int)).toNat
 (0 :
 Int) +
 (1 :
 Int) ∧
 ((True ∧
 True ∧
 True) ∧
 (g_2.1.getD
 g_3.2.2.2.1.toNat
 (0 :
 Int)).toNat =
 (g_2.1.getD
 g_3.2.2.2.1.toNat
 (0 :
 Int)).toNat) ∧
 True ∧
 g_2.1.getD
 g_3.2.2.2.1.toNat
 (0 :
 Int) =
 g_2.1.getD
 g_3.2.2.2.1.toNat
 (0 :
 Int) ∧
 ((True ∧
 True ∧
 True) ∧
 (g_2.1.getD
 g_3.2.2.2.1.toNat
 (0 :
 Int)).toNat =
 (g_2.1.getD
 g_3.2.2.2.1.toNat
 (0 :
 Int)).toNat) ∧
 (g_3.2.2.1.set
 (g_2.1.getD
 g_3.2.2.2.1.toNat
 (0 :
 Int)).toNat
 (g_3.2.2.1.getD
 (g_2.1.getD
 g_3.2.2.2.1.toNat
 (0 :
 Int)).toNat
 (0 :
 Int) +
 (1 :
 Int))).getD
 (g_2.1.getD
 g_3.2.2.2.1.toNat
 (0 :
 Int)).toNat
 (0 :
 Int) =
 (g_3.2.2.1.set
 (g_2.1.getD
 g_3.2.2.2.1.toNat
 (0 :
 Int)).toNat
 (g_3.2.2.1.getD
 (g_2.1.getD
 g_3.2.2.2.1.toNat
 (0 :
 Int)).toNat
 (0 :
 Int) +
 (1 :
 Int))).getD
 (g_2.1.getD
 g_3.2.2.2.1.toNat
 (0 :
 Int)).toNat
 (0 :
 Int) ∧
 x.2.1 =
 x.2.1 ∧
 (g_3.2.2.1.set
 (g_2.1.getD
 g_3.2.2.2.1.toNat
 (0 :
 Int)).toNat
 (g_3.2.2.1.getD
 (g_2.1.getD
 g_3.2.2.2.1.toNat
 (0 :
 Int)).toNat
 (0 :
 Int) +
 (1 :
 Int))).getD
 (g_2.1.getD
 g_3.2.2.2.1.toNat
 (0 :
 Int)).toNat
 (0 :
 Int) %
 x.2.1 =
 (g_3.2.2.1.set
 (g_2.1.getD
 g_3.2.2.2.1.toNat
 (0 :
 Int)).toNat
 (g_3.2.2.1.getD
 (g_2.1.getD
 g_3.2.2.2.1.toNat
 (0 :
 Int)).toNat
 (0 :
 Int) +
 (1 :
 Int))).getD
 (g_2.1.getD
 g_3.2.2.2.1.toNat
 (0 :
 Int)).toNat
 (0 :
 Int) %
 x.2.1 ∧
 true =
 true ∧
 True ∧
 True ∧
 True ∧
 True ∧
 g_2.1.getD
 g_3.2.2.2.1.toNat
 (0 :
 Int) =
 g_2.1.getD
 g_3.2.2.2.1.toNat
 (0 :
 Int) ∧
 True ∧
 True ∧
 True ∧
 True ∧
 True ∧
 True ∧
 True ∧
 True ∧
 True ∧
 True ∧
 True ∧
 True)) ∧
 (decide
 (g_4.2.2.1 <
 (↑g_4.1.length : Int)) =
 false →
 (((0 : Int) ≤ g_4.2.1 ∧
 g_4.2.1 ≤ (↑g_4.1.length : Int)) ∧
 (↑g_4.1.length : Int) ≤
 (↑g_4.1.length : Int)) ∧
 (((0 : Int) ≤ (0 : Int) ∧
 (0 : Int) ≤ g_4.2.1) ∧
 g_4.2.1 ≤
 (↑(List.take g_4.2.1.toNat
 g_4.1 ++
 (List.replicate
 ((↑g_4.1.length :
 Int).toNat -
 g_4.2.1.toNat)
 (0 : Int) ++
 List.drop
 (g_4.2.1.toNat +
 ((↑g_4.1.length :
 Int).toNat -
 g_4.2.1.toNat))
 g_4.1)).length :
 Int)) ∧
 ((List.drop (nat_lit 0)
 (List.take g_4.2.1.toNat
 (List.take g_4.2.1.toNat
 g_4.1 ++
 (List.replicate
 ((↑g_4.1.length :
 Int).toNat -
 g_4.2.1.toNat)
 (0 : Int) ++
 List.drop
 (g_4.2.1.toNat +
 ((↑g_4.1.length :
 Int).toNat -
 g_4.2.1.toNat))
 g_4.1)))).length +
 (((0 : Int) ::
 ([] : List Int)).set
 (0 : Nat)
 (g_2.1.getD
 g_3.2.2.2.1.toNat
 (0 : Int))).length ≤
 (9223372036854775807 : Nat) ∧
 ((List.drop (nat_lit 0)
 (List.take
 g_4.2.1.toNat
 (List.take
 g_4.2.1.toNat
 g_4.1 ++
 (List.replicate
 ((↑g_4.1.length :
 Int).toNat -
 g_4.2.1.toNat)
 (0 : Int) ++
 List.drop
 (g_4.2.1.toNat +
 ((↑g_4.1.length :
 Int).toNat -
 g_4.2.1.toNat))
 g_4.1)))).length +
 (((0 : Int) ::
 ([] : List Int)).set
 (0 : Nat)
 (g_2.1.getD
 g_3.2.2.2.1.toNat
 (0 : Int))).length +
 ((List.drop (nat_lit 0)
 (List.take
 g_4.2.1.toNat
 (List.take
 g_4.2.1.toNat
 g_4.1 ++
 (List.replicate
 ((↑g_4.1.length :
 Int).toNat -
 g_4.2.1.toNat)
 (0 : Int) ++
 List.drop
 (g_4.2.1.toNat +
 ((↑g_4.1.length :
 Int).toNat -
 g_4.2.1.toNat))
 g_4.1)))).length +
 (((0 : Int) ::
 ([] :
 List Int)).set
 (0 : Nat)
 (g_2.1.getD
 g_3.2.2.2.1.toNat
 (0 :
 Int))).length) /
 (4 : Nat) +
 (192 : Nat)) *
 (8 : Nat) ≤
 (281474976710656 : Nat)) ∧
 ((-9223372036854775808 : Int) ≤
 g_3.2.2.2.1 + (1 : Int) ∧
 g_3.2.2.2.1 + (1 : Int) ≤
 (9223372036854775807 : Int)) ∧
 (((0 : Int) ≤
 g_3.2.2.2.1 +
 (1 : Int) ∧
 g_3.2.2.2.1 +
 (1 : Int) ≤
 (↑g_2.1.length : Int) ∧
 (List.drop (nat_lit 0)
 (List.take
 g_4.2.1.toNat
 (List.take
 g_4.2.1.toNat
 g_4.1 ++
 (List.replicate
 ((↑g_4.1.length :
 Int).toNat -
 g_4.2.1.toNat)
 (0 : Int) ++
 List.drop
 (g_4.2.1.toNat +
 ((↑g_4.1.length :
 Int).toNat -
 g_4.2.1.toNat))
 g_4.1))) ++
 ((0 : Int) ::
 ([] :
 List Int)).set
 (0 : Nat)
 (g_2.1.getD
 g_3.2.2.2.1.toNat
 (0 : Int)),
 g_3.2.1.set
 (g_2.1.getD
 g_3.2.2.2.1.toNat
 (0 : Int)).toNat
 (g_3.2.1.getD
 (g_2.1.getD
 g_3.2.2.2.1.toNat
 (0 : Int)).toNat
 (0 : Int) -
 (1 : Int)),
 g_3.2.2.1.set
 (g_2.1.getD
 g_3.2.2.2.1.toNat
 (0 : Int)).toNat
 (g_3.2.2.1.getD
 (g_2.1.getD
 g_3.2.2.2.1.toNat
 (0 : Int)).toNat
 (0 : Int) +
 (1 : Int))) =
 List.foldl (stA x.2.1)
 (g_1.1, g_1.2.1,
 g.2.2.1)
 (List.take
 (g_3.2.2.2.1 +
 (1 : Int)).toNat
 g_2.1)) ∧
 ((↑g_2.1.length : Int) -
 (g_3.2.2.2.1 +
 (1 : Int))).toNat <
 ((↑g_2.1.length : Int) -
 g_3.2.2.2.1).toNat) ∧
 (x.1 = x.1 ∧
 x.2.1 = x.2.1 ∧
 x.2.2.1 =
 x.2.2.1 ∧
 True ∧
 True ∧
 True ∧
 True ∧
 True ∧
 x.2.2.2.1 =
 x.2.2.2.1 ∧
 g.2.2.2.2.1 =
 g.2.2.2.2.1 ∧
 True ∧
 (↑g_2.1.length :
 Int) =
 (↑g_2.1.length :
 Int) ∧
 g_3.2.2.2.1 +
 (1 :
 Int) =
 g_3.2.2.2.1 +
 (1 :
 Int) ∧
 True) ∧
 (List.drop (nat_lit 0)
 (List.take
 g_4.2.1.toNat
 (List.take
 g_4.2.1.toNat
 g_4.1 ++
 (List.replicate
 ((↑g_4.1.length :
 Int).toNat -
 g_4.2.1.toNat)
 (0 : Int) ++
 List.drop
 (g_4.2.1.toNat +
 ((↑g_4.1.length :
 Int).toNat -
 g_4.2.1.toNat))
 g_4.1))) ++
 ((0 : Int) ::
 ([] : List Int)).set
 (0 : Nat)
 (g_2.1.getD
 g_3.2.2.2.1.toNat
 (0 : Int)) =
 List.drop (nat_lit 0)
 (List.take
 g_4.2.1.toNat
 (List.take
 g_4.2.1.toNat
 g_4.1 ++
 (List.replicate
 ((↑g_4.1.length :
 Int).toNat -
 g_4.2.1.toNat)
 (0 : Int) ++
 List.drop
 (g_4.2.1.toNat +
 ((↑g_4.1.length :
 Int).toNat -
 g_4.2.1.toNat))
 g_4.1))) ++
 ((0 : Int) ::
 ([] : List Int)).set
 (0 : Nat)
 (g_2.1.getD
 g_3.2.2.2.1.toNat
 (0 : Int)) ∧
 g_3.2.1.set
 (g_2.1.getD
 g_3.2.2.2.1.toNat
 (0 : Int)).toNat
 (g_3.2.1.getD
 (g_2.1.getD
 g_3.2.2.2.1.toNat
 (0 : Int)).toNat
 (0 : Int) -
 (1 : Int)) =
 g_3.2.1.set
 (g_2.1.getD
 g_3.2.2.2.1.toNat
 (0 : Int)).toNat
 (g_3.2.1.getD
 (g_2.1.getD
 g_3.2.2.2.1.toNat
 (0 : Int)).toNat
 (0 : Int) -
 (1 : Int)) ∧
 g_3.2.2.1.set
 (g_2.1.getD
 g_3.2.2.2.1.toNat
 (0 : Int)).toNat
 (g_3.2.2.1.getD
 (g_2.1.getD
 g_3.2.2.2.1.toNat
 (0 :
 Int)).toNat
 (0 : Int) +
 (1 : Int)) =
 g_3.2.2.1.set
 (g_2.1.getD
 g_3.2.2.2.1.toNat
 (0 : Int)).toNat
 (g_3.2.2.1.getD
 (g_2.1.getD
 g_3.2.2.2.1.toNat
 (0 :
 Int)).toNat
 (0 : Int) +
 (1 : Int)) ∧
 g.2.2.2.1 =
 g.2.2.2.1 ∧
 g_2.1 = g_2.1 ∧
 g_2.1 = g_2.1 ∧
 True) ∧
 True))) ∧
 (Holds (g_3.1.length ≤ (400 : Nat)) ∧
 Holds True ∧
 ((True ∧ True ∧ True) ∧
 g_3.1 = g_3.1 ∧
 (g_2.1.getD g_3.2.2.2.1.toNat (0 : Int) =
 g_2.1.getD g_3.2.2.2.1.toNat (0 : Int) ∧
 True) ∧
 (True ∧ (True ∧ True) ∧ True) ∧ True) ∧
 ((idx g_3.1
 (g_2.1.getD g_3.2.2.2.1.toNat
 (0 : Int)) ==
 (-1 : Int)) =
 true →
 (g_3.1.length +
 (((0 : Int) :: ([] : List Int)).set (0 : Nat)
 (g_2.1.getD g_3.2.2.2.1.toNat
 (0 : Int))).length ≤
 (9223372036854775807 : Nat) ∧
 (g_3.1.length +
 (((0 : Int) :: ([] : List Int)).set
 (0 : Nat)
 (g_2.1.getD g_3.2.2.2.1.toNat
 (0 : Int))).length +
 (g_3.1.length +
 (((0 : Int) :: ([] : List Int)).set
 (0 : Nat)
 (g_2.1.getD
 g_3.2.2.2.1.toNat
 (0 : Int))).length) /
 (4 : Nat) +
 (192 : Nat)) *
 (8 : Nat) ≤
 (281474976710656 : Nat)) ∧
 ((-9223372036854775808 : Int) ≤
 g_3.2.2.2.1 + (1 : Int) ∧
 g_3.2.2.2.1 + (1 : Int) ≤
 (9223372036854775807 : Int)) ∧
 (((0 : Int) ≤ g_3.2.2.2.1 + (1 : Int) ∧
 g_3.2.2.2.1 + (1 : Int) ≤
 (↑g_2.1.length : Int) ∧
 (g_3.1 ++
 ((0 : Int) :: ([] : List Int)).set
 (0 : Nat)
 (g_2.1.getD
 g_3.2.2.2.1.toNat
 (0 : Int)),
 g_3.2.1.set
 (g_2.1.getD g_3.2.2.2.1.toNat
 (0 : Int)).toNat
 (g_3.2.1.getD
 (g_2.1.getD
 g_3.2.2.2.1.toNat
 (0 : Int)).toNat
 (0 : Int) -
 (1 : Int)),
 g_3.2.2.1.set
 (g_2.1.getD g_3.2.2.2.1.toNat
 (0 : Int)).toNat
 (g_3.2.2.1.getD
 (g_2.1.getD
 g_3.2.2.2.1.toNat
 (0 : Int)).toNat
 (0 : Int) +
 (1 : Int))) =
 List.foldl (stA x.2.1)
 (g_1.1, g_1.2.1, g.2.2.1)
 (List.take
 (g_3.2.2.2.1 + (1 : Int)).toNat
 g_2.1)) ∧
 ((↑g_2.1.length : Int) -
 (g_3.2.2.2.1 + (1 : Int))).toNat <
 ((↑g_2.1.length : Int) -
 g_3.2.2.2.1).toNat) ∧
 (x.1 = x.1 ∧
 x.2.1 = x.2.1 ∧
 x.2.2.1 = x.2.2.1 ∧
 True ∧
 True ∧
 True ∧
 True ∧
 True ∧
 x.2.2.2.1 =
 x.2.2.2.1 ∧
 g.2.2.2.2.1 =
 g.2.2.2.2.1 ∧
 True ∧
 (↑g_2.1.length : Int) =
 (↑g_2.1.length :
 Int) ∧
 g_3.2.2.2.1 +
 (1 : Int) =
 g_3.2.2.2.1 +
 (1 : Int) ∧
 True) ∧
 (g_3.1 ++
 ((0 : Int) :: ([] : List Int)).set
 (0 : Nat)
 (g_2.1.getD g_3.2.2.2.1.toNat
 (0 : Int)) =
 g_3.1 ++
 ((0 : Int) :: ([] : List Int)).set
 (0 : Nat)
 (g_2.1.getD g_3.2.2.2.1.toNat
 (0 : Int)) ∧
 g_3.2.1.set
 (g_2.1.getD g_3.2.2.2.1.toNat
 (0 : Int)).toNat
 (g_3.2.1.getD
 (g_2.1.getD
 g_3.2.2.2.1.toNat
 (0 : Int)).toNat
 (0 : Int) -
 (1 : Int)) =
 g_3.2.1.set
 (g_2.1.getD g_3.2.2.2.1.toNat
 (0 : Int)).toNat
 (g_3.2.1.getD
 (g_2.1.getD
 g_3.2.2.2.1.toNat
 (0 : Int)).toNat
 (0 : Int) -
 (1 : Int)) ∧
 g_3.2.2.1.set
 (g_2.1.getD
 g_3.2.2.2.1.toNat
 (0 : Int)).toNat
 (g_3.2.2.1.getD
 (g_2.1.getD
 g_3.2.2.2.1.toNat
 (0 : Int)).toNat
 (0 : Int) +
 (1 : Int)) =
 g_3.2.2.1.set
 (g_2.1.getD
 g_3.2.2.2.1.toNat
 (0 : Int)).toNat
 (g_3.2.2.1.getD
 (g_2.1.getD
 g_3.2.2.2.1.toNat
 (0 : Int)).toNat
 (0 : Int) +
 (1 : Int)) ∧
 g.2.2.2.1 = g.2.2.2.1 ∧
 g_2.1 = g_2.1 ∧
 g_2.1 = g_2.1 ∧ True) ∧
 True) ∧
 ((idx g_3.1
 (g_2.1.getD g_3.2.2.2.1.toNat
 (0 : Int)) ==
 (-1 : Int)) =
 false →
 ((-9223372036854775808 : Int) ≤
 idx g_3.1
 (g_2.1.getD g_3.2.2.2.1.toNat
 (0 : Int)) +
 (1 : Int) ∧
 idx g_3.1
 (g_2.1.getD g_3.2.2.2.1.toNat
 (0 : Int)) +
 (1 : Int) ≤
 (9223372036854775807 : Int)) ∧
 (((((0 : Int) ≤
 idx g_3.1
 (g_2.1.getD g_3.2.2.2.1.toNat
 (0 : Int)) ∧
 idx g_3.1
 (g_2.1.getD g_3.2.2.2.1.toNat
 (0 : Int)) ≤
 idx g_3.1
 (g_2.1.getD
 g_3.2.2.2.1.toNat
 (0 : Int)) +
 (1 : Int) ∧
 idx g_3.1
 (g_2.1.getD
 g_3.2.2.2.1.toNat
 (0 : Int)) +
 (1 : Int) ≤
 (↑g_3.1.length : Int)) ∧
 g_3.1.length = g_3.1.length ∧
 List.take
 (idx g_3.1
 (g_2.1.getD
 g_3.2.2.2.1.toNat
 (0 : Int))).toNat
 g_3.1 =
 List.filter
 (fun y ↦
 !decide
 (y =
 capK
 (some
 (g_2.1.getD
 g_3.2.2.2.1.toNat
 (0 : Int)))))
 (List.take
 (idx g_3.1
 (g_2.1.getD
 g_3.2.2.2.1.toNat
 (0 : Int)) +
 (1 : Int)).toNat
 g_3.1) ∧
 List.drop
 (idx g_3.1
 (g_2.1.getD
 g_3.2.2.2.1.toNat
 (0 : Int)) +
 (1 : Int)).toNat
 g_3.1 =
 List.drop
 (idx g_3.1
 (g_2.1.getD
 g_3.2.2.2.1.toNat
 (0 : Int)) +
 (1 : Int)).toNat
 g_3.1) ∧
 True) ∧
 (True ∧
 True ∧
 idx g_3.1
 (g_2.1.getD g_3.2.2.2.1.toNat
 (0 : Int)) =
 idx g_3.1
 (g_2.1.getD g_3.2.2.2.1.toNat
 (0 : Int)) ∧
 idx g_3.1
 (g_2.1.getD
 g_3.2.2.2.1.toNat
 (0 : Int)) +
 (1 : Int) =
 idx g_3.1
 (g_2.1.getD
 g_3.2.2.2.1.toNat
 (0 : Int)) +
 (1 : Int) ∧
 True) ∧
 (g_3.1 = g_3.1 ∧
 g_3.1 = g_3.1 ∧
 g_3.2.1.set
 (g_2.1.getD
 g_3.2.2.2.1.toNat
 (0 : Int)).toNat
 (g_3.2.1.getD
 (g_2.1.getD
 g_3.2.2.2.1.toNat
 (0 : Int)).toNat
 (0 : Int) -
 (1 : Int)) =
 g_3.2.1.set
 (g_2.1.getD
 g_3.2.2.2.1.toNat
 (0 : Int)).toNat
 (g_3.2.1.getD
 (g_2.1.getD
 g_3.2.2.2.1.toNat
 (0 : Int)).toNat
 (0 : Int) -
 (1 : Int)) ∧
 g_3.2.2.1.set
 (g_2.1.getD
 g_3.2.2.2.1.toNat
 (0 : Int)).toNat
 (g_3.2.2.1.getD
 (g_2.1.getD
 g_3.2.2.2.1.toNat
 (0 : Int)).toNat
 (0 : Int) +
 (1 : Int)) =
 g_3.2.2.1.set
 (g_2.1.getD
 g_3.2.2.2.1.toNat
 (0 : Int)).toNat
 (g_3.2.2.1.getD
 (g_2.1.getD
 g_3.2.2.2.1.toNat
 (0 : Int)).toNat
 (0 : Int) +
 (1 : Int)) ∧
 g.2.2.2.1 = g.2.2.2.1 ∧
 g_2.1 = g_2.1 ∧
 (g_2.1.getD
 g_3.2.2.2.1.toNat
 (0 : Int) =
 g_2.1.getD
 g_3.2.2.2.1.toNat
 (0 : Int) ∧
 True) ∧
 g_2.1 = g_2.1 ∧
 (True ∧ (True ∧ True) ∧ True) ∧
 ((0 : Int) ::
 ([] : List Int)).set
 (0 : Nat)
 (g_2.1.getD
 g_3.2.2.2.1.toNat
 (0 : Int)) =
 ((0 : Int) ::
 ([] : List Int)).set
 (0 : Nat)
 (g_2.1.getD
 g_3.2.2.2.1.toNat
 (0 : Int)) ∧
 True) ∧
 x.1 = x.1 ∧
 x.2.1 = x.2.1 ∧
 x.2.2.1 = x.2.2.1 ∧
 True ∧
 True ∧
 True ∧
 True ∧
 True ∧
 True ∧
 True ∧
 True ∧
 True ∧
 True ∧
 True ∧
 True ∧
 True ∧
 True ∧
 True ∧
 True ∧
 True ∧
 True ∧
 (True ∧
 True) ∧
 True ∧
 True ∧
 True ∧
 True ∧
 True ∧
 True ∧
 x.2.2.2.1 =
 x.2.2.2.1 ∧
 g.2.2.2.2.1 =
 g.2.2.2.2.1 ∧
 True ∧
 True ∧
 True ∧
 True ∧
 True ∧
 True ∧
 True ∧
 True ∧
 True ∧
 True ∧
 True ∧
 True ∧
 True ∧
 True ∧
 True ∧
 True ∧
 True ∧
 True ∧
 True ∧
 True ∧
 True ∧
 True ∧
 True ∧
 True ∧
 True ∧
 True ∧
 True ∧
 True ∧
 True ∧
 True ∧
 True ∧
 True ∧
 True ∧
 True ∧
 True ∧
 True ∧
 True ∧
 True ∧
 True ∧
 True ∧
 True ∧
 True ∧
 True ∧
 True ∧
 True ∧
 True ∧
 True ∧
 True ∧
 True ∧
 True ∧
 True ∧
 True ∧
 True ∧
 True ∧
 True ∧
 True ∧
 True ∧
 True ∧
 True ∧
 True ∧
 (↑g_2.1.length :
 Int) =
 (↑g_2.1.length :
 Int) ∧
 g_3.2.2.2.1 =
 g_3.2.2.2.1 ∧
 true =
 true ∧
 ((True ∧
 True ∧
 True) ∧
 g_3.2.2.2.1.toNat =
 g_3.2.2.2.1.toNat) ∧
 g_2.1.getD
 g_3.2.2.2.1.toNat
 (0 :
 Int) =
 g_2.1.getD
 g_3.2.2.2.1.toNat
 (0 :
 Int) ∧
 True ∧
 g_2.1.getD
 g_3.2.2.2.1.toNat
 (0 :
 Int) =
 g_2.1.getD
 g_3.2.2.2.1.toNat
 (0 :
 Int) ∧
 ((True ∧
 True ∧
 True) ∧
 (g_2.1.getD
 g_3.2.2.2.1.toNat
 (0 :
 Int)).toNat =
 (g_2.1.getD
 g_3.2.2.2.1.toNat
 (0 :
 Int)).toNat) ∧
 g_3.2.1.getD
 (g_2.1.getD
 g_3.2.2.2.1.toNat
 (0 :
 Int)).toNat
 (0 :
 Int) =
 g_3.2.1.getD
 (g_2.1.getD
 g_3.2.2.2.1.toNat
 (0 :
 Int)).toNat
 (0 :
 Int) ∧
 g_3.2.1.getD
 (g_2.1.getD
 g_3.2.2.2.1.toNat
 (0 :
 Int)).toNat
 (0 :
 Int) -
 (1 :
 Int) =
 g_3.2.1.getD
 (g_2.1.getD
 g_3.2.2.2.1.toNat
 (0 :
 Int)).toNat
 (0 :
 Int) -
 (1 :
 Int) ∧
 ((True ∧
 True ∧
 True) ∧
 (g_2.1.getD
 g_3.2.2.2.1.toNat
 (0 :
 Int)).toNat =
 (g_2.1.getD
 g_3.2.2.2.1.toNat
 (0 :
 Int)).toNat) ∧
 True ∧
 g_2.1.getD
 g_3.2.2.2.1.toNat
 (0 :
 Int) =
 g_2.1.getD
 g_3.2.2.2.1.toNat
 (0 :
 Int) ∧
 ((True ∧
 True ∧
 True) ∧
 (g_2.1.getD
 g_3.2.2.2.1.toNat
 (0 :
 Int)).toNat =
 (g_2.1.getD
 g_3.2.2.2.1.toNat
 (0 :
 Int)).toNat) ∧
 g_3.2.2.1.getD
 (g_2.1.getD
 g_3.2.2.2.1.toNat
 (0 :
 Int)).toNat
 (0 :
 Int) =
 g_3.2.2.1.getD
 (g_2.1.getD
 g_3.2.2.2.1.toNat
 (0 :
 Int)).toNat
 (0 :
 Int) ∧
 g_3.2.2.1.getD
 (g_2.1.getD
 g_3.2.2.2.1.toNat
 (0 :
 Int)).toNat
 (0 :
 Int) +
 (1 :
 Int) =
 g_3.2.2.1.getD
 (g_2.1.getD
 g_3.2.2.2.1.toNat
 (0 :
 Int)).toNat
 (0 :
 Int) +
 (1 :
 Int) ∧
 ((True ∧
 True ∧
 True) ∧
 (g_2.1.getD
 g_3.2.2.2.1.toNat
 (0 :
 Int)).toNat =
 (g_2.1.getD
 g_3.2.2.2.1.toNat
 (0 :
 Int)).toNat) ∧
 True ∧
 g_2.1.getD
 g_3.2.2.2.1.toNat
 (0 :
 Int) =
 g_2.1.getD
 g_3.2.2.2.1.toNat
 (0 :
 Int) ∧
 ((True ∧
 True ∧
 True) ∧
 (g_2.1.getD
 g_3.2.2.2.1.toNat
 (0 :
 Int)).toNat =
 (g_2.1.getD
 g_3.2.2.2.1.toNat
 (0 :
 Int)).toNat) ∧
 (g_3.2.2.1.set
 (g_2.1.getD
 g_3.2.2.2.1.toNat
 (0 :
 Int)).toNat
 (g_3.2.2.1.getD
 (g_2.1.getD
 g_3.2.2.2.1.toNat
 (0 :
 Int)).toNat
 (0 :
 Int) +
 (1 :
 Int))).getD
 (g_2.1.getD
 g_3.2.2.2.1.toNat
 (0 :
 Int)).toNat
 (0 :
 Int) =
 (g_3.2.2.1.set
 (g_2.1.getD
 g_3.2.2.2.1.toNat
 (0 :
 Int)).toNat
 (g_3.2.2.1.getD
 (g_2.1.getD
 g_3.2.2.2.1.toNat
 (0 :
 Int)).toNat
 (0 :
 Int) +
 (1 :
 Int))).getD
 (g_2.1.getD
 g_3.2.2.2.1.toNat
 (0 :
 Int)).toNat
 (0 :
 Int) ∧
 x.2.1 =
 x.2.1 ∧
 (g_3.2.2.1.set
 (g_2.1.getD
 g_3.2.2.2.1.toNat
 (0 :
 Int)).toNat
 (g_3.2.2.1.getD
 (g_2.1.getD
 g_3.2.2.2.1.toNat
 (0 :
 Int)).toNat
 (0 :
 Int) +
 (1 :
 Int))).getD
 (g_2.1.getD
 g_3.2.2.2.1.toNat
 (0 :
 Int)).toNat
 (0 :
 Int) %
 x.2.1 =
 (g_3.2.2.1.set
 (g_2.1.getD
 g_3.2.2.2.1.toNat
 (0 :
 Int)).toNat
 (g_3.2.2.1.getD
 (g_2.1.getD
 g_3.2.2.2.1.toNat
 (0 :
 Int)).toNat
 (0 :
 Int) +
 (1 :
 Int))).getD
 (g_2.1.getD
 g_3.2.2.2.1.toNat
 (0 :
 Int)).toNat
 (0 :
 Int) %
 x.2.1 ∧
 true =
 true ∧
 True ∧
 True ∧
 True ∧
 True ∧
 g_2.1.getD
 g_3.2.2.2.1.toNat
 (0 :
 Int) =
 g_2.1.getD
 g_3.2.2.2.1.toNat
 (0 :
 Int) ∧
 True ∧
 True ∧
 True ∧
 True ∧
 True ∧
 True ∧
 True ∧
 True ∧
 True ∧
 True ∧
 True ∧
 True) ∧
 ∀ (g_4 : List Int × Int × Int × Unit),
 ((0 : Int) ≤ g_4.2.1 ∧
 g_4.2.1 ≤ g_4.2.2.1 ∧
 g_4.2.2.1 ≤ (↑g_3.1.length : Int)) ∧
 g_4.1.length = g_3.1.length ∧
 List.take g_4.2.1.toNat g_4.1 =
 List.filter
 (fun y ↦
 !decide
 (y =
 capK
 (some
 (g_2.1.getD
 g_3.2.2.2.1.toNat
 (0 : Int)))))
 (List.take g_4.2.2.1.toNat
 g_3.1) ∧
 List.drop g_4.2.2.1.toNat g_4.1 =
 List.drop g_4.2.2.1.toNat g_3.1 →
 (g_4.1.length ≤ (9223372036854775807 : Nat) ∧
 ∀ (x : Int),
 x ∈ g_4.1 →
 (-9223372036854775808 : Int) ≤ x ∧
 x ≤ (9223372036854775807 : Int)) ∧
 ((-9223372036854775808 : Int) ≤ g_4.2.1 ∧
 g_4.2.1 ≤
 (9223372036854775807 : Int)) ∧
 ((-9223372036854775808 : Int) ≤
 g_4.2.2.1 ∧
 g_4.2.2.1 ≤
 (9223372036854775807 : Int)) ∧
 True →
 (decide
 (g_4.2.2.1 <
 (↑g_4.1.length : Int)) =
 true →
 ((0 : Int) ≤ g_4.2.2.1 ∧
 g_4.2.2.1 <
 (↑g_4.1.length : Int)) ∧
 ((!g_4.1.getD g_4.2.2.1.toNat
 (0 : Int) ==
 g_2.1.getD
 g_3.2.2.2.1.toNat
 (0 : Int)) =
 true →
 ((0 : Int) ≤ g_4.2.1 ∧
 g_4.2.1 <
 (↑g_4.1.length : Int)) ∧
 ((-9223372036854775808 : Int) ≤
 g_4.2.1 + (1 : Int) ∧
 g_4.2.1 + (1 : Int) ≤
 (9223372036854775807 : Int)) ∧
 ((-9223372036854775808 : Int) ≤
 g_4.2.2.1 +
 (1 : Int) ∧
 g_4.2.2.1 + (1 : Int) ≤
 (9223372036854775807 :
 Int)) ∧
 ((((0 : Int) ≤
 g_4.2.1 +
 (1 : Int) ∧
 g_4.2.1 +
 (1 : Int) ≤
 g_4.2.2.1 +
 (1 : Int) ∧
 g_4.2.2.1 +
 (1 : Int) ≤
 (↑g_3.1.length :
 Int)) ∧
 (g_4.1.set
 g_4.2.1.toNat
 (g_4.1.getD
 g_4.2.2.1.toNat
 (0 :
 Int))).length =
 g_3.1.length ∧
 List.take
 (g_4.2.1 +
 (1 :
 Int)).toNat
 (g_4.1.set
 g_4.2.1.toNat
 (g_4.1.getD
 g_4.2.2.1.toNat
 (0 : Int))) =
 List.filter
 (fun y ↦
 !decide
 (y =
 capK
 (some
 (g_2.1.getD
 g_3.2.2.2.1.toNat
 (0 :
 Int)))))
 (List.take
 (g_4.2.2.1 +
 (1 :
 Int)).toNat
 g_3.1) ∧
 List.drop
 (g_4.2.2.1 +
 (1 :
 Int)).toNat
 (g_4.1.set
 g_4.2.1.toNat
 (g_4.1.getD
 g_4.2.2.1.toNat
 (0 : Int))) =
 List.drop
 (g_4.2.2.1 +
 (1 :
 Int)).toNat
 g_3.1) ∧
 ((↑g_3.1.length : Int) -
 (g_4.2.2.1 +
 (1 : Int))).toNat <
 ((↑g_3.1.length : Int) -
 g_4.2.2.1).toNat) ∧
 (True ∧
 True ∧
 g_4.2.1 +
 (1 : Int) =
 g_4.2.1 +
 (1 : Int) ∧
 g_4.2.2.1 +
 (1 : Int) =
 g_4.2.2.1 +
 (1 : Int) ∧
 True) ∧
 (g_4.1.set
 g_4.2.1.toNat
 (g_4.1.getD
 g_4.2.2.1.toNat
 (0 : Int)) =
 g_4.1.set
 g_4.2.1.toNat
 (g_4.1.getD
 g_4.2.2.1.toNat
 (0 : Int)) ∧
 g_3.1 = g_3.1 ∧
 g_3.2.1.set
 (g_2.1.getD
 g_3.2.2.2.1.toNat
 (0 :
 Int)).toNat
 (g_3.2.1.getD
 (g_2.1.getD
 g_3.2.2.2.1.toNat
 (0 :
 Int)).toNat
 (0 : Int) -
 (1 : Int)) =
 g_3.2.1.set
 (g_2.1.getD
 g_3.2.2.2.1.toNat
 (0 :
 Int)).toNat
 (g_3.2.1.getD
 (g_2.1.getD
 g_3.2.2.2.1.toNat
 (0 :
 Int)).toNat
 (0 : Int) -
 (1 : Int)) ∧
 g_3.2.2.1.set
 (g_2.1.getD
 g_3.2.2.2.1.toNat
 (0 :
 Int)).toNat
 (g_3.2.2.1.getD
 (g_2.1.getD
 g_3.2.2.2.1.toNat
 (0 :
 Int)).toNat
 (0 :
 Int) +
 (1 : Int)) =
 g_3.2.2.1.set
 (g_2.1.getD
 g_3.2.2.2.1.toNat
 (0 :
 Int)).toNat
 (g_3.2.2.1.getD
 (g_2.1.getD
 g_3.2.2.2.1.toNat
 (0 :
 Int)).toNat
 (0 :
 Int) +
 (1 : Int)) ∧
 g.2.2.2.1 =
 g.2.2.2.1 ∧
 g_2.1 =
 g_2.1 ∧
 (g_2.1.getD
 g_3.2.2.2.1.toNat
 (0 :
 Int) =
 g_2.1.getD
 g_3.2.2.2.1.toNat
 (0 :
 Int) ∧
 True) ∧
 g_2.1 =
 g_2.1 ∧
 (True ∧
 (True ∧
 True) ∧
 True) ∧
 ((0 :
 Int) ::
 ([] :
 List
 Int)).set
 (0 :
 Nat)
 (g_2.1.getD
 g_3.2.2.2.1.toNat
 (0 :
 Int)) =
 ((0 :
 Int) ::
 ([] :
 List
 Int)).set
 (0 :
 Nat)
 (g_2.1.getD
 g_3.2.2.2.1.toNat
 (0 :
 Int)) ∧
 True) ∧
 x.1 = x.1 ∧
 x.2.1 = x.2.1 ∧
 x.2.2.1 =
 x.2.2.1 ∧
 True ∧
 True ∧
 True ∧
 True ∧
 True ∧
 True ∧
 True ∧
 True ∧
 True ∧
 True ∧
 True ∧
 True ∧
 True ∧
 True ∧
 True ∧
 True ∧
 True ∧
 True ∧
 (True ∧
 True) ∧
 True ∧
 True ∧
 True ∧
 True ∧
 True ∧
 True ∧
 x.2.2.2.1 =
 x.2.2.2.1 ∧
 g.2.2.2.2.1 =
 g.2.2.2.2.1 ∧
 True ∧
 True ∧
 True ∧
 True ∧
 True ∧
 True ∧
 True ∧
 True ∧
 True ∧
 True ∧
 True ∧
 True ∧
 True ∧
 True ∧
 True ∧
 True ∧
 True ∧
 True ∧
 True ∧
 True ∧
 True ∧
 True ∧
 True ∧
 True ∧
 True ∧
 True ∧
 True ∧
 True ∧
 True ∧
 True ∧
 True ∧
 True ∧
 True ∧
 True ∧
 True ∧
 True ∧
 True ∧
 True ∧
 True ∧
 True ∧
 True ∧
 True ∧
 True ∧
 True ∧
 True ∧
 True ∧
 True ∧
 True ∧
 True ∧
 True ∧
 True ∧
 True ∧
 True ∧
 True ∧
 True ∧
 True ∧
 True ∧
 True ∧
 True ∧
 True ∧
 (↑g_2.1.length :
 Int) =
 (↑g_2.1.length :
 Int) ∧
 g_3.2.2.2.1 =
 g_3.2.2.2.1 ∧
 true =
 true ∧
 ((True ∧
 True ∧
 True) ∧
 g_3.2.2.2.1.toNat =
 g_3.2.2.2.1.toNat) ∧
 g_2.1.getD
 g_3.2.2.2.1.toNat
 (0 :
 Int) =
 g_2.1.getD
 g_3.2.2.2.1.toNat
 (0 :
 Int) ∧
 True ∧
 g_2.1.getD
 g_3.2.2.2.1.toNat
 (0 :
 Int) =
 g_2.1.getD
 g_3.2.2.2.1.toNat
 (0 :
 Int) ∧
 ((True ∧
 True ∧
 True) ∧
 (g_2.1.getD
 g_3.2.2.2.1.toNat
 (0 :
 Int)).toNat =
 (g_2.1.getD
 g_3.2.2.2.1.toNat
 (0 :
 Int)).toNat) ∧
 g_3.2.1.getD
 (g_2.1.getD
 g_3.2.2.2.1.toNat
 (0 :
 Int)).toNat
 (0 :
 Int) =
 g_3.2.1.getD
 (g_2.1.getD
 g_3.2.2.2.1.toNat
 (0 :
 Int)).toNat
 (0 :
 Int) ∧
 g_3.2.1.getD
 (g_2.1.getD
 g_3.2.2.2.1.toNat
 (0 :
 Int)).toNat
 (0 :
 Int) -
 (1 :
 Int) =
 g_3.2.1.getD
 (g_2.1.getD
 g_3.2.2.2.1.toNat
 (0 :
 Int)).toNat
 (0 :
 Int) -
 (1 :
 Int) ∧
 ((True ∧
 True ∧
 True) ∧
 (g_2.1.getD
 g_3.2.2.2.1.toNat
 (0 :
 Int)).toNat =
 (g_2.1.getD
 g_3.2.2.2.1.toNat
 (0 :
 Int)).toNat) ∧
 True ∧
 g_2.1.getD
 g_3.2.2.2.1.toNat
 (0 :
 Int) =
 g_2.1.getD
 g_3.2.2.2.1.toNat
 (0 :
 Int) ∧
 ((True ∧
 True ∧
 True) ∧
 (g_2.1.getD
 g_3.2.2.2.1.toNat
 (0 :
 Int)).toNat =
 (g_2.1.getD
 g_3.2.2.2.1.toNat
 (0 :
 Int)).toNat) ∧
 g_3.2.2.1.getD
 (g_2.1.getD
 g_3.2.2.2.1.toNat
 (0 :
 Int)).toNat
 (0 :
 Int) =
 g_3.2.2.1.getD
 (g_2.1.getD
 g_3.2.2.2.1.toNat
 (0 :
 Int)).toNat
 (0 :
 Int) ∧
 g_3.2.2.1.getD
 (g_2.1.getD
 g_3.2.2.2.1.toNat
 (0 :
 Int)).toNat
 (0 :
 Int) +
 (1 :
 Int) =
 g_3.2.2.1.getD
 (g_2.1.getD
 g_3.2.2.2.1.toNat
 (0 :
 Int)).toNat
 (0 :
 Int) +
 (1 :
 Int) ∧
 ((True ∧
 True ∧
 True) ∧
 (g_2.1.getD
 g_3.2.2.2.1.toNat
 (0 :
 Int)).toNat =
 (g_2.1.getD
 g_3.2.2.2.1.toNat
 (0 :
 Int)).toNat) ∧
 True ∧
 g_2.1.getD
 g_3.2.2.2.1.toNat
 (0 :
 Int) =
 g_2.1.getD
 g_3.2.2.2.1.toNat
 (0 :
 Int) ∧
 ((True ∧
 True ∧
 True) ∧
 (g_2.1.getD
 g_3.2.2.2.1.toNat
 (0 :
 Int)).toNat =
 (g_2.1.getD
 g_3.2.2.2.1.toNat
 (0 :
 Int)).toNat) ∧
 (g_3.2.2.1.set
 (g_2.1.getD
 g_3.2.2.2.1.toNat
 (0 :
 Int)).toNat
 (g_3.2.2.1.getD
 (g_2.1.getD
 g_3.2.2.2.1.toNat
 (0 :
 Int)).toNat
 (0 :
 Int) +
 (1 :
 Int))).getD
 (g_2.1.getD
 g_3.2.2.2.1.toNat
 (0 :
 Int)).toNat
 (0 :
 Int) =
 (g_3.2.2.1.set
 (g_2.1.getD
 g_3.2.2.2.1.toNat
 (0 :
 Int)).toNat
 (g_3.2.2.1.getD
 (g_2.1.getD
 g_3.2.2.2.1.toNat
 (0 :
 Int)).toNat
 (0 :
 Int) +
 (1 :
 Int))).getD
 (g_2.1.getD
 g_3.2.2.2.1.toNat
 (0 :
 Int)).toNat
 (0 :
 Int) ∧
 x.2.1 =
 x.2.1 ∧
 (g_3.2.2.1.set
 (g_2.1.getD
 g_3.2.2.2.1.toNat
 (0 :
 Int)).toNat
 (g_3.2.2.1.getD
 (g_2.1.getD
 g_3.2.2.2.1.toNat
 (0 :
 Int)).toNat
 (0 :
 Int) +
 (1 :
 Int))).getD
 (g_2.1.getD
 g_3.2.2.2.1.toNat
 (0 :
 Int)).toNat
 (0 :
 Int) %
 x.2.1 =
 (g_3.2.2.1.set
 (g_2.1.getD
 g_3.2.2.2.1.toNat
 (0 :
 Int)).toNat
 (g_3.2.2.1.getD
 (g_2.1.getD
 g_3.2.2.2.1.toNat
 (0 :
 Int)).toNat
 (0 :
 Int) +
 (1 :
 Int))).getD
 (g_2.1.getD
 g_3.2.2.2.1.toNat
 (0 :
 Int)).toNat
 (0 :
 Int) %
 x.2.1 ∧
 true =
 true ∧
 True ∧
 True ∧
 True ∧
 True ∧
 g_2.1.getD
 g_3.2.2.2.1.toNat
 (0 :
 Int) =
 g_2.1.getD
 g_3.2.2.2.1.toNat
 (0 :
 Int) ∧
 True ∧
 True ∧
 True ∧
 True ∧
 True ∧
 True ∧
 True ∧
 True ∧
 True ∧
 True ∧
 True ∧
 True) ∧
 ((!g_4.1.getD g_4.2.2.1.toNat
 (0 : Int) ==
 g_2.1.getD
 g_3.2.2.2.1.toNat
 (0 : Int)) =
 false →
 ((-9223372036854775808 : Int) ≤
 g_4.2.2.1 + (1 : Int) ∧
 g_4.2.2.1 + (1 : Int) ≤
 (9223372036854775807 : Int)) ∧
 ((((0 : Int) ≤ g_4.2.1 ∧
 g_4.2.1 ≤
 g_4.2.2.1 +
 (1 : Int) ∧
 g_4.2.2.1 +
 (1 : Int) ≤
 (↑g_3.1.length :
 Int)) ∧
 g_4.1.length =
 g_3.1.length ∧
 List.take g_4.2.1.toNat
 g_4.1 =
 List.filter
 (fun y ↦
 !decide
 (y =
 capK
 (some
 (g_2.1.getD
 g_3.2.2.2.1.toNat
 (0 :
 Int)))))
 (List.take
 (g_4.2.2.1 +
 (1 : Int)).toNat
 g_3.1) ∧
 List.drop
 (g_4.2.2.1 +
 (1 : Int)).toNat
 g_4.1 =
 List.drop
 (g_4.2.2.1 +
 (1 : Int)).toNat
 g_3.1) ∧
 ((↑g_3.1.length : Int) -
 (g_4.2.2.1 +
 (1 : Int))).toNat <
 ((↑g_3.1.length : Int) -
 g_4.2.2.1).toNat) ∧
 (True ∧
 True ∧
 g_4.2.1 = g_4.2.1 ∧
 g_4.2.2.1 +
 (1 : Int) =
 g_4.2.2.1 +
 (1 : Int) ∧
 True) ∧
 (g_4.1 = g_4.1 ∧
 g_3.1 = g_3.1 ∧
 g_3.2.1.set
 (g_2.1.getD
 g_3.2.2.2.1.toNat
 (0 : Int)).toNat
 (g_3.2.1.getD
 (g_2.1.getD
 g_3.2.2.2.1.toNat
 (0 :
 Int)).toNat
 (0 : Int) -
 (1 : Int)) =
 g_3.2.1.set
 (g_2.1.getD
 g_3.2.2.2.1.toNat
 (0 : Int)).toNat
 (g_3.2.1.getD
 (g_2.1.getD
 g_3.2.2.2.1.toNat
 (0 :
 Int)).toNat
 (0 : Int) -
 (1 : Int)) ∧
 g_3.2.2.1.set
 (g_2.1.getD
 g_3.2.2.2.1.toNat
 (0 :
 Int)).toNat
 (g_3.2.2.1.getD
 (g_2.1.getD
 g_3.2.2.2.1.toNat
 (0 :
 Int)).toNat
 (0 : Int) +
 (1 : Int)) =
 g_3.2.2.1.set
 (g_2.1.getD
 g_3.2.2.2.1.toNat
 (0 :
 Int)).toNat
 (g_3.2.2.1.getD
 (g_2.1.getD
 g_3.2.2.2.1.toNat
 (0 :
 Int)).toNat
 (0 : Int) +
 (1 : Int)) ∧
 g.2.2.2.1 =
 g.2.2.2.1 ∧
 g_2.1 = g_2.1 ∧
 (g_2.1.getD
 g_3.2.2.2.1.toNat
 (0 :
 Int) =
 g_2.1.getD
 g_3.2.2.2.1.toNat
 (0 :
 Int) ∧
 True) ∧
 g_2.1 =
 g_2.1 ∧
 (True ∧
 (True ∧
 True) ∧
 True) ∧
 ((0 :
 Int) ::
 ([] :
 List
 Int)).set
 (0 :
 Nat)
 (g_2.1.getD
 g_3.2.2.2.1.toNat
 (0 :
 Int)) =
 ((0 :
 Int) ::
 ([] :
 List
 Int)).set
 (0 :
 Nat)
 (g_2.1.getD
 g_3.2.2.2.1.toNat
 (0 :
 Int)) ∧
 True) ∧
 x.1 = x.1 ∧
 x.2.1 = x.2.1 ∧
 x.2.2.1 =
 x.2.2.1 ∧
 True ∧
 True ∧
 True ∧
 True ∧
 True ∧
 True ∧
 True ∧
 True ∧
 True ∧
 True ∧
 True ∧
 True ∧
 True ∧
 True ∧
 True ∧
 True ∧
 True ∧
 True ∧
 (True ∧
 True) ∧
 True ∧
 True ∧
 True ∧
 True ∧
 True ∧
 True ∧
 x.2.2.2.1 =
 x.2.2.2.1 ∧
 g.2.2.2.2.1 =
 g.2.2.2.2.1 ∧
 True ∧
 True ∧
 True ∧
 True ∧
 True ∧
 True ∧
 True ∧
 True ∧
 True ∧
 True ∧
 True ∧
 True ∧
 True ∧
 True ∧
 True ∧
 True ∧
 True ∧
 True ∧
 True ∧
 True ∧
 True ∧
 True ∧
 True ∧
 True ∧
 True ∧
 True ∧
 True ∧
 True ∧
 True ∧
 True ∧
 True ∧
 True ∧
 True ∧
 True ∧
 True ∧
 True ∧
 True ∧
 True ∧
 True ∧
 True ∧
 True ∧
 True ∧
 True ∧
 True ∧
 True ∧
 True ∧
 True ∧
 True ∧
 True ∧
 True ∧
 True ∧
 True ∧
 True ∧
 True ∧
 True ∧
 True ∧
 True ∧
 True ∧
 True ∧
 True ∧
 (↑g_2.1.length :
 Int) =
 (↑g_2.1.length :
 Int) ∧
 g_3.2.2.2.1 =
 g_3.2.2.2.1 ∧
 true =
 true ∧
 ((True ∧
 True ∧
 True) ∧
 g_3.2.2.2.1.toNat =
 g_3.2.2.2.1.toNat) ∧
 g_2.1.getD
 g_3.2.2.2.1.toNat
 (0 :
 Int) =
 g_2.1.getD
 g_3.2.2.2.1.toNat
 (0 :
 Int) ∧
 True ∧
 g_2.1.getD
 g_3.2.2.2.1.toNat
 (0 :
 Int) =
 g_2.1.getD
 g_3.2.2.2.1.toNat
 (0 :
 Int) ∧
 ((True ∧
 True ∧
 True) ∧
 (g_2.1.getD
 g_3.2.2.2.1.toNat
 (0 :
 Int)).toNat =
 (g_2.1.getD
 g_3.2.2.2.1.toNat
 (0 :
 Int)).toNat) ∧
 g_3.2.1.getD
 (g_2.1.getD
 g_3.2.2.2.1.toNat
 (0 :
 Int)).toNat
 (0 :
 Int) =
 g_3.2.1.getD
 (g_2.1.getD
 g_3.2.2.2.1.toNat
 (0 :
 Int)).toNat
 (0 :
 Int) ∧
 g_3.2.1.getD
 (g_2.1.getD
 g_3.2.2.2.1.toNat
 (0 :
 Int)).toNat
 (0 :
 Int) -
 (1 :
 Int) =
 g_3.2.1.getD
 (g_2.1.getD
 g_3.2.2.2.1.toNat
 (0 :
 Int)).toNat
 (0 :
 Int) -
 (1 :
 Int) ∧
 ((True ∧
 True ∧
 True) ∧
 (g_2.1.getD
 g_3.2.2.2.1.toNat
 (0 :
 Int)).toNat =
 (g_2.1.getD
 g_3.2.2.2.1.toNat
 (0 :
 Int)).toNat) ∧
 True ∧
 g_2.1.getD
 g_3.2.2.2.1.toNat
 (0 :
 Int) =
 g_2.1.getD
 g_3.2.2.2.1.toNat
 (0 :
 Int) ∧
 ((True ∧
 True ∧
 True) ∧
 (g_2.1.getD
 g_3.2.2.2.1.toNat
 (0 :
 Int)).toNat =
 (g_2.1.getD
 g_3.2.2.2.1.toNat
 (0 :
 Int)).toNat) ∧
 g_3.2.2.1.getD
 (g_2.1.getD
 g_3.2.2.2.1.toNat
 (0 :
 Int)).toNat
 (0 :
 Int) =
 g_3.2.2.1.getD
 (g_2.1.getD
 g_3.2.2.2.1.toNat
 (0 :
 Int)).toNat
 (0 :
 Int) ∧
 g_3.2.2.1.getD
 (g_2.1.getD
 g_3.2.2.2.1.toNat
 (0 :
 Int)).toNat
 (0 :
 Int) +
 (1 :
 Int) =
 g_3.2.2.1.getD
 (g_2.1.getD
 g_3.2.2.2.1.toNat
 (0 :
 Int)).toNat
 (0 :
 Int) +
 (1 :
 Int) ∧
 ((True ∧
 True ∧
 True) ∧
 (g_2.1.getD
 g_3.2.2.2.1.toNat
 (0 :
 Int)).toNat =
 (g_2.1.getD
 g_3.2.2.2.1.toNat
 (0 :
 Int)).toNat) ∧
 True ∧
 g_2.1.getD
 g_3.2.2.2.1.toNat
 (0 :
 Int) =
 g_2.1.getD
 g_3.2.2.2.1.toNat
 (0 :
 Int) ∧
 ((True ∧
 True ∧
 True) ∧
 (g_2.1.getD
 g_3.2.2.2.1.toNat
 (0 :
 Int)).toNat =
 (g_2.1.getD
 g_3.2.2.2.1.toNat
 (0 :
 Int)).toNat) ∧
 (g_3.2.2.1.set
 (g_2.1.getD
 g_3.2.2.2.1.toNat
 (0 :
 Int)).toNat
 (g_3.2.2.1.getD
 (g_2.1.getD
 g_3.2.2.2.1.toNat
 (0 :
 Int)).toNat
 (0 :
 Int) +
 (1 :
 Int))).getD
 (g_2.1.getD
 g_3.2.2.2.1.toNat
 (0 :
 Int)).toNat
 (0 :
 Int) =
 (g_3.2.2.1.set
 (g_2.1.getD
 g_3.2.2.2.1.toNat
 (0 :
 Int)).toNat
 (g_3.2.2.1.getD
 (g_2.1.getD
 g_3.2.2.2.1.toNat
 (0 :
 Int)).toNat
 (0 :
 Int) +
 (1 :
 Int))).getD
 (g_2.1.getD
 g_3.2.2.2.1.toNat
 (0 :
 Int)).toNat
 (0 :
 Int) ∧
 x.2.1 =
 x.2.1 ∧
 (g_3.2.2.1.set
 (g_2.1.getD
 g_3.2.2.2.1.toNat
 (0 :
 Int)).toNat
 (g_3.2.2.1.getD
 (g_2.1.getD
 g_3.2.2.2.1.toNat
 (0 :
 Int)).toNat
 (0 :
 Int) +
 (1 :
 Int))).getD
 (g_2.1.getD
 g_3.2.2.2.1.toNat
 (0 :
 Int)).toNat
 (0 :
 Int) %
 x.2.1 =
 (g_3.2.2.1.set
 (g_2.1.getD
 g_3.2.2.2.1.toNat
 (0 :
 Int)).toNat
 (g_3.2.2.1.getD
 (g_2.1.getD
 g_3.2.2.2.1.toNat
 (0 :
 Int)).toNat
 (0 :
 Int) +
 (1 :
 Int))).getD
 (g_2.1.getD
 g_3.2.2.2.1.toNat
 (0 :
 Int)).toNat
 (0 :
 Int) %
 x.2.1 ∧
 true =
 true ∧
 True ∧
 True ∧
 True ∧
 True ∧
 g_2.1.getD
 g_3.2.2.2.1.toNat
 (0 :
 Int) =
 g_2.1.getD
 g_3.2.2.2.1.toNat
 (0 :
 Int) ∧
 True ∧
 True ∧
 True ∧
 True ∧
 True ∧
 True ∧
 True ∧
 True ∧
 True ∧
 True ∧
 True ∧
 True)) ∧
 (decide
 (g_4.2.2.1 <
 (↑g_4.1.length : Int)) =
 false →
 (((0 : Int) ≤ g_4.2.1 ∧
 g_4.2.1 ≤
 (↑g_4.1.length : Int)) ∧
 (↑g_4.1.length : Int) ≤
 (↑g_4.1.length : Int)) ∧
 (((0 : Int) ≤ (0 : Int) ∧
 (0 : Int) ≤ g_4.2.1) ∧
 g_4.2.1 ≤
 (↑(List.take g_4.2.1.toNat
 g_4.1 ++
 (List.replicate
 ((↑g_4.1.length :
 Int).toNat -
 g_4.2.1.toNat)
 (0 : Int) ++
 List.drop
 (g_4.2.1.toNat +
 ((↑g_4.1.length :
 Int).toNat -
 g_4.2.1.toNat))
 g_4.1)).length :
 Int)) ∧
 ((List.drop (nat_lit 0)
 (List.take g_4.2.1.toNat
 (List.take
 g_4.2.1.toNat
 g_4.1 ++
 (List.replicate
 ((↑g_4.1.length :
 Int).toNat -
 g_4.2.1.toNat)
 (0 : Int) ++
 List.drop
 (g_4.2.1.toNat +
 ((↑g_4.1.length :
 Int).toNat -
 g_4.2.1.toNat))
 g_4.1)))).length +
 (((0 : Int) ::
 ([] : List Int)).set
 (0 : Nat)
 (g_2.1.getD
 g_3.2.2.2.1.toNat
 (0 : Int))).length ≤
 (9223372036854775807 : Nat) ∧
 ((List.drop (nat_lit 0)
 (List.take
 g_4.2.1.toNat
 (List.take
 g_4.2.1.toNat
 g_4.1 ++
 (List.replicate
 ((↑g_4.1.length :
 Int).toNat -
 g_4.2.1.toNat)
 (0 : Int) ++
 List.drop
 (g_4.2.1.toNat +
 ((↑g_4.1.length :
 Int).toNat -
 g_4.2.1.toNat))
 g_4.1)))).length +
 (((0 : Int) ::
 ([] :
 List Int)).set
 (0 : Nat)
 (g_2.1.getD
 g_3.2.2.2.1.toNat
 (0 : Int))).length +
 ((List.drop (nat_lit 0)
 (List.take
 g_4.2.1.toNat
 (List.take
 g_4.2.1.toNat
 g_4.1 ++
 (List.replicate
 ((↑g_4.1.length :
 Int).toNat -
 g_4.2.1.toNat)
 (0 : Int) ++
 List.drop
 (g_4.2.1.toNat +
 ((↑g_4.1.length :
 Int).toNat -
 g_4.2.1.toNat))
 g_4.1)))).length +
 (((0 : Int) ::
 ([] :
 List Int)).set
 (0 : Nat)
 (g_2.1.getD
 g_3.2.2.2.1.toNat
 (0 :
 Int))).length) /
 (4 : Nat) +
 (192 : Nat)) *
 (8 : Nat) ≤
 (281474976710656 : Nat)) ∧
 ((-9223372036854775808 : Int) ≤
 g_3.2.2.2.1 +
 (1 : Int) ∧
 g_3.2.2.2.1 + (1 : Int) ≤
 (9223372036854775807 : Int)) ∧
 (((0 : Int) ≤
 g_3.2.2.2.1 +
 (1 : Int) ∧
 g_3.2.2.2.1 +
 (1 : Int) ≤
 (↑g_2.1.length : Int) ∧
 (List.drop (nat_lit 0)
 (List.take
 g_4.2.1.toNat
 (List.take
 g_4.2.1.toNat
 g_4.1 ++
 (List.replicate
 ((↑g_4.1.length :
 Int).toNat -
 g_4.2.1.toNat)
 (0 : Int) ++
 List.drop
 (g_4.2.1.toNat +
 ((↑g_4.1.length :
 Int).toNat -
 g_4.2.1.toNat))
 g_4.1))) ++
 ((0 : Int) ::
 ([] :
 List Int)).set
 (0 : Nat)
 (g_2.1.getD
 g_3.2.2.2.1.toNat
 (0 : Int)),
 g_3.2.1.set
 (g_2.1.getD
 g_3.2.2.2.1.toNat
 (0 : Int)).toNat
 (g_3.2.1.getD
 (g_2.1.getD
 g_3.2.2.2.1.toNat
 (0 :
 Int)).toNat
 (0 : Int) -
 (1 : Int)),
 g_3.2.2.1.set
 (g_2.1.getD
 g_3.2.2.2.1.toNat
 (0 : Int)).toNat
 (g_3.2.2.1.getD
 (g_2.1.getD
 g_3.2.2.2.1.toNat
 (0 :
 Int)).toNat
 (0 : Int) +
 (1 : Int))) =
 List.foldl (stA x.2.1)
 (g_1.1, g_1.2.1,
 g.2.2.1)
 (List.take
 (g_3.2.2.2.1 +
 (1 : Int)).toNat
 g_2.1)) ∧
 ((↑g_2.1.length : Int) -
 (g_3.2.2.2.1 +
 (1 : Int))).toNat <
 ((↑g_2.1.length : Int) -
 g_3.2.2.2.1).toNat) ∧
 (x.1 = x.1 ∧
 x.2.1 = x.2.1 ∧
 x.2.2.1 =
 x.2.2.1 ∧
 True ∧
 True ∧
 True ∧
 True ∧
 True ∧
 x.2.2.2.1 =
 x.2.2.2.1 ∧
 g.2.2.2.2.1 =
 g.2.2.2.2.1 ∧
 True ∧
 (↑g_2.1.length :
 Int) =
 (↑g_2.1.length :
 Int) ∧
 g_3.2.2.2.1 +
 (1 :
 Int) =
 g_3.2.2.2.1 +
 (1 :
 Int) ∧
 True) ∧
 (List.drop (nat_lit 0)
 (List.take
 g_4.2.1.toNat
 (List.take
 g_4.2.1.toNat
 g_4.1 ++
 (List.replicate
 ((↑g_4.1.length :
 Int).toNat -
 g_4.2.1.toNat)
 (0 : Int) ++
 List.drop
 (g_4.2.1.toNat +
 ((↑g_4.1.length :
 Int).toNat -
 g_4.2.1.toNat))
 g_4.1))) ++
 ((0 : Int) ::
 ([] :
 List Int)).set
 (0 : Nat)
 (g_2.1.getD
 g_3.2.2.2.1.toNat
 (0 : Int)) =
 List.drop (nat_lit 0)
 (List.take
 g_4.2.1.toNat
 (List.take
 g_4.2.1.toNat
 g_4.1 ++
 (List.replicate
 ((↑g_4.1.length :
 Int).toNat -
 g_4.2.1.toNat)
 (0 : Int) ++
 List.drop
 (g_4.2.1.toNat +
 ((↑g_4.1.length :
 Int).toNat -
 g_4.2.1.toNat))
 g_4.1))) ++
 ((0 : Int) ::
 ([] :
 List Int)).set
 (0 : Nat)
 (g_2.1.getD
 g_3.2.2.2.1.toNat
 (0 : Int)) ∧
 g_3.2.1.set
 (g_2.1.getD
 g_3.2.2.2.1.toNat
 (0 : Int)).toNat
 (g_3.2.1.getD
 (g_2.1.getD
 g_3.2.2.2.1.toNat
 (0 :
 Int)).toNat
 (0 : Int) -
 (1 : Int)) =
 g_3.2.1.set
 (g_2.1.getD
 g_3.2.2.2.1.toNat
 (0 : Int)).toNat
 (g_3.2.1.getD
 (g_2.1.getD
 g_3.2.2.2.1.toNat
 (0 :
 Int)).toNat
 (0 : Int) -
 (1 : Int)) ∧
 g_3.2.2.1.set
 (g_2.1.getD
 g_3.2.2.2.1.toNat
 (0 : Int)).toNat
 (g_3.2.2.1.getD
 (g_2.1.getD
 g_3.2.2.2.1.toNat
 (0 :
 Int)).toNat
 (0 : Int) +
 (1 : Int)) =
 g_3.2.2.1.set
 (g_2.1.getD
 g_3.2.2.2.1.toNat
 (0 : Int)).toNat
 (g_3.2.2.1.getD
 (g_2.1.getD
 g_3.2.2.2.1.toNat
 (0 :
 Int)).toNat
 (0 : Int) +
 (1 : Int)) ∧
 g.2.2.2.1 =
 g.2.2.2.1 ∧
 g_2.1 = g_2.1 ∧
 g_2.1 = g_2.1 ∧
 True) ∧
 True))) ∧
 True) ∧
 (((g_3.2.2.1.set
 (g_2.1.getD g_3.2.2.2.1.toNat (0 : Int)).toNat
 (g_3.2.2.1.getD
 (g_2.1.getD g_3.2.2.2.1.toNat (0 : Int)).toNat
 (0 : Int) +
 (1 : Int))).getD
 (g_2.1.getD g_3.2.2.2.1.toNat (0 : Int)).toNat
 (0 : Int) %
 x.2.1 ==
 (0 : Int)) =
 false →
 ((-9223372036854775808 : Int) ≤ g_3.2.2.2.1 + (1 : Int) ∧
 g_3.2.2.2.1 + (1 : Int) ≤ (9223372036854775807 : Int)) ∧
 (((0 : Int) ≤ g_3.2.2.2.1 + (1 : Int) ∧
 g_3.2.2.2.1 + (1 : Int) ≤ (↑g_2.1.length : Int) ∧
 (g_3.1,
 g_3.2.1.set
 (g_2.1.getD g_3.2.2.2.1.toNat (0 : Int)).toNat
 (g_3.2.1.getD
 (g_2.1.getD g_3.2.2.2.1.toNat
 (0 : Int)).toNat
 (0 : Int) -
 (1 : Int)),
 g_3.2.2.1.set
 (g_2.1.getD g_3.2.2.2.1.toNat (0 : Int)).toNat
 (g_3.2.2.1.getD
 (g_2.1.getD g_3.2.2.2.1.toNat
 (0 : Int)).toNat
 (0 : Int) +
 (1 : Int))) =
 List.foldl (stA x.2.1)
 (g_1.1, g_1.2.1, g.2.2.1)
 (List.take (g_3.2.2.2.1 + (1 : Int)).toNat
 g_2.1)) ∧
 ((↑g_2.1.length : Int) -
 (g_3.2.2.2.1 + (1 : Int))).toNat <
 ((↑g_2.1.length : Int) - g_3.2.2.2.1).toNat) ∧
 (x.1 = x.1 ∧
 x.2.1 = x.2.1 ∧
 x.2.2.1 = x.2.2.1 ∧
 True ∧
 True ∧
 True ∧
 True ∧
 True ∧
 x.2.2.2.1 = x.2.2.2.1 ∧
 g.2.2.2.2.1 = g.2.2.2.2.1 ∧
 True ∧
 (↑g_2.1.length : Int) =
 (↑g_2.1.length : Int) ∧
 g_3.2.2.2.1 + (1 : Int) =
 g_3.2.2.2.1 + (1 : Int) ∧
 True) ∧
 (g_3.1 = g_3.1 ∧
 g_3.2.1.set
 (g_2.1.getD g_3.2.2.2.1.toNat (0 : Int)).toNat
 (g_3.2.1.getD
 (g_2.1.getD g_3.2.2.2.1.toNat
 (0 : Int)).toNat
 (0 : Int) -
 (1 : Int)) =
 g_3.2.1.set
 (g_2.1.getD g_3.2.2.2.1.toNat (0 : Int)).toNat
 (g_3.2.1.getD
 (g_2.1.getD g_3.2.2.2.1.toNat
 (0 : Int)).toNat
 (0 : Int) -
 (1 : Int)) ∧
 g_3.2.2.1.set
 (g_2.1.getD g_3.2.2.2.1.toNat (0 : Int)).toNat
 (g_3.2.2.1.getD
 (g_2.1.getD g_3.2.2.2.1.toNat
 (0 : Int)).toNat
 (0 : Int) +
 (1 : Int)) =
 g_3.2.2.1.set
 (g_2.1.getD g_3.2.2.2.1.toNat (0 : Int)).toNat
 (g_3.2.2.1.getD
 (g_2.1.getD g_3.2.2.2.1.toNat
 (0 : Int)).toNat
 (0 : Int) +
 (1 : Int)) ∧
 g.2.2.2.1 = g.2.2.2.1 ∧
 g_2.1 = g_2.1 ∧ g_2.1 = g_2.1 ∧ True) ∧
 True)) ∧
 (decide (g_3.2.2.2.1 < (↑g_2.1.length : Int)) = false →
 Holds (g_2.1.length.le (400 : Nat)) ∧
 ((True ∧ True) ∧ g_2.1 = g_2.1 ∧ True) ∧
 (g.2.2.2.1.length +
 ((([] : List Int) :: ([] : List (List Int))).set (0 : Nat) (sortI g_2.1)).length ≤
 (9223372036854775807 : Nat) ∧
 (g.2.2.2.1.length +
 ((([] : List Int) :: ([] : List (List Int))).set (0 : Nat)
 (sortI g_2.1)).length +
 (g.2.2.2.1.length +
 ((([] : List Int) :: ([] : List (List Int))).set (0 : Nat)
 (sortI g_2.1)).length) /
 (4 : Nat) +
 (192 : Nat)) *
 (24 : Nat) ≤
 (281474976710656 : Nat)) ∧
 ((-9223372036854775808 : Int) ≤ g.2.2.2.2.1 + (1 : Int) ∧
 g.2.2.2.2.1 + (1 : Int) ≤ (9223372036854775807 : Int)) ∧
 (((0 : Int) ≤ g.2.2.2.2.1 + (1 : Int) ∧
 g.2.2.2.2.1 + (1 : Int) ≤ x.2.2.2.1 ∧
 nst x.1 x.2.1 x.2.2.1 (g.2.2.2.2.1 + (1 : Int)).toNat =
 ((g_3.1, g_3.2.1, g_3.2.2.1),
 g.2.2.2.1 ++
 (([] : List Int) :: ([] : List (List Int))).set (0 : Nat)
 (sortI g_2.1))) ∧
 (x.2.2.2.1 - (g.2.2.2.2.1 + (1 : Int))).toNat <
 (x.2.2.2.1 - g.2.2.2.2.1).toNat) ∧
 (x.1 = x.1 ∧
 x.2.1 = x.2.1 ∧
 x.2.2.1 = x.2.2.1 ∧
 True ∧
 True ∧
 True ∧
 True ∧
 x.2.2.2.1 = x.2.2.2.1 ∧
 g.2.2.2.2.1 + (1 : Int) =
 g.2.2.2.2.1 + (1 : Int) ∧
 True) ∧
 (g_3.1 = g_3.1 ∧
 g_3.2.1 = g_3.2.1 ∧
 g_3.2.2.1 = g_3.2.2.1 ∧
 g.2.2.2.1 ++
 (([] : List Int) :: ([] : List (List Int))).set (0 : Nat)
 (sortI g_2.1) =
 g.2.2.2.1 ++
 (([] : List Int) :: ([] : List (List Int))).set (0 : Nat)
 (sortI g_2.1) ∧
 True) ∧
 True)))) ∧
 (decide (g.2.2.2.2.1 < x.2.2.2.1) = false → g.2.2.2.1 = nrun x.1 x.2.1 x.2.2.1 x.2.2.2.1)

theorem E_nrun_eq (x : HL (cNrun : Ctr).as) : vc (fx_nrun x) 4 27 Try.f27 (cNrun) x = E_nrun x := by kernel_rfl

end Go.Proofs.Ytpnmfoojmodnlaa.Cores
