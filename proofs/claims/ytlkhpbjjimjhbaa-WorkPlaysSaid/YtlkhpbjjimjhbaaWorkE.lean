/-
  The conditions that the executor comes to, written out (by a tool of ours), and that they are the conditions (by the kernel).
-/
import Derived.Test.YtlkhpbjjimjhbaaWorkC
namespace Go.Proofs.Ytlkhpbjjimjhbaa.Work
open Go.Sx
set_option maxRecDepth 100000

def E_index (x : List Int × Int × Unit) : Prop :=
 ((((0 : Int) ≤ (0 : Int) ∧ (0 : Int) ≤ (↑x.fst.length : Int) ∧ List.idxOf? x.snd.fst (List.take (Int.toNat (0 : Int)) x.fst) = none) ∧ True) ∧
 (x.fst = x.fst ∧ x.snd.fst = x.snd.fst ∧ (↑x.fst.length : Int) = (↑x.fst.length : Int) ∧ (0 : Int) = (0 : Int) ∧ True) ∧ True ∧ True) ∧
 ∀ (g : Int × Unit),
 (0 : Int) ≤ g.fst ∧ g.fst ≤ (↑x.fst.length : Int) ∧ List.idxOf? x.snd.fst (List.take g.fst.toNat x.fst) = none →
 ((-9223372036854775808 : Int) ≤ g.fst ∧ g.fst ≤ (9223372036854775807 : Int)) ∧ True →
 (decide (g.fst < (↑x.fst.length : Int)) = true →
 ((0 : Int) ≤ g.fst ∧ g.fst < (↑x.fst.length : Int)) ∧
 ((x.snd.fst == x.fst.getD g.fst.toNat (0 : Int)) = true → g.fst = idx x.fst x.snd.fst) ∧
 ((x.snd.fst == x.fst.getD g.fst.toNat (0 : Int)) = false →
 ((-9223372036854775808 : Int) ≤ g.fst + (1 : Int) ∧ g.fst + (1 : Int) ≤ (9223372036854775807 : Int)) ∧
 (((0 : Int) ≤ g.fst + (1 : Int) ∧
 g.fst + (1 : Int) ≤ (↑x.fst.length : Int) ∧ List.idxOf? x.snd.fst (List.take (g.fst + (1 : Int)).toNat x.fst) = none) ∧
 ((↑x.fst.length : Int) - (g.fst + (1 : Int))).toNat < ((↑x.fst.length : Int) - g.fst).toNat) ∧
 (x.fst = x.fst ∧
 x.snd.fst = x.snd.fst ∧ (↑x.fst.length : Int) = (↑x.fst.length : Int) ∧ g.fst + (1 : Int) = g.fst + (1 : Int) ∧ True) ∧
 True ∧ True)) ∧
 (decide (g.fst < (↑x.fst.length : Int)) = false → (-1 : Int) = idx x.fst x.snd.fst)

theorem E_index_eq (x : HL (cIndex : Ctr).as) : vc (fx_index x) 1 50 Try.f50 (cIndex) x = E_index x := by kernel_rfl

def E_contains (x : List Int × Int × Unit) : Prop :=
 Holds True ∧ decide ((0 : Int) ≤ idx x.fst x.snd.fst) = decide ((0 : Int) ≤ idx x.fst x.snd.fst)

theorem E_contains_eq (x : HL (cContains : Ctr).as) : vc (fx_contains x) 1 79 Try.f79 (cContains) x = E_contains x := by kernel_rfl

def E_clone (x : List Int × Unit) : Prop :=
 ∀ (b : Bool),
 (b = true → x.fst = ([] : List Int)) →
 (b = true → ([] : List Int) = x.fst) ∧
 (b = false →
 (([] : List Int).length + x.fst.length ≤ (9223372036854775807 : Nat) ∧
 (([] : List Int).length + x.fst.length + (([] : List Int).length + x.fst.length) / (4 : Nat) + (192 : Nat)) * (8 : Nat) ≤
 (281474976710656 : Nat)) ∧
 ([] : List Int) ++ x.fst = x.fst)

theorem E_clone_eq (x : HL (cClone : Ctr).as) : vc (fx_clone x) 1 49 Try.f49 (cClone) x = E_clone x := by kernel_rfl

def E_equal (x : List Int × List Int × Unit) : Prop :=
 (((↑x.fst.length : Int) != (↑x.snd.fst.length : Int)) = true → false = decide (x.fst = x.snd.fst)) ∧
 (((↑x.fst.length : Int) != (↑x.snd.fst.length : Int)) = false →
 ((((0 : Int) ≤ (0 : Int) ∧
 (0 : Int) ≤ (↑x.fst.length : Int) ∧ List.take (Int.toNat (0 : Int)) x.fst = List.take (Int.toNat (0 : Int)) x.snd.fst) ∧
 True) ∧
 (x.fst = x.fst ∧ x.snd.fst = x.snd.fst ∧ (↑x.fst.length : Int) = (↑x.fst.length : Int) ∧ (0 : Int) = (0 : Int) ∧ True) ∧ True ∧ True) ∧
 ∀ (g : Int × Unit),
 (0 : Int) ≤ g.fst ∧ g.fst ≤ (↑x.fst.length : Int) ∧ List.take g.fst.toNat x.fst = List.take g.fst.toNat x.snd.fst →
 ((-9223372036854775808 : Int) ≤ g.fst ∧ g.fst ≤ (9223372036854775807 : Int)) ∧ True →
 (decide (g.fst < (↑x.fst.length : Int)) = true →
 ((0 : Int) ≤ g.fst ∧ g.fst < (↑x.fst.length : Int)) ∧
 ((0 : Int) ≤ g.fst ∧ g.fst < (↑x.snd.fst.length : Int)) ∧
 ((x.fst.getD g.fst.toNat (0 : Int) != x.snd.fst.getD g.fst.toNat (0 : Int)) = true → false = decide (x.fst = x.snd.fst)) ∧
 ((x.fst.getD g.fst.toNat (0 : Int) != x.snd.fst.getD g.fst.toNat (0 : Int)) = false →
 ((-9223372036854775808 : Int) ≤ g.fst + (1 : Int) ∧ g.fst + (1 : Int) ≤ (9223372036854775807 : Int)) ∧
 (((0 : Int) ≤ g.fst + (1 : Int) ∧
 g.fst + (1 : Int) ≤ (↑x.fst.length : Int) ∧
 List.take (g.fst + (1 : Int)).toNat x.fst = List.take (g.fst + (1 : Int)).toNat x.snd.fst) ∧
 ((↑x.fst.length : Int) - (g.fst + (1 : Int))).toNat < ((↑x.fst.length : Int) - g.fst).toNat) ∧
 (x.fst = x.fst ∧
 x.snd.fst = x.snd.fst ∧
 (↑x.fst.length : Int) = (↑x.fst.length : Int) ∧ g.fst + (1 : Int) = g.fst + (1 : Int) ∧ True) ∧
 True ∧ True)) ∧
 (decide (g.fst < (↑x.fst.length : Int)) = false → true = decide (x.fst = x.snd.fst)))

theorem E_equal_eq (x : HL (cEqual : Ctr).as) : vc (fx_equal x) 1 17 Try.f17 (cEqual) x = E_equal x := by kernel_rfl

def E_equali (x : List Int × List Int × Unit) : Prop :=
 (((↑x.fst.length : Int) != (↑x.snd.fst.length : Int)) = true → false = decide (x.fst = x.snd.fst)) ∧
 (((↑x.fst.length : Int) != (↑x.snd.fst.length : Int)) = false →
 ((((0 : Int) ≤ (0 : Int) ∧
 (0 : Int) ≤ (↑x.fst.length : Int) ∧ List.take (Int.toNat (0 : Int)) x.fst = List.take (Int.toNat (0 : Int)) x.snd.fst) ∧
 True) ∧
 (x.fst = x.fst ∧ x.snd.fst = x.snd.fst ∧ (↑x.fst.length : Int) = (↑x.fst.length : Int) ∧ (0 : Int) = (0 : Int) ∧ True) ∧ True ∧ True) ∧
 ∀ (g : Int × Unit),
 (0 : Int) ≤ g.fst ∧ g.fst ≤ (↑x.fst.length : Int) ∧ List.take g.fst.toNat x.fst = List.take g.fst.toNat x.snd.fst →
 ((-9223372036854775808 : Int) ≤ g.fst ∧ g.fst ≤ (9223372036854775807 : Int)) ∧ True →
 (decide (g.fst < (↑x.fst.length : Int)) = true →
 ((0 : Int) ≤ g.fst ∧ g.fst < (↑x.fst.length : Int)) ∧
 ((0 : Int) ≤ g.fst ∧ g.fst < (↑x.snd.fst.length : Int)) ∧
 ((x.fst.getD g.fst.toNat (0 : Int) != x.snd.fst.getD g.fst.toNat (0 : Int)) = true → false = decide (x.fst = x.snd.fst)) ∧
 ((x.fst.getD g.fst.toNat (0 : Int) != x.snd.fst.getD g.fst.toNat (0 : Int)) = false →
 ((-9223372036854775808 : Int) ≤ g.fst + (1 : Int) ∧ g.fst + (1 : Int) ≤ (9223372036854775807 : Int)) ∧
 (((0 : Int) ≤ g.fst + (1 : Int) ∧
 g.fst + (1 : Int) ≤ (↑x.fst.length : Int) ∧
 List.take (g.fst + (1 : Int)).toNat x.fst = List.take (g.fst + (1 : Int)).toNat x.snd.fst) ∧
 ((↑x.fst.length : Int) - (g.fst + (1 : Int))).toNat < ((↑x.fst.length : Int) - g.fst).toNat) ∧
 (x.fst = x.fst ∧
 x.snd.fst = x.snd.fst ∧
 (↑x.fst.length : Int) = (↑x.fst.length : Int) ∧ g.fst + (1 : Int) = g.fst + (1 : Int) ∧ True) ∧
 True ∧ True)) ∧
 (decide (g.fst < (↑x.fst.length : Int)) = false → true = decide (x.fst = x.snd.fst)))

theorem E_equali_eq (x : HL (cEqual : Ctr).as) : vc (fx_equali x) 1 18 Try.f18 (cEqual) x = E_equali x := by kernel_rfl

def E_play (x : List (Int × Int) × Unit) : Prop :=
 (decide ((400 : Int) < (↑x.fst.length : Int)) = true →
 ([] : List Int) = (play x.fst).fst ∧
 ([] : List Int) = (play x.fst).snd.fst ∧
 ([] : List Int) = (play x.fst).snd.snd.fst ∧ (0 : Int) = (play x.fst).snd.snd.snd.fst ∧ (2 : Int) = (play x.fst).snd.snd.snd.snd.fst) ∧
 (decide ((400 : Int) < (↑x.fst.length : Int)) = false →
 ((((0 : Int) ≤ (0 : Int) ∧
 (0 : Int) ≤ (↑x.fst.length : Int) ∧
 pl (List.take (Int.toNat (0 : Int)) x.fst) = ((([] : List Int), (-1 : Int), ([] : List Int)), ([] : List Int)) ∧
 good (([] : List Int), (-1 : Int), ([] : List Int)) (0 : Int) ∧ (↑([] : List Int).length : Int) = (0 : Int)) ∧
 True) ∧
 ((True ∧ True) ∧ True ∧ x.fst = x.fst ∧ (↑x.fst.length : Int) = (↑x.fst.length : Int) ∧ (0 : Int) = (0 : Int) ∧ True) ∧
 ((True ∧ (-1 : Int) = (-1 : Int) ∧ True ∧ True) ∧
 ([] : List Int) = ([] : List Int) ∧ ([] : List Int) = ([] : List Int) ∧ ([] : List Int) = ([] : List Int) ∧ True) ∧
 True) ∧
 ∀ (g : (List Int × Int × List Int) × List Int × Int × Unit),
 (0 : Int) ≤ g.snd.snd.fst ∧
 g.snd.snd.fst ≤ (↑x.fst.length : Int) ∧
 pl (List.take g.snd.snd.fst.toNat x.fst) = (g.fst, g.snd.fst) ∧ good g.fst g.snd.snd.fst ∧ (↑g.snd.fst.length : Int) = g.snd.snd.fst →
 ((g.fst.fst.length ≤ (9223372036854775807 : Nat) ∧
 ∀ (x : Int), x ∈ g.fst.fst → (-9223372036854775808 : Int) ≤ x ∧ x ≤ (9223372036854775807 : Int)) ∧
 ((-9223372036854775808 : Int) ≤ g.fst.snd.fst ∧ g.fst.snd.fst ≤ (9223372036854775807 : Int)) ∧
 g.fst.snd.snd.length ≤ (9223372036854775807 : Nat) ∧
 ∀ (x : Int), x ∈ g.fst.snd.snd → (-9223372036854775808 : Int) ≤ x ∧ x ≤ (9223372036854775807 : Int)) ∧
 (g.snd.fst.length ≤ (9223372036854775807 : Nat) ∧
 ∀ (x : Int), x ∈ g.snd.fst → (-9223372036854775808 : Int) ≤ x ∧ x ≤ (9223372036854775807 : Int)) ∧
 ((-9223372036854775808 : Int) ≤ g.snd.snd.fst ∧ g.snd.snd.fst ≤ (9223372036854775807 : Int)) ∧ True →
 (decide (g.snd.snd.fst < (↑x.fst.length : Int)) = true →
 ((0 : Int) ≤ g.snd.snd.fst ∧ g.snd.snd.fst < (↑x.fst.length : Int)) ∧
 ((!decide ((x.fst.getD g.snd.snd.fst.toNat ((0 : Int), (0 : Int))).fst < (1 : Int))) = true →
 (!decide ((x.fst.getD g.snd.snd.fst.toNat ((0 : Int), (0 : Int))).fst < (1 : Int))) = true) ∧
 ((!decide ((x.fst.getD g.snd.snd.fst.toNat ((0 : Int), (0 : Int))).fst < (1 : Int))) = true →
 (!decide ((x.fst.getD g.snd.snd.fst.toNat ((0 : Int), (0 : Int))).fst < (1 : Int))) = true) ∧
 (decide ((x.fst.getD g.snd.snd.fst.toNat ((0 : Int), (0 : Int))).fst < (1 : Int)) = false →
 (!decide ((x.fst.getD g.snd.snd.fst.toNat ((0 : Int), (0 : Int))).fst < (1 : Int))) = true) ∧
 ((decide ((x.fst.getD g.snd.snd.fst.toNat ((0 : Int), (0 : Int))).fst < (1 : Int)) ||
 decide ((5 : Int) < (x.fst.getD g.snd.snd.fst.toNat ((0 : Int), (0 : Int))).fst)) =
 true →
 (g.snd.fst.length + (((0 : Int) :: ([] : List Int)).set (0 : Nat) (5 : Int)).length ≤ (9223372036854775807 : Nat) ∧
 (g.snd.fst.length + (((0 : Int) :: ([] : List Int)).set (0 : Nat) (5 : Int)).length +
 (g.snd.fst.length + (((0 : Int) :: ([] : List Int)).set (0 : Nat) (5 : Int)).length) / (4 : Nat) +
 (192 : Nat)) *
 (8 : Nat) ≤
 (281474976710656 : Nat)) ∧
 ((-9223372036854775808 : Int) ≤ g.snd.snd.fst + (1 : Int) ∧ g.snd.snd.fst + (1 : Int) ≤ (9223372036854775807 : Int)) ∧
 (((0 : Int) ≤ g.snd.snd.fst + (1 : Int) ∧
 g.snd.snd.fst + (1 : Int) ≤ (↑x.fst.length : Int) ∧
 pl (List.take (g.snd.snd.fst + (1 : Int)).toNat x.fst) =
 ((g.fst.fst, g.fst.snd.fst, g.fst.snd.snd),
 g.snd.fst ++ ((0 : Int) :: ([] : List Int)).set (0 : Nat) (5 : Int)) ∧
 good (g.fst.fst, g.fst.snd.fst, g.fst.snd.snd) (g.snd.snd.fst + (1 : Int)) ∧
 (↑(g.snd.fst ++ ((0 : Int) :: ([] : List Int)).set (0 : Nat) (5 : Int)).length : Int) =
 g.snd.snd.fst + (1 : Int)) ∧
 ((↑x.fst.length : Int) - (g.snd.snd.fst + (1 : Int))).toNat < ((↑x.fst.length : Int) - g.snd.snd.fst).toNat) ∧
 ((True ∧ True) ∧
 True ∧
 x.fst = x.fst ∧
 (↑x.fst.length : Int) = (↑x.fst.length : Int) ∧
 g.snd.snd.fst + (1 : Int) = g.snd.snd.fst + (1 : Int) ∧ True) ∧
 ((True ∧ g.fst.snd.fst = g.fst.snd.fst ∧ True ∧ True) ∧
 g.fst.fst = g.fst.fst ∧
 g.fst.snd.snd = g.fst.snd.snd ∧
 g.snd.fst ++ ((0 : Int) :: ([] : List Int)).set (0 : Nat) (5 : Int) =
 g.snd.fst ++ ((0 : Int) :: ([] : List Int)).set (0 : Nat) (5 : Int) ∧
 True) ∧
 True) ∧
 ((decide ((x.fst.getD g.snd.snd.fst.toNat ((0 : Int), (0 : Int))).fst < (1 : Int)) ||
 decide ((5 : Int) < (x.fst.getD g.snd.snd.fst.toNat ((0 : Int), (0 : Int))).fst)) =
 false →
 (((x.fst.getD g.snd.snd.fst.toNat ((0 : Int), (0 : Int))).fst != (2 : Int)) = true →
 ((x.fst.getD g.snd.snd.fst.toNat ((0 : Int), (0 : Int))).fst != (2 : Int)) = true) ∧
 (((x.fst.getD g.snd.snd.fst.toNat ((0 : Int), (0 : Int))).fst != (2 : Int)) = true →
 ((x.fst.getD g.snd.snd.fst.toNat ((0 : Int), (0 : Int))).fst != (2 : Int)) = true) ∧
 (((x.fst.getD g.snd.snd.fst.toNat ((0 : Int), (0 : Int))).fst != (2 : Int)) = true →
 ((x.fst.getD g.snd.snd.fst.toNat ((0 : Int), (0 : Int))).fst != (2 : Int)) = true) ∧
 (((x.fst.getD g.snd.snd.fst.toNat ((0 : Int), (0 : Int))).fst != (2 : Int) &&
 (x.fst.getD g.snd.snd.fst.toNat ((0 : Int), (0 : Int))).fst != (3 : Int)) =
 true →
 ((x.fst.getD g.snd.snd.fst.toNat ((0 : Int), (0 : Int))).fst != (2 : Int) &&
 (x.fst.getD g.snd.snd.fst.toNat ((0 : Int), (0 : Int))).fst != (3 : Int)) =
 true) ∧
 (((x.fst.getD g.snd.snd.fst.toNat ((0 : Int), (0 : Int))).fst != (2 : Int) &&
 (x.fst.getD g.snd.snd.fst.toNat ((0 : Int), (0 : Int))).fst != (3 : Int)) =
 true →
 ((x.fst.getD g.snd.snd.fst.toNat ((0 : Int), (0 : Int))).fst != (2 : Int) &&
 (x.fst.getD g.snd.snd.fst.toNat ((0 : Int), (0 : Int))).fst != (3 : Int)) =
 true) ∧
 (((x.fst.getD g.snd.snd.fst.toNat ((0 : Int), (0 : Int))).fst != (2 : Int) &&
 (x.fst.getD g.snd.snd.fst.toNat ((0 : Int), (0 : Int))).fst != (3 : Int)) =
 true →
 ((x.fst.getD g.snd.snd.fst.toNat ((0 : Int), (0 : Int))).fst != (2 : Int) &&
 (x.fst.getD g.snd.snd.fst.toNat ((0 : Int), (0 : Int))).fst != (3 : Int)) =
 true) ∧
 (((x.fst.getD g.snd.snd.fst.toNat ((0 : Int), (0 : Int))).fst != (2 : Int) &&
 (x.fst.getD g.snd.snd.fst.toNat ((0 : Int), (0 : Int))).fst != (3 : Int) &&
 !decide ((x.fst.getD g.snd.snd.fst.toNat ((0 : Int), (0 : Int))).snd < (0 : Int))) =
 true →
 ((x.fst.getD g.snd.snd.fst.toNat ((0 : Int), (0 : Int))).fst != (2 : Int) &&
 (x.fst.getD g.snd.snd.fst.toNat ((0 : Int), (0 : Int))).fst != (3 : Int) &&
 !decide ((x.fst.getD g.snd.snd.fst.toNat ((0 : Int), (0 : Int))).snd < (0 : Int))) =
 true) ∧
 (((x.fst.getD g.snd.snd.fst.toNat ((0 : Int), (0 : Int))).fst != (2 : Int) &&
 (x.fst.getD g.snd.snd.fst.toNat ((0 : Int), (0 : Int))).fst != (3 : Int) &&
 !decide ((x.fst.getD g.snd.snd.fst.toNat ((0 : Int), (0 : Int))).snd < (0 : Int))) =
 true →
 ((x.fst.getD g.snd.snd.fst.toNat ((0 : Int), (0 : Int))).fst != (2 : Int) &&
 (x.fst.getD g.snd.snd.fst.toNat ((0 : Int), (0 : Int))).fst != (3 : Int) &&
 !decide ((x.fst.getD g.snd.snd.fst.toNat ((0 : Int), (0 : Int))).snd < (0 : Int))) =
 true) ∧
 (((x.fst.getD g.snd.snd.fst.toNat ((0 : Int), (0 : Int))).fst != (2 : Int) &&
 (x.fst.getD g.snd.snd.fst.toNat ((0 : Int), (0 : Int))).fst != (3 : Int)) =
 true →
 ((x.fst.getD g.snd.snd.fst.toNat ((0 : Int), (0 : Int))).fst != (2 : Int) &&
 (x.fst.getD g.snd.snd.fst.toNat ((0 : Int), (0 : Int))).fst != (3 : Int)) =
 true ∧
 (decide ((x.fst.getD g.snd.snd.fst.toNat ((0 : Int), (0 : Int))).snd < (0 : Int)) = false →
 ((x.fst.getD g.snd.snd.fst.toNat ((0 : Int), (0 : Int))).fst != (2 : Int) &&
 (x.fst.getD g.snd.snd.fst.toNat ((0 : Int), (0 : Int))).fst != (3 : Int) &&
 !decide ((x.fst.getD g.snd.snd.fst.toNat ((0 : Int), (0 : Int))).snd < (0 : Int))) =
 true)) ∧
 (((x.fst.getD g.snd.snd.fst.toNat ((0 : Int), (0 : Int))).fst != (2 : Int) &&
 (x.fst.getD g.snd.snd.fst.toNat ((0 : Int), (0 : Int))).fst != (3 : Int)) =
 true →
 ((x.fst.getD g.snd.snd.fst.toNat ((0 : Int), (0 : Int))).fst != (2 : Int) &&
 (x.fst.getD g.snd.snd.fst.toNat ((0 : Int), (0 : Int))).fst != (3 : Int)) =
 true) ∧
 (((x.fst.getD g.snd.snd.fst.toNat ((0 : Int), (0 : Int))).fst != (2 : Int) &&
 (x.fst.getD g.snd.snd.fst.toNat ((0 : Int), (0 : Int))).fst != (3 : Int) &&
 (decide ((x.fst.getD g.snd.snd.fst.toNat ((0 : Int), (0 : Int))).snd < (0 : Int)) ||
 decide ((99 : Int) < (x.fst.getD g.snd.snd.fst.toNat ((0 : Int), (0 : Int))).snd))) =
 true →
 (g.snd.fst.length + (((0 : Int) :: ([] : List Int)).set (0 : Nat) (2 : Int)).length ≤
 (9223372036854775807 : Nat) ∧
 (g.snd.fst.length + (((0 : Int) :: ([] : List Int)).set (0 : Nat) (2 : Int)).length +
 (g.snd.fst.length + (((0 : Int) :: ([] : List Int)).set (0 : Nat) (2 : Int)).length) /
 (4 : Nat) +
 (192 : Nat)) *
 (8 : Nat) ≤
 (281474976710656 : Nat)) ∧
 ((-9223372036854775808 : Int) ≤ g.snd.snd.fst + (1 : Int) ∧
 g.snd.snd.fst + (1 : Int) ≤ (9223372036854775807 : Int)) ∧
 (((0 : Int) ≤ g.snd.snd.fst + (1 : Int) ∧
 g.snd.snd.fst + (1 : Int) ≤ (↑x.fst.length : Int) ∧
 pl (List.take (g.snd.snd.fst + (1 : Int)).toNat x.fst) =
 ((g.fst.fst, g.fst.snd.fst, g.fst.snd.snd),
 g.snd.fst ++ ((0 : Int) :: ([] : List Int)).set (0 : Nat) (2 : Int)) ∧
 good (g.fst.fst, g.fst.snd.fst, g.fst.snd.snd) (g.snd.snd.fst + (1 : Int)) ∧
 (↑(g.snd.fst ++ ((0 : Int) :: ([] : List Int)).set (0 : Nat) (2 : Int)).length :
 Int) =
 g.snd.snd.fst + (1 : Int)) ∧
 ((↑x.fst.length : Int) - (g.snd.snd.fst + (1 : Int))).toNat <
 ((↑x.fst.length : Int) - g.snd.snd.fst).toNat) ∧
 ((True ∧ True) ∧
 True ∧
 x.fst = x.fst ∧
 (↑x.fst.length : Int) = (↑x.fst.length : Int) ∧
 g.snd.snd.fst + (1 : Int) = g.snd.snd.fst + (1 : Int) ∧ True) ∧
 ((True ∧ g.fst.snd.fst = g.fst.snd.fst ∧ True ∧ True) ∧
 g.fst.fst = g.fst.fst ∧
 g.fst.snd.snd = g.fst.snd.snd ∧
 g.snd.fst ++ ((0 : Int) :: ([] : List Int)).set (0 : Nat) (2 : Int) =
 g.snd.fst ++ ((0 : Int) :: ([] : List Int)).set (0 : Nat) (2 : Int) ∧
 True) ∧
 True) ∧
 (((x.fst.getD g.snd.snd.fst.toNat ((0 : Int), (0 : Int))).fst != (2 : Int) &&
 (x.fst.getD g.snd.snd.fst.toNat ((0 : Int), (0 : Int))).fst != (3 : Int) &&
 (decide ((x.fst.getD g.snd.snd.fst.toNat ((0 : Int), (0 : Int))).snd < (0 : Int)) ||
 decide ((99 : Int) < (x.fst.getD g.snd.snd.fst.toNat ((0 : Int), (0 : Int))).snd))) =
 false →
 (((x.fst.getD g.snd.snd.fst.toNat ((0 : Int), (0 : Int))).fst == (1 : Int)) = true →
 Holds True ∧
 (decide
 ((0 : Int) ≤
 idx g.fst.fst (x.fst.getD g.snd.snd.fst.toNat ((0 : Int), (0 : Int))).snd) =
 true →
 (g.snd.fst.length + (((0 : Int) :: ([] : List Int)).set (0 : Nat) (6 : Int)).length ≤
 (9223372036854775807 : Nat) ∧
 (g.snd.fst.length +
 (((0 : Int) :: ([] : List Int)).set (0 : Nat) (6 : Int)).length +
 (g.snd.fst.length +
 (((0 : Int) :: ([] : List Int)).set (0 : Nat) (6 : Int)).length) /
 (4 : Nat) +
 (192 : Nat)) *
 (8 : Nat) ≤
 (281474976710656 : Nat)) ∧
 ((-9223372036854775808 : Int) ≤ g.snd.snd.fst + (1 : Int) ∧
 g.snd.snd.fst + (1 : Int) ≤ (9223372036854775807 : Int)) ∧
 (((0 : Int) ≤ g.snd.snd.fst + (1 : Int) ∧
 g.snd.snd.fst + (1 : Int) ≤ (↑x.fst.length : Int) ∧
 pl (List.take (g.snd.snd.fst + (1 : Int)).toNat x.fst) =
 ((g.fst.fst, g.fst.snd.fst, g.fst.snd.snd),
 g.snd.fst ++ ((0 : Int) :: ([] : List Int)).set (0 : Nat) (6 : Int)) ∧
 good (g.fst.fst, g.fst.snd.fst, g.fst.snd.snd)
 (g.snd.snd.fst + (1 : Int)) ∧
 (↑(g.snd.fst ++
 ((0 : Int) :: ([] : List Int)).set (0 : Nat)
 (6 : Int)).length :
 Int) =
 g.snd.snd.fst + (1 : Int)) ∧
 ((↑x.fst.length : Int) - (g.snd.snd.fst + (1 : Int))).toNat <
 ((↑x.fst.length : Int) - g.snd.snd.fst).toNat) ∧
 ((True ∧ True) ∧
 True ∧
 x.fst = x.fst ∧
 (↑x.fst.length : Int) = (↑x.fst.length : Int) ∧
 g.snd.snd.fst + (1 : Int) = g.snd.snd.fst + (1 : Int) ∧ True) ∧
 ((True ∧ g.fst.snd.fst = g.fst.snd.fst ∧ True ∧ True) ∧
 g.fst.fst = g.fst.fst ∧
 g.fst.snd.snd = g.fst.snd.snd ∧
 g.snd.fst ++ ((0 : Int) :: ([] : List Int)).set (0 : Nat) (6 : Int) =
 g.snd.fst ++
 ((0 : Int) :: ([] : List Int)).set (0 : Nat) (6 : Int) ∧
 True) ∧
 True) ∧
 (decide
 ((0 : Int) ≤
 idx g.fst.fst (x.fst.getD g.snd.snd.fst.toNat ((0 : Int), (0 : Int))).snd) =
 false →
 (g.fst.fst.length +
 (((0 : Int) :: ([] : List Int)).set (0 : Nat)
 (x.fst.getD g.snd.snd.fst.toNat ((0 : Int), (0 : Int))).snd).length ≤
 (9223372036854775807 : Nat) ∧
 (g.fst.fst.length +
 (((0 : Int) :: ([] : List Int)).set (0 : Nat)
 (x.fst.getD g.snd.snd.fst.toNat ((0 : Int), (0 : Int))).snd).length +
 (g.fst.fst.length +
 (((0 : Int) :: ([] : List Int)).set (0 : Nat)
 (x.fst.getD g.snd.snd.fst.toNat
 ((0 : Int), (0 : Int))).snd).length) /
 (4 : Nat) +
 (192 : Nat)) *
 (8 : Nat) ≤
 (281474976710656 : Nat)) ∧
 (g.snd.fst.length + (((0 : Int) :: ([] : List Int)).set (0 : Nat) (0 : Int)).length ≤
 (9223372036854775807 : Nat) ∧
 (g.snd.fst.length +
 (((0 : Int) :: ([] : List Int)).set (0 : Nat) (0 : Int)).length +
 (g.snd.fst.length +
 (((0 : Int) :: ([] : List Int)).set (0 : Nat) (0 : Int)).length) /
 (4 : Nat) +
 (192 : Nat)) *
 (8 : Nat) ≤
 (281474976710656 : Nat)) ∧
 ((-9223372036854775808 : Int) ≤ g.snd.snd.fst + (1 : Int) ∧
 g.snd.snd.fst + (1 : Int) ≤ (9223372036854775807 : Int)) ∧
 (((0 : Int) ≤ g.snd.snd.fst + (1 : Int) ∧
 g.snd.snd.fst + (1 : Int) ≤ (↑x.fst.length : Int) ∧
 pl (List.take (g.snd.snd.fst + (1 : Int)).toNat x.fst) =
 ((g.fst.fst ++
 ((0 : Int) :: ([] : List Int)).set (0 : Nat)
 (x.fst.getD g.snd.snd.fst.toNat ((0 : Int), (0 : Int))).snd,
 g.fst.snd.fst, g.fst.snd.snd),
 g.snd.fst ++
 ((0 : Int) :: ([] : List Int)).set (0 : Nat) (0 : Int)) ∧
 good
 (g.fst.fst ++
 ((0 : Int) :: ([] : List Int)).set (0 : Nat)
 (x.fst.getD g.snd.snd.fst.toNat ((0 : Int), (0 : Int))).snd,
 g.fst.snd.fst, g.fst.snd.snd)
 (g.snd.snd.fst + (1 : Int)) ∧
 (↑(g.snd.fst ++
 ((0 : Int) :: ([] : List Int)).set (0 : Nat)
 (0 : Int)).length :
 Int) =
 g.snd.snd.fst + (1 : Int)) ∧
 ((↑x.fst.length : Int) - (g.snd.snd.fst + (1 : Int))).toNat <
 ((↑x.fst.length : Int) - g.snd.snd.fst).toNat) ∧
 ((True ∧ True) ∧
 True ∧
 x.fst = x.fst ∧
 (↑x.fst.length : Int) = (↑x.fst.length : Int) ∧
 g.snd.snd.fst + (1 : Int) = g.snd.snd.fst + (1 : Int) ∧ True) ∧
 ((True ∧ g.fst.snd.fst = g.fst.snd.fst ∧ True ∧ True) ∧
 g.fst.fst ++
 ((0 : Int) :: ([] : List Int)).set (0 : Nat)
 (x.fst.getD g.snd.snd.fst.toNat ((0 : Int), (0 : Int))).snd =
 g.fst.fst ++
 ((0 : Int) :: ([] : List Int)).set (0 : Nat)
 (x.fst.getD g.snd.snd.fst.toNat ((0 : Int), (0 : Int))).snd ∧
 g.fst.snd.snd = g.fst.snd.snd ∧
 g.snd.fst ++ ((0 : Int) :: ([] : List Int)).set (0 : Nat) (0 : Int) =
 g.snd.fst ++
 ((0 : Int) :: ([] : List Int)).set (0 : Nat) (0 : Int) ∧
 True) ∧
 True)) ∧
 (((x.fst.getD g.snd.snd.fst.toNat ((0 : Int), (0 : Int))).fst == (1 : Int)) = false →
 (((x.fst.getD g.snd.snd.fst.toNat ((0 : Int), (0 : Int))).fst == (2 : Int)) = true →
 (decide ((0 : Int) ≤ g.fst.snd.fst) = true →
 (g.snd.fst.length + (((0 : Int) :: ([] : List Int)).set (0 : Nat) (6 : Int)).length ≤
 (9223372036854775807 : Nat) ∧
 (g.snd.fst.length +
 (((0 : Int) :: ([] : List Int)).set (0 : Nat) (6 : Int)).length +
 (g.snd.fst.length +
 (((0 : Int) :: ([] : List Int)).set (0 : Nat) (6 : Int)).length) /
 (4 : Nat) +
 (192 : Nat)) *
 (8 : Nat) ≤
 (281474976710656 : Nat)) ∧
 ((-9223372036854775808 : Int) ≤ g.snd.snd.fst + (1 : Int) ∧
 g.snd.snd.fst + (1 : Int) ≤ (9223372036854775807 : Int)) ∧
 (((0 : Int) ≤ g.snd.snd.fst + (1 : Int) ∧
 g.snd.snd.fst + (1 : Int) ≤ (↑x.fst.length : Int) ∧
 pl (List.take (g.snd.snd.fst + (1 : Int)).toNat x.fst) =
 ((g.fst.fst, g.fst.snd.fst, g.fst.snd.snd),
 g.snd.fst ++
 ((0 : Int) :: ([] : List Int)).set (0 : Nat) (6 : Int)) ∧
 good (g.fst.fst, g.fst.snd.fst, g.fst.snd.snd)
 (g.snd.snd.fst + (1 : Int)) ∧
 (↑(g.snd.fst ++
 ((0 : Int) :: ([] : List Int)).set (0 : Nat)
 (6 : Int)).length :
 Int) =
 g.snd.snd.fst + (1 : Int)) ∧
 ((↑x.fst.length : Int) - (g.snd.snd.fst + (1 : Int))).toNat <
 ((↑x.fst.length : Int) - g.snd.snd.fst).toNat) ∧
 ((True ∧ True) ∧
 True ∧
 x.fst = x.fst ∧
 (↑x.fst.length : Int) = (↑x.fst.length : Int) ∧
 g.snd.snd.fst + (1 : Int) = g.snd.snd.fst + (1 : Int) ∧ True) ∧
 ((True ∧ g.fst.snd.fst = g.fst.snd.fst ∧ True ∧ True) ∧
 g.fst.fst = g.fst.fst ∧
 g.fst.snd.snd = g.fst.snd.snd ∧
 g.snd.fst ++ ((0 : Int) :: ([] : List Int)).set (0 : Nat) (6 : Int) =
 g.snd.fst ++
 ((0 : Int) :: ([] : List Int)).set (0 : Nat) (6 : Int) ∧
 True) ∧
 True) ∧
 (decide ((0 : Int) ≤ g.fst.snd.fst) = false →
 (((↑g.fst.fst.length : Int) == (0 : Int)) = true →
 (g.snd.fst.length +
 (((0 : Int) :: ([] : List Int)).set (0 : Nat) (3 : Int)).length ≤
 (9223372036854775807 : Nat) ∧
 (g.snd.fst.length +
 (((0 : Int) :: ([] : List Int)).set (0 : Nat) (3 : Int)).length +
 (g.snd.fst.length +
 (((0 : Int) :: ([] : List Int)).set (0 : Nat) (3 : Int)).length) /
 (4 : Nat) +
 (192 : Nat)) *
 (8 : Nat) ≤
 (281474976710656 : Nat)) ∧
 ((-9223372036854775808 : Int) ≤ g.snd.snd.fst + (1 : Int) ∧
 g.snd.snd.fst + (1 : Int) ≤ (9223372036854775807 : Int)) ∧
 (((0 : Int) ≤ g.snd.snd.fst + (1 : Int) ∧
 g.snd.snd.fst + (1 : Int) ≤ (↑x.fst.length : Int) ∧
 pl (List.take (g.snd.snd.fst + (1 : Int)).toNat x.fst) =
 ((g.fst.fst, g.fst.snd.fst, g.fst.snd.snd),
 g.snd.fst ++
 ((0 : Int) :: ([] : List Int)).set (0 : Nat) (3 : Int)) ∧
 good (g.fst.fst, g.fst.snd.fst, g.fst.snd.snd)
 (g.snd.snd.fst + (1 : Int)) ∧
 (↑(g.snd.fst ++
 ((0 : Int) :: ([] : List Int)).set (0 : Nat)
 (3 : Int)).length :
 Int) =
 g.snd.snd.fst + (1 : Int)) ∧
 ((↑x.fst.length : Int) - (g.snd.snd.fst + (1 : Int))).toNat <
 ((↑x.fst.length : Int) - g.snd.snd.fst).toNat) ∧
 ((True ∧ True) ∧
 True ∧
 x.fst = x.fst ∧
 (↑x.fst.length : Int) = (↑x.fst.length : Int) ∧
 g.snd.snd.fst + (1 : Int) = g.snd.snd.fst + (1 : Int) ∧ True) ∧
 ((True ∧ g.fst.snd.fst = g.fst.snd.fst ∧ True ∧ True) ∧
 g.fst.fst = g.fst.fst ∧
 g.fst.snd.snd = g.fst.snd.snd ∧
 g.snd.fst ++
 ((0 : Int) :: ([] : List Int)).set (0 : Nat) (3 : Int) =
 g.snd.fst ++
 ((0 : Int) :: ([] : List Int)).set (0 : Nat) (3 : Int) ∧
 True) ∧
 True) ∧
 (((↑g.fst.fst.length : Int) == (0 : Int)) = false →
 ((0 : Int) ≤ (0 : Int) ∧ (0 : Int) < (↑g.fst.fst.length : Int)) ∧
 (((0 : Int) ≤ (1 : Int) ∧ (1 : Int) ≤ (↑g.fst.fst.length : Int)) ∧
 (↑g.fst.fst.length : Int) ≤ (↑g.fst.fst.length : Int)) ∧
 (g.snd.fst.length +
 (((0 : Int) :: ([] : List Int)).set (0 : Nat) (0 : Int)).length ≤
 (9223372036854775807 : Nat) ∧
 (g.snd.fst.length +
 (((0 : Int) :: ([] : List Int)).set (0 : Nat)
 (0 : Int)).length +
 (g.snd.fst.length +
 (((0 : Int) :: ([] : List Int)).set (0 : Nat)
 (0 : Int)).length) /
 (4 : Nat) +
 (192 : Nat)) *
 (8 : Nat) ≤
 (281474976710656 : Nat)) ∧
 ((-9223372036854775808 : Int) ≤ g.snd.snd.fst + (1 : Int) ∧
 g.snd.snd.fst + (1 : Int) ≤ (9223372036854775807 : Int)) ∧
 (((0 : Int) ≤ g.snd.snd.fst + (1 : Int) ∧
 g.snd.snd.fst + (1 : Int) ≤ (↑x.fst.length : Int) ∧
 pl (List.take (g.snd.snd.fst + (1 : Int)).toNat x.fst) =
 ((List.drop (Int.toNat (1 : Int))
 (List.take (↑g.fst.fst.length : Int).toNat g.fst.fst),
 g.fst.fst.getD (Int.toNat (0 : Int)) (0 : Int),
 g.fst.snd.snd),
 g.snd.fst ++
 ((0 : Int) :: ([] : List Int)).set (0 : Nat) (0 : Int)) ∧
 good
 (List.drop (Int.toNat (1 : Int))
 (List.take (↑g.fst.fst.length : Int).toNat g.fst.fst),
 g.fst.fst.getD (Int.toNat (0 : Int)) (0 : Int),
 g.fst.snd.snd)
 (g.snd.snd.fst + (1 : Int)) ∧
 (↑(g.snd.fst ++
 ((0 : Int) :: ([] : List Int)).set (0 : Nat)
 (0 : Int)).length :
 Int) =
 g.snd.snd.fst + (1 : Int)) ∧
 ((↑x.fst.length : Int) - (g.snd.snd.fst + (1 : Int))).toNat <
 ((↑x.fst.length : Int) - g.snd.snd.fst).toNat) ∧
 ((True ∧ True) ∧
 True ∧
 x.fst = x.fst ∧
 (↑x.fst.length : Int) = (↑x.fst.length : Int) ∧
 g.snd.snd.fst + (1 : Int) = g.snd.snd.fst + (1 : Int) ∧
 True) ∧
 ((True ∧
 g.fst.fst.getD (Int.toNat (0 : Int)) (0 : Int) =
 g.fst.fst.getD (Int.toNat (0 : Int)) (0 : Int) ∧
 True ∧ True) ∧
 List.drop (Int.toNat (1 : Int))
 (List.take (↑g.fst.fst.length : Int).toNat g.fst.fst) =
 List.drop (Int.toNat (1 : Int))
 (List.take (↑g.fst.fst.length : Int).toNat g.fst.fst) ∧
 g.fst.snd.snd = g.fst.snd.snd ∧
 g.snd.fst ++
 ((0 : Int) :: ([] : List Int)).set (0 : Nat) (0 : Int) =
 g.snd.fst ++
 ((0 : Int) :: ([] : List Int)).set (0 : Nat) (0 : Int) ∧
 True) ∧
 True))) ∧
 (((x.fst.getD g.snd.snd.fst.toNat ((0 : Int), (0 : Int))).fst == (2 : Int)) = false →
 (((x.fst.getD g.snd.snd.fst.toNat ((0 : Int), (0 : Int))).fst == (3 : Int)) = true →
 (decide (g.fst.snd.fst < (0 : Int)) = true →
 (g.snd.fst.length +
 (((0 : Int) :: ([] : List Int)).set (0 : Nat) (3 : Int)).length ≤
 (9223372036854775807 : Nat) ∧
 (g.snd.fst.length +
 (((0 : Int) :: ([] : List Int)).set (0 : Nat) (3 : Int)).length +
 (g.snd.fst.length +
 (((0 : Int) :: ([] : List Int)).set (0 : Nat) (3 : Int)).length) /
 (4 : Nat) +
 (192 : Nat)) *
 (8 : Nat) ≤
 (281474976710656 : Nat)) ∧
 ((-9223372036854775808 : Int) ≤ g.snd.snd.fst + (1 : Int) ∧
 g.snd.snd.fst + (1 : Int) ≤ (9223372036854775807 : Int)) ∧
 (((0 : Int) ≤ g.snd.snd.fst + (1 : Int) ∧
 g.snd.snd.fst + (1 : Int) ≤ (↑x.fst.length : Int) ∧
 pl (List.take (g.snd.snd.fst + (1 : Int)).toNat x.fst) =
 ((g.fst.fst, g.fst.snd.fst, g.fst.snd.snd),
 g.snd.fst ++
 ((0 : Int) :: ([] : List Int)).set (0 : Nat) (3 : Int)) ∧
 good (g.fst.fst, g.fst.snd.fst, g.fst.snd.snd)
 (g.snd.snd.fst + (1 : Int)) ∧
 (↑(g.snd.fst ++
 ((0 : Int) :: ([] : List Int)).set (0 : Nat)
 (3 : Int)).length :
 Int) =
 g.snd.snd.fst + (1 : Int)) ∧
 ((↑x.fst.length : Int) - (g.snd.snd.fst + (1 : Int))).toNat <
 ((↑x.fst.length : Int) - g.snd.snd.fst).toNat) ∧
 ((True ∧ True) ∧
 True ∧
 x.fst = x.fst ∧
 (↑x.fst.length : Int) = (↑x.fst.length : Int) ∧
 g.snd.snd.fst + (1 : Int) = g.snd.snd.fst + (1 : Int) ∧ True) ∧
 ((True ∧ g.fst.snd.fst = g.fst.snd.fst ∧ True ∧ True) ∧
 g.fst.fst = g.fst.fst ∧
 g.fst.snd.snd = g.fst.snd.snd ∧
 g.snd.fst ++
 ((0 : Int) :: ([] : List Int)).set (0 : Nat) (3 : Int) =
 g.snd.fst ++
 ((0 : Int) :: ([] : List Int)).set (0 : Nat) (3 : Int) ∧
 True) ∧
 True) ∧
 (decide (g.fst.snd.fst < (0 : Int)) = false →
 (g.fst.snd.snd.length +
 (((0 : Int) :: ([] : List Int)).set (0 : Nat) g.fst.snd.fst).length ≤
 (9223372036854775807 : Nat) ∧
 (g.fst.snd.snd.length +
 (((0 : Int) :: ([] : List Int)).set (0 : Nat)
 g.fst.snd.fst).length +
 (g.fst.snd.snd.length +
 (((0 : Int) :: ([] : List Int)).set (0 : Nat)
 g.fst.snd.fst).length) /
 (4 : Nat) +
 (192 : Nat)) *
 (8 : Nat) ≤
 (281474976710656 : Nat)) ∧
 (g.snd.fst.length +
 (((0 : Int) :: ([] : List Int)).set (0 : Nat) (0 : Int)).length ≤
 (9223372036854775807 : Nat) ∧
 (g.snd.fst.length +
 (((0 : Int) :: ([] : List Int)).set (0 : Nat) (0 : Int)).length +
 (g.snd.fst.length +
 (((0 : Int) :: ([] : List Int)).set (0 : Nat)
 (0 : Int)).length) /
 (4 : Nat) +
 (192 : Nat)) *
 (8 : Nat) ≤
 (281474976710656 : Nat)) ∧
 ((-9223372036854775808 : Int) ≤ g.snd.snd.fst + (1 : Int) ∧
 g.snd.snd.fst + (1 : Int) ≤ (9223372036854775807 : Int)) ∧
 (((0 : Int) ≤ g.snd.snd.fst + (1 : Int) ∧
 g.snd.snd.fst + (1 : Int) ≤ (↑x.fst.length : Int) ∧
 pl (List.take (g.snd.snd.fst + (1 : Int)).toNat x.fst) =
 ((g.fst.fst, (-1 : Int),
 g.fst.snd.snd ++
 ((0 : Int) :: ([] : List Int)).set (0 : Nat)
 g.fst.snd.fst),
 g.snd.fst ++
 ((0 : Int) :: ([] : List Int)).set (0 : Nat) (0 : Int)) ∧
 good
 (g.fst.fst, (-1 : Int),
 g.fst.snd.snd ++
 ((0 : Int) :: ([] : List Int)).set (0 : Nat)
 g.fst.snd.fst)
 (g.snd.snd.fst + (1 : Int)) ∧
 (↑(g.snd.fst ++
 ((0 : Int) :: ([] : List Int)).set (0 : Nat)
 (0 : Int)).length :
 Int) =
 g.snd.snd.fst + (1 : Int)) ∧
 ((↑x.fst.length : Int) - (g.snd.snd.fst + (1 : Int))).toNat <
 ((↑x.fst.length : Int) - g.snd.snd.fst).toNat) ∧
 ((True ∧ True) ∧
 True ∧
 x.fst = x.fst ∧
 (↑x.fst.length : Int) = (↑x.fst.length : Int) ∧
 g.snd.snd.fst + (1 : Int) = g.snd.snd.fst + (1 : Int) ∧ True) ∧
 ((True ∧ (-1 : Int) = (-1 : Int) ∧ True ∧ True) ∧
 g.fst.fst = g.fst.fst ∧
 g.fst.snd.snd ++
 ((0 : Int) :: ([] : List Int)).set (0 : Nat) g.fst.snd.fst =
 g.fst.snd.snd ++
 ((0 : Int) :: ([] : List Int)).set (0 : Nat) g.fst.snd.fst ∧
 g.snd.fst ++
 ((0 : Int) :: ([] : List Int)).set (0 : Nat) (0 : Int) =
 g.snd.fst ++
 ((0 : Int) :: ([] : List Int)).set (0 : Nat) (0 : Int) ∧
 True) ∧
 True)) ∧
 (((x.fst.getD g.snd.snd.fst.toNat ((0 : Int), (0 : Int))).fst == (3 : Int)) = false →
 (((x.fst.getD g.snd.snd.fst.toNat ((0 : Int), (0 : Int))).fst == (4 : Int)) = true →
 Holds True ∧
 (decide
 (idx g.fst.fst
 (x.fst.getD g.snd.snd.fst.toNat ((0 : Int), (0 : Int))).snd <
 (0 : Int)) =
 true →
 (g.snd.fst.length +
 (((0 : Int) :: ([] : List Int)).set (0 : Nat) (3 : Int)).length ≤
 (9223372036854775807 : Nat) ∧
 (g.snd.fst.length +
 (((0 : Int) :: ([] : List Int)).set (0 : Nat)
 (3 : Int)).length +
 (g.snd.fst.length +
 (((0 : Int) :: ([] : List Int)).set (0 : Nat)
 (3 : Int)).length) /
 (4 : Nat) +
 (192 : Nat)) *
 (8 : Nat) ≤
 (281474976710656 : Nat)) ∧
 ((-9223372036854775808 : Int) ≤ g.snd.snd.fst + (1 : Int) ∧
 g.snd.snd.fst + (1 : Int) ≤ (9223372036854775807 : Int)) ∧
 (((0 : Int) ≤ g.snd.snd.fst + (1 : Int) ∧
 g.snd.snd.fst + (1 : Int) ≤ (↑x.fst.length : Int) ∧
 pl (List.take (g.snd.snd.fst + (1 : Int)).toNat x.fst) =
 ((g.fst.fst, g.fst.snd.fst, g.fst.snd.snd),
 g.snd.fst ++
 ((0 : Int) :: ([] : List Int)).set (0 : Nat)
 (3 : Int)) ∧
 good (g.fst.fst, g.fst.snd.fst, g.fst.snd.snd)
 (g.snd.snd.fst + (1 : Int)) ∧
 (↑(g.snd.fst ++
 ((0 : Int) :: ([] : List Int)).set (0 : Nat)
 (3 : Int)).length :
 Int) =
 g.snd.snd.fst + (1 : Int)) ∧
 ((↑x.fst.length : Int) - (g.snd.snd.fst + (1 : Int))).toNat <
 ((↑x.fst.length : Int) - g.snd.snd.fst).toNat) ∧
 ((True ∧ True) ∧
 True ∧
 x.fst = x.fst ∧
 (↑x.fst.length : Int) = (↑x.fst.length : Int) ∧
 g.snd.snd.fst + (1 : Int) = g.snd.snd.fst + (1 : Int) ∧
 True) ∧
 ((True ∧ g.fst.snd.fst = g.fst.snd.fst ∧ True ∧ True) ∧
 g.fst.fst = g.fst.fst ∧
 g.fst.snd.snd = g.fst.snd.snd ∧
 g.snd.fst ++
 ((0 : Int) :: ([] : List Int)).set (0 : Nat)
 (3 : Int) =
 g.snd.fst ++
 ((0 : Int) :: ([] : List Int)).set (0 : Nat)
 (3 : Int) ∧
 True) ∧
 True) ∧
 (decide
 (idx g.fst.fst
 (x.fst.getD g.snd.snd.fst.toNat ((0 : Int), (0 : Int))).snd <
 (0 : Int)) =
 false →
 Holds (g.fst.fst.length * (8 : Nat) ≤ (140737488355328 : Nat)) ∧
 ((-9223372036854775808 : Int) ≤
 idx g.fst.fst
 (x.fst.getD g.snd.snd.fst.toNat ((0 : Int), (0 : Int))).snd +
 (1 : Int) ∧
 idx g.fst.fst
 (x.fst.getD g.snd.snd.fst.toNat ((0 : Int), (0 : Int))).snd +
 (1 : Int) ≤
 (9223372036854775807 : Int)) ∧
 ((((0 : Int) ≤
 idx g.fst.fst
 (x.fst.getD g.snd.snd.fst.toNat
 ((0 : Int), (0 : Int))).snd ∧
 idx g.fst.fst
 (x.fst.getD g.snd.snd.fst.toNat
 ((0 : Int), (0 : Int))).snd ≤
 idx g.fst.fst
 (x.fst.getD g.snd.snd.fst.toNat
 ((0 : Int), (0 : Int))).snd +
 (1 : Int)) ∧
 idx g.fst.fst
 (x.fst.getD g.snd.snd.fst.toNat
 ((0 : Int), (0 : Int))).snd +
 (1 : Int) ≤
 (↑g.fst.fst.length : Int)) ∧
 (↑g.fst.fst.length : Int) ≤ (↑g.fst.fst.length : Int)) ∧
 ((idx g.fst.fst
 (x.fst.getD g.snd.snd.fst.toNat
 ((0 : Int), (0 : Int))).snd ==
 idx g.fst.fst
 (x.fst.getD g.snd.snd.fst.toNat
 ((0 : Int), (0 : Int))).snd +
 (1 : Int)) =
 true →
 (g.snd.fst.length +
 (((0 : Int) :: ([] : List Int)).set (0 : Nat)
 (0 : Int)).length ≤
 (9223372036854775807 : Nat) ∧
 (g.snd.fst.length +
 (((0 : Int) :: ([] : List Int)).set (0 : Nat)
 (0 : Int)).length +
 (g.snd.fst.length +
 (((0 : Int) :: ([] : List Int)).set (0 : Nat)
 (0 : Int)).length) /
 (4 : Nat) +
 (192 : Nat)) *
 (8 : Nat) ≤
 (281474976710656 : Nat)) ∧
 ((-9223372036854775808 : Int) ≤ g.snd.snd.fst + (1 : Int) ∧
 g.snd.snd.fst + (1 : Int) ≤ (9223372036854775807 : Int)) ∧
 (((0 : Int) ≤ g.snd.snd.fst + (1 : Int) ∧
 g.snd.snd.fst + (1 : Int) ≤ (↑x.fst.length : Int) ∧
 pl
 (List.take (g.snd.snd.fst + (1 : Int)).toNat
 x.fst) =
 ((g.fst.fst, g.fst.snd.fst, g.fst.snd.snd),
 g.snd.fst ++
 ((0 : Int) :: ([] : List Int)).set (0 : Nat)
 (0 : Int)) ∧
 good (g.fst.fst, g.fst.snd.fst, g.fst.snd.snd)
 (g.snd.snd.fst + (1 : Int)) ∧
 (↑(g.snd.fst ++
 ((0 : Int) :: ([] : List Int)).set
 (0 : Nat) (0 : Int)).length :
 Int) =
 g.snd.snd.fst + (1 : Int)) ∧
 ((↑x.fst.length : Int) -
 (g.snd.snd.fst + (1 : Int))).toNat <
 ((↑x.fst.length : Int) - g.snd.snd.fst).toNat) ∧
 ((True ∧ True) ∧
 True ∧
 x.fst = x.fst ∧
 (↑x.fst.length : Int) = (↑x.fst.length : Int) ∧
 g.snd.snd.fst + (1 : Int) =
 g.snd.snd.fst + (1 : Int) ∧
 True) ∧
 ((True ∧ g.fst.snd.fst = g.fst.snd.fst ∧ True ∧ True) ∧
 g.fst.fst = g.fst.fst ∧
 g.fst.snd.snd = g.fst.snd.snd ∧
 g.snd.fst ++
 ((0 : Int) :: ([] : List Int)).set (0 : Nat)
 (0 : Int) =
 g.snd.fst ++
 ((0 : Int) :: ([] : List Int)).set (0 : Nat)
 (0 : Int) ∧
 True) ∧
 True) ∧
 ((idx g.fst.fst
 (x.fst.getD g.snd.snd.fst.toNat
 ((0 : Int), (0 : Int))).snd ==
 idx g.fst.fst
 (x.fst.getD g.snd.snd.fst.toNat
 ((0 : Int), (0 : Int))).snd +
 (1 : Int)) =
 false →
 (((0 : Int) ≤ (0 : Int) ∧
 (0 : Int) ≤
 idx g.fst.fst
 (x.fst.getD g.snd.snd.fst.toNat
 ((0 : Int), (0 : Int))).snd) ∧
 idx g.fst.fst
 (x.fst.getD g.snd.snd.fst.toNat
 ((0 : Int), (0 : Int))).snd ≤
 (↑g.fst.fst.length : Int)) ∧
 (((0 : Int) ≤
 idx g.fst.fst
 (x.fst.getD g.snd.snd.fst.toNat
 ((0 : Int), (0 : Int))).snd +
 (1 : Int) ∧
 idx g.fst.fst
 (x.fst.getD g.snd.snd.fst.toNat
 ((0 : Int), (0 : Int))).snd +
 (1 : Int) ≤
 (↑g.fst.fst.length : Int)) ∧
 (↑g.fst.fst.length : Int) ≤ (↑g.fst.fst.length : Int)) ∧
 (idx g.fst.fst
 (x.fst.getD g.snd.snd.fst.toNat
 ((0 : Int), (0 : Int))).snd).toNat +
 (List.drop
 (idx g.fst.fst
 (x.fst.getD g.snd.snd.fst.toNat
 ((0 : Int), (0 : Int))).snd +
 (1 : Int)).toNat
 (List.take (↑g.fst.fst.length : Int).toNat
 g.fst.fst)).length ≤
 g.fst.fst.length ∧
 (((0 : Int) ≤
 (↑(List.drop (0 : Nat)
 (List.take
 ((idx g.fst.fst
 (x.fst.getD g.snd.snd.fst.toNat
 ((0 : Int),
 (0 : Int))).snd).toNat +
 (List.drop
 (idx g.fst.fst
 (x.fst.getD
 g.snd.snd.fst.toNat
 ((0 : Int),
 (0 : Int))).snd +
 (1 : Int)).toNat
 (List.take
 (↑g.fst.fst.length : Int).toNat
 g.fst.fst)).length)
 (List.take
 (idx g.fst.fst
 (x.fst.getD g.snd.snd.fst.toNat
 ((0 : Int),
 (0 : Int))).snd).toNat
 g.fst.fst ++
 (List.drop
 (idx g.fst.fst
 (x.fst.getD
 g.snd.snd.fst.toNat
 ((0 : Int),
 (0 : Int))).snd +
 (1 : Int)).toNat
 (List.take
 (↑g.fst.fst.length : Int).toNat
 g.fst.fst) ++
 List.drop
 ((idx g.fst.fst
 (x.fst.getD
 g.snd.snd.fst.toNat
 ((0 : Int),
 (0 : Int))).snd).toNat +
 (List.drop
 (idx g.fst.fst
 (x.fst.getD
 g.snd.snd.fst.toNat
 ((0 : Int),
 (0 : Int))).snd +
 (1 : Int)).toNat
 (List.take
 (↑g.fst.fst.length :
 Int).toNat
 g.fst.fst)).length)
 g.fst.fst)))).length :
 Int) ∧
 (↑(List.drop (0 : Nat)
 (List.take
 ((idx g.fst.fst
 (x.fst.getD g.snd.snd.fst.toNat
 ((0 : Int),
 (0 : Int))).snd).toNat +
 (List.drop
 (idx g.fst.fst
 (x.fst.getD
 g.snd.snd.fst.toNat
 ((0 : Int),
 (0 : Int))).snd +
 (1 : Int)).toNat
 (List.take
 (↑g.fst.fst.length : Int).toNat
 g.fst.fst)).length)
 (List.take
 (idx g.fst.fst
 (x.fst.getD g.snd.snd.fst.toNat
 ((0 : Int),
 (0 : Int))).snd).toNat
 g.fst.fst ++
 (List.drop
 (idx g.fst.fst
 (x.fst.getD
 g.snd.snd.fst.toNat
 ((0 : Int),
 (0 : Int))).snd +
 (1 : Int)).toNat
 (List.take
 (↑g.fst.fst.length : Int).toNat
 g.fst.fst) ++
 List.drop
 ((idx g.fst.fst
 (x.fst.getD
 g.snd.snd.fst.toNat
 ((0 : Int),
 (0 : Int))).snd).toNat +
 (List.drop
 (idx g.fst.fst
 (x.fst.getD
 g.snd.snd.fst.toNat
 ((0 : Int),
 (0 : Int))).snd +
 (1 : Int)).toNat
 (List.take
 (↑g.fst.fst.length :
 Int).toNat
 g.fst.fst)).length)
 g.fst.fst)))).length :
 Int) ≤
 (↑g.fst.fst.length : Int)) ∧
 (↑g.fst.fst.length : Int) ≤
 (↑(List.take
 (idx g.fst.fst
 (x.fst.getD g.snd.snd.fst.toNat
 ((0 : Int), (0 : Int))).snd).toNat
 g.fst.fst ++
 (List.drop
 (idx g.fst.fst
 (x.fst.getD g.snd.snd.fst.toNat
 ((0 : Int), (0 : Int))).snd +
 (1 : Int)).toNat
 (List.take (↑g.fst.fst.length : Int).toNat
 g.fst.fst) ++
 List.drop
 ((idx g.fst.fst
 (x.fst.getD g.snd.snd.fst.toNat
 ((0 : Int),
 (0 : Int))).snd).toNat +
 (List.drop
 (idx g.fst.fst
 (x.fst.getD
 g.snd.snd.fst.toNat
 ((0 : Int),
 (0 : Int))).snd +
 (1 : Int)).toNat
 (List.take
 (↑g.fst.fst.length : Int).toNat
 g.fst.fst)).length)
 g.fst.fst)).length :
 Int)) ∧
 (g.snd.fst.length +
 (((0 : Int) :: ([] : List Int)).set (0 : Nat)
 (0 : Int)).length ≤
 (9223372036854775807 : Nat) ∧
 (g.snd.fst.length +
 (((0 : Int) :: ([] : List Int)).set
 (0 : Nat) (0 : Int)).length +
 (g.snd.fst.length +
 (((0 : Int) :: ([] : List Int)).set
 (0 : Nat) (0 : Int)).length) /
 (4 : Nat) +
 (192 : Nat)) *
 (8 : Nat) ≤
 (281474976710656 : Nat)) ∧
 ((-9223372036854775808 : Int) ≤
 g.snd.snd.fst + (1 : Int) ∧
 g.snd.snd.fst + (1 : Int) ≤
 (9223372036854775807 : Int)) ∧
 (((0 : Int) ≤ g.snd.snd.fst + (1 : Int) ∧
 g.snd.snd.fst + (1 : Int) ≤
 (↑x.fst.length : Int) ∧
 pl
 (List.take
 (g.snd.snd.fst + (1 : Int)).toNat
 x.fst) =
 ((List.drop (0 : Nat)
 (List.take
 ((idx g.fst.fst
 (x.fst.getD
 g.snd.snd.fst.toNat
 ((0 : Int),
 (0 :
 Int))).snd).toNat +
 (List.drop
 (idx g.fst.fst
 (x.fst.getD
 g.snd.snd.fst.toNat
 ((0 : Int),
 (0 :
 Int))).snd +
 (1 : Int)).toNat
 (List.take
 (↑g.fst.fst.length :
 Int).toNat
 g.fst.fst)).length)
 (List.take
 (↑(List.drop (0 : Nat)
 (List.take
 ((idx g.fst.fst
 (x.fst.getD
 g.snd.snd.fst.toNat
 ((0 :
 Int),
 (0 :
 Int))).snd).toNat +
 (List.drop
 (idx
 g.fst.fst
 (x.fst.getD
 g.snd.snd.fst.toNat
 ((0 :
 Int),
 (0 :
 Int))).snd +
 (1 :
 Int)).toNat
 (List.take
 (↑g.fst.fst.length :
 Int).toNat
 g.fst.fst)).length)
 (List.take
 (idx g.fst.fst
 (x.fst.getD
 g.snd.snd.fst.toNat
 ((0 :
 Int),
 (0 :
 Int))).snd).toNat
 g.fst.fst ++
 (List.drop
 (idx
 g.fst.fst
 (x.fst.getD
 g.snd.snd.fst.toNat
 ((0 :
 Int),
 (0 :
 Int))).snd +
 (1 :
 Int)).toNat
 (List.take
 (↑g.fst.fst.length :
 Int).toNat
 g.fst.fst) ++
 List.drop
 ((idx
 g.fst.fst
 (x.fst.getD
 g.snd.snd.fst.toNat
 ((0 :
 Int),
 (0 :
 Int))).snd).toNat +
 (List.drop
 (idx
 g.fst.fst
 (x.fst.getD
 g.snd.snd.fst.toNat
 ((0 :
 Int),
 (0 :
 Int))).snd +
 (1 :
 Int)).toNat
 (List.take
 (↑g.fst.fst.length :
 Int).toNat
 g.fst.fst)).length)
 g.fst.fst)))).length :
 Int).toNat
 (List.take
 (idx g.fst.fst
 (x.fst.getD
 g.snd.snd.fst.toNat
 ((0 : Int),
 (0 :
 Int))).snd).toNat
 g.fst.fst ++
 (List.drop
 (idx g.fst.fst
 (x.fst.getD
 g.snd.snd.fst.toNat
 ((0 : Int),
 (0 :
 Int))).snd +
 (1 : Int)).toNat
 (List.take
 (↑g.fst.fst.length :
 Int).toNat
 g.fst.fst) ++
 List.drop
 ((idx g.fst.fst
 (x.fst.getD
 g.snd.snd.fst.toNat
 ((0 : Int),
 (0 :
 Int))).snd).toNat +
 (List.drop
 (idx g.fst.fst
 (x.fst.getD
 g.snd.snd.fst.toNat
 ((0 :
 Int),
 (0 :
 Int))).snd +
 (1 :
 Int)).toNat
 (List.take
 (↑g.fst.fst.length :
 Int).toNat
 g.fst.fst)).length)
 g.fst.fst)) ++
 (List.replicate
 ((↑g.fst.fst.length :
 Int).toNat -
 (↑(List.drop (0 : Nat)
 (List.take
 ((idx
 g.fst.fst
 (x.fst.getD
 g.snd.snd.fst.toNat
 ((0 :
 Int),
 (0 :
 Int))).snd).toNat +
 (List.drop
 (idx
 g.fst.fst
 (x.fst.getD
 g.snd.snd.fst.toNat
 ((0 :
 Int),
 (0 :
 Int))).snd +
 (1 :
 Int)).toNat
 (List.take
 (↑g.fst.fst.length :
 Int).toNat
 g.fst.fst)).length)
 (List.take
 (idx
 g.fst.fst
 (x.fst.getD
 g.snd.snd.fst.toNat
 ((0 :
 Int),
 (0 :
 Int))).snd).toNat
 g.fst.fst ++
 (List.drop
 (idx
 g.fst.fst
 (x.fst.getD
 g.snd.snd.fst.toNat
 ((0 :
 Int),
 (0 :
 Int))).snd +
 (1 :
 Int)).toNat
 (List.take
 (↑g.fst.fst.length :
 Int).toNat
 g.fst.fst) ++
 List.drop
 ((idx
 g.fst.fst
 (x.fst.getD
 g.snd.snd.fst.toNat
 ((0 :
 Int),
 (0 :
 Int))).snd).toNat +
 (List.drop
 (idx
 g.fst.fst
 (x.fst.getD
 g.snd.snd.fst.toNat
 ((0 :
 Int),
 (0 :
 Int))).snd +
 (1 :
 Int)).toNat
 (List.take
 (↑g.fst.fst.length :
 Int).toNat
 g.fst.fst)).length)
 g.fst.fst)))).length :
 Int).toNat)
 (0 : Int) ++
 List.drop
 ((↑(List.drop (0 : Nat)
 (List.take
 ((idx
 g.fst.fst
 (x.fst.getD
 g.snd.snd.fst.toNat
 ((0 :
 Int),
 (0 :
 Int))).snd).toNat +
 (List.drop
 (idx
 g.fst.fst
 (x.fst.getD
 g.snd.snd.fst.toNat
 ((0 :
 Int),
 (0 :
 Int))).snd +
 (1 :
 Int)).toNat
 (List.take
 (↑g.fst.fst.length :
 Int).toNat
 g.fst.fst)).length)
 (List.take
 (idx
 g.fst.fst
 (x.fst.getD
 g.snd.snd.fst.toNat
 ((0 :
 Int),
 (0 :
 Int))).snd).toNat
 g.fst.fst ++
 (List.drop
 (idx
 g.fst.fst
 (x.fst.getD
 g.snd.snd.fst.toNat
 ((0 :
 Int),
 (0 :
 Int))).snd +
 (1 :
 Int)).toNat
 (List.take
 (↑g.fst.fst.length :
 Int).toNat
 g.fst.fst) ++
 List.drop
 ((idx
 g.fst.fst
 (x.fst.getD
 g.snd.snd.fst.toNat
 ((0 :
 Int),
 (0 :
 Int))).snd).toNat +
 (List.drop
 (idx
 g.fst.fst
 (x.fst.getD
 g.snd.snd.fst.toNat
 ((0 :
 Int),
 (0 :
 Int))).snd +
 (1 :
 Int)).toNat
 (List.take
 (↑g.fst.fst.length :
 Int).toNat
 g.fst.fst)).length)
 g.fst.fst)))).length :
 Int).toNat +
 ((↑g.fst.fst.length :
 Int).toNat -
 (↑(List.drop (0 : Nat)
 (List.take
 ((idx
 g.fst.fst
 (x.fst.getD
 g.snd.snd.fst.toNat
 ((0 :
 Int),
 (0 :
 Int))).snd).toNat +
 (List.drop
 (idx
 g.fst.fst
 (x.fst.getD
 g.snd.snd.fst.toNat
 ((0 :
 Int),
 (0 :
 Int))).snd +
 (1 :
 Int)).toNat
 (List.take
 (↑g.fst.fst.length :
 Int).toNat
 g.fst.fst)).length)
 (List.take
 (idx
 g.fst.fst
 (x.fst.getD
 g.snd.snd.fst.toNat
 ((0 :
 Int),
 (0 :
 Int))).snd).toNat
 g.fst.fst ++
 (List.drop
 (idx
 g.fst.fst
 (x.fst.getD
 g.snd.snd.fst.toNat
 ((0 :
 Int),
 (0 :
 Int))).snd +
 (1 :
 Int)).toNat
 (List.take
 (↑g.fst.fst.length :
 Int).toNat
 g.fst.fst) ++
 List.drop
 ((idx
 g.fst.fst
 (x.fst.getD
 g.snd.snd.fst.toNat
 ((0 :
 Int),
 (0 :
 Int))).snd).toNat +
 (List.drop
 (idx
 g.fst.fst
 (x.fst.getD
 g.snd.snd.fst.toNat
 ((0 :
 Int),
 (0 :
 Int))).snd +
 (1 :
 Int)).toNat
 (List.take
 (↑g.fst.fst.length :
 Int).toNat
 g.fst.fst)).length)
 g.fst.fst)))).length :
 Int).toNat))
 (List.take
 (idx g.fst.fst
 (x.fst.getD
 g.snd.snd.fst.toNat
 ((0 : Int),
 (0 :
 Int))).snd).toNat
 g.fst.fst ++
 (List.drop
 (idx g.fst.fst
 (x.fst.getD
 g.snd.snd.fst.toNat
 ((0 : Int),
 (0 :
 Int))).snd +
 (1 : Int)).toNat
 (List.take
 (↑g.fst.fst.length :
 Int).toNat
 g.fst.fst) ++
 List.drop
 ((idx g.fst.fst
 (x.fst.getD
 g.snd.snd.fst.toNat
 ((0 : Int),
 (0 :
 Int))).snd).toNat +
 (List.drop
 (idx g.fst.fst
 (x.fst.getD
 g.snd.snd.fst.toNat
 ((0 :
 Int),
 (0 :
 Int))).snd +
 (1 :
 Int)).toNat
 (List.take
 (↑g.fst.fst.length :
 Int).toNat
 g.fst.fst)).length)
 g.fst.fst))))),
 g.fst.snd.fst, g.fst.snd.snd),
 g.snd.fst ++
 ((0 : Int) :: ([] : List Int)).set
 (0 : Nat) (0 : Int)) ∧
 good
 (List.drop (0 : Nat)
 (List.take
 ((idx g.fst.fst
 (x.fst.getD
 g.snd.snd.fst.toNat
 ((0 : Int),
 (0 :
 Int))).snd).toNat +
 (List.drop
 (idx g.fst.fst
 (x.fst.getD
 g.snd.snd.fst.toNat
 ((0 : Int),
 (0 :
 Int))).snd +
 (1 : Int)).toNat
 (List.take
 (↑g.fst.fst.length :
 Int).toNat
 g.fst.fst)).length)
 (List.take
 (↑(List.drop (0 : Nat)
 (List.take
 ((idx g.fst.fst
 (x.fst.getD
 g.snd.snd.fst.toNat
 ((0 :
 Int),
 (0 :
 Int))).snd).toNat +
 (List.drop
 (idx
 g.fst.fst
 (x.fst.getD
 g.snd.snd.fst.toNat
 ((0 :
 Int),
 (0 :
 Int))).snd +
 (1 :
 Int)).toNat
 (List.take
 (↑g.fst.fst.length :
 Int).toNat
 g.fst.fst)).length)
 (List.take
 (idx g.fst.fst
 (x.fst.getD
 g.snd.snd.fst.toNat
 ((0 :
 Int),
 (0 :
 Int))).snd).toNat
 g.fst.fst ++
 (List.drop
 (idx
 g.fst.fst
 (x.fst.getD
 g.snd.snd.fst.toNat
 ((0 :
 Int),
 (0 :
 Int))).snd +
 (1 :
 Int)).toNat
 (List.take
 (↑g.fst.fst.length :
 Int).toNat
 g.fst.fst) ++
 List.drop
 ((idx
 g.fst.fst
 (x.fst.getD
 g.snd.snd.fst.toNat
 ((0 :
 Int),
 (0 :
 Int))).snd).toNat +
 (List.drop
 (idx
 g.fst.fst
 (x.fst.getD
 g.snd.snd.fst.toNat
 ((0 :
 Int),
 (0 :
 Int))).snd +
 (1 :
 Int)).toNat
 (List.take
 (↑g.fst.fst.length :
 Int).toNat
 g.fst.fst)).length)
 g.fst.fst)))).length :
 Int).toNat
 (List.take
 (idx g.fst.fst
 (x.fst.getD
 g.snd.snd.fst.toNat
 ((0 : Int),
 (0 :
 Int))).snd).toNat
 g.fst.fst ++
 (List.drop
 (idx g.fst.fst
 (x.fst.getD
 g.snd.snd.fst.toNat
 ((0 : Int),
 (0 :
 Int))).snd +
 (1 : Int)).toNat
 (List.take
 (↑g.fst.fst.length :
 Int).toNat
 g.fst.fst) ++
 List.drop
 ((idx g.fst.fst
 (x.fst.getD
 g.snd.snd.fst.toNat
 ((0 : Int),
 (0 :
 Int))).snd).toNat +
 (List.drop
 (idx g.fst.fst
 (x.fst.getD
 g.snd.snd.fst.toNat
 ((0 :
 Int),
 (0 :
 Int))).snd +
 (1 :
 Int)).toNat
 (List.take
 (↑g.fst.fst.length :
 Int).toNat
 g.fst.fst)).length)
 g.fst.fst)) ++
 (List.replicate
 ((↑g.fst.fst.length :
 Int).toNat -
 (↑(List.drop (0 : Nat)
 (List.take
 ((idx
 g.fst.fst
 (x.fst.getD
 g.snd.snd.fst.toNat
 ((0 :
 Int),
 (0 :
 Int))).snd).toNat +
 (List.drop
 (idx
 g.fst.fst
 (x.fst.getD
 g.snd.snd.fst.toNat
 ((0 :
 Int),
 (0 :
 Int))).snd +
 (1 :
 Int)).toNat
 (List.take
 (↑g.fst.fst.length :
 Int).toNat
 g.fst.fst)).length)
 (List.take
 (idx
 g.fst.fst
 (x.fst.getD
 g.snd.snd.fst.toNat
 ((0 :
 Int),
 (0 :
 Int))).snd).toNat
 g.fst.fst ++
 (List.drop
 (idx
 g.fst.fst
 (x.fst.getD
 g.snd.snd.fst.toNat
 ((0 :
 Int),
 (0 :
 Int))).snd +
 (1 :
 Int)).toNat
 (List.take
 (↑g.fst.fst.length :
 Int).toNat
 g.fst.fst) ++
 List.drop
 ((idx
 g.fst.fst
 (x.fst.getD
 g.snd.snd.fst.toNat
 ((0 :
 Int),
 (0 :
 Int))).snd).toNat +
 (List.drop
 (idx
 g.fst.fst
 (x.fst.getD
 g.snd.snd.fst.toNat
 ((0 :
 Int),
 (0 :
 Int))).snd +
 (1 :
 Int)).toNat
 (List.take
 (↑g.fst.fst.length :
 Int).toNat
 g.fst.fst)).length)
 g.fst.fst)))).length :
 Int).toNat)
 (0 : Int) ++
 List.drop
 ((↑(List.drop (0 : Nat)
 (List.take
 ((idx
 g.fst.fst
 (x.fst.getD
 g.snd.snd.fst.toNat
 ((0 :
 Int),
 (0 :
 Int))).snd).toNat +
 (List.drop
 (idx
 g.fst.fst
 (x.fst.getD
 g.snd.snd.fst.toNat
 ((0 :
 Int),
 (0 :
 Int))).snd +
 (1 :
 Int)).toNat
 (List.take
 (↑g.fst.fst.length :
 Int).toNat
 g.fst.fst)).length)
 (List.take
 (idx
 g.fst.fst
 (x.fst.getD
 g.snd.snd.fst.toNat
 ((0 :
 Int),
 (0 :
 Int))).snd).toNat
 g.fst.fst ++
 (List.drop
 (idx
 g.fst.fst
 (x.fst.getD
 g.snd.snd.fst.toNat
 ((0 :
 Int),
 (0 :
 Int))).snd +
 (1 :
 Int)).toNat
 (List.take
 (↑g.fst.fst.length :
 Int).toNat
 g.fst.fst) ++
 List.drop
 ((idx
 g.fst.fst
 (x.fst.getD
 g.snd.snd.fst.toNat
 ((0 :
 Int),
 (0 :
 Int))).snd).toNat +
 (List.drop
 (idx
 g.fst.fst
 (x.fst.getD
 g.snd.snd.fst.toNat
 ((0 :
 Int),
 (0 :
 Int))).snd +
 (1 :
 Int)).toNat
 (List.take
 (↑g.fst.fst.length :
 Int).toNat
 g.fst.fst)).length)
 g.fst.fst)))).length :
 Int).toNat +
 ((↑g.fst.fst.length :
 Int).toNat -
 (↑(List.drop (0 : Nat)
 (List.take
 ((idx
 g.fst.fst
 (x.fst.getD
 g.snd.snd.fst.toNat
 ((0 :
 Int),
 (0 :
 Int))).snd).toNat +
 (List.drop
 (idx
 g.fst.fst
 (x.fst.getD
 g.snd.snd.fst.toNat
 ((0 :
 Int),
 (0 :
 Int))).snd +
 (1 :
 Int)).toNat
 (List.take
 (↑g.fst.fst.length :
 Int).toNat
 g.fst.fst)).length)
 (List.take
 (idx
 g.fst.fst
 (x.fst.getD
 g.snd.snd.fst.toNat
 ((0 :
 Int),
 (0 :
 Int))).snd).toNat
 g.fst.fst ++
 (List.drop
 (idx
 g.fst.fst
 (x.fst.getD
 g.snd.snd.fst.toNat
 ((0 :
 Int),
 (0 :
 Int))).snd +
 (1 :
 Int)).toNat
 (List.take
 (↑g.fst.fst.length :
 Int).toNat
 g.fst.fst) ++
 List.drop
 ((idx
 g.fst.fst
 (x.fst.getD
 g.snd.snd.fst.toNat
 ((0 :
 Int),
 (0 :
 Int))).snd).toNat +
 (List.drop
 (idx
 g.fst.fst
 (x.fst.getD
 g.snd.snd.fst.toNat
 ((0 :
 Int),
 (0 :
 Int))).snd +
 (1 :
 Int)).toNat
 (List.take
 (↑g.fst.fst.length :
 Int).toNat
 g.fst.fst)).length)
 g.fst.fst)))).length :
 Int).toNat))
 (List.take
 (idx g.fst.fst
 (x.fst.getD
 g.snd.snd.fst.toNat
 ((0 : Int),
 (0 :
 Int))).snd).toNat
 g.fst.fst ++
 (List.drop
 (idx g.fst.fst
 (x.fst.getD
 g.snd.snd.fst.toNat
 ((0 : Int),
 (0 :
 Int))).snd +
 (1 : Int)).toNat
 (List.take
 (↑g.fst.fst.length :
 Int).toNat
 g.fst.fst) ++
 List.drop
 ((idx g.fst.fst
 (x.fst.getD
 g.snd.snd.fst.toNat
 ((0 : Int),
 (0 :
 Int))).snd).toNat +
 (List.drop
 (idx g.fst.fst
 (x.fst.getD
 g.snd.snd.fst.toNat
 ((0 :
 Int),
 (0 :
 Int))).snd +
 (1 :
 Int)).toNat
 (List.take
 (↑g.fst.fst.length :
 Int).toNat
 g.fst.fst)).length)
 g.fst.fst))))),
 g.fst.snd.fst, g.fst.snd.snd)
 (g.snd.snd.fst + (1 : Int)) ∧
 (↑(g.snd.fst ++
 ((0 : Int) ::
 ([] : List Int)).set
 (0 : Nat) (0 : Int)).length :
 Int) =
 g.snd.snd.fst + (1 : Int)) ∧
 ((↑x.fst.length : Int) -
 (g.snd.snd.fst + (1 : Int))).toNat <
 ((↑x.fst.length : Int) - g.snd.snd.fst).toNat) ∧
 ((True ∧ True) ∧
 True ∧
 x.fst = x.fst ∧
 (↑x.fst.length : Int) =
 (↑x.fst.length : Int) ∧
 g.snd.snd.fst + (1 : Int) =
 g.snd.snd.fst + (1 : Int) ∧
 True) ∧
 ((True ∧
 g.fst.snd.fst = g.fst.snd.fst ∧
 True ∧ True) ∧
 List.drop (0 : Nat)
 (List.take
 ((idx g.fst.fst
 (x.fst.getD g.snd.snd.fst.toNat
 ((0 : Int),
 (0 : Int))).snd).toNat +
 (List.drop
 (idx g.fst.fst
 (x.fst.getD
 g.snd.snd.fst.toNat
 ((0 : Int),
 (0 : Int))).snd +
 (1 : Int)).toNat
 (List.take
 (↑g.fst.fst.length :
 Int).toNat
 g.fst.fst)).length)
 (List.take
 (↑(List.drop (0 : Nat)
 (List.take
 ((idx g.fst.fst
 (x.fst.getD
 g.snd.snd.fst.toNat
 ((0 : Int),
 (0 :
 Int))).snd).toNat +
 (List.drop
 (idx g.fst.fst
 (x.fst.getD
 g.snd.snd.fst.toNat
 ((0 :
 Int),
 (0 :
 Int))).snd +
 (1 :
 Int)).toNat
 (List.take
 (↑g.fst.fst.length :
 Int).toNat
 g.fst.fst)).length)
 (List.take
 (idx g.fst.fst
 (x.fst.getD
 g.snd.snd.fst.toNat
 ((0 :
 Int),
 (0 :
 Int))).snd).toNat
 g.fst.fst ++
 (List.drop
 (idx g.fst.fst
 (x.fst.getD
 g.snd.snd.fst.toNat
 ((0 :
 Int),
 (0 :
 Int))).snd +
 (1 :
 Int)).toNat
 (List.take
 (↑g.fst.fst.length :
 Int).toNat
 g.fst.fst) ++
 List.drop
 ((idx g.fst.fst
 (x.fst.getD
 g.snd.snd.fst.toNat
 ((0 :
 Int),
 (0 :
 Int))).snd).toNat +
 (List.drop
 (idx
 g.fst.fst
 (x.fst.getD
 g.snd.snd.fst.toNat
 ((0 :
 Int),
 (0 :
 Int))).snd +
 (1 :
 Int)).toNat
 (List.take
 (↑g.fst.fst.length :
 Int).toNat
 g.fst.fst)).length)
 g.fst.fst)))).length :
 Int).toNat
 (List.take
 (idx g.fst.fst
 (x.fst.getD
 g.snd.snd.fst.toNat
 ((0 : Int),
 (0 :
 Int))).snd).toNat
 g.fst.fst ++
 (List.drop
 (idx g.fst.fst
 (x.fst.getD
 g.snd.snd.fst.toNat
 ((0 : Int),
 (0 :
 Int))).snd +
 (1 : Int)).toNat
 (List.take
 (↑g.fst.fst.length :
 Int).toNat
 g.fst.fst) ++
 List.drop
 ((idx g.fst.fst
 (x.fst.getD
 g.snd.snd.fst.toNat
 ((0 : Int),
 (0 :
 Int))).snd).toNat +
 (List.drop
 (idx g.fst.fst
 (x.fst.getD
 g.snd.snd.fst.toNat
 ((0 : Int),
 (0 :
 Int))).snd +
 (1 : Int)).toNat
 (List.take
 (↑g.fst.fst.length :
 Int).toNat
 g.fst.fst)).length)
 g.fst.fst)) ++
 (List.replicate
 ((↑g.fst.fst.length :
 Int).toNat -
 (↑(List.drop (0 : Nat)
 (List.take
 ((idx g.fst.fst
 (x.fst.getD
 g.snd.snd.fst.toNat
 ((0 :
 Int),
 (0 :
 Int))).snd).toNat +
 (List.drop
 (idx
 g.fst.fst
 (x.fst.getD
 g.snd.snd.fst.toNat
 ((0 :
 Int),
 (0 :
 Int))).snd +
 (1 :
 Int)).toNat
 (List.take
 (↑g.fst.fst.length :
 Int).toNat
 g.fst.fst)).length)
 (List.take
 (idx g.fst.fst
 (x.fst.getD
 g.snd.snd.fst.toNat
 ((0 :
 Int),
 (0 :
 Int))).snd).toNat
 g.fst.fst ++
 (List.drop
 (idx
 g.fst.fst
 (x.fst.getD
 g.snd.snd.fst.toNat
 ((0 :
 Int),
 (0 :
 Int))).snd +
 (1 :
 Int)).toNat
 (List.take
 (↑g.fst.fst.length :
 Int).toNat
 g.fst.fst) ++
 List.drop
 ((idx
 g.fst.fst
 (x.fst.getD
 g.snd.snd.fst.toNat
 ((0 :
 Int),
 (0 :
 Int))).snd).toNat +
 (List.drop
 (idx
 g.fst.fst
 (x.fst.getD
 g.snd.snd.fst.toNat
 ((0 :
 Int),
 (0 :
 Int))).snd +
 (1 :
 Int)).toNat
 (List.take
 (↑g.fst.fst.length :
 Int).toNat
 g.fst.fst)).length)
 g.fst.fst)))).length :
 Int).toNat)
 (0 : Int) ++
 List.drop
 ((↑(List.drop (0 : Nat)
 (List.take
 ((idx g.fst.fst
 (x.fst.getD
 g.snd.snd.fst.toNat
 ((0 :
 Int),
 (0 :
 Int))).snd).toNat +
 (List.drop
 (idx
 g.fst.fst
 (x.fst.getD
 g.snd.snd.fst.toNat
 ((0 :
 Int),
 (0 :
 Int))).snd +
 (1 :
 Int)).toNat
 (List.take
 (↑g.fst.fst.length :
 Int).toNat
 g.fst.fst)).length)
 (List.take
 (idx g.fst.fst
 (x.fst.getD
 g.snd.snd.fst.toNat
 ((0 :
 Int),
 (0 :
 Int))).snd).toNat
 g.fst.fst ++
 (List.drop
 (idx
 g.fst.fst
 (x.fst.getD
 g.snd.snd.fst.toNat
 ((0 :
 Int),
 (0 :
 Int))).snd +
 (1 :
 Int)).toNat
 (List.take
 (↑g.fst.fst.length :
 Int).toNat
 g.fst.fst) ++
 List.drop
 ((idx
 g.fst.fst
 (x.fst.getD
 g.snd.snd.fst.toNat
 ((0 :
 Int),
 (0 :
 Int))).snd).toNat +
 (List.drop
 (idx
 g.fst.fst
 (x.fst.getD
 g.snd.snd.fst.toNat
 ((0 :
 Int),
 (0 :
 Int))).snd +
 (1 :
 Int)).toNat
 (List.take
 (↑g.fst.fst.length :
 Int).toNat
 g.fst.fst)).length)
 g.fst.fst)))).length :
 Int).toNat +
 ((↑g.fst.fst.length :
 Int).toNat -
 (↑(List.drop (0 : Nat)
 (List.take
 ((idx g.fst.fst
 (x.fst.getD
 g.snd.snd.fst.toNat
 ((0 :
 Int),
 (0 :
 Int))).snd).toNat +
 (List.drop
 (idx
 g.fst.fst
 (x.fst.getD
 g.snd.snd.fst.toNat
 ((0 :
 Int),
 (0 :
 Int))).snd +
 (1 :
 Int)).toNat
 (List.take
 (↑g.fst.fst.length :
 Int).toNat
 g.fst.fst)).length)
 (List.take
 (idx
 g.fst.fst
 (x.fst.getD
 g.snd.snd.fst.toNat
 ((0 :
 Int),
 (0 :
 Int))).snd).toNat
 g.fst.fst ++
 (List.drop
 (idx
 g.fst.fst
 (x.fst.getD
 g.snd.snd.fst.toNat
 ((0 :
 Int),
 (0 :
 Int))).snd +
 (1 :
 Int)).toNat
 (List.take
 (↑g.fst.fst.length :
 Int).toNat
 g.fst.fst) ++
 List.drop
 ((idx
 g.fst.fst
 (x.fst.getD
 g.snd.snd.fst.toNat
 ((0 :
 Int),
 (0 :
 Int))).snd).toNat +
 (List.drop
 (idx
 g.fst.fst
 (x.fst.getD
 g.snd.snd.fst.toNat
 ((0 :
 Int),
 (0 :
 Int))).snd +
 (1 :
 Int)).toNat
 (List.take
 (↑g.fst.fst.length :
 Int).toNat
 g.fst.fst)).length)
 g.fst.fst)))).length :
 Int).toNat))
 (List.take
 (idx g.fst.fst
 (x.fst.getD
 g.snd.snd.fst.toNat
 ((0 : Int),
 (0 :
 Int))).snd).toNat
 g.fst.fst ++
 (List.drop
 (idx g.fst.fst
 (x.fst.getD
 g.snd.snd.fst.toNat
 ((0 : Int),
 (0 :
 Int))).snd +
 (1 : Int)).toNat
 (List.take
 (↑g.fst.fst.length :
 Int).toNat
 g.fst.fst) ++
 List.drop
 ((idx g.fst.fst
 (x.fst.getD
 g.snd.snd.fst.toNat
 ((0 : Int),
 (0 :
 Int))).snd).toNat +
 (List.drop
 (idx g.fst.fst
 (x.fst.getD
 g.snd.snd.fst.toNat
 ((0 :
 Int),
 (0 :
 Int))).snd +
 (1 : Int)).toNat
 (List.take
 (↑g.fst.fst.length :
 Int).toNat
 g.fst.fst)).length)
 g.fst.fst))))) =
 List.drop (0 : Nat)
 (List.take
 ((idx g.fst.fst
 (x.fst.getD g.snd.snd.fst.toNat
 ((0 : Int),
 (0 : Int))).snd).toNat +
 (List.drop
 (idx g.fst.fst
 (x.fst.getD
 g.snd.snd.fst.toNat
 ((0 : Int),
 (0 : Int))).snd +
 (1 : Int)).toNat
 (List.take
 (↑g.fst.fst.length :
 Int).toNat
 g.fst.fst)).length)
 (List.take
 (↑(List.drop (0 : Nat)
 (List.take
 ((idx g.fst.fst
 (x.fst.getD
 g.snd.snd.fst.toNat
 ((0 : Int),
 (0 :
 Int))).snd).toNat +
 (List.drop
 (idx g.fst.fst
 (x.fst.getD
 g.snd.snd.fst.toNat
 ((0 :
 Int),
 (0 :
 Int))).snd +
 (1 :
 Int)).toNat
 (List.take
 (↑g.fst.fst.length :
 Int).toNat
 g.fst.fst)).length)
 (List.take
 (idx g.fst.fst
 (x.fst.getD
 g.snd.snd.fst.toNat
 ((0 :
 Int),
 (0 :
 Int))).snd).toNat
 g.fst.fst ++
 (List.drop
 (idx g.fst.fst
 (x.fst.getD
 g.snd.snd.fst.toNat
 ((0 :
 Int),
 (0 :
 Int))).snd +
 (1 :
 Int)).toNat
 (List.take
 (↑g.fst.fst.length :
 Int).toNat
 g.fst.fst) ++
 List.drop
 ((idx g.fst.fst
 (x.fst.getD
 g.snd.snd.fst.toNat
 ((0 :
 Int),
 (0 :
 Int))).snd).toNat +
 (List.drop
 (idx
 g.fst.fst
 (x.fst.getD
 g.snd.snd.fst.toNat
 ((0 :
 Int),
 (0 :
 Int))).snd +
 (1 :
 Int)).toNat
 (List.take
 (↑g.fst.fst.length :
 Int).toNat
 g.fst.fst)).length)
 g.fst.fst)))).length :
 Int).toNat
 (List.take
 (idx g.fst.fst
 (x.fst.getD
 g.snd.snd.fst.toNat
 ((0 : Int),
 (0 :
 Int))).snd).toNat
 g.fst.fst ++
 (List.drop
 (idx g.fst.fst
 (x.fst.getD
 g.snd.snd.fst.toNat
 ((0 : Int),
 (0 :
 Int))).snd +
 (1 : Int)).toNat
 (List.take
 (↑g.fst.fst.length :
 Int).toNat
 g.fst.fst) ++
 List.drop
 ((idx g.fst.fst
 (x.fst.getD
 g.snd.snd.fst.toNat
 ((0 : Int),
 (0 :
 Int))).snd).toNat +
 (List.drop
 (idx g.fst.fst
 (x.fst.getD
 g.snd.snd.fst.toNat
 ((0 : Int),
 (0 :
 Int))).snd +
 (1 : Int)).toNat
 (List.take
 (↑g.fst.fst.length :
 Int).toNat
 g.fst.fst)).length)
 g.fst.fst)) ++
 (List.replicate
 ((↑g.fst.fst.length :
 Int).toNat -
 (↑(List.drop (0 : Nat)
 (List.take
 ((idx g.fst.fst
 (x.fst.getD
 g.snd.snd.fst.toNat
 ((0 :
 Int),
 (0 :
 Int))).snd).toNat +
 (List.drop
 (idx
 g.fst.fst
 (x.fst.getD
 g.snd.snd.fst.toNat
 ((0 :
 Int),
 (0 :
 Int))).snd +
 (1 :
 Int)).toNat
 (List.take
 (↑g.fst.fst.length :
 Int).toNat
 g.fst.fst)).length)
 (List.take
 (idx g.fst.fst
 (x.fst.getD
 g.snd.snd.fst.toNat
 ((0 :
 Int),
 (0 :
 Int))).snd).toNat
 g.fst.fst ++
 (List.drop
 (idx
 g.fst.fst
 (x.fst.getD
 g.snd.snd.fst.toNat
 ((0 :
 Int),
 (0 :
 Int))).snd +
 (1 :
 Int)).toNat
 (List.take
 (↑g.fst.fst.length :
 Int).toNat
 g.fst.fst) ++
 List.drop
 ((idx
 g.fst.fst
 (x.fst.getD
 g.snd.snd.fst.toNat
 ((0 :
 Int),
 (0 :
 Int))).snd).toNat +
 (List.drop
 (idx
 g.fst.fst
 (x.fst.getD
 g.snd.snd.fst.toNat
 ((0 :
 Int),
 (0 :
 Int))).snd +
 (1 :
 Int)).toNat
 (List.take
 (↑g.fst.fst.length :
 Int).toNat
 g.fst.fst)).length)
 g.fst.fst)))).length :
 Int).toNat)
 (0 : Int) ++
 List.drop
 ((↑(List.drop (0 : Nat)
 (List.take
 ((idx g.fst.fst
 (x.fst.getD
 g.snd.snd.fst.toNat
 ((0 :
 Int),
 (0 :
 Int))).snd).toNat +
 (List.drop
 (idx
 g.fst.fst
 (x.fst.getD
 g.snd.snd.fst.toNat
 ((0 :
 Int),
 (0 :
 Int))).snd +
 (1 :
 Int)).toNat
 (List.take
 (↑g.fst.fst.length :
 Int).toNat
 g.fst.fst)).length)
 (List.take
 (idx g.fst.fst
 (x.fst.getD
 g.snd.snd.fst.toNat
 ((0 :
 Int),
 (0 :
 Int))).snd).toNat
 g.fst.fst ++
 (List.drop
 (idx
 g.fst.fst
 (x.fst.getD
 g.snd.snd.fst.toNat
 ((0 :
 Int),
 (0 :
 Int))).snd +
 (1 :
 Int)).toNat
 (List.take
 (↑g.fst.fst.length :
 Int).toNat
 g.fst.fst) ++
 List.drop
 ((idx
 g.fst.fst
 (x.fst.getD
 g.snd.snd.fst.toNat
 ((0 :
 Int),
 (0 :
 Int))).snd).toNat +
 (List.drop
 (idx
 g.fst.fst
 (x.fst.getD
 g.snd.snd.fst.toNat
 ((0 :
 Int),
 (0 :
 Int))).snd +
 (1 :
 Int)).toNat
 (List.take
 (↑g.fst.fst.length :
 Int).toNat
 g.fst.fst)).length)
 g.fst.fst)))).length :
 Int).toNat +
 ((↑g.fst.fst.length :
 Int).toNat -
 (↑(List.drop (0 : Nat)
 (List.take
 ((idx g.fst.fst
 (x.fst.getD
 g.snd.snd.fst.toNat
 ((0 :
 Int),
 (0 :
 Int))).snd).toNat +
 (List.drop
 (idx
 g.fst.fst
 (x.fst.getD
 g.snd.snd.fst.toNat
 ((0 :
 Int),
 (0 :
 Int))).snd +
 (1 :
 Int)).toNat
 (List.take
 (↑g.fst.fst.length :
 Int).toNat
 g.fst.fst)).length)
 (List.take
 (idx
 g.fst.fst
 (x.fst.getD
 g.snd.snd.fst.toNat
 ((0 :
 Int),
 (0 :
 Int))).snd).toNat
 g.fst.fst ++
 (List.drop
 (idx
 g.fst.fst
 (x.fst.getD
 g.snd.snd.fst.toNat
 ((0 :
 Int),
 (0 :
 Int))).snd +
 (1 :
 Int)).toNat
 (List.take
 (↑g.fst.fst.length :
 Int).toNat
 g.fst.fst) ++
 List.drop
 ((idx
 g.fst.fst
 (x.fst.getD
 g.snd.snd.fst.toNat
 ((0 :
 Int),
 (0 :
 Int))).snd).toNat +
 (List.drop
 (idx
 g.fst.fst
 (x.fst.getD
 g.snd.snd.fst.toNat
 ((0 :
 Int),
 (0 :
 Int))).snd +
 (1 :
 Int)).toNat
 (List.take
 (↑g.fst.fst.length :
 Int).toNat
 g.fst.fst)).length)
 g.fst.fst)))).length :
 Int).toNat))
 (List.take
 (idx g.fst.fst
 (x.fst.getD
 g.snd.snd.fst.toNat
 ((0 : Int),
 (0 :
 Int))).snd).toNat
 g.fst.fst ++
 (List.drop
 (idx g.fst.fst
 (x.fst.getD
 g.snd.snd.fst.toNat
 ((0 : Int),
 (0 :
 Int))).snd +
 (1 : Int)).toNat
 (List.take
 (↑g.fst.fst.length :
 Int).toNat
 g.fst.fst) ++
 List.drop
 ((idx g.fst.fst
 (x.fst.getD
 g.snd.snd.fst.toNat
 ((0 : Int),
 (0 :
 Int))).snd).toNat +
 (List.drop
 (idx g.fst.fst
 (x.fst.getD
 g.snd.snd.fst.toNat
 ((0 :
 Int),
 (0 :
 Int))).snd +
 (1 : Int)).toNat
 (List.take
 (↑g.fst.fst.length :
 Int).toNat
 g.fst.fst)).length)
 g.fst.fst))))) ∧
 g.fst.snd.snd = g.fst.snd.snd ∧
 g.snd.fst ++
 ((0 : Int) :: ([] : List Int)).set
 (0 : Nat) (0 : Int) =
 g.snd.fst ++
 ((0 : Int) :: ([] : List Int)).set
 (0 : Nat) (0 : Int) ∧
 True) ∧
 True))) ∧
 (((x.fst.getD g.snd.snd.fst.toNat ((0 : Int), (0 : Int))).fst == (4 : Int)) =
 false →
 (((x.fst.getD g.snd.snd.fst.toNat ((0 : Int), (0 : Int))).fst == (5 : Int)) =
 true →
 (((flush (x.fst.getD g.snd.snd.fst.toNat ((0 : Int), (0 : Int))).snd
 (g.fst.fst, g.fst.snd.fst, g.fst.snd.snd) =
 flush (x.fst.getD g.snd.snd.fst.toNat ((0 : Int), (0 : Int))).snd
 (g.fst.1, g.fst.snd.1, g.fst.snd.2) ∧
 (∀ (g_1 : Int), g_1 ∈ g.fst.fst → (0 : Int) ≤ g_1) ∧
 (↑(lst (g.fst.fst, g.fst.snd.fst, g.fst.snd.snd)).length : Int) +
 (↑g.fst.snd.snd.length : Int) ≤
 (400 : Int)) ∧
 True) ∧
 ((True ∧ True) ∧ (True ∧ True) ∧ True) ∧
 ((True ∧ g.fst.snd.fst = g.fst.snd.fst ∧ True ∧ True) ∧
 g.fst.fst = g.fst.fst ∧
 g.fst.snd.snd = g.fst.snd.snd ∧
 g.snd.fst = g.snd.fst ∧
 ((x.fst.getD g.snd.snd.fst.toNat ((0 : Int), (0 : Int))).fst =
 (x.fst.getD g.snd.snd.fst.toNat
 ((0 : Int), (0 : Int))).fst ∧
 (x.fst.getD g.snd.snd.fst.toNat
 ((0 : Int), (0 : Int))).snd =
 (x.fst.getD g.snd.snd.fst.toNat
 ((0 : Int), (0 : Int))).snd ∧
 True) ∧
 ((x.fst.getD g.snd.snd.fst.toNat
 ((0 : Int), (0 : Int))).fst =
 (x.fst.getD g.snd.snd.fst.toNat
 ((0 : Int), (0 : Int))).fst ∧
 (x.fst.getD g.snd.snd.fst.toNat
 ((0 : Int), (0 : Int))).snd =
 (x.fst.getD g.snd.snd.fst.toNat
 ((0 : Int), (0 : Int))).snd ∧
 True) ∧
 True) ∧
 True ∧
 True ∧
 True ∧
 True ∧
 True ∧
 True ∧
 True ∧
 (True ∧ True) ∧
 True ∧
 True ∧
 (True ∧ True) ∧
 True ∧
 True ∧
 True ∧
 True ∧
 True ∧
 x.fst = x.fst ∧
 (↑x.fst.length : Int) =
 (↑x.fst.length : Int) ∧
 g.snd.snd.fst = g.snd.snd.fst ∧
 true = true ∧
 True ∧
 ((x.fst.getD
 g.snd.snd.fst.toNat
 ((0 : Int),
 (0 :
 Int))).fst =
 (x.fst.getD
 g.snd.snd.fst.toNat
 ((0 : Int),
 (0 :
 Int))).fst ∧
 (x.fst.getD
 g.snd.snd.fst.toNat
 ((0 : Int),
 (0 :
 Int))).snd =
 (x.fst.getD
 g.snd.snd.fst.toNat
 ((0 : Int),
 (0 :
 Int))).snd ∧
 True) ∧
 True ∧
 (True ∧ True) ∧
 ((x.fst.getD
 g.snd.snd.fst.toNat
 ((0 : Int),
 (0 :
 Int))).fst =
 (x.fst.getD
 g.snd.snd.fst.toNat
 ((0 : Int),
 (0 :
 Int))).fst ∧
 (x.fst.getD
 g.snd.snd.fst.toNat
 ((0 :
 Int),
 (0 :
 Int))).snd =
 (x.fst.getD
 g.snd.snd.fst.toNat
 ((0 :
 Int),
 (0 :
 Int))).snd ∧
 True) ∧
 True ∧
 True ∧
 True ∧
 True ∧
 True ∧
 True ∧
 True ∧
 True ∧
 True ∧
 True ∧
 True ∧
 True ∧
 True ∧
 True ∧
 True ∧
 True ∧
 True ∧
 True ∧
 True) ∧
 ∀ (g_1 : (List Int × Int × List Int) × Unit),
 flush (x.fst.getD g.snd.snd.fst.toNat ((0 : Int), (0 : Int))).snd
 g_1.fst =
 flush (x.fst.getD g.snd.snd.fst.toNat ((0 : Int), (0 : Int))).snd
 (g.fst.1, g.fst.snd.1, g.fst.snd.2) ∧
 (∀ (g : Int), g ∈ g_1.fst.fst → (0 : Int) ≤ g) ∧
 (↑(lst g_1.fst).length : Int) + (↑g_1.fst.snd.snd.length : Int) ≤
 (400 : Int) →
 ((g_1.fst.fst.length ≤ (9223372036854775807 : Nat) ∧
 ∀ (x : Int),
 x ∈ g_1.fst.fst →
 (-9223372036854775808 : Int) ≤ x ∧
 x ≤ (9223372036854775807 : Int)) ∧
 ((-9223372036854775808 : Int) ≤ g_1.fst.snd.fst ∧
 g_1.fst.snd.fst ≤ (9223372036854775807 : Int)) ∧
 g_1.fst.snd.snd.length ≤ (9223372036854775807 : Nat) ∧
 ∀ (x : Int),
 x ∈ g_1.fst.snd.snd →
 (-9223372036854775808 : Int) ≤ x ∧
 x ≤ (9223372036854775807 : Int)) ∧
 True →
 ((!g_1.fst.snd.fst ==
 (x.fst.getD g.snd.snd.fst.toNat
 ((0 : Int), (0 : Int))).snd) =
 true →
 (!g_1.fst.snd.fst ==
 (x.fst.getD g.snd.snd.fst.toNat
 ((0 : Int), (0 : Int))).snd) =
 true) ∧
 ((!g_1.fst.snd.fst ==
 (x.fst.getD g.snd.snd.fst.toNat
 ((0 : Int), (0 : Int))).snd) =
 true →
 (!g_1.fst.snd.fst ==
 (x.fst.getD g.snd.snd.fst.toNat
 ((0 : Int), (0 : Int))).snd) =
 true) ∧
 ((!g_1.fst.snd.fst ==
 (x.fst.getD g.snd.snd.fst.toNat
 ((0 : Int), (0 : Int))).snd) =
 true →
 (!g_1.fst.snd.fst ==
 (x.fst.getD g.snd.snd.fst.toNat
 ((0 : Int), (0 : Int))).snd) =
 true) ∧
 ((!g_1.fst.snd.fst ==
 (x.fst.getD g.snd.snd.fst.toNat
 ((0 : Int), (0 : Int))).snd) =
 true →
 ((!g_1.fst.snd.fst ==
 (x.fst.getD g.snd.snd.fst.toNat
 ((0 : Int), (0 : Int))).snd) =
 true ∧
 (!g_1.fst.snd.fst ==
 (x.fst.getD g.snd.snd.fst.toNat
 ((0 : Int), (0 : Int))).snd) =
 true) ∧
 Holds True) ∧
 ((g_1.fst.snd.fst ==
 (x.fst.getD g.snd.snd.fst.toNat
 ((0 : Int), (0 : Int))).snd) =
 false →
 (!g_1.fst.snd.fst ==
 (x.fst.getD g.snd.snd.fst.toNat
 ((0 : Int), (0 : Int))).snd) =
 true) ∧
 ((g_1.fst.snd.fst ==
 (x.fst.getD g.snd.snd.fst.toNat
 ((0 : Int), (0 : Int))).snd ||
 decide
 ((0 : Int) ≤
 idx g_1.fst.fst
 (x.fst.getD g.snd.snd.fst.toNat
 ((0 : Int), (0 : Int))).snd)) =
 true →
 (decide ((0 : Int) ≤ g_1.fst.snd.fst) = true →
 (((6 : Int) == (6 : Int)) = true →
 (decide (g_1.fst.snd.fst < (0 : Int)) = true →
 ((flush
 (x.fst.getD g.snd.snd.fst.toNat
 ((0 : Int), (0 : Int))).snd
 (g_1.fst.fst, g_1.fst.snd.fst,
 g_1.fst.snd.snd) =
 flush
 (x.fst.getD g.snd.snd.fst.toNat
 ((0 : Int), (0 : Int))).snd
 (g.fst.1, g.fst.snd.1,
 g.fst.snd.2) ∧
 (∀ (g : Int),
 g ∈ g_1.fst.fst → (0 : Int) ≤ g) ∧
 (↑(lst
 (g_1.fst.fst,
 g_1.fst.snd.fst,
 g_1.fst.snd.snd)).length :
 Int) +
 (↑g_1.fst.snd.snd.length :
 Int) ≤
 (400 : Int)) ∧
 mea
 (g_1.fst.fst, g_1.fst.snd.fst,
 g_1.fst.snd.snd) <
 mea g_1.fst) ∧
 ((True ∧ True) ∧ (True ∧ True) ∧ True) ∧
 ((True ∧
 g_1.fst.snd.fst =
 g_1.fst.snd.fst ∧
 True ∧ True) ∧
 g_1.fst.fst = g_1.fst.fst ∧
 g_1.fst.snd.snd =
 g_1.fst.snd.snd ∧
 g.snd.fst = g.snd.fst ∧
 ((x.fst.getD
 g.snd.snd.fst.toNat
 ((0 : Int),
 (0 : Int))).fst =
 (x.fst.getD
 g.snd.snd.fst.toNat
 ((0 : Int),
 (0 : Int))).fst ∧
 (x.fst.getD
 g.snd.snd.fst.toNat
 ((0 : Int),
 (0 :
 Int))).snd =
 (x.fst.getD
 g.snd.snd.fst.toNat
 ((0 : Int),
 (0 :
 Int))).snd ∧
 True) ∧
 ((x.fst.getD
 g.snd.snd.fst.toNat
 ((0 : Int),
 (0 :
 Int))).fst =
 (x.fst.getD
 g.snd.snd.fst.toNat
 ((0 : Int),
 (0 :
 Int))).fst ∧
 (x.fst.getD
 g.snd.snd.fst.toNat
 ((0 : Int),
 (0 :
 Int))).snd =
 (x.fst.getD
 g.snd.snd.fst.toNat
 ((0 : Int),
 (0 :
 Int))).snd ∧
 True) ∧
 True) ∧
 True ∧
 True ∧
 True ∧
 True ∧
 True ∧
 True ∧
 True ∧
 (True ∧ True) ∧
 True ∧
 True ∧
 (True ∧ True) ∧
 True ∧
 True ∧
 True ∧
 True ∧
 True ∧
 x.fst =
 x.fst ∧
 (↑x.fst.length :
 Int) =
 (↑x.fst.length :
 Int) ∧
 g.snd.snd.fst =
 g.snd.snd.fst ∧
 true =
 true ∧
 True ∧
 ((x.fst.getD
 g.snd.snd.fst.toNat
 ((0 :
 Int),
 (0 :
 Int))).fst =
 (x.fst.getD
 g.snd.snd.fst.toNat
 ((0 :
 Int),
 (0 :
 Int))).fst ∧
 (x.fst.getD
 g.snd.snd.fst.toNat
 ((0 :
 Int),
 (0 :
 Int))).snd =
 (x.fst.getD
 g.snd.snd.fst.toNat
 ((0 :
 Int),
 (0 :
 Int))).snd ∧
 True) ∧
 True ∧
 (True ∧
 True) ∧
 ((x.fst.getD
 g.snd.snd.fst.toNat
 ((0 :
 Int),
 (0 :
 Int))).fst =
 (x.fst.getD
 g.snd.snd.fst.toNat
 ((0 :
 Int),
 (0 :
 Int))).fst ∧
 (x.fst.getD
 g.snd.snd.fst.toNat
 ((0 :
 Int),
 (0 :
 Int))).snd =
 (x.fst.getD
 g.snd.snd.fst.toNat
 ((0 :
 Int),
 (0 :
 Int))).snd ∧
 True) ∧
 True ∧
 True ∧
 True ∧
 True ∧
 True ∧
 True ∧
 True ∧
 True ∧
 True ∧
 True ∧
 True ∧
 True ∧
 True ∧
 True ∧
 True ∧
 True ∧
 True ∧
 True ∧
 True) ∧
 (decide (g_1.fst.snd.fst < (0 : Int)) =
 false →
 (g_1.fst.snd.snd.length +
 (((0 : Int) :: ([] : List Int)).set
 (0 : Nat)
 g_1.fst.snd.fst).length ≤
 (9223372036854775807 : Nat) ∧
 (g_1.fst.snd.snd.length +
 (((0 : Int) ::
 ([] : List Int)).set
 (0 : Nat)
 g_1.fst.snd.fst).length +
 (g_1.fst.snd.snd.length +
 (((0 : Int) ::
 ([] : List Int)).set
 (0 : Nat)
 g_1.fst.snd.fst).length) /
 (4 : Nat) +
 (192 : Nat)) *
 (8 : Nat) ≤
 (281474976710656 : Nat)) ∧
 ((flush
 (x.fst.getD g.snd.snd.fst.toNat
 ((0 : Int), (0 : Int))).snd
 (g_1.fst.fst, (-1 : Int),
 g_1.fst.snd.snd ++
 ((0 : Int) ::
 ([] : List Int)).set
 (0 : Nat)
 g_1.fst.snd.fst) =
 flush
 (x.fst.getD g.snd.snd.fst.toNat
 ((0 : Int), (0 : Int))).snd
 (g.fst.1, g.fst.snd.1,
 g.fst.snd.2) ∧
 (∀ (g : Int),
 g ∈ g_1.fst.fst →
 (0 : Int) ≤ g) ∧
 (↑(lst
 (g_1.fst.fst,
 (-1 : Int),
 g_1.fst.snd.snd ++
 ((0 : Int) ::
 ([] :
 List
 Int)).set
 (0 : Nat)
 g_1.fst.snd.fst)).length :
 Int) +
 (↑(g_1.fst.snd.snd ++
 ((0 : Int) ::
 ([] :
 List Int)).set
 (0 : Nat)
 g_1.fst.snd.fst).length :
 Int) ≤
 (400 : Int)) ∧
 mea
 (g_1.fst.fst, (-1 : Int),
 g_1.fst.snd.snd ++
 ((0 : Int) ::
 ([] : List Int)).set
 (0 : Nat) g_1.fst.snd.fst) <
 mea g_1.fst) ∧
 ((True ∧ True) ∧ (True ∧ True) ∧ True) ∧
 ((True ∧
 (-1 : Int) = (-1 : Int) ∧
 True ∧ True) ∧
 g_1.fst.fst = g_1.fst.fst ∧
 g_1.fst.snd.snd ++
 ((0 : Int) ::
 ([] : List Int)).set
 (0 : Nat)
 g_1.fst.snd.fst =
 g_1.fst.snd.snd ++
 ((0 : Int) ::
 ([] : List Int)).set
 (0 : Nat)
 g_1.fst.snd.fst ∧
 g.snd.fst = g.snd.fst ∧
 ((x.fst.getD
 g.snd.snd.fst.toNat
 ((0 : Int),
 (0 :
 Int))).fst =
 (x.fst.getD
 g.snd.snd.fst.toNat
 ((0 : Int),
 (0 :
 Int))).fst ∧
 (x.fst.getD
 g.snd.snd.fst.toNat
 ((0 : Int),
 (0 :
 Int))).snd =
 (x.fst.getD
 g.snd.snd.fst.toNat
 ((0 : Int),
 (0 :
 Int))).snd ∧
 True) ∧
 ((x.fst.getD
 g.snd.snd.fst.toNat
 ((0 : Int),
 (0 :
 Int))).fst =
 (x.fst.getD
 g.snd.snd.fst.toNat
 ((0 : Int),
 (0 :
 Int))).fst ∧
 (x.fst.getD
 g.snd.snd.fst.toNat
 ((0 : Int),
 (0 :
 Int))).snd =
 (x.fst.getD
 g.snd.snd.fst.toNat
 ((0 : Int),
 (0 :
 Int))).snd ∧
 True) ∧
 True) ∧
 True ∧
 True ∧
 True ∧
 True ∧
 True ∧
 True ∧
 True ∧
 (True ∧ True) ∧
 True ∧
 True ∧
 (True ∧ True) ∧
 True ∧
 True ∧
 True ∧
 True ∧
 True ∧
 x.fst =
 x.fst ∧
 (↑x.fst.length :
 Int) =
 (↑x.fst.length :
 Int) ∧
 g.snd.snd.fst =
 g.snd.snd.fst ∧
 true =
 true ∧
 True ∧
 ((x.fst.getD
 g.snd.snd.fst.toNat
 ((0 :
 Int),
 (0 :
 Int))).fst =
 (x.fst.getD
 g.snd.snd.fst.toNat
 ((0 :
 Int),
 (0 :
 Int))).fst ∧
 (x.fst.getD
 g.snd.snd.fst.toNat
 ((0 :
 Int),
 (0 :
 Int))).snd =
 (x.fst.getD
 g.snd.snd.fst.toNat
 ((0 :
 Int),
 (0 :
 Int))).snd ∧
 True) ∧
 True ∧
 (True ∧
 True) ∧
 ((x.fst.getD
 g.snd.snd.fst.toNat
 ((0 :
 Int),
 (0 :
 Int))).fst =
 (x.fst.getD
 g.snd.snd.fst.toNat
 ((0 :
 Int),
 (0 :
 Int))).fst ∧
 (x.fst.getD
 g.snd.snd.fst.toNat
 ((0 :
 Int),
 (0 :
 Int))).snd =
 (x.fst.getD
 g.snd.snd.fst.toNat
 ((0 :
 Int),
 (0 :
 Int))).snd ∧
 True) ∧
 True ∧
 True ∧
 True ∧
 True ∧
 True ∧
 True ∧
 True ∧
 True ∧
 True ∧
 True ∧
 True ∧
 True ∧
 True ∧
 True ∧
 True ∧
 True ∧
 True ∧
 True ∧
 True)) ∧
 (((6 : Int) == (6 : Int)) = false →
 ((flush
 (x.fst.getD g.snd.snd.fst.toNat
 ((0 : Int), (0 : Int))).snd
 (g_1.fst.fst, g_1.fst.snd.fst,
 g_1.fst.snd.snd) =
 flush
 (x.fst.getD g.snd.snd.fst.toNat
 ((0 : Int), (0 : Int))).snd
 (g.fst.1, g.fst.snd.1, g.fst.snd.2) ∧
 (∀ (g : Int),
 g ∈ g_1.fst.fst → (0 : Int) ≤ g) ∧
 (↑(lst
 (g_1.fst.fst,
 g_1.fst.snd.fst,
 g_1.fst.snd.snd)).length :
 Int) +
 (↑g_1.fst.snd.snd.length : Int) ≤
 (400 : Int)) ∧
 mea
 (g_1.fst.fst, g_1.fst.snd.fst,
 g_1.fst.snd.snd) <
 mea g_1.fst) ∧
 ((True ∧ True) ∧ (True ∧ True) ∧ True) ∧
 ((True ∧
 g_1.fst.snd.fst = g_1.fst.snd.fst ∧
 True ∧ True) ∧
 g_1.fst.fst = g_1.fst.fst ∧
 g_1.fst.snd.snd = g_1.fst.snd.snd ∧
 g.snd.fst = g.snd.fst ∧
 ((x.fst.getD g.snd.snd.fst.toNat
 ((0 : Int),
 (0 : Int))).fst =
 (x.fst.getD
 g.snd.snd.fst.toNat
 ((0 : Int),
 (0 : Int))).fst ∧
 (x.fst.getD
 g.snd.snd.fst.toNat
 ((0 : Int),
 (0 : Int))).snd =
 (x.fst.getD
 g.snd.snd.fst.toNat
 ((0 : Int),
 (0 : Int))).snd ∧
 True) ∧
 ((x.fst.getD g.snd.snd.fst.toNat
 ((0 : Int),
 (0 : Int))).fst =
 (x.fst.getD
 g.snd.snd.fst.toNat
 ((0 : Int),
 (0 : Int))).fst ∧
 (x.fst.getD
 g.snd.snd.fst.toNat
 ((0 : Int),
 (0 : Int))).snd =
 (x.fst.getD
 g.snd.snd.fst.toNat
 ((0 : Int),
 (0 : Int))).snd ∧
 True) ∧
 True) ∧
 True ∧
 True ∧
 True ∧
 True ∧
 True ∧
 True ∧
 True ∧
 (True ∧ True) ∧
 True ∧
 True ∧
 (True ∧ True) ∧
 True ∧
 True ∧
 True ∧
 True ∧
 True ∧
 x.fst =
 x.fst ∧
 (↑x.fst.length :
 Int) =
 (↑x.fst.length :
 Int) ∧
 g.snd.snd.fst =
 g.snd.snd.fst ∧
 true =
 true ∧
 True ∧
 ((x.fst.getD
 g.snd.snd.fst.toNat
 ((0 :
 Int),
 (0 :
 Int))).fst =
 (x.fst.getD
 g.snd.snd.fst.toNat
 ((0 :
 Int),
 (0 :
 Int))).fst ∧
 (x.fst.getD
 g.snd.snd.fst.toNat
 ((0 :
 Int),
 (0 :
 Int))).snd =
 (x.fst.getD
 g.snd.snd.fst.toNat
 ((0 :
 Int),
 (0 :
 Int))).snd ∧
 True) ∧
 True ∧
 (True ∧
 True) ∧
 ((x.fst.getD
 g.snd.snd.fst.toNat
 ((0 :
 Int),
 (0 :
 Int))).fst =
 (x.fst.getD
 g.snd.snd.fst.toNat
 ((0 :
 Int),
 (0 :
 Int))).fst ∧
 (x.fst.getD
 g.snd.snd.fst.toNat
 ((0 :
 Int),
 (0 :
 Int))).snd =
 (x.fst.getD
 g.snd.snd.fst.toNat
 ((0 :
 Int),
 (0 :
 Int))).snd ∧
 True) ∧
 True ∧
 True ∧
 True ∧
 True ∧
 True ∧
 True ∧
 True ∧
 True ∧
 True ∧
 True ∧
 True ∧
 True ∧
 True ∧
 True ∧
 True ∧
 True ∧
 True ∧
 True ∧
 True)) ∧
 (decide ((0 : Int) ≤ g_1.fst.snd.fst) = false →
 (((↑g_1.fst.fst.length : Int) == (0 : Int)) = true →
 (((3 : Int) == (6 : Int)) = true →
 (decide (g_1.fst.snd.fst < (0 : Int)) =
 true →
 ((flush
 (x.fst.getD
 g.snd.snd.fst.toNat
 ((0 : Int),
 (0 : Int))).snd
 (g_1.fst.fst, g_1.fst.snd.fst,
 g_1.fst.snd.snd) =
 flush
 (x.fst.getD
 g.snd.snd.fst.toNat
 ((0 : Int),
 (0 : Int))).snd
 (g.fst.1, g.fst.snd.1,
 g.fst.snd.2) ∧
 (∀ (g : Int),
 g ∈ g_1.fst.fst →
 (0 : Int) ≤ g) ∧
 (↑(lst
 (g_1.fst.fst,
 g_1.fst.snd.fst,
 g_1.fst.snd.snd)).length :
 Int) +
 (↑g_1.fst.snd.snd.length :
 Int) ≤
 (400 : Int)) ∧
 mea
 (g_1.fst.fst, g_1.fst.snd.fst,
 g_1.fst.snd.snd) <
 mea g_1.fst) ∧
 ((True ∧ True) ∧
 (True ∧ True) ∧ True) ∧
 ((True ∧
 g_1.fst.snd.fst =
 g_1.fst.snd.fst ∧
 True ∧ True) ∧
 g_1.fst.fst = g_1.fst.fst ∧
 g_1.fst.snd.snd =
 g_1.fst.snd.snd ∧
 g.snd.fst = g.snd.fst ∧
 ((x.fst.getD
 g.snd.snd.fst.toNat
 ((0 : Int),
 (0 :
 Int))).fst =
 (x.fst.getD
 g.snd.snd.fst.toNat
 ((0 : Int),
 (0 :
 Int))).fst ∧
 (x.fst.getD
 g.snd.snd.fst.toNat
 ((0 : Int),
 (0 :
 Int))).snd =
 (x.fst.getD
 g.snd.snd.fst.toNat
 ((0 : Int),
 (0 :
 Int))).snd ∧
 True) ∧
 ((x.fst.getD
 g.snd.snd.fst.toNat
 ((0 : Int),
 (0 :
 Int))).fst =
 (x.fst.getD
 g.snd.snd.fst.toNat
 ((0 : Int),
 (0 :
 Int))).fst ∧
 (x.fst.getD
 g.snd.snd.fst.toNat
 ((0 : Int),
 (0 :
 Int))).snd =
 (x.fst.getD
 g.snd.snd.fst.toNat
 ((0 : Int),
 (0 :
 Int))).snd ∧
 True) ∧
 True) ∧
 True ∧
 True ∧
 True ∧
 True ∧
 True ∧
 True ∧
 True ∧
 (True ∧ True) ∧
 True ∧
 True ∧
 (True ∧
 True) ∧
 True ∧
 True ∧
 True ∧
 True ∧
 True ∧
 x.fst =
 x.fst ∧
 (↑x.fst.length :
 Int) =
 (↑x.fst.length :
 Int) ∧
 g.snd.snd.fst =
 g.snd.snd.fst ∧
 true =
 true ∧
 True ∧
 ((x.fst.getD
 g.snd.snd.fst.toNat
 ((0 :
 Int),
 (0 :
 Int))).fst =
 (x.fst.getD
 g.snd.snd.fst.toNat
 ((0 :
 Int),
 (0 :
 Int))).fst ∧
 (x.fst.getD
 g.snd.snd.fst.toNat
 ((0 :
 Int),
 (0 :
 Int))).snd =
 (x.fst.getD
 g.snd.snd.fst.toNat
 ((0 :
 Int),
 (0 :
 Int))).snd ∧
 True) ∧
 True ∧
 (True ∧
 True) ∧
 ((x.fst.getD
 g.snd.snd.fst.toNat
 ((0 :
 Int),
 (0 :
 Int))).fst =
 (x.fst.getD
 g.snd.snd.fst.toNat
 ((0 :
 Int),
 (0 :
 Int))).fst ∧
 (x.fst.getD
 g.snd.snd.fst.toNat
 ((0 :
 Int),
 (0 :
 Int))).snd =
 (x.fst.getD
 g.snd.snd.fst.toNat
 ((0 :
 Int),
 (0 :
 Int))).snd ∧
 True) ∧
 True ∧
 True ∧
 True ∧
 True ∧
 True ∧
 True ∧
 True ∧
 True ∧
 True ∧
 True ∧
 True ∧
 True ∧
 True ∧
 True ∧
 True ∧
 True ∧
 True ∧
 True ∧
 True) ∧
 (decide (g_1.fst.snd.fst < (0 : Int)) =
 false →
 (g_1.fst.snd.snd.length +
 (((0 : Int) ::
 ([] : List Int)).set
 (0 : Nat)
 g_1.fst.snd.fst).length ≤
 (9223372036854775807 : Nat) ∧
 (g_1.fst.snd.snd.length +
 (((0 : Int) ::
 ([] :
 List Int)).set
 (0 : Nat)
 g_1.fst.snd.fst).length +
 (g_1.fst.snd.snd.length +
 (((0 : Int) ::
 ([] :
 List Int)).set
 (0 : Nat)
 g_1.fst.snd.fst).length) /
 (4 : Nat) +
 (192 : Nat)) *
 (8 : Nat) ≤
 (281474976710656 : Nat)) ∧
 ((flush
 (x.fst.getD
 g.snd.snd.fst.toNat
 ((0 : Int),
 (0 : Int))).snd
 (g_1.fst.fst, (-1 : Int),
 g_1.fst.snd.snd ++
 ((0 : Int) ::
 ([] :
 List Int)).set
 (0 : Nat)
 g_1.fst.snd.fst) =
 flush
 (x.fst.getD
 g.snd.snd.fst.toNat
 ((0 : Int),
 (0 : Int))).snd
 (g.fst.1, g.fst.snd.1,
 g.fst.snd.2) ∧
 (∀ (g : Int),
 g ∈ g_1.fst.fst →
 (0 : Int) ≤ g) ∧
 (↑(lst
 (g_1.fst.fst,
 (-1 : Int),
 g_1.fst.snd.snd ++
 ((0 : Int) ::
 ([] :
 List
 Int)).set
 (0 : Nat)
 g_1.fst.snd.fst)).length :
 Int) +
 (↑(g_1.fst.snd.snd ++
 ((0 : Int) ::
 ([] :
 List
 Int)).set
 (0 : Nat)
 g_1.fst.snd.fst).length :
 Int) ≤
 (400 : Int)) ∧
 mea
 (g_1.fst.fst, (-1 : Int),
 g_1.fst.snd.snd ++
 ((0 : Int) ::
 ([] : List Int)).set
 (0 : Nat)
 g_1.fst.snd.fst) <
 mea g_1.fst) ∧
 ((True ∧ True) ∧
 (True ∧ True) ∧ True) ∧
 ((True ∧
 (-1 : Int) = (-1 : Int) ∧
 True ∧ True) ∧
 g_1.fst.fst = g_1.fst.fst ∧
 g_1.fst.snd.snd ++
 ((0 : Int) ::
 ([] :
 List Int)).set
 (0 : Nat)
 g_1.fst.snd.fst =
 g_1.fst.snd.snd ++
 ((0 : Int) ::
 ([] :
 List Int)).set
 (0 : Nat)
 g_1.fst.snd.fst ∧
 g.snd.fst = g.snd.fst ∧
 ((x.fst.getD
 g.snd.snd.fst.toNat
 ((0 : Int),
 (0 :
 Int))).fst =
 (x.fst.getD
 g.snd.snd.fst.toNat
 ((0 : Int),
 (0 :
 Int))).fst ∧
 (x.fst.getD
 g.snd.snd.fst.toNat
 ((0 : Int),
 (0 :
 Int))).snd =
 (x.fst.getD
 g.snd.snd.fst.toNat
 ((0 : Int),
 (0 :
 Int))).snd ∧
 True) ∧
 ((x.fst.getD
 g.snd.snd.fst.toNat
 ((0 : Int),
 (0 :
 Int))).fst =
 (x.fst.getD
 g.snd.snd.fst.toNat
 ((0 : Int),
 (0 :
 Int))).fst ∧
 (x.fst.getD
 g.snd.snd.fst.toNat
 ((0 :
 Int),
 (0 :
 Int))).snd =
 (x.fst.getD
 g.snd.snd.fst.toNat
 ((0 :
 Int),
 (0 :
 Int))).snd ∧
 True) ∧
 True) ∧
 True ∧
 True ∧
 True ∧
 True ∧
 True ∧
 True ∧
 True ∧
 (True ∧ True) ∧
 True ∧
 True ∧
 (True ∧
 True) ∧
 True ∧
 True ∧
 True ∧
 True ∧
 True ∧
 x.fst =
 x.fst ∧
 (↑x.fst.length :
 Int) =
 (↑x.fst.length :
 Int) ∧
 g.snd.snd.fst =
 g.snd.snd.fst ∧
 true =
 true ∧
 True ∧
 ((x.fst.getD
 g.snd.snd.fst.toNat
 ((0 :
 Int),
 (0 :
 Int))).fst =
 (x.fst.getD
 g.snd.snd.fst.toNat
 ((0 :
 Int),
 (0 :
 Int))).fst ∧
 (x.fst.getD
 g.snd.snd.fst.toNat
 ((0 :
 Int),
 (0 :
 Int))).snd =
 (x.fst.getD
 g.snd.snd.fst.toNat
 ((0 :
 Int),
 (0 :
 Int))).snd ∧
 True) ∧
 True ∧
 (True ∧
 True) ∧
 ((x.fst.getD
 g.snd.snd.fst.toNat
 ((0 :
 Int),
 (0 :
 Int))).fst =
 (x.fst.getD
 g.snd.snd.fst.toNat
 ((0 :
 Int),
 (0 :
 Int))).fst ∧
 (x.fst.getD
 g.snd.snd.fst.toNat
 ((0 :
 Int),
 (0 :
 Int))).snd =
 (x.fst.getD
 g.snd.snd.fst.toNat
 ((0 :
 Int),
 (0 :
 Int))).snd ∧
 True) ∧
 True ∧
 True ∧
 True ∧
 True ∧
 True ∧
 True ∧
 True ∧
 True ∧
 True ∧
 True ∧
 True ∧
 True ∧
 True ∧
 True ∧
 True ∧
 True ∧
 True ∧
 True ∧
 True)) ∧
 (((3 : Int) == (6 : Int)) = false →
 ((flush
 (x.fst.getD g.snd.snd.fst.toNat
 ((0 : Int), (0 : Int))).snd
 (g_1.fst.fst, g_1.fst.snd.fst,
 g_1.fst.snd.snd) =
 flush
 (x.fst.getD g.snd.snd.fst.toNat
 ((0 : Int), (0 : Int))).snd
 (g.fst.1, g.fst.snd.1,
 g.fst.snd.2) ∧
 (∀ (g : Int),
 g ∈ g_1.fst.fst → (0 : Int) ≤ g) ∧
 (↑(lst
 (g_1.fst.fst,
 g_1.fst.snd.fst,
 g_1.fst.snd.snd)).length :
 Int) +
 (↑g_1.fst.snd.snd.length :
 Int) ≤
 (400 : Int)) ∧
 mea
 (g_1.fst.fst, g_1.fst.snd.fst,
 g_1.fst.snd.snd) <
 mea g_1.fst) ∧
 ((True ∧ True) ∧ (True ∧ True) ∧ True) ∧
 ((True ∧
 g_1.fst.snd.fst =
 g_1.fst.snd.fst ∧
 True ∧ True) ∧
 g_1.fst.fst = g_1.fst.fst ∧
 g_1.fst.snd.snd =
 g_1.fst.snd.snd ∧
 g.snd.fst = g.snd.fst ∧
 ((x.fst.getD
 g.snd.snd.fst.toNat
 ((0 : Int),
 (0 : Int))).fst =
 (x.fst.getD
 g.snd.snd.fst.toNat
 ((0 : Int),
 (0 : Int))).fst ∧
 (x.fst.getD
 g.snd.snd.fst.toNat
 ((0 : Int),
 (0 :
 Int))).snd =
 (x.fst.getD
 g.snd.snd.fst.toNat
 ((0 : Int),
 (0 :
 Int))).snd ∧
 True) ∧
 ((x.fst.getD
 g.snd.snd.fst.toNat
 ((0 : Int),
 (0 :
 Int))).fst =
 (x.fst.getD
 g.snd.snd.fst.toNat
 ((0 : Int),
 (0 :
 Int))).fst ∧
 (x.fst.getD
 g.snd.snd.fst.toNat
 ((0 : Int),
 (0 :
 Int))).snd =
 (x.fst.getD
 g.snd.snd.fst.toNat
 ((0 : Int),
 (0 :
 Int))).snd ∧
 True) ∧
 True) ∧
 True ∧
 True ∧
 True ∧
 True ∧
 True ∧
 True ∧
 True ∧
 (True ∧ True) ∧
 True ∧
 True ∧
 (True ∧ True) ∧
 True ∧
 True ∧
 True ∧
 True ∧
 True ∧
 x.fst =
 x.fst ∧
 (↑x.fst.length :
 Int) =
 (↑x.fst.length :
 Int) ∧
 g.snd.snd.fst =
 g.snd.snd.fst ∧
 true =
 true ∧
 True ∧
 ((x.fst.getD
 g.snd.snd.fst.toNat
 ((0 :
 Int),
 (0 :
 Int))).fst =
 (x.fst.getD
 g.snd.snd.fst.toNat
 ((0 :
 Int),
 (0 :
 Int))).fst ∧
 (x.fst.getD
 g.snd.snd.fst.toNat
 ((0 :
 Int),
 (0 :
 Int))).snd =
 (x.fst.getD
 g.snd.snd.fst.toNat
 ((0 :
 Int),
 (0 :
 Int))).snd ∧
 True) ∧
 True ∧
 (True ∧
 True) ∧
 ((x.fst.getD
 g.snd.snd.fst.toNat
 ((0 :
 Int),
 (0 :
 Int))).fst =
 (x.fst.getD
 g.snd.snd.fst.toNat
 ((0 :
 Int),
 (0 :
 Int))).fst ∧
 (x.fst.getD
 g.snd.snd.fst.toNat
 ((0 :
 Int),
 (0 :
 Int))).snd =
 (x.fst.getD
 g.snd.snd.fst.toNat
 ((0 :
 Int),
 (0 :
 Int))).snd ∧
 True) ∧
 True ∧
 True ∧
 True ∧
 True ∧
 True ∧
 True ∧
 True ∧
 True ∧
 True ∧
 True ∧
 True ∧
 True ∧
 True ∧
 True ∧
 True ∧
 True ∧
 True ∧
 True ∧
 True)) ∧
 (((↑g_1.fst.fst.length : Int) == (0 : Int)) =
 false →
 ((0 : Int) ≤ (0 : Int) ∧
 (0 : Int) < (↑g_1.fst.fst.length : Int)) ∧
 (((0 : Int) ≤ (1 : Int) ∧
 (1 : Int) ≤
 (↑g_1.fst.fst.length : Int)) ∧
 (↑g_1.fst.fst.length : Int) ≤
 (↑g_1.fst.fst.length : Int)) ∧
 (((0 : Int) == (6 : Int)) = true →
 (decide
 (g_1.fst.fst.getD
 (Int.toNat (0 : Int))
 (0 : Int) <
 (0 : Int)) =
 true →
 ((flush
 (x.fst.getD
 g.snd.snd.fst.toNat
 ((0 : Int),
 (0 : Int))).snd
 (List.drop
 (Int.toNat (1 : Int))
 (List.take
 (↑g_1.fst.fst.length :
 Int).toNat
 g_1.fst.fst),
 g_1.fst.fst.getD
 (Int.toNat (0 : Int))
 (0 : Int),
 g_1.fst.snd.snd) =
 flush
 (x.fst.getD
 g.snd.snd.fst.toNat
 ((0 : Int),
 (0 : Int))).snd
 (g.fst.1, g.fst.snd.1,
 g.fst.snd.2) ∧
 (∀ (g : Int),
 g ∈
 List.drop
 (Int.toNat
 (1 : Int))
 (List.take
 (↑g_1.fst.fst.length :
 Int).toNat
 g_1.fst.fst) →
 (0 : Int) ≤ g) ∧
 (↑(lst
 (List.drop
 (Int.toNat
 (1 : Int))
 (List.take
 (↑g_1.fst.fst.length :
 Int).toNat
 g_1.fst.fst),
 g_1.fst.fst.getD
 (Int.toNat
 (0 : Int))
 (0 : Int),
 g_1.fst.snd.snd)).length :
 Int) +
 (↑g_1.fst.snd.snd.length :
 Int) ≤
 (400 : Int)) ∧
 mea
 (List.drop
 (Int.toNat (1 : Int))
 (List.take
 (↑g_1.fst.fst.length :
 Int).toNat
 g_1.fst.fst),
 g_1.fst.fst.getD
 (Int.toNat (0 : Int))
 (0 : Int),
 g_1.fst.snd.snd) <
 mea g_1.fst) ∧
 ((True ∧ True) ∧
 (True ∧ True) ∧ True) ∧
 ((True ∧
 g_1.fst.fst.getD
 (Int.toNat
 (0 : Int))
 (0 : Int) =
 g_1.fst.fst.getD
 (Int.toNat
 (0 : Int))
 (0 : Int) ∧
 True ∧ True) ∧
 List.drop
 (Int.toNat (1 : Int))
 (List.take
 (↑g_1.fst.fst.length :
 Int).toNat
 g_1.fst.fst) =
 List.drop
 (Int.toNat (1 : Int))
 (List.take
 (↑g_1.fst.fst.length :
 Int).toNat
 g_1.fst.fst) ∧
 g_1.fst.snd.snd =
 g_1.fst.snd.snd ∧
 g.snd.fst = g.snd.fst ∧
 ((x.fst.getD
 g.snd.snd.fst.toNat
 ((0 : Int),
 (0 :
 Int))).fst =
 (x.fst.getD
 g.snd.snd.fst.toNat
 ((0 : Int),
 (0 :
 Int))).fst ∧
 (x.fst.getD
 g.snd.snd.fst.toNat
 ((0 :
 Int),
 (0 :
 Int))).snd =
 (x.fst.getD
 g.snd.snd.fst.toNat
 ((0 :
 Int),
 (0 :
 Int))).snd ∧
 True) ∧
 ((x.fst.getD
 g.snd.snd.fst.toNat
 ((0 :
 Int),
 (0 :
 Int))).fst =
 (x.fst.getD
 g.snd.snd.fst.toNat
 ((0 :
 Int),
 (0 :
 Int))).fst ∧
 (x.fst.getD
 g.snd.snd.fst.toNat
 ((0 :
 Int),
 (0 :
 Int))).snd =
 (x.fst.getD
 g.snd.snd.fst.toNat
 ((0 :
 Int),
 (0 :
 Int))).snd ∧
 True) ∧
 True) ∧
 True ∧
 True ∧
 True ∧
 True ∧
 True ∧
 True ∧
 True ∧
 (True ∧ True) ∧
 True ∧
 True ∧
 (True ∧
 True) ∧
 True ∧
 True ∧
 True ∧
 True ∧
 True ∧
 x.fst =
 x.fst ∧
 (↑x.fst.length :
 Int) =
 (↑x.fst.length :
 Int) ∧
 g.snd.snd.fst =
 g.snd.snd.fst ∧
 true =
 true ∧
 True ∧
 ((x.fst.getD
 g.snd.snd.fst.toNat
 ((0 :
 Int),
 (0 :
 Int))).fst =
 (x.fst.getD
 g.snd.snd.fst.toNat
 ((0 :
 Int),
 (0 :
 Int))).fst ∧
 (x.fst.getD
 g.snd.snd.fst.toNat
 ((0 :
 Int),
 (0 :
 Int))).snd =
 (x.fst.getD
 g.snd.snd.fst.toNat
 ((0 :
 Int),
 (0 :
 Int))).snd ∧
 True) ∧
 True ∧
 (True ∧
 True) ∧
 ((x.fst.getD
 g.snd.snd.fst.toNat
 ((0 :
 Int),
 (0 :
 Int))).fst =
 (x.fst.getD
 g.snd.snd.fst.toNat
 ((0 :
 Int),
 (0 :
 Int))).fst ∧
 (x.fst.getD
 g.snd.snd.fst.toNat
 ((0 :
 Int),
 (0 :
 Int))).snd =
 (x.fst.getD
 g.snd.snd.fst.toNat
 ((0 :
 Int),
 (0 :
 Int))).snd ∧
 True) ∧
 True ∧
 True ∧
 True ∧
 True ∧
 True ∧
 True ∧
 True ∧
 True ∧
 True ∧
 True ∧
 True ∧
 True ∧
 True ∧
 True ∧
 True ∧
 True ∧
 True ∧
 True ∧
 True) ∧
 (decide
 (g_1.fst.fst.getD
 (Int.toNat (0 : Int))
 (0 : Int) <
 (0 : Int)) =
 false →
 (g_1.fst.snd.snd.length +
 (((0 : Int) ::
 ([] : List Int)).set
 (0 : Nat)
 (g_1.fst.fst.getD
 (Int.toNat (0 : Int))
 (0 : Int))).length ≤
 (9223372036854775807 : Nat) ∧
 (g_1.fst.snd.snd.length +
 (((0 : Int) ::
 ([] :
 List
 Int)).set
 (0 : Nat)
 (g_1.fst.fst.getD
 (Int.toNat
 (0 : Int))
 (0 :
 Int))).length +
 (g_1.fst.snd.snd.length +
 (((0 : Int) ::
 ([] :
 List
 Int)).set
 (0 : Nat)
 (g_1.fst.fst.getD
 (Int.toNat
 (0 : Int))
 (0 :
 Int))).length) /
 (4 : Nat) +
 (192 : Nat)) *
 (8 : Nat) ≤
 (281474976710656 : Nat)) ∧
 ((flush
 (x.fst.getD
 g.snd.snd.fst.toNat
 ((0 : Int),
 (0 : Int))).snd
 (List.drop
 (Int.toNat
 (1 : Int))
 (List.take
 (↑g_1.fst.fst.length :
 Int).toNat
 g_1.fst.fst),
 (-1 : Int),
 g_1.fst.snd.snd ++
 ((0 : Int) ::
 ([] :
 List
 Int)).set
 (0 : Nat)
 (g_1.fst.fst.getD
 (Int.toNat
 (0 : Int))
 (0 : Int))) =
 flush
 (x.fst.getD
 g.snd.snd.fst.toNat
 ((0 : Int),
 (0 : Int))).snd
 (g.fst.1, g.fst.snd.1,
 g.fst.snd.2) ∧
 (∀ (g : Int),
 g ∈
 List.drop
 (Int.toNat
 (1 : Int))
 (List.take
 (↑g_1.fst.fst.length :
 Int).toNat
 g_1.fst.fst) →
 (0 : Int) ≤ g) ∧
 (↑(lst
 (List.drop
 (Int.toNat
 (1 :
 Int))
 (List.take
 (↑g_1.fst.fst.length :
 Int).toNat
 g_1.fst.fst),
 (-1 : Int),
 g_1.fst.snd.snd ++
 ((0 :
 Int) ::
 ([] :
 List
 Int)).set
 (0 :
 Nat)
 (g_1.fst.fst.getD
 (Int.toNat
 (0 :
 Int))
 (0 :
 Int)))).length :
 Int) +
 (↑(g_1.fst.snd.snd ++
 ((0 : Int) ::
 ([] :
 List
 Int)).set
 (0 : Nat)
 (g_1.fst.fst.getD
 (Int.toNat
 (0 :
 Int))
 (0 :
 Int))).length :
 Int) ≤
 (400 : Int)) ∧
 mea
 (List.drop
 (Int.toNat (1 : Int))
 (List.take
 (↑g_1.fst.fst.length :
 Int).toNat
 g_1.fst.fst),
 (-1 : Int),
 g_1.fst.snd.snd ++
 ((0 : Int) ::
 ([] :
 List Int)).set
 (0 : Nat)
 (g_1.fst.fst.getD
 (Int.toNat
 (0 : Int))
 (0 : Int))) <
 mea g_1.fst) ∧
 ((True ∧ True) ∧
 (True ∧ True) ∧ True) ∧
 ((True ∧
 (-1 : Int) =
 (-1 : Int) ∧
 True ∧ True) ∧
 List.drop
 (Int.toNat
 (1 : Int))
 (List.take
 (↑g_1.fst.fst.length :
 Int).toNat
 g_1.fst.fst) =
 List.drop
 (Int.toNat
 (1 : Int))
 (List.take
 (↑g_1.fst.fst.length :
 Int).toNat
 g_1.fst.fst) ∧
 g_1.fst.snd.snd ++
 ((0 : Int) ::
 ([] :
 List
 Int)).set
 (0 : Nat)
 (g_1.fst.fst.getD
 (Int.toNat
 (0 : Int))
 (0 : Int)) =
 g_1.fst.snd.snd ++
 ((0 : Int) ::
 ([] :
 List
 Int)).set
 (0 : Nat)
 (g_1.fst.fst.getD
 (Int.toNat
 (0 : Int))
 (0 : Int)) ∧
 g.snd.fst =
 g.snd.fst ∧
 ((x.fst.getD
 g.snd.snd.fst.toNat
 ((0 :
 Int),
 (0 :
 Int))).fst =
 (x.fst.getD
 g.snd.snd.fst.toNat
 ((0 :
 Int),
 (0 :
 Int))).fst ∧
 (x.fst.getD
 g.snd.snd.fst.toNat
 ((0 :
 Int),
 (0 :
 Int))).snd =
 (x.fst.getD
 g.snd.snd.fst.toNat
 ((0 :
 Int),
 (0 :
 Int))).snd ∧
 True) ∧
 ((x.fst.getD
 g.snd.snd.fst.toNat
 ((0 :
 Int),
 (0 :
 Int))).fst =
 (x.fst.getD
 g.snd.snd.fst.toNat
 ((0 :
 Int),
 (0 :
 Int))).fst ∧
 (x.fst.getD
 g.snd.snd.fst.toNat
 ((0 :
 Int),
 (0 :
 Int))).snd =
 (x.fst.getD
 g.snd.snd.fst.toNat
 ((0 :
 Int),
 (0 :
 Int))).snd ∧
 True) ∧
 True) ∧
 True ∧
 True ∧
 True ∧
 True ∧
 True ∧
 True ∧
 True ∧
 (True ∧
 True) ∧
 True ∧
 True ∧
 (True ∧
 True) ∧
 True ∧
 True ∧
 True ∧
 True ∧
 True ∧
 x.fst =
 x.fst ∧
 (↑x.fst.length :
 Int) =
 (↑x.fst.length :
 Int) ∧
 g.snd.snd.fst =
 g.snd.snd.fst ∧
 true =
 true ∧
 True ∧
 ((x.fst.getD
 g.snd.snd.fst.toNat
 ((0 :
 Int),
 (0 :
 Int))).fst =
 (x.fst.getD
 g.snd.snd.fst.toNat
 ((0 :
 Int),
 (0 :
 Int))).fst ∧
 (x.fst.getD
 g.snd.snd.fst.toNat
 ((0 :
 Int),
 (0 :
 Int))).snd =
 (x.fst.getD
 g.snd.snd.fst.toNat
 ((0 :
 Int),
 (0 :
 Int))).snd ∧
 True) ∧
 True ∧
 (True ∧
 True) ∧
 ((x.fst.getD
 g.snd.snd.fst.toNat
 ((0 :
 Int),
 (0 :
 Int))).fst =
 (x.fst.getD
 g.snd.snd.fst.toNat
 ((0 :
 Int),
 (0 :
 Int))).fst ∧
 (x.fst.getD
 g.snd.snd.fst.toNat
 ((0 :
 Int),
 (0 :
 Int))).snd =
 (x.fst.getD
 g.snd.snd.fst.toNat
 ((0 :
 Int),
 (0 :
 Int))).snd ∧
 True) ∧
 True ∧
 True ∧
 True ∧
 True ∧
 True ∧
 True ∧
 True ∧
 True ∧
 True ∧
 True ∧
 True ∧
 True ∧
 True ∧
 True ∧
 True ∧
 True ∧
 True ∧
 True ∧
 True)) ∧
 (((0 : Int) == (6 : Int)) = false →
 ((flush
 (x.fst.getD
 g.snd.snd.fst.toNat
 ((0 : Int),
 (0 : Int))).snd
 (List.drop
 (Int.toNat (1 : Int))
 (List.take
 (↑g_1.fst.fst.length :
 Int).toNat
 g_1.fst.fst),
 g_1.fst.fst.getD
 (Int.toNat (0 : Int))
 (0 : Int),
 g_1.fst.snd.snd) =
 flush
 (x.fst.getD
 g.snd.snd.fst.toNat
 ((0 : Int),
 (0 : Int))).snd
 (g.fst.1, g.fst.snd.1,
 g.fst.snd.2) ∧
 (∀ (g : Int),
 g ∈
 List.drop
 (Int.toNat (1 : Int))
 (List.take
 (↑g_1.fst.fst.length :
 Int).toNat
 g_1.fst.fst) →
 (0 : Int) ≤ g) ∧
 (↑(lst
 (List.drop
 (Int.toNat
 (1 : Int))
 (List.take
 (↑g_1.fst.fst.length :
 Int).toNat
 g_1.fst.fst),
 g_1.fst.fst.getD
 (Int.toNat
 (0 : Int))
 (0 : Int),
 g_1.fst.snd.snd)).length :
 Int) +
 (↑g_1.fst.snd.snd.length :
 Int) ≤
 (400 : Int)) ∧
 mea
 (List.drop (Int.toNat (1 : Int))
 (List.take
 (↑g_1.fst.fst.length :
 Int).toNat
 g_1.fst.fst),
 g_1.fst.fst.getD
 (Int.toNat (0 : Int))
 (0 : Int),
 g_1.fst.snd.snd) <
 mea g_1.fst) ∧
 ((True ∧ True) ∧
 (True ∧ True) ∧ True) ∧
 ((True ∧
 g_1.fst.fst.getD
 (Int.toNat (0 : Int))
 (0 : Int) =
 g_1.fst.fst.getD
 (Int.toNat (0 : Int))
 (0 : Int) ∧
 True ∧ True) ∧
 List.drop (Int.toNat (1 : Int))
 (List.take
 (↑g_1.fst.fst.length :
 Int).toNat
 g_1.fst.fst) =
 List.drop
 (Int.toNat (1 : Int))
 (List.take
 (↑g_1.fst.fst.length :
 Int).toNat
 g_1.fst.fst) ∧
 g_1.fst.snd.snd =
 g_1.fst.snd.snd ∧
 g.snd.fst = g.snd.fst ∧
 ((x.fst.getD
 g.snd.snd.fst.toNat
 ((0 : Int),
 (0 :
 Int))).fst =
 (x.fst.getD
 g.snd.snd.fst.toNat
 ((0 : Int),
 (0 :
 Int))).fst ∧
 (x.fst.getD
 g.snd.snd.fst.toNat
 ((0 : Int),
 (0 :
 Int))).snd =
 (x.fst.getD
 g.snd.snd.fst.toNat
 ((0 : Int),
 (0 :
 Int))).snd ∧
 True) ∧
 ((x.fst.getD
 g.snd.snd.fst.toNat
 ((0 : Int),
 (0 :
 Int))).fst =
 (x.fst.getD
 g.snd.snd.fst.toNat
 ((0 : Int),
 (0 :
 Int))).fst ∧
 (x.fst.getD
 g.snd.snd.fst.toNat
 ((0 : Int),
 (0 :
 Int))).snd =
 (x.fst.getD
 g.snd.snd.fst.toNat
 ((0 : Int),
 (0 :
 Int))).snd ∧
 True) ∧
 True) ∧
 True ∧
 True ∧
 True ∧
 True ∧
 True ∧
 True ∧
 True ∧
 (True ∧ True) ∧
 True ∧
 True ∧
 (True ∧
 True) ∧
 True ∧
 True ∧
 True ∧
 True ∧
 True ∧
 x.fst =
 x.fst ∧
 (↑x.fst.length :
 Int) =
 (↑x.fst.length :
 Int) ∧
 g.snd.snd.fst =
 g.snd.snd.fst ∧
 true =
 true ∧
 True ∧
 ((x.fst.getD
 g.snd.snd.fst.toNat
 ((0 :
 Int),
 (0 :
 Int))).fst =
 (x.fst.getD
 g.snd.snd.fst.toNat
 ((0 :
 Int),
 (0 :
 Int))).fst ∧
 (x.fst.getD
 g.snd.snd.fst.toNat
 ((0 :
 Int),
 (0 :
 Int))).snd =
 (x.fst.getD
 g.snd.snd.fst.toNat
 ((0 :
 Int),
 (0 :
 Int))).snd ∧
 True) ∧
 True ∧
 (True ∧
 True) ∧
 ((x.fst.getD
 g.snd.snd.fst.toNat
 ((0 :
 Int),
 (0 :
 Int))).fst =
 (x.fst.getD
 g.snd.snd.fst.toNat
 ((0 :
 Int),
 (0 :
 Int))).fst ∧
 (x.fst.getD
 g.snd.snd.fst.toNat
 ((0 :
 Int),
 (0 :
 Int))).snd =
 (x.fst.getD
 g.snd.snd.fst.toNat
 ((0 :
 Int),
 (0 :
 Int))).snd ∧
 True) ∧
 True ∧
 True ∧
 True ∧
 True ∧
 True ∧
 True ∧
 True ∧
 True ∧
 True ∧
 True ∧
 True ∧
 True ∧
 True ∧
 True ∧
 True ∧
 True ∧
 True ∧
 True ∧
 True)))) ∧
 ((g_1.fst.snd.fst ==
 (x.fst.getD g.snd.snd.fst.toNat
 ((0 : Int), (0 : Int))).snd ||
 decide
 ((0 : Int) ≤
 idx g_1.fst.fst
 (x.fst.getD g.snd.snd.fst.toNat
 ((0 : Int), (0 : Int))).snd)) =
 false →
 (g.snd.fst.length +
 (((0 : Int) :: ([] : List Int)).set (0 : Nat)
 (0 : Int)).length ≤
 (9223372036854775807 : Nat) ∧
 (g.snd.fst.length +
 (((0 : Int) :: ([] : List Int)).set
 (0 : Nat) (0 : Int)).length +
 (g.snd.fst.length +
 (((0 : Int) :: ([] : List Int)).set
 (0 : Nat) (0 : Int)).length) /
 (4 : Nat) +
 (192 : Nat)) *
 (8 : Nat) ≤
 (281474976710656 : Nat)) ∧
 ((-9223372036854775808 : Int) ≤
 g.snd.snd.fst + (1 : Int) ∧
 g.snd.snd.fst + (1 : Int) ≤
 (9223372036854775807 : Int)) ∧
 (((0 : Int) ≤ g.snd.snd.fst + (1 : Int) ∧
 g.snd.snd.fst + (1 : Int) ≤
 (↑x.fst.length : Int) ∧
 pl
 (List.take
 (g.snd.snd.fst + (1 : Int)).toNat
 x.fst) =
 ((g_1.fst.fst, g_1.fst.snd.fst,
 g_1.fst.snd.snd),
 g.snd.fst ++
 ((0 : Int) :: ([] : List Int)).set
 (0 : Nat) (0 : Int)) ∧
 good
 (g_1.fst.fst, g_1.fst.snd.fst,
 g_1.fst.snd.snd)
 (g.snd.snd.fst + (1 : Int)) ∧
 (↑(g.snd.fst ++
 ((0 : Int) ::
 ([] : List Int)).set
 (0 : Nat)
 (0 : Int)).length :
 Int) =
 g.snd.snd.fst + (1 : Int)) ∧
 ((↑x.fst.length : Int) -
 (g.snd.snd.fst + (1 : Int))).toNat <
 ((↑x.fst.length : Int) -
 g.snd.snd.fst).toNat) ∧
 ((True ∧ True) ∧
 True ∧
 x.fst = x.fst ∧
 (↑x.fst.length : Int) =
 (↑x.fst.length : Int) ∧
 g.snd.snd.fst + (1 : Int) =
 g.snd.snd.fst + (1 : Int) ∧
 True) ∧
 ((True ∧
 g_1.fst.snd.fst = g_1.fst.snd.fst ∧
 True ∧ True) ∧
 g_1.fst.fst = g_1.fst.fst ∧
 g_1.fst.snd.snd = g_1.fst.snd.snd ∧
 g.snd.fst ++
 ((0 : Int) :: ([] : List Int)).set
 (0 : Nat) (0 : Int) =
 g.snd.fst ++
 ((0 : Int) :: ([] : List Int)).set
 (0 : Nat) (0 : Int) ∧
 True) ∧
 True)) ∧
 (((x.fst.getD g.snd.snd.fst.toNat ((0 : Int), (0 : Int))).fst == (5 : Int)) =
 false →
 (g.snd.fst.length +
 (((0 : Int) :: ([] : List Int)).set (0 : Nat) (0 : Int)).length ≤
 (9223372036854775807 : Nat) ∧
 (g.snd.fst.length +
 (((0 : Int) :: ([] : List Int)).set (0 : Nat)
 (0 : Int)).length +
 (g.snd.fst.length +
 (((0 : Int) :: ([] : List Int)).set (0 : Nat)
 (0 : Int)).length) /
 (4 : Nat) +
 (192 : Nat)) *
 (8 : Nat) ≤
 (281474976710656 : Nat)) ∧
 ((-9223372036854775808 : Int) ≤ g.snd.snd.fst + (1 : Int) ∧
 g.snd.snd.fst + (1 : Int) ≤ (9223372036854775807 : Int)) ∧
 (((0 : Int) ≤ g.snd.snd.fst + (1 : Int) ∧
 g.snd.snd.fst + (1 : Int) ≤ (↑x.fst.length : Int) ∧
 pl (List.take (g.snd.snd.fst + (1 : Int)).toNat x.fst) =
 ((g.fst.fst, g.fst.snd.fst, g.fst.snd.snd),
 g.snd.fst ++
 ((0 : Int) :: ([] : List Int)).set (0 : Nat) (0 : Int)) ∧
 good (g.fst.fst, g.fst.snd.fst, g.fst.snd.snd)
 (g.snd.snd.fst + (1 : Int)) ∧
 (↑(g.snd.fst ++
 ((0 : Int) :: ([] : List Int)).set (0 : Nat)
 (0 : Int)).length :
 Int) =
 g.snd.snd.fst + (1 : Int)) ∧
 ((↑x.fst.length : Int) - (g.snd.snd.fst + (1 : Int))).toNat <
 ((↑x.fst.length : Int) - g.snd.snd.fst).toNat) ∧
 ((True ∧ True) ∧
 True ∧
 x.fst = x.fst ∧
 (↑x.fst.length : Int) = (↑x.fst.length : Int) ∧
 g.snd.snd.fst + (1 : Int) = g.snd.snd.fst + (1 : Int) ∧
 True) ∧
 ((True ∧ g.fst.snd.fst = g.fst.snd.fst ∧ True ∧ True) ∧
 g.fst.fst = g.fst.fst ∧
 g.fst.snd.snd = g.fst.snd.snd ∧
 g.snd.fst ++
 ((0 : Int) :: ([] : List Int)).set (0 : Nat) (0 : Int) =
 g.snd.fst ++
 ((0 : Int) :: ([] : List Int)).set (0 : Nat) (0 : Int) ∧
 True) ∧
 True)))))))) ∧
 (decide (g.snd.snd.fst < (↑x.fst.length : Int)) = false →
 Holds (g.fst.fst.length * (8 : Nat) ≤ (140737488355328 : Nat)) ∧
 g.snd.fst = (play x.fst).fst ∧
 g.fst.snd.snd = (play x.fst).snd.fst ∧
 g.fst.fst = (play x.fst).snd.snd.fst ∧
 g.fst.snd.fst = (play x.fst).snd.snd.snd.fst ∧ (0 : Int) = (play x.fst).snd.snd.snd.snd.fst))

theorem E_play_eq (x : HL (cPlay : Ctr).as) : vc (fx_play x) 3 15 Try.f15 (cPlay) x = E_play x := by kernel_rfl

def E_lplay (x : List (Int × Int) × Unit) : Prop :=
 (decide ((400 : Int) < (↑x.fst.length : Int)) = true →
 ([] : List Int) = (play x.fst).fst ∧
 ([] : List Int) = (play x.fst).snd.fst ∧
 ([] : List Int) = (play x.fst).snd.snd.fst ∧ (0 : Int) = (play x.fst).snd.snd.snd.fst ∧ (2 : Int) = (play x.fst).snd.snd.snd.snd.fst) ∧
 (decide ((400 : Int) < (↑x.fst.length : Int)) = false →
 ((((0 : Int) ≤ (0 : Int) ∧
 (0 : Int) ≤ (↑x.fst.length : Int) ∧
 ((pl (List.take (Int.toNat (0 : Int)) x.fst)).snd = ([] : List Int) ∧ good (pl (List.take (Int.toNat (0 : Int)) x.fst)).fst (0 : Int)) ∧
 (↑([] : List Int).length : Int) = (0 : Int) ∧
 ([] : List Int) = lst (pl (List.take (Int.toNat (0 : Int)) x.fst)).fst ∧
 ([] : List Int) = (pl (List.take (Int.toNat (0 : Int)) x.fst)).fst.snd.snd ∧
 (0 : Int) = onOf (pl (List.take (Int.toNat (0 : Int)) x.fst)).fst) ∧
 True) ∧
 (True ∧ True ∧ (0 : Int) = (0 : Int) ∧ True ∧ x.fst = x.fst ∧ (↑x.fst.length : Int) = (↑x.fst.length : Int) ∧ (0 : Int) = (0 : Int) ∧ True) ∧
 (([] : List Int) = ([] : List Int) ∧ ([] : List Int) = ([] : List Int) ∧ ([] : List Int) = ([] : List Int) ∧ True) ∧ True) ∧
 ∀ (g : List Int × List Int × Int × List Int × Int × Unit),
 (0 : Int) ≤ g.snd.snd.snd.snd.fst ∧
 g.snd.snd.snd.snd.fst ≤ (↑x.fst.length : Int) ∧
 ((pl (List.take g.snd.snd.snd.snd.fst.toNat x.fst)).snd = g.snd.snd.snd.fst ∧
 good (pl (List.take g.snd.snd.snd.snd.fst.toNat x.fst)).fst g.snd.snd.snd.snd.fst) ∧
 (↑g.snd.snd.snd.fst.length : Int) = g.snd.snd.snd.snd.fst ∧
 g.fst = lst (pl (List.take g.snd.snd.snd.snd.fst.toNat x.fst)).fst ∧
 g.snd.fst = (pl (List.take g.snd.snd.snd.snd.fst.toNat x.fst)).fst.snd.snd ∧
 g.snd.snd.fst = onOf (pl (List.take g.snd.snd.snd.snd.fst.toNat x.fst)).fst →
 (g.fst.length ≤ (9223372036854775807 : Nat) ∧ ∀ (x : Int), x ∈ g.fst → (-9223372036854775808 : Int) ≤ x ∧ x ≤ (9223372036854775807 : Int)) ∧
 (g.snd.fst.length ≤ (9223372036854775807 : Nat) ∧
 ∀ (x : Int), x ∈ g.snd.fst → (-9223372036854775808 : Int) ≤ x ∧ x ≤ (9223372036854775807 : Int)) ∧
 ((-9223372036854775808 : Int) ≤ g.snd.snd.fst ∧ g.snd.snd.fst ≤ (9223372036854775807 : Int)) ∧
 (g.snd.snd.snd.fst.length ≤ (9223372036854775807 : Nat) ∧
 ∀ (x : Int), x ∈ g.snd.snd.snd.fst → (-9223372036854775808 : Int) ≤ x ∧ x ≤ (9223372036854775807 : Int)) ∧
 ((-9223372036854775808 : Int) ≤ g.snd.snd.snd.snd.fst ∧ g.snd.snd.snd.snd.fst ≤ (9223372036854775807 : Int)) ∧ True →
 (decide (g.snd.snd.snd.snd.fst < (↑x.fst.length : Int)) = true →
 ((0 : Int) ≤ g.snd.snd.snd.snd.fst ∧ g.snd.snd.snd.snd.fst < (↑x.fst.length : Int)) ∧
 (((0 : Int) ≤ g.snd.snd.fst ∧ g.snd.snd.fst ≤ (↑g.fst.length : Int)) ∧ (↑g.fst.length : Int) ≤ (↑g.fst.length : Int)) ∧
 Holds True ∧
 ((-9223372036854775808 : Int) ≤
 idx (List.drop g.snd.snd.fst.toNat (List.take (↑g.fst.length : Int).toNat g.fst))
 (x.fst.getD g.snd.snd.snd.snd.fst.toNat ((0 : Int), (0 : Int))).snd +
 g.snd.snd.fst ∧
 idx (List.drop g.snd.snd.fst.toNat (List.take (↑g.fst.length : Int).toNat g.fst))
 (x.fst.getD g.snd.snd.snd.snd.fst.toNat ((0 : Int), (0 : Int))).snd +
 g.snd.snd.fst ≤
 (9223372036854775807 : Int)) ∧
 ((!decide ((x.fst.getD g.snd.snd.snd.snd.fst.toNat ((0 : Int), (0 : Int))).fst < (1 : Int))) = true →
 (!decide ((x.fst.getD g.snd.snd.snd.snd.fst.toNat ((0 : Int), (0 : Int))).fst < (1 : Int))) = true) ∧
 ((!decide ((x.fst.getD g.snd.snd.snd.snd.fst.toNat ((0 : Int), (0 : Int))).fst < (1 : Int))) = true →
 (!decide ((x.fst.getD g.snd.snd.snd.snd.fst.toNat ((0 : Int), (0 : Int))).fst < (1 : Int))) = true) ∧
 (decide ((x.fst.getD g.snd.snd.snd.snd.fst.toNat ((0 : Int), (0 : Int))).fst < (1 : Int)) = false →
 (!decide ((x.fst.getD g.snd.snd.snd.snd.fst.toNat ((0 : Int), (0 : Int))).fst < (1 : Int))) = true) ∧
 ((decide ((x.fst.getD g.snd.snd.snd.snd.fst.toNat ((0 : Int), (0 : Int))).fst < (1 : Int)) ||
 decide ((5 : Int) < (x.fst.getD g.snd.snd.snd.snd.fst.toNat ((0 : Int), (0 : Int))).fst)) =
 true →
 (g.snd.snd.snd.fst.length + (((0 : Int) :: ([] : List Int)).set (0 : Nat) (5 : Int)).length ≤
 (9223372036854775807 : Nat) ∧
 (g.snd.snd.snd.fst.length + (((0 : Int) :: ([] : List Int)).set (0 : Nat) (5 : Int)).length +
 (g.snd.snd.snd.fst.length + (((0 : Int) :: ([] : List Int)).set (0 : Nat) (5 : Int)).length) /
 (4 : Nat) +
 (192 : Nat)) *
 (8 : Nat) ≤
 (281474976710656 : Nat)) ∧
 ((-9223372036854775808 : Int) ≤ g.snd.snd.snd.snd.fst + (1 : Int) ∧
 g.snd.snd.snd.snd.fst + (1 : Int) ≤ (9223372036854775807 : Int)) ∧
 (((0 : Int) ≤ g.snd.snd.snd.snd.fst + (1 : Int) ∧
 g.snd.snd.snd.snd.fst + (1 : Int) ≤ (↑x.fst.length : Int) ∧
 ((pl (List.take (g.snd.snd.snd.snd.fst + (1 : Int)).toNat x.fst)).snd =
 g.snd.snd.snd.fst ++ ((0 : Int) :: ([] : List Int)).set (0 : Nat) (5 : Int) ∧
 good (pl (List.take (g.snd.snd.snd.snd.fst + (1 : Int)).toNat x.fst)).fst
 (g.snd.snd.snd.snd.fst + (1 : Int))) ∧
 (↑(g.snd.snd.snd.fst ++ ((0 : Int) :: ([] : List Int)).set (0 : Nat) (5 : Int)).length : Int) =
 g.snd.snd.snd.snd.fst + (1 : Int) ∧
 g.fst = lst (pl (List.take (g.snd.snd.snd.snd.fst + (1 : Int)).toNat x.fst)).fst ∧
 g.snd.fst = (pl (List.take (g.snd.snd.snd.snd.fst + (1 : Int)).toNat x.fst)).fst.snd.snd ∧
 g.snd.snd.fst = onOf (pl (List.take (g.snd.snd.snd.snd.fst + (1 : Int)).toNat x.fst)).fst) ∧
 ((↑x.fst.length : Int) - (g.snd.snd.snd.snd.fst + (1 : Int))).toNat <
 ((↑x.fst.length : Int) - g.snd.snd.snd.snd.fst).toNat) ∧
 (True ∧
 True ∧
 g.snd.snd.fst = g.snd.snd.fst ∧
 True ∧
 x.fst = x.fst ∧
 (↑x.fst.length : Int) = (↑x.fst.length : Int) ∧
 g.snd.snd.snd.snd.fst + (1 : Int) = g.snd.snd.snd.snd.fst + (1 : Int) ∧ True) ∧
 (g.fst = g.fst ∧
 g.snd.fst = g.snd.fst ∧
 g.snd.snd.snd.fst ++ ((0 : Int) :: ([] : List Int)).set (0 : Nat) (5 : Int) =
 g.snd.snd.snd.fst ++ ((0 : Int) :: ([] : List Int)).set (0 : Nat) (5 : Int) ∧
 True) ∧
 True) ∧
 ((decide ((x.fst.getD g.snd.snd.snd.snd.fst.toNat ((0 : Int), (0 : Int))).fst < (1 : Int)) ||
 decide ((5 : Int) < (x.fst.getD g.snd.snd.snd.snd.fst.toNat ((0 : Int), (0 : Int))).fst)) =
 false →
 (((x.fst.getD g.snd.snd.snd.snd.fst.toNat ((0 : Int), (0 : Int))).fst != (2 : Int)) = true →
 ((x.fst.getD g.snd.snd.snd.snd.fst.toNat ((0 : Int), (0 : Int))).fst != (2 : Int)) = true) ∧
 (((x.fst.getD g.snd.snd.snd.snd.fst.toNat ((0 : Int), (0 : Int))).fst != (2 : Int)) = true →
 ((x.fst.getD g.snd.snd.snd.snd.fst.toNat ((0 : Int), (0 : Int))).fst != (2 : Int)) = true) ∧
 (((x.fst.getD g.snd.snd.snd.snd.fst.toNat ((0 : Int), (0 : Int))).fst != (2 : Int)) = true →
 ((x.fst.getD g.snd.snd.snd.snd.fst.toNat ((0 : Int), (0 : Int))).fst != (2 : Int)) = true) ∧
 (((x.fst.getD g.snd.snd.snd.snd.fst.toNat ((0 : Int), (0 : Int))).fst != (2 : Int) &&
 (x.fst.getD g.snd.snd.snd.snd.fst.toNat ((0 : Int), (0 : Int))).fst != (3 : Int)) =
 true →
 ((x.fst.getD g.snd.snd.snd.snd.fst.toNat ((0 : Int), (0 : Int))).fst != (2 : Int) &&
 (x.fst.getD g.snd.snd.snd.snd.fst.toNat ((0 : Int), (0 : Int))).fst != (3 : Int)) =
 true) ∧
 (((x.fst.getD g.snd.snd.snd.snd.fst.toNat ((0 : Int), (0 : Int))).fst != (2 : Int) &&
 (x.fst.getD g.snd.snd.snd.snd.fst.toNat ((0 : Int), (0 : Int))).fst != (3 : Int)) =
 true →
 ((x.fst.getD g.snd.snd.snd.snd.fst.toNat ((0 : Int), (0 : Int))).fst != (2 : Int) &&
 (x.fst.getD g.snd.snd.snd.snd.fst.toNat ((0 : Int), (0 : Int))).fst != (3 : Int)) =
 true) ∧
 (((x.fst.getD g.snd.snd.snd.snd.fst.toNat ((0 : Int), (0 : Int))).fst != (2 : Int) &&
 (x.fst.getD g.snd.snd.snd.snd.fst.toNat ((0 : Int), (0 : Int))).fst != (3 : Int)) =
 true →
 ((x.fst.getD g.snd.snd.snd.snd.fst.toNat ((0 : Int), (0 : Int))).fst != (2 : Int) &&
 (x.fst.getD g.snd.snd.snd.snd.fst.toNat ((0 : Int), (0 : Int))).fst != (3 : Int)) =
 true) ∧
 (((x.fst.getD g.snd.snd.snd.snd.fst.toNat ((0 : Int), (0 : Int))).fst != (2 : Int) &&
 (x.fst.getD g.snd.snd.snd.snd.fst.toNat ((0 : Int), (0 : Int))).fst != (3 : Int) &&
 !decide ((x.fst.getD g.snd.snd.snd.snd.fst.toNat ((0 : Int), (0 : Int))).snd < (0 : Int))) =
 true →
 ((x.fst.getD g.snd.snd.snd.snd.fst.toNat ((0 : Int), (0 : Int))).fst != (2 : Int) &&
 (x.fst.getD g.snd.snd.snd.snd.fst.toNat ((0 : Int), (0 : Int))).fst != (3 : Int) &&
 !decide ((x.fst.getD g.snd.snd.snd.snd.fst.toNat ((0 : Int), (0 : Int))).snd < (0 : Int))) =
 true) ∧
 (((x.fst.getD g.snd.snd.snd.snd.fst.toNat ((0 : Int), (0 : Int))).fst != (2 : Int) &&
 (x.fst.getD g.snd.snd.snd.snd.fst.toNat ((0 : Int), (0 : Int))).fst != (3 : Int) &&
 !decide ((x.fst.getD g.snd.snd.snd.snd.fst.toNat ((0 : Int), (0 : Int))).snd < (0 : Int))) =
 true →
 ((x.fst.getD g.snd.snd.snd.snd.fst.toNat ((0 : Int), (0 : Int))).fst != (2 : Int) &&
 (x.fst.getD g.snd.snd.snd.snd.fst.toNat ((0 : Int), (0 : Int))).fst != (3 : Int) &&
 !decide ((x.fst.getD g.snd.snd.snd.snd.fst.toNat ((0 : Int), (0 : Int))).snd < (0 : Int))) =
 true) ∧
 (((x.fst.getD g.snd.snd.snd.snd.fst.toNat ((0 : Int), (0 : Int))).fst != (2 : Int) &&
 (x.fst.getD g.snd.snd.snd.snd.fst.toNat ((0 : Int), (0 : Int))).fst != (3 : Int)) =
 true →
 ((x.fst.getD g.snd.snd.snd.snd.fst.toNat ((0 : Int), (0 : Int))).fst != (2 : Int) &&
 (x.fst.getD g.snd.snd.snd.snd.fst.toNat ((0 : Int), (0 : Int))).fst != (3 : Int)) =
 true ∧
 (decide ((x.fst.getD g.snd.snd.snd.snd.fst.toNat ((0 : Int), (0 : Int))).snd < (0 : Int)) =
 false →
 ((x.fst.getD g.snd.snd.snd.snd.fst.toNat ((0 : Int), (0 : Int))).fst != (2 : Int) &&
 (x.fst.getD g.snd.snd.snd.snd.fst.toNat ((0 : Int), (0 : Int))).fst != (3 : Int) &&
 !decide
 ((x.fst.getD g.snd.snd.snd.snd.fst.toNat ((0 : Int), (0 : Int))).snd < (0 : Int))) =
 true)) ∧
 (((x.fst.getD g.snd.snd.snd.snd.fst.toNat ((0 : Int), (0 : Int))).fst != (2 : Int) &&
 (x.fst.getD g.snd.snd.snd.snd.fst.toNat ((0 : Int), (0 : Int))).fst != (3 : Int)) =
 true →
 ((x.fst.getD g.snd.snd.snd.snd.fst.toNat ((0 : Int), (0 : Int))).fst != (2 : Int) &&
 (x.fst.getD g.snd.snd.snd.snd.fst.toNat ((0 : Int), (0 : Int))).fst != (3 : Int)) =
 true) ∧
 (((x.fst.getD g.snd.snd.snd.snd.fst.toNat ((0 : Int), (0 : Int))).fst != (2 : Int) &&
 (x.fst.getD g.snd.snd.snd.snd.fst.toNat ((0 : Int), (0 : Int))).fst != (3 : Int) &&
 (decide
 ((x.fst.getD g.snd.snd.snd.snd.fst.toNat ((0 : Int), (0 : Int))).snd < (0 : Int)) ||
 decide
 ((99 : Int) <
 (x.fst.getD g.snd.snd.snd.snd.fst.toNat ((0 : Int), (0 : Int))).snd))) =
 true →
 (g.snd.snd.snd.fst.length +
 (((0 : Int) :: ([] : List Int)).set (0 : Nat) (2 : Int)).length ≤
 (9223372036854775807 : Nat) ∧
 (g.snd.snd.snd.fst.length +
 (((0 : Int) :: ([] : List Int)).set (0 : Nat) (2 : Int)).length +
 (g.snd.snd.snd.fst.length +
 (((0 : Int) :: ([] : List Int)).set (0 : Nat) (2 : Int)).length) /
 (4 : Nat) +
 (192 : Nat)) *
 (8 : Nat) ≤
 (281474976710656 : Nat)) ∧
 ((-9223372036854775808 : Int) ≤ g.snd.snd.snd.snd.fst + (1 : Int) ∧
 g.snd.snd.snd.snd.fst + (1 : Int) ≤ (9223372036854775807 : Int)) ∧
 (((0 : Int) ≤ g.snd.snd.snd.snd.fst + (1 : Int) ∧
 g.snd.snd.snd.snd.fst + (1 : Int) ≤ (↑x.fst.length : Int) ∧
 ((pl (List.take (g.snd.snd.snd.snd.fst + (1 : Int)).toNat x.fst)).snd =
 g.snd.snd.snd.fst ++
 ((0 : Int) :: ([] : List Int)).set (0 : Nat) (2 : Int) ∧
 good (pl (List.take (g.snd.snd.snd.snd.fst + (1 : Int)).toNat x.fst)).fst
 (g.snd.snd.snd.snd.fst + (1 : Int))) ∧
 (↑(g.snd.snd.snd.fst ++
 ((0 : Int) :: ([] : List Int)).set (0 : Nat) (2 : Int)).length :
 Int) =
 g.snd.snd.snd.snd.fst + (1 : Int) ∧
 g.fst =
 lst
 (pl (List.take (g.snd.snd.snd.snd.fst + (1 : Int)).toNat x.fst)).fst ∧
 g.snd.fst =
 (pl
 (List.take (g.snd.snd.snd.snd.fst + (1 : Int)).toNat
 x.fst)).fst.snd.snd ∧
 g.snd.snd.fst =
 onOf
 (pl
 (List.take (g.snd.snd.snd.snd.fst + (1 : Int)).toNat
 x.fst)).fst) ∧
 ((↑x.fst.length : Int) - (g.snd.snd.snd.snd.fst + (1 : Int))).toNat <
 ((↑x.fst.length : Int) - g.snd.snd.snd.snd.fst).toNat) ∧
 (True ∧
 True ∧
 g.snd.snd.fst = g.snd.snd.fst ∧
 True ∧
 x.fst = x.fst ∧
 (↑x.fst.length : Int) = (↑x.fst.length : Int) ∧
 g.snd.snd.snd.snd.fst + (1 : Int) = g.snd.snd.snd.snd.fst + (1 : Int) ∧
 True) ∧
 (g.fst = g.fst ∧
 g.snd.fst = g.snd.fst ∧
 g.snd.snd.snd.fst ++ ((0 : Int) :: ([] : List Int)).set (0 : Nat) (2 : Int) =
 g.snd.snd.snd.fst ++
 ((0 : Int) :: ([] : List Int)).set (0 : Nat) (2 : Int) ∧
 True) ∧
 True) ∧
 (((x.fst.getD g.snd.snd.snd.snd.fst.toNat ((0 : Int), (0 : Int))).fst != (2 : Int) &&
 (x.fst.getD g.snd.snd.snd.snd.fst.toNat ((0 : Int), (0 : Int))).fst != (3 : Int) &&
 (decide
 ((x.fst.getD g.snd.snd.snd.snd.fst.toNat ((0 : Int), (0 : Int))).snd < (0 : Int)) ||
 decide
 ((99 : Int) <
 (x.fst.getD g.snd.snd.snd.snd.fst.toNat ((0 : Int), (0 : Int))).snd))) =
 false →
 (((x.fst.getD g.snd.snd.snd.snd.fst.toNat ((0 : Int), (0 : Int))).fst == (1 : Int)) = true →
 ((x.fst.getD g.snd.snd.snd.snd.fst.toNat ((0 : Int), (0 : Int))).fst == (1 : Int)) =
 true ∧
 ((x.fst.getD g.snd.snd.snd.snd.fst.toNat ((0 : Int), (0 : Int))).fst == (1 : Int)) =
 true) ∧
 (((x.fst.getD g.snd.snd.snd.snd.fst.toNat ((0 : Int), (0 : Int))).fst == (1 : Int)) =
 true →
 ((x.fst.getD g.snd.snd.snd.snd.fst.toNat ((0 : Int), (0 : Int))).fst == (1 : Int)) =
 true) ∧
 (((x.fst.getD g.snd.snd.snd.snd.fst.toNat ((0 : Int), (0 : Int))).fst == (1 : Int) &&
 decide
 (g.snd.snd.fst ≤
 idx
 (List.drop g.snd.snd.fst.toNat
 (List.take (↑g.fst.length : Int).toNat g.fst))
 (x.fst.getD g.snd.snd.snd.snd.fst.toNat ((0 : Int), (0 : Int))).snd +
 g.snd.snd.fst)) =
 true →
 (g.snd.snd.snd.fst.length +
 (((0 : Int) :: ([] : List Int)).set (0 : Nat) (6 : Int)).length ≤
 (9223372036854775807 : Nat) ∧
 (g.snd.snd.snd.fst.length +
 (((0 : Int) :: ([] : List Int)).set (0 : Nat) (6 : Int)).length +
 (g.snd.snd.snd.fst.length +
 (((0 : Int) :: ([] : List Int)).set (0 : Nat) (6 : Int)).length) /
 (4 : Nat) +
 (192 : Nat)) *
 (8 : Nat) ≤
 (281474976710656 : Nat)) ∧
 ((-9223372036854775808 : Int) ≤ g.snd.snd.snd.snd.fst + (1 : Int) ∧
 g.snd.snd.snd.snd.fst + (1 : Int) ≤ (9223372036854775807 : Int)) ∧
 (((0 : Int) ≤ g.snd.snd.snd.snd.fst + (1 : Int) ∧
 g.snd.snd.snd.snd.fst + (1 : Int) ≤ (↑x.fst.length : Int) ∧
 ((pl (List.take (g.snd.snd.snd.snd.fst + (1 : Int)).toNat x.fst)).snd =
 g.snd.snd.snd.fst ++
 ((0 : Int) :: ([] : List Int)).set (0 : Nat) (6 : Int) ∧
 good
 (pl
 (List.take (g.snd.snd.snd.snd.fst + (1 : Int)).toNat
 x.fst)).fst
 (g.snd.snd.snd.snd.fst + (1 : Int))) ∧
 (↑(g.snd.snd.snd.fst ++
 ((0 : Int) :: ([] : List Int)).set (0 : Nat)
 (6 : Int)).length :
 Int) =
 g.snd.snd.snd.snd.fst + (1 : Int) ∧
 g.fst =
 lst
 (pl
 (List.take (g.snd.snd.snd.snd.fst + (1 : Int)).toNat
 x.fst)).fst ∧
 g.snd.fst =
 (pl
 (List.take (g.snd.snd.snd.snd.fst + (1 : Int)).toNat
 x.fst)).fst.snd.snd ∧
 g.snd.snd.fst =
 onOf
 (pl
 (List.take (g.snd.snd.snd.snd.fst + (1 : Int)).toNat
 x.fst)).fst) ∧
 ((↑x.fst.length : Int) - (g.snd.snd.snd.snd.fst + (1 : Int))).toNat <
 ((↑x.fst.length : Int) - g.snd.snd.snd.snd.fst).toNat) ∧
 (True ∧
 True ∧
 g.snd.snd.fst = g.snd.snd.fst ∧
 True ∧
 x.fst = x.fst ∧
 (↑x.fst.length : Int) = (↑x.fst.length : Int) ∧
 g.snd.snd.snd.snd.fst + (1 : Int) =
 g.snd.snd.snd.snd.fst + (1 : Int) ∧
 True) ∧
 (g.fst = g.fst ∧
 g.snd.fst = g.snd.fst ∧
 g.snd.snd.snd.fst ++
 ((0 : Int) :: ([] : List Int)).set (0 : Nat) (6 : Int) =
 g.snd.snd.snd.fst ++
 ((0 : Int) :: ([] : List Int)).set (0 : Nat) (6 : Int) ∧
 True) ∧
 True) ∧
 (((x.fst.getD g.snd.snd.snd.snd.fst.toNat ((0 : Int), (0 : Int))).fst == (1 : Int) &&
 decide
 (g.snd.snd.fst ≤
 idx
 (List.drop g.snd.snd.fst.toNat
 (List.take (↑g.fst.length : Int).toNat g.fst))
 (x.fst.getD g.snd.snd.snd.snd.fst.toNat ((0 : Int), (0 : Int))).snd +
 g.snd.snd.fst)) =
 false →
 (((x.fst.getD g.snd.snd.snd.snd.fst.toNat ((0 : Int), (0 : Int))).fst ==
 (2 : Int)) =
 true →
 ((x.fst.getD g.snd.snd.snd.snd.fst.toNat ((0 : Int), (0 : Int))).fst ==
 (2 : Int)) =
 true) ∧
 (((x.fst.getD g.snd.snd.snd.snd.fst.toNat ((0 : Int), (0 : Int))).fst ==
 (2 : Int)) =
 true →
 ((x.fst.getD g.snd.snd.snd.snd.fst.toNat ((0 : Int), (0 : Int))).fst ==
 (2 : Int)) =
 true) ∧
 (((x.fst.getD g.snd.snd.snd.snd.fst.toNat ((0 : Int), (0 : Int))).fst ==
 (2 : Int) &&
 g.snd.snd.fst == (1 : Int)) =
 true →
 (g.snd.snd.snd.fst.length +
 (((0 : Int) :: ([] : List Int)).set (0 : Nat) (6 : Int)).length ≤
 (9223372036854775807 : Nat) ∧
 (g.snd.snd.snd.fst.length +
 (((0 : Int) :: ([] : List Int)).set (0 : Nat)
 (6 : Int)).length +
 (g.snd.snd.snd.fst.length +
 (((0 : Int) :: ([] : List Int)).set (0 : Nat)
 (6 : Int)).length) /
 (4 : Nat) +
 (192 : Nat)) *
 (8 : Nat) ≤
 (281474976710656 : Nat)) ∧
 ((-9223372036854775808 : Int) ≤ g.snd.snd.snd.snd.fst + (1 : Int) ∧
 g.snd.snd.snd.snd.fst + (1 : Int) ≤ (9223372036854775807 : Int)) ∧
 (((0 : Int) ≤ g.snd.snd.snd.snd.fst + (1 : Int) ∧
 g.snd.snd.snd.snd.fst + (1 : Int) ≤ (↑x.fst.length : Int) ∧
 ((pl
 (List.take (g.snd.snd.snd.snd.fst + (1 : Int)).toNat
 x.fst)).snd =
 g.snd.snd.snd.fst ++
 ((0 : Int) :: ([] : List Int)).set (0 : Nat) (6 : Int) ∧
 good
 (pl
 (List.take (g.snd.snd.snd.snd.fst + (1 : Int)).toNat
 x.fst)).fst
 (g.snd.snd.snd.snd.fst + (1 : Int))) ∧
 (↑(g.snd.snd.snd.fst ++
 ((0 : Int) :: ([] : List Int)).set (0 : Nat)
 (6 : Int)).length :
 Int) =
 g.snd.snd.snd.snd.fst + (1 : Int) ∧
 g.fst =
 lst
 (pl
 (List.take
 (g.snd.snd.snd.snd.fst + (1 : Int)).toNat
 x.fst)).fst ∧
 g.snd.fst =
 (pl
 (List.take
 (g.snd.snd.snd.snd.fst + (1 : Int)).toNat
 x.fst)).fst.snd.snd ∧
 g.snd.snd.fst =
 onOf
 (pl
 (List.take
 (g.snd.snd.snd.snd.fst + (1 : Int)).toNat
 x.fst)).fst) ∧
 ((↑x.fst.length : Int) -
 (g.snd.snd.snd.snd.fst + (1 : Int))).toNat <
 ((↑x.fst.length : Int) - g.snd.snd.snd.snd.fst).toNat) ∧
 (True ∧
 True ∧
 g.snd.snd.fst = g.snd.snd.fst ∧
 True ∧
 x.fst = x.fst ∧
 (↑x.fst.length : Int) = (↑x.fst.length : Int) ∧
 g.snd.snd.snd.snd.fst + (1 : Int) =
 g.snd.snd.snd.snd.fst + (1 : Int) ∧
 True) ∧
 (g.fst = g.fst ∧
 g.snd.fst = g.snd.fst ∧
 g.snd.snd.snd.fst ++
 ((0 : Int) :: ([] : List Int)).set (0 : Nat) (6 : Int) =
 g.snd.snd.snd.fst ++
 ((0 : Int) :: ([] : List Int)).set (0 : Nat) (6 : Int) ∧
 True) ∧
 True) ∧
 (((x.fst.getD g.snd.snd.snd.snd.fst.toNat ((0 : Int), (0 : Int))).fst ==
 (2 : Int) &&
 g.snd.snd.fst == (1 : Int)) =
 false →
 (((x.fst.getD g.snd.snd.snd.snd.fst.toNat ((0 : Int), (0 : Int))).fst ==
 (2 : Int)) =
 true →
 ((x.fst.getD g.snd.snd.snd.snd.fst.toNat ((0 : Int), (0 : Int))).fst ==
 (2 : Int)) =
 true) ∧
 (((x.fst.getD g.snd.snd.snd.snd.fst.toNat ((0 : Int), (0 : Int))).fst ==
 (2 : Int)) =
 true →
 ((x.fst.getD g.snd.snd.snd.snd.fst.toNat
 ((0 : Int), (0 : Int))).fst ==
 (2 : Int)) =
 true) ∧
 (((x.fst.getD g.snd.snd.snd.snd.fst.toNat ((0 : Int), (0 : Int))).fst ==
 (2 : Int)) =
 true →
 ((x.fst.getD g.snd.snd.snd.snd.fst.toNat
 ((0 : Int), (0 : Int))).fst ==
 (2 : Int)) =
 true) ∧
 (((x.fst.getD g.snd.snd.snd.snd.fst.toNat
 ((0 : Int), (0 : Int))).fst ==
 (2 : Int) &&
 (↑g.fst.length : Int) == (0 : Int)) =
 true →
 (g.snd.snd.snd.fst.length +
 (((0 : Int) :: ([] : List Int)).set (0 : Nat)
 (3 : Int)).length ≤
 (9223372036854775807 : Nat) ∧
 (g.snd.snd.snd.fst.length +
 (((0 : Int) :: ([] : List Int)).set (0 : Nat)
 (3 : Int)).length +
 (g.snd.snd.snd.fst.length +
 (((0 : Int) :: ([] : List Int)).set (0 : Nat)
 (3 : Int)).length) /
 (4 : Nat) +
 (192 : Nat)) *
 (8 : Nat) ≤
 (281474976710656 : Nat)) ∧
 ((-9223372036854775808 : Int) ≤
 g.snd.snd.snd.snd.fst + (1 : Int) ∧
 g.snd.snd.snd.snd.fst + (1 : Int) ≤
 (9223372036854775807 : Int)) ∧
 (((0 : Int) ≤ g.snd.snd.snd.snd.fst + (1 : Int) ∧
 g.snd.snd.snd.snd.fst + (1 : Int) ≤
 (↑x.fst.length : Int) ∧
 ((pl
 (List.take
 (g.snd.snd.snd.snd.fst + (1 : Int)).toNat
 x.fst)).snd =
 g.snd.snd.snd.fst ++
 ((0 : Int) :: ([] : List Int)).set (0 : Nat)
 (3 : Int) ∧
 good
 (pl
 (List.take
 (g.snd.snd.snd.snd.fst + (1 : Int)).toNat
 x.fst)).fst
 (g.snd.snd.snd.snd.fst + (1 : Int))) ∧
 (↑(g.snd.snd.snd.fst ++
 ((0 : Int) :: ([] : List Int)).set
 (0 : Nat) (3 : Int)).length :
 Int) =
 g.snd.snd.snd.snd.fst + (1 : Int) ∧
 g.fst =
 lst
 (pl
 (List.take
 (g.snd.snd.snd.snd.fst +
 (1 : Int)).toNat
 x.fst)).fst ∧
 g.snd.fst =
 (pl
 (List.take
 (g.snd.snd.snd.snd.fst +
 (1 : Int)).toNat
 x.fst)).fst.snd.snd ∧
 g.snd.snd.fst =
 onOf
 (pl
 (List.take
 (g.snd.snd.snd.snd.fst +
 (1 : Int)).toNat
 x.fst)).fst) ∧
 ((↑x.fst.length : Int) -
 (g.snd.snd.snd.snd.fst + (1 : Int))).toNat <
 ((↑x.fst.length : Int) - g.snd.snd.snd.snd.fst).toNat) ∧
 (True ∧
 True ∧
 g.snd.snd.fst = g.snd.snd.fst ∧
 True ∧
 x.fst = x.fst ∧
 (↑x.fst.length : Int) = (↑x.fst.length : Int) ∧
 g.snd.snd.snd.snd.fst + (1 : Int) =
 g.snd.snd.snd.snd.fst + (1 : Int) ∧
 True) ∧
 (g.fst = g.fst ∧
 g.snd.fst = g.snd.fst ∧
 g.snd.snd.snd.fst ++
 ((0 : Int) :: ([] : List Int)).set (0 : Nat)
 (3 : Int) =
 g.snd.snd.snd.fst ++
 ((0 : Int) :: ([] : List Int)).set (0 : Nat)
 (3 : Int) ∧
 True) ∧
 True) ∧
 (((x.fst.getD g.snd.snd.snd.snd.fst.toNat
 ((0 : Int), (0 : Int))).fst ==
 (2 : Int) &&
 (↑g.fst.length : Int) == (0 : Int)) =
 false →
 (((x.fst.getD g.snd.snd.snd.snd.fst.toNat
 ((0 : Int), (0 : Int))).fst ==
 (3 : Int)) =
 true →
 ((x.fst.getD g.snd.snd.snd.snd.fst.toNat
 ((0 : Int), (0 : Int))).fst ==
 (3 : Int)) =
 true) ∧
 (((x.fst.getD g.snd.snd.snd.snd.fst.toNat
 ((0 : Int), (0 : Int))).fst ==
 (3 : Int)) =
 true →
 ((x.fst.getD g.snd.snd.snd.snd.fst.toNat
 ((0 : Int), (0 : Int))).fst ==
 (3 : Int)) =
 true) ∧
 (((x.fst.getD g.snd.snd.snd.snd.fst.toNat
 ((0 : Int), (0 : Int))).fst ==
 (3 : Int) &&
 g.snd.snd.fst == (0 : Int)) =
 true →
 (g.snd.snd.snd.fst.length +
 (((0 : Int) :: ([] : List Int)).set (0 : Nat)
 (3 : Int)).length ≤
 (9223372036854775807 : Nat) ∧
 (g.snd.snd.snd.fst.length +
 (((0 : Int) :: ([] : List Int)).set
 (0 : Nat) (3 : Int)).length +
 (g.snd.snd.snd.fst.length +
 (((0 : Int) :: ([] : List Int)).set
 (0 : Nat) (3 : Int)).length) /
 (4 : Nat) +
 (192 : Nat)) *
 (8 : Nat) ≤
 (281474976710656 : Nat)) ∧
 ((-9223372036854775808 : Int) ≤
 g.snd.snd.snd.snd.fst + (1 : Int) ∧
 g.snd.snd.snd.snd.fst + (1 : Int) ≤
 (9223372036854775807 : Int)) ∧
 (((0 : Int) ≤ g.snd.snd.snd.snd.fst + (1 : Int) ∧
 g.snd.snd.snd.snd.fst + (1 : Int) ≤
 (↑x.fst.length : Int) ∧
 ((pl
 (List.take
 (g.snd.snd.snd.snd.fst +
 (1 : Int)).toNat
 x.fst)).snd =
 g.snd.snd.snd.fst ++
 ((0 : Int) :: ([] : List Int)).set
 (0 : Nat) (3 : Int) ∧
 good
 (pl
 (List.take
 (g.snd.snd.snd.snd.fst +
 (1 : Int)).toNat
 x.fst)).fst
 (g.snd.snd.snd.snd.fst + (1 : Int))) ∧
 (↑(g.snd.snd.snd.fst ++
 ((0 : Int) ::
 ([] : List Int)).set
 (0 : Nat) (3 : Int)).length :
 Int) =
 g.snd.snd.snd.snd.fst + (1 : Int) ∧
 g.fst =
 lst
 (pl
 (List.take
 (g.snd.snd.snd.snd.fst +
 (1 : Int)).toNat
 x.fst)).fst ∧
 g.snd.fst =
 (pl
 (List.take
 (g.snd.snd.snd.snd.fst +
 (1 : Int)).toNat
 x.fst)).fst.snd.snd ∧
 g.snd.snd.fst =
 onOf
 (pl
 (List.take
 (g.snd.snd.snd.snd.fst +
 (1 : Int)).toNat
 x.fst)).fst) ∧
 ((↑x.fst.length : Int) -
 (g.snd.snd.snd.snd.fst + (1 : Int))).toNat <
 ((↑x.fst.length : Int) -
 g.snd.snd.snd.snd.fst).toNat) ∧
 (True ∧
 True ∧
 g.snd.snd.fst = g.snd.snd.fst ∧
 True ∧
 x.fst = x.fst ∧
 (↑x.fst.length : Int) =
 (↑x.fst.length : Int) ∧
 g.snd.snd.snd.snd.fst + (1 : Int) =
 g.snd.snd.snd.snd.fst +
 (1 : Int) ∧
 True) ∧
 (g.fst = g.fst ∧
 g.snd.fst = g.snd.fst ∧
 g.snd.snd.snd.fst ++
 ((0 : Int) :: ([] : List Int)).set
 (0 : Nat) (3 : Int) =
 g.snd.snd.snd.fst ++
 ((0 : Int) :: ([] : List Int)).set
 (0 : Nat) (3 : Int) ∧
 True) ∧
 True) ∧
 (((x.fst.getD g.snd.snd.snd.snd.fst.toNat
 ((0 : Int), (0 : Int))).fst ==
 (3 : Int) &&
 g.snd.snd.fst == (0 : Int)) =
 false →
 (((x.fst.getD g.snd.snd.snd.snd.fst.toNat
 ((0 : Int), (0 : Int))).fst ==
 (4 : Int)) =
 true →
 ((x.fst.getD g.snd.snd.snd.snd.fst.toNat
 ((0 : Int), (0 : Int))).fst ==
 (4 : Int)) =
 true ∧
 ((x.fst.getD g.snd.snd.snd.snd.fst.toNat
 ((0 : Int), (0 : Int))).fst ==
 (4 : Int)) =
 true) ∧
 (((x.fst.getD g.snd.snd.snd.snd.fst.toNat
 ((0 : Int), (0 : Int))).fst ==
 (4 : Int)) =
 true →
 ((x.fst.getD g.snd.snd.snd.snd.fst.toNat
 ((0 : Int), (0 : Int))).fst ==
 (4 : Int)) =
 true) ∧
 (((x.fst.getD g.snd.snd.snd.snd.fst.toNat
 ((0 : Int), (0 : Int))).fst ==
 (4 : Int) &&
 decide
 (idx
 (List.drop g.snd.snd.fst.toNat
 (List.take
 (↑g.fst.length : Int).toNat
 g.fst))
 (x.fst.getD
 g.snd.snd.snd.snd.fst.toNat
 ((0 : Int), (0 : Int))).snd +
 g.snd.snd.fst <
 g.snd.snd.fst)) =
 true →
 (g.snd.snd.snd.fst.length +
 (((0 : Int) :: ([] : List Int)).set
 (0 : Nat) (3 : Int)).length ≤
 (9223372036854775807 : Nat) ∧
 (g.snd.snd.snd.fst.length +
 (((0 : Int) :: ([] : List Int)).set
 (0 : Nat) (3 : Int)).length +
 (g.snd.snd.snd.fst.length +
 (((0 : Int) ::
 ([] : List Int)).set
 (0 : Nat) (3 : Int)).length) /
 (4 : Nat) +
 (192 : Nat)) *
 (8 : Nat) ≤
 (281474976710656 : Nat)) ∧
 ((-9223372036854775808 : Int) ≤
 g.snd.snd.snd.snd.fst + (1 : Int) ∧
 g.snd.snd.snd.snd.fst + (1 : Int) ≤
 (9223372036854775807 : Int)) ∧
 (((0 : Int) ≤
 g.snd.snd.snd.snd.fst + (1 : Int) ∧
 g.snd.snd.snd.snd.fst + (1 : Int) ≤
 (↑x.fst.length : Int) ∧
 ((pl
 (List.take
 (g.snd.snd.snd.snd.fst +
 (1 : Int)).toNat
 x.fst)).snd =
 g.snd.snd.snd.fst ++
 ((0 : Int) ::
 ([] : List Int)).set
 (0 : Nat) (3 : Int) ∧
 good
 (pl
 (List.take
 (g.snd.snd.snd.snd.fst +
 (1 : Int)).toNat
 x.fst)).fst
 (g.snd.snd.snd.snd.fst +
 (1 : Int))) ∧
 (↑(g.snd.snd.snd.fst ++
 ((0 : Int) ::
 ([] :
 List Int)).set
 (0 : Nat)
 (3 : Int)).length :
 Int) =
 g.snd.snd.snd.snd.fst +
 (1 : Int) ∧
 g.fst =
 lst
 (pl
 (List.take
 (g.snd.snd.snd.snd.fst +
 (1 : Int)).toNat
 x.fst)).fst ∧
 g.snd.fst =
 (pl
 (List.take
 (g.snd.snd.snd.snd.fst +
 (1 :
 Int)).toNat
 x.fst)).fst.snd.snd ∧
 g.snd.snd.fst =
 onOf
 (pl
 (List.take
 (g.snd.snd.snd.snd.fst +
 (1 : Int)).toNat
 x.fst)).fst) ∧
 ((↑x.fst.length : Int) -
 (g.snd.snd.snd.snd.fst +
 (1 : Int))).toNat <
 ((↑x.fst.length : Int) -
 g.snd.snd.snd.snd.fst).toNat) ∧
 (True ∧
 True ∧
 g.snd.snd.fst = g.snd.snd.fst ∧
 True ∧
 x.fst = x.fst ∧
 (↑x.fst.length : Int) =
 (↑x.fst.length : Int) ∧
 g.snd.snd.snd.snd.fst +
 (1 : Int) =
 g.snd.snd.snd.snd.fst +
 (1 : Int) ∧
 True) ∧
 (g.fst = g.fst ∧
 g.snd.fst = g.snd.fst ∧
 g.snd.snd.snd.fst ++
 ((0 : Int) ::
 ([] : List Int)).set
 (0 : Nat) (3 : Int) =
 g.snd.snd.snd.fst ++
 ((0 : Int) ::
 ([] : List Int)).set
 (0 : Nat) (3 : Int) ∧
 True) ∧
 True) ∧
 (((x.fst.getD g.snd.snd.snd.snd.fst.toNat
 ((0 : Int), (0 : Int))).fst ==
 (4 : Int) &&
 decide
 (idx
 (List.drop g.snd.snd.fst.toNat
 (List.take
 (↑g.fst.length : Int).toNat
 g.fst))
 (x.fst.getD
 g.snd.snd.snd.snd.fst.toNat
 ((0 : Int), (0 : Int))).snd +
 g.snd.snd.fst <
 g.snd.snd.fst)) =
 false →
 (((x.fst.getD g.snd.snd.snd.snd.fst.toNat
 ((0 : Int), (0 : Int))).fst ==
 (1 : Int)) =
 true →
 (g.fst.length +
 (((0 : Int) :: ([] : List Int)).set
 (0 : Nat)
 (x.fst.getD
 g.snd.snd.snd.snd.fst.toNat
 ((0 : Int),
 (0 : Int))).snd).length ≤
 (9223372036854775807 : Nat) ∧
 (g.fst.length +
 (((0 : Int) ::
 ([] : List Int)).set
 (0 : Nat)
 (x.fst.getD
 g.snd.snd.snd.snd.fst.toNat
 ((0 : Int),
 (0 :
 Int))).snd).length +
 (g.fst.length +
 (((0 : Int) ::
 ([] : List Int)).set
 (0 : Nat)
 (x.fst.getD
 g.snd.snd.snd.snd.fst.toNat
 ((0 : Int),
 (0 :
 Int))).snd).length) /
 (4 : Nat) +
 (192 : Nat)) *
 (8 : Nat) ≤
 (281474976710656 : Nat)) ∧
 (g.snd.snd.snd.fst.length +
 (((0 : Int) :: ([] : List Int)).set
 (0 : Nat) (0 : Int)).length ≤
 (9223372036854775807 : Nat) ∧
 (g.snd.snd.snd.fst.length +
 (((0 : Int) ::
 ([] : List Int)).set
 (0 : Nat)
 (0 : Int)).length +
 (g.snd.snd.snd.fst.length +
 (((0 : Int) ::
 ([] : List Int)).set
 (0 : Nat)
 (0 : Int)).length) /
 (4 : Nat) +
 (192 : Nat)) *
 (8 : Nat) ≤
 (281474976710656 : Nat)) ∧
 ((-9223372036854775808 : Int) ≤
 g.snd.snd.snd.snd.fst + (1 : Int) ∧
 g.snd.snd.snd.snd.fst + (1 : Int) ≤
 (9223372036854775807 : Int)) ∧
 (((0 : Int) ≤
 g.snd.snd.snd.snd.fst +
 (1 : Int) ∧
 g.snd.snd.snd.snd.fst +
 (1 : Int) ≤
 (↑x.fst.length : Int) ∧
 ((pl
 (List.take
 (g.snd.snd.snd.snd.fst +
 (1 : Int)).toNat
 x.fst)).snd =
 g.snd.snd.snd.fst ++
 ((0 : Int) ::
 ([] :
 List Int)).set
 (0 : Nat) (0 : Int) ∧
 good
 (pl
 (List.take
 (g.snd.snd.snd.snd.fst +
 (1 : Int)).toNat
 x.fst)).fst
 (g.snd.snd.snd.snd.fst +
 (1 : Int))) ∧
 (↑(g.snd.snd.snd.fst ++
 ((0 : Int) ::
 ([] :
 List
 Int)).set
 (0 : Nat)
 (0 :
 Int)).length :
 Int) =
 g.snd.snd.snd.snd.fst +
 (1 : Int) ∧
 g.fst ++
 ((0 : Int) ::
 ([] :
 List Int)).set
 (0 : Nat)
 (x.fst.getD
 g.snd.snd.snd.snd.fst.toNat
 ((0 : Int),
 (0 :
 Int))).snd =
 lst
 (pl
 (List.take
 (g.snd.snd.snd.snd.fst +
 (1 :
 Int)).toNat
 x.fst)).fst ∧
 g.snd.fst =
 (pl
 (List.take
 (g.snd.snd.snd.snd.fst +
 (1 :
 Int)).toNat
 x.fst)).fst.snd.snd ∧
 g.snd.snd.fst =
 onOf
 (pl
 (List.take
 (g.snd.snd.snd.snd.fst +
 (1 :
 Int)).toNat
 x.fst)).fst) ∧
 ((↑x.fst.length : Int) -
 (g.snd.snd.snd.snd.fst +
 (1 : Int))).toNat <
 ((↑x.fst.length : Int) -
 g.snd.snd.snd.snd.fst).toNat) ∧
 (True ∧
 True ∧
 g.snd.snd.fst = g.snd.snd.fst ∧
 True ∧
 x.fst = x.fst ∧
 (↑x.fst.length : Int) =
 (↑x.fst.length :
 Int) ∧
 g.snd.snd.snd.snd.fst +
 (1 : Int) =
 g.snd.snd.snd.snd.fst +
 (1 : Int) ∧
 True) ∧
 (g.fst ++
 ((0 : Int) ::
 ([] : List Int)).set
 (0 : Nat)
 (x.fst.getD
 g.snd.snd.snd.snd.fst.toNat
 ((0 : Int),
 (0 : Int))).snd =
 g.fst ++
 ((0 : Int) ::
 ([] : List Int)).set
 (0 : Nat)
 (x.fst.getD
 g.snd.snd.snd.snd.fst.toNat
 ((0 : Int),
 (0 : Int))).snd ∧
 g.snd.fst = g.snd.fst ∧
 g.snd.snd.snd.fst ++
 ((0 : Int) ::
 ([] :
 List Int)).set
 (0 : Nat) (0 : Int) =
 g.snd.snd.snd.fst ++
 ((0 : Int) ::
 ([] :
 List Int)).set
 (0 : Nat) (0 : Int) ∧
 True) ∧
 True) ∧
 (((x.fst.getD g.snd.snd.snd.snd.fst.toNat
 ((0 : Int), (0 : Int))).fst ==
 (1 : Int)) =
 false →
 (((x.fst.getD g.snd.snd.snd.snd.fst.toNat
 ((0 : Int), (0 : Int))).fst ==
 (2 : Int)) =
 true →
 (g.snd.snd.snd.fst.length +
 (((0 : Int) ::
 ([] : List Int)).set
 (0 : Nat) (0 : Int)).length ≤
 (9223372036854775807 : Nat) ∧
 (g.snd.snd.snd.fst.length +
 (((0 : Int) ::
 ([] : List Int)).set
 (0 : Nat)
 (0 : Int)).length +
 (g.snd.snd.snd.fst.length +
 (((0 : Int) ::
 ([] :
 List Int)).set
 (0 : Nat)
 (0 : Int)).length) /
 (4 : Nat) +
 (192 : Nat)) *
 (8 : Nat) ≤
 (281474976710656 : Nat)) ∧
 ((-9223372036854775808 : Int) ≤
 g.snd.snd.snd.snd.fst +
 (1 : Int) ∧
 g.snd.snd.snd.snd.fst + (1 : Int) ≤
 (9223372036854775807 : Int)) ∧
 (((0 : Int) ≤
 g.snd.snd.snd.snd.fst +
 (1 : Int) ∧
 g.snd.snd.snd.snd.fst +
 (1 : Int) ≤
 (↑x.fst.length : Int) ∧
 ((pl
 (List.take
 (g.snd.snd.snd.snd.fst +
 (1 :
 Int)).toNat
 x.fst)).snd =
 g.snd.snd.snd.fst ++
 ((0 : Int) ::
 ([] :
 List Int)).set
 (0 : Nat)
 (0 : Int) ∧
 good
 (pl
 (List.take
 (g.snd.snd.snd.snd.fst +
 (1 :
 Int)).toNat
 x.fst)).fst
 (g.snd.snd.snd.snd.fst +
 (1 : Int))) ∧
 (↑(g.snd.snd.snd.fst ++
 ((0 : Int) ::
 ([] :
 List
 Int)).set
 (0 : Nat)
 (0 :
 Int)).length :
 Int) =
 g.snd.snd.snd.snd.fst +
 (1 : Int) ∧
 g.fst =
 lst
 (pl
 (List.take
 (g.snd.snd.snd.snd.fst +
 (1 :
 Int)).toNat
 x.fst)).fst ∧
 g.snd.fst =
 (pl
 (List.take
 (g.snd.snd.snd.snd.fst +
 (1 :
 Int)).toNat
 x.fst)).fst.snd.snd ∧
 (1 : Int) =
 onOf
 (pl
 (List.take
 (g.snd.snd.snd.snd.fst +
 (1 :
 Int)).toNat
 x.fst)).fst) ∧
 ((↑x.fst.length : Int) -
 (g.snd.snd.snd.snd.fst +
 (1 : Int))).toNat <
 ((↑x.fst.length : Int) -
 g.snd.snd.snd.snd.fst).toNat) ∧
 (True ∧
 True ∧
 (1 : Int) = (1 : Int) ∧
 True ∧
 x.fst = x.fst ∧
 (↑x.fst.length : Int) =
 (↑x.fst.length :
 Int) ∧
 g.snd.snd.snd.snd.fst +
 (1 : Int) =
 g.snd.snd.snd.snd.fst +
 (1 : Int) ∧
 True) ∧
 (g.fst = g.fst ∧
 g.snd.fst = g.snd.fst ∧
 g.snd.snd.snd.fst ++
 ((0 : Int) ::
 ([] :
 List Int)).set
 (0 : Nat)
 (0 : Int) =
 g.snd.snd.snd.fst ++
 ((0 : Int) ::
 ([] :
 List Int)).set
 (0 : Nat)
 (0 : Int) ∧
 True) ∧
 True) ∧
 (((x.fst.getD g.snd.snd.snd.snd.fst.toNat
 ((0 : Int), (0 : Int))).fst ==
 (2 : Int)) =
 false →
 (((x.fst.getD g.snd.snd.snd.snd.fst.toNat
 ((0 : Int), (0 : Int))).fst ==
 (3 : Int)) =
 true →
 ((0 : Int) ≤ (0 : Int) ∧
 (0 : Int) <
 (↑g.fst.length : Int)) ∧
 (g.snd.fst.length +
 (((0 : Int) ::
 ([] : List Int)).set
 (0 : Nat)
 (g.fst.getD
 (Int.toNat (0 : Int))
 (0 : Int))).length ≤
 (9223372036854775807 : Nat) ∧
 (g.snd.fst.length +
 (((0 : Int) ::
 ([] :
 List
 Int)).set
 (0 : Nat)
 (g.fst.getD
 (Int.toNat
 (0 : Int))
 (0 :
 Int))).length +
 (g.snd.fst.length +
 (((0 : Int) ::
 ([] :
 List
 Int)).set
 (0 : Nat)
 (g.fst.getD
 (Int.toNat
 (0 : Int))
 (0 :
 Int))).length) /
 (4 : Nat) +
 (192 : Nat)) *
 (8 : Nat) ≤
 (281474976710656 : Nat)) ∧
 (((0 : Int) ≤ (1 : Int) ∧
 (1 : Int) ≤
 (↑g.fst.length : Int)) ∧
 (↑g.fst.length : Int) ≤
 (↑g.fst.length : Int)) ∧
 (g.snd.snd.snd.fst.length +
 (((0 : Int) ::
 ([] :
 List Int)).set
 (0 : Nat)
 (0 : Int)).length ≤
 (9223372036854775807 :
 Nat) ∧
 (g.snd.snd.snd.fst.length +
 (((0 : Int) ::
 ([] :
 List
 Int)).set
 (0 : Nat)
 (0 :
 Int)).length +
 (g.snd.snd.snd.fst.length +
 (((0 : Int) ::
 ([] :
 List
 Int)).set
 (0 : Nat)
 (0 :
 Int)).length) /
 (4 : Nat) +
 (192 : Nat)) *
 (8 : Nat) ≤
 (281474976710656 : Nat)) ∧
 ((-9223372036854775808 :
 Int) ≤
 g.snd.snd.snd.snd.fst +
 (1 : Int) ∧
 g.snd.snd.snd.snd.fst +
 (1 : Int) ≤
 (9223372036854775807 :
 Int)) ∧
 (((0 : Int) ≤
 g.snd.snd.snd.snd.fst +
 (1 : Int) ∧
 g.snd.snd.snd.snd.fst +
 (1 : Int) ≤
 (↑x.fst.length :
 Int) ∧
 ((pl
 (List.take
 (g.snd.snd.snd.snd.fst +
 (1 :
 Int)).toNat
 x.fst)).snd =
 g.snd.snd.snd.fst ++
 ((0 :
 Int) ::
 ([] :
 List
 Int)).set
 (0 : Nat)
 (0 :
 Int) ∧
 good
 (pl
 (List.take
 (g.snd.snd.snd.snd.fst +
 (1 :
 Int)).toNat
 x.fst)).fst
 (g.snd.snd.snd.snd.fst +
 (1 :
 Int))) ∧
 (↑(g.snd.snd.snd.fst ++
 ((0 :
 Int) ::
 ([] :
 List
 Int)).set
 (0 :
 Nat)
 (0 :
 Int)).length :
 Int) =
 g.snd.snd.snd.snd.fst +
 (1 : Int) ∧
 List.drop
 (Int.toNat
 (1 :
 Int))
 (List.take
 (↑g.fst.length :
 Int).toNat
 g.fst) =
 lst
 (pl
 (List.take
 (g.snd.snd.snd.snd.fst +
 (1 :
 Int)).toNat
 x.fst)).fst ∧
 g.snd.fst ++
 ((0 :
 Int) ::
 ([] :
 List
 Int)).set
 (0 :
 Nat)
 (g.fst.getD
 (Int.toNat
 (0 :
 Int))
 (0 :
 Int)) =
 (pl
 (List.take
 (g.snd.snd.snd.snd.fst +
 (1 :
 Int)).toNat
 x.fst)).fst.snd.snd ∧
 (0 : Int) =
 onOf
 (pl
 (List.take
 (g.snd.snd.snd.snd.fst +
 (1 :
 Int)).toNat
 x.fst)).fst) ∧
 ((↑x.fst.length : Int) -
 (g.snd.snd.snd.snd.fst +
 (1 :
 Int))).toNat <
 ((↑x.fst.length :
 Int) -
 g.snd.snd.snd.snd.fst).toNat) ∧
 (True ∧
 True ∧
 (0 : Int) =
 (0 : Int) ∧
 True ∧
 x.fst = x.fst ∧
 (↑x.fst.length :
 Int) =
 (↑x.fst.length :
 Int) ∧
 g.snd.snd.snd.snd.fst +
 (1 :
 Int) =
 g.snd.snd.snd.snd.fst +
 (1 :
 Int) ∧
 True) ∧
 (List.drop
 (Int.toNat
 (1 : Int))
 (List.take
 (↑g.fst.length :
 Int).toNat
 g.fst) =
 List.drop
 (Int.toNat
 (1 : Int))
 (List.take
 (↑g.fst.length :
 Int).toNat
 g.fst) ∧
 g.snd.fst ++
 ((0 : Int) ::
 ([] :
 List
 Int)).set
 (0 : Nat)
 (g.fst.getD
 (Int.toNat
 (0 :
 Int))
 (0 :
 Int)) =
 g.snd.fst ++
 ((0 : Int) ::
 ([] :
 List
 Int)).set
 (0 : Nat)
 (g.fst.getD
 (Int.toNat
 (0 :
 Int))
 (0 :
 Int)) ∧
 g.snd.snd.snd.fst ++
 ((0 :
 Int) ::
 ([] :
 List
 Int)).set
 (0 : Nat)
 (0 :
 Int) =
 g.snd.snd.snd.fst ++
 ((0 :
 Int) ::
 ([] :
 List
 Int)).set
 (0 : Nat)
 (0 :
 Int) ∧
 True) ∧
 True) ∧
 (((x.fst.getD
 g.snd.snd.snd.snd.fst.toNat
 ((0 : Int), (0 : Int))).fst ==
 (3 : Int)) =
 false →
 (((x.fst.getD
 g.snd.snd.snd.snd.fst.toNat
 ((0 : Int),
 (0 : Int))).fst ==
 (4 : Int)) =
 true →
 (((0 : Int) ≤ (0 : Int) ∧
 (0 : Int) ≤
 idx
 (List.drop
 g.snd.snd.fst.toNat
 (List.take
 (↑g.fst.length :
 Int).toNat
 g.fst))
 (x.fst.getD
 g.snd.snd.snd.snd.fst.toNat
 ((0 : Int),
 (0 :
 Int))).snd +
 g.snd.snd.fst) ∧
 idx
 (List.drop
 g.snd.snd.fst.toNat
 (List.take
 (↑g.fst.length :
 Int).toNat
 g.fst))
 (x.fst.getD
 g.snd.snd.snd.snd.fst.toNat
 ((0 : Int),
 (0 : Int))).snd +
 g.snd.snd.fst ≤
 (↑g.fst.length : Int)) ∧
 (([] : List Int).length +
 (List.drop
 (Int.toNat
 (0 : Int))
 (List.take
 (idx
 (List.drop
 g.snd.snd.fst.toNat
 (List.take
 (↑g.fst.length :
 Int).toNat
 g.fst))
 (x.fst.getD
 g.snd.snd.snd.snd.fst.toNat
 ((0 :
 Int),
 (0 :
 Int))).snd +
 g.snd.snd.fst).toNat
 g.fst)).length ≤
 (9223372036854775807 :
 Nat) ∧
 (([] : List Int).length +
 (List.drop
 (Int.toNat
 (0 : Int))
 (List.take
 (idx
 (List.drop
 g.snd.snd.fst.toNat
 (List.take
 (↑g.fst.length :
 Int).toNat
 g.fst))
 (x.fst.getD
 g.snd.snd.snd.snd.fst.toNat
 ((0 :
 Int),
 (0 :
 Int))).snd +
 g.snd.snd.fst).toNat
 g.fst)).length +
 (([] :
 List
 Int).length +
 (List.drop
 (Int.toNat
 (0 : Int))
 (List.take
 (idx
 (List.drop
 g.snd.snd.fst.toNat
 (List.take
 (↑g.fst.length :
 Int).toNat
 g.fst))
 (x.fst.getD
 g.snd.snd.snd.snd.fst.toNat
 ((0 :
 Int),
 (0 :
 Int))).snd +
 g.snd.snd.fst).toNat
 g.fst)).length) /
 (4 : Nat) +
 (192 : Nat)) *
 (8 : Nat) ≤
 (281474976710656 : Nat)) ∧
 ((-9223372036854775808 :
 Int) ≤
 idx
 (List.drop
 g.snd.snd.fst.toNat
 (List.take
 (↑g.fst.length :
 Int).toNat
 g.fst))
 (x.fst.getD
 g.snd.snd.snd.snd.fst.toNat
 ((0 : Int),
 (0 :
 Int))).snd +
 g.snd.snd.fst +
 (1 : Int) ∧
 idx
 (List.drop
 g.snd.snd.fst.toNat
 (List.take
 (↑g.fst.length :
 Int).toNat
 g.fst))
 (x.fst.getD
 g.snd.snd.snd.snd.fst.toNat
 ((0 : Int),
 (0 :
 Int))).snd +
 g.snd.snd.fst +
 (1 : Int) ≤
 (9223372036854775807 :
 Int)) ∧
 (((0 : Int) ≤
 idx
 (List.drop
 g.snd.snd.fst.toNat
 (List.take
 (↑g.fst.length :
 Int).toNat
 g.fst))
 (x.fst.getD
 g.snd.snd.snd.snd.fst.toNat
 ((0 :
 Int),
 (0 :
 Int))).snd +
 g.snd.snd.fst +
 (1 : Int) ∧
 idx
 (List.drop
 g.snd.snd.fst.toNat
 (List.take
 (↑g.fst.length :
 Int).toNat
 g.fst))
 (x.fst.getD
 g.snd.snd.snd.snd.fst.toNat
 ((0 :
 Int),
 (0 :
 Int))).snd +
 g.snd.snd.fst +
 (1 : Int) ≤
 (↑g.fst.length :
 Int)) ∧
 (↑g.fst.length : Int) ≤
 (↑g.fst.length :
 Int)) ∧
 ((([] : List Int) ++
 List.drop
 (Int.toNat
 (0 : Int))
 (List.take
 (idx
 (List.drop
 g.snd.snd.fst.toNat
 (List.take
 (↑g.fst.length :
 Int).toNat
 g.fst))
 (x.fst.getD
 g.snd.snd.snd.snd.fst.toNat
 ((0 :
 Int),
 (0 :
 Int))).snd +
 g.snd.snd.fst).toNat
 g.fst)).length +
 (List.drop
 (idx
 (List.drop
 g.snd.snd.fst.toNat
 (List.take
 (↑g.fst.length :
 Int).toNat
 g.fst))
 (x.fst.getD
 g.snd.snd.snd.snd.fst.toNat
 ((0 :
 Int),
 (0 :
 Int))).snd +
 g.snd.snd.fst +
 (1 :
 Int)).toNat
 (List.take
 (↑g.fst.length :
 Int).toNat
 g.fst)).length ≤
 (9223372036854775807 :
 Nat) ∧
 ((([] : List Int) ++
 List.drop
 (Int.toNat
 (0 :
 Int))
 (List.take
 (idx
 (List.drop
 g.snd.snd.fst.toNat
 (List.take
 (↑g.fst.length :
 Int).toNat
 g.fst))
 (x.fst.getD
 g.snd.snd.snd.snd.fst.toNat
 ((0 :
 Int),
 (0 :
 Int))).snd +
 g.snd.snd.fst).toNat
 g.fst)).length +
 (List.drop
 (idx
 (List.drop
 g.snd.snd.fst.toNat
 (List.take
 (↑g.fst.length :
 Int).toNat
 g.fst))
 (x.fst.getD
 g.snd.snd.snd.snd.fst.toNat
 ((0 :
 Int),
 (0 :
 Int))).snd +
 g.snd.snd.fst +
 (1 :
 Int)).toNat
 (List.take
 (↑g.fst.length :
 Int).toNat
 g.fst)).length +
 ((([] :
 List
 Int) ++
 List.drop
 (Int.toNat
 (0 :
 Int))
 (List.take
 (idx
 (List.drop
 g.snd.snd.fst.toNat
 (List.take
 (↑g.fst.length :
 Int).toNat
 g.fst))
 (x.fst.getD
 g.snd.snd.snd.snd.fst.toNat
 ((0 :
 Int),
 (0 :
 Int))).snd +
 g.snd.snd.fst).toNat
 g.fst)).length +
 (List.drop
 (idx
 (List.drop
 g.snd.snd.fst.toNat
 (List.take
 (↑g.fst.length :
 Int).toNat
 g.fst))
 (x.fst.getD
 g.snd.snd.snd.snd.fst.toNat
 ((0 :
 Int),
 (0 :
 Int))).snd +
 g.snd.snd.fst +
 (1 :
 Int)).toNat
 (List.take
 (↑g.fst.length :
 Int).toNat
 g.fst)).length) /
 (4 : Nat) +
 (192 : Nat)) *
 (8 : Nat) ≤
 (281474976710656 :
 Nat)) ∧
 (g.snd.snd.snd.fst.length +
 (((0 : Int) ::
 ([] :
 List
 Int)).set
 (0 : Nat)
 (0 :
 Int)).length ≤
 (9223372036854775807 :
 Nat) ∧
 (g.snd.snd.snd.fst.length +
 (((0 :
 Int) ::
 ([] :
 List
 Int)).set
 (0 :
 Nat)
 (0 :
 Int)).length +
 (g.snd.snd.snd.fst.length +
 (((0 :
 Int) ::
 ([] :
 List
 Int)).set
 (0 :
 Nat)
 (0 :
 Int)).length) /
 (4 :
 Nat) +
 (192 : Nat)) *
 (8 : Nat) ≤
 (281474976710656 :
 Nat)) ∧
 ((-9223372036854775808 :
 Int) ≤
 g.snd.snd.snd.snd.fst +
 (1 : Int) ∧
 g.snd.snd.snd.snd.fst +
 (1 : Int) ≤
 (9223372036854775807 :
 Int)) ∧
 (((0 : Int) ≤
 g.snd.snd.snd.snd.fst +
 (1 :
 Int) ∧
 g.snd.snd.snd.snd.fst +
 (1 :
 Int) ≤
 (↑x.fst.length :
 Int) ∧
 ((pl
 (List.take
 (g.snd.snd.snd.snd.fst +
 (1 :
 Int)).toNat
 x.fst)).snd =
 g.snd.snd.snd.fst ++
 ((0 :
 Int) ::
 ([] :
 List
 Int)).set
 (0 :
 Nat)
 (0 :
 Int) ∧
 good
 (pl
 (List.take
 (g.snd.snd.snd.snd.fst +
 (1 :
 Int)).toNat
 x.fst)).fst
 (g.snd.snd.snd.snd.fst +
 (1 :
 Int))) ∧
 (↑(g.snd.snd.snd.fst ++
 ((0 :
 Int) ::
 ([] :
 List
 Int)).set
 (0 :
 Nat)
 (0 :
 Int)).length :
 Int) =
 g.snd.snd.snd.snd.fst +
 (1 :
 Int) ∧
 ([] :
 List
 Int) ++
 List.drop
 (Int.toNat
 (0 :
 Int))
 (List.take
 (idx
 (List.drop
 g.snd.snd.fst.toNat
 (List.take
 (↑g.fst.length :
 Int).toNat
 g.fst))
 (x.fst.getD
 g.snd.snd.snd.snd.fst.toNat
 ((0 :
 Int),
 (0 :
 Int))).snd +
 g.snd.snd.fst).toNat
 g.fst) ++
 List.drop
 (idx
 (List.drop
 g.snd.snd.fst.toNat
 (List.take
 (↑g.fst.length :
 Int).toNat
 g.fst))
 (x.fst.getD
 g.snd.snd.snd.snd.fst.toNat
 ((0 :
 Int),
 (0 :
 Int))).snd +
 g.snd.snd.fst +
 (1 :
 Int)).toNat
 (List.take
 (↑g.fst.length :
 Int).toNat
 g.fst) =
 lst
 (pl
 (List.take
 (g.snd.snd.snd.snd.fst +
 (1 :
 Int)).toNat
 x.fst)).fst ∧
 g.snd.fst =
 (pl
 (List.take
 (g.snd.snd.snd.snd.fst +
 (1 :
 Int)).toNat
 x.fst)).fst.snd.snd ∧
 g.snd.snd.fst =
 onOf
 (pl
 (List.take
 (g.snd.snd.snd.snd.fst +
 (1 :
 Int)).toNat
 x.fst)).fst) ∧
 ((↑x.fst.length :
 Int) -
 (g.snd.snd.snd.snd.fst +
 (1 :
 Int))).toNat <
 ((↑x.fst.length :
 Int) -
 g.snd.snd.snd.snd.fst).toNat) ∧
 (True ∧
 True ∧
 g.snd.snd.fst =
 g.snd.snd.fst ∧
 True ∧
 x.fst =
 x.fst ∧
 (↑x.fst.length :
 Int) =
 (↑x.fst.length :
 Int) ∧
 g.snd.snd.snd.snd.fst +
 (1 :
 Int) =
 g.snd.snd.snd.snd.fst +
 (1 :
 Int) ∧
 True) ∧
 (([] :
 List
 Int) ++
 List.drop
 (Int.toNat
 (0 :
 Int))
 (List.take
 (idx
 (List.drop
 g.snd.snd.fst.toNat
 (List.take
 (↑g.fst.length :
 Int).toNat
 g.fst))
 (x.fst.getD
 g.snd.snd.snd.snd.fst.toNat
 ((0 :
 Int),
 (0 :
 Int))).snd +
 g.snd.snd.fst).toNat
 g.fst) ++
 List.drop
 (idx
 (List.drop
 g.snd.snd.fst.toNat
 (List.take
 (↑g.fst.length :
 Int).toNat
 g.fst))
 (x.fst.getD
 g.snd.snd.snd.snd.fst.toNat
 ((0 :
 Int),
 (0 :
 Int))).snd +
 g.snd.snd.fst +
 (1 :
 Int)).toNat
 (List.take
 (↑g.fst.length :
 Int).toNat
 g.fst) =
 ([] :
 List
 Int) ++
 List.drop
 (Int.toNat
 (0 :
 Int))
 (List.take
 (idx
 (List.drop
 g.snd.snd.fst.toNat
 (List.take
 (↑g.fst.length :
 Int).toNat
 g.fst))
 (x.fst.getD
 g.snd.snd.snd.snd.fst.toNat
 ((0 :
 Int),
 (0 :
 Int))).snd +
 g.snd.snd.fst).toNat
 g.fst) ++
 List.drop
 (idx
 (List.drop
 g.snd.snd.fst.toNat
 (List.take
 (↑g.fst.length :
 Int).toNat
 g.fst))
 (x.fst.getD
 g.snd.snd.snd.snd.fst.toNat
 ((0 :
 Int),
 (0 :
 Int))).snd +
 g.snd.snd.fst +
 (1 :
 Int)).toNat
 (List.take
 (↑g.fst.length :
 Int).toNat
 g.fst) ∧
 g.snd.fst =
 g.snd.fst ∧
 g.snd.snd.snd.fst ++
 ((0 :
 Int) ::
 ([] :
 List
 Int)).set
 (0 :
 Nat)
 (0 :
 Int) =
 g.snd.snd.snd.fst ++
 ((0 :
 Int) ::
 ([] :
 List
 Int)).set
 (0 :
 Nat)
 (0 :
 Int) ∧
 True) ∧
 True) ∧
 (((x.fst.getD
 g.snd.snd.snd.snd.fst.toNat
 ((0 : Int),
 (0 : Int))).fst ==
 (4 : Int)) =
 false →
 ((((0 : Int) ≤ (0 : Int) ∧
 (0 : Int) ≤
 (↑g.1.length : Int) ∧
 lastAt
 (x.fst.getD
 g.snd.snd.snd.snd.fst.toNat
 ((0 : Int),
 (0 : Int))).snd
 g.1 (-1 : Int)
 (0 : Int)) ∧
 True) ∧
 (True ∧
 True ∧
 g.snd.snd.fst =
 g.snd.snd.fst ∧
 True ∧
 (True ∧ True) ∧
 (0 : Int) =
 (0 : Int) ∧
 (-1 : Int) =
 (-1 : Int) ∧
 x.fst =
 x.fst ∧
 (↑x.fst.length :
 Int) =
 (↑x.fst.length :
 Int) ∧
 g.snd.snd.snd.snd.fst =
 g.snd.snd.snd.snd.fst ∧
 True ∧
 (↑g.fst.length :
 Int) =
 (↑g.fst.length :
 Int) ∧
 (0 :
 Int) =
 (0 :
 Int) ∧
 True) ∧
 (g.fst = g.fst ∧
 g.snd.fst = g.snd.fst ∧
 g.snd.snd.snd.fst =
 g.snd.snd.snd.fst ∧
 ((x.fst.getD
 g.snd.snd.snd.snd.fst.toNat
 ((0 :
 Int),
 (0 :
 Int))).fst =
 (x.fst.getD
 g.snd.snd.snd.snd.fst.toNat
 ((0 :
 Int),
 (0 :
 Int))).fst ∧
 (x.fst.getD
 g.snd.snd.snd.snd.fst.toNat
 ((0 :
 Int),
 (0 :
 Int))).snd =
 (x.fst.getD
 g.snd.snd.snd.snd.fst.toNat
 ((0 :
 Int),
 (0 :
 Int))).snd ∧
 True) ∧
 True) ∧
 True) ∧
 ∀ (g_1 : Int × Int × Unit),
 (0 : Int) ≤ g_1.snd.fst ∧
 g_1.snd.fst ≤
 (↑g.1.length : Int) ∧
 lastAt
 (x.fst.getD
 g.snd.snd.snd.snd.fst.toNat
 ((0 : Int),
 (0 : Int))).snd
 g.1 g_1.fst
 g_1.snd.fst →
 ((-9223372036854775808 :
 Int) ≤
 g_1.fst ∧
 g_1.fst ≤
 (9223372036854775807 :
 Int)) ∧
 ((-9223372036854775808 :
 Int) ≤
 g_1.snd.fst ∧
 g_1.snd.fst ≤
 (9223372036854775807 :
 Int)) ∧
 True →
 (decide
 (g_1.snd.fst <
 (↑g.fst.length :
 Int)) =
 true →
 ((0 : Int) ≤
 g_1.snd.fst ∧
 g_1.snd.fst <
 (↑g.fst.length :
 Int)) ∧
 ((g.fst.getD
 g_1.snd.fst.toNat
 (0 :
 Int) ==
 (x.fst.getD
 g.snd.snd.snd.snd.fst.toNat
 ((0 :
 Int),
 (0 :
 Int))).snd) =
 true →
 ((-9223372036854775808 :
 Int) ≤
 g_1.snd.fst +
 (1 :
 Int) ∧
 g_1.snd.fst +
 (1 :
 Int) ≤
 (9223372036854775807 :
 Int)) ∧
 (((0 : Int) ≤
 g_1.snd.fst +
 (1 :
 Int) ∧
 g_1.snd.fst +
 (1 :
 Int) ≤
 (↑g.1.length :
 Int) ∧
 lastAt
 (x.fst.getD
 g.snd.snd.snd.snd.fst.toNat
 ((0 :
 Int),
 (0 :
 Int))).snd
 g.1
 g_1.snd.fst
 (g_1.snd.fst +
 (1 :
 Int))) ∧
 ((↑g.1.length :
 Int) -
 (g_1.snd.fst +
 (1 :
 Int))).toNat <
 ((↑g.1.length :
 Int) -
 g_1.snd.fst).toNat) ∧
 (True ∧
 True ∧
 g.snd.snd.fst =
 g.snd.snd.fst ∧
 True ∧
 (True ∧
 True) ∧
 (0 :
 Int) =
 (0 :
 Int) ∧
 g_1.snd.fst =
 g_1.snd.fst ∧
 x.fst =
 x.fst ∧
 (↑x.fst.length :
 Int) =
 (↑x.fst.length :
 Int) ∧
 g.snd.snd.snd.snd.fst =
 g.snd.snd.snd.snd.fst ∧
 True ∧
 (↑g.fst.length :
 Int) =
 (↑g.fst.length :
 Int) ∧
 g_1.snd.fst +
 (1 :
 Int) =
 g_1.snd.fst +
 (1 :
 Int) ∧
 True) ∧
 (g.fst =
 g.fst ∧
 g.snd.fst =
 g.snd.fst ∧
 g.snd.snd.snd.fst =
 g.snd.snd.snd.fst ∧
 ((x.fst.getD
 g.snd.snd.snd.snd.fst.toNat
 ((0 :
 Int),
 (0 :
 Int))).fst =
 (x.fst.getD
 g.snd.snd.snd.snd.fst.toNat
 ((0 :
 Int),
 (0 :
 Int))).fst ∧
 (x.fst.getD
 g.snd.snd.snd.snd.fst.toNat
 ((0 :
 Int),
 (0 :
 Int))).snd =
 (x.fst.getD
 g.snd.snd.snd.snd.fst.toNat
 ((0 :
 Int),
 (0 :
 Int))).snd ∧
 True) ∧
 True) ∧
 True) ∧
 ((g.fst.getD
 g_1.snd.fst.toNat
 (0 :
 Int) ==
 (x.fst.getD
 g.snd.snd.snd.snd.fst.toNat
 ((0 :
 Int),
 (0 :
 Int))).snd) =
 false →
 ((-9223372036854775808 :
 Int) ≤
 g_1.snd.fst +
 (1 :
 Int) ∧
 g_1.snd.fst +
 (1 :
 Int) ≤
 (9223372036854775807 :
 Int)) ∧
 (((0 : Int) ≤
 g_1.snd.fst +
 (1 :
 Int) ∧
 g_1.snd.fst +
 (1 :
 Int) ≤
 (↑g.1.length :
 Int) ∧
 lastAt
 (x.fst.getD
 g.snd.snd.snd.snd.fst.toNat
 ((0 :
 Int),
 (0 :
 Int))).snd
 g.1
 g_1.fst
 (g_1.snd.fst +
 (1 :
 Int))) ∧
 ((↑g.1.length :
 Int) -
 (g_1.snd.fst +
 (1 :
 Int))).toNat <
 ((↑g.1.length :
 Int) -
 g_1.snd.fst).toNat) ∧
 (True ∧
 True ∧
 g.snd.snd.fst =
 g.snd.snd.fst ∧
 True ∧
 (True ∧
 True) ∧
 (0 :
 Int) =
 (0 :
 Int) ∧
 g_1.fst =
 g_1.fst ∧
 x.fst =
 x.fst ∧
 (↑x.fst.length :
 Int) =
 (↑x.fst.length :
 Int) ∧
 g.snd.snd.snd.snd.fst =
 g.snd.snd.snd.snd.fst ∧
 True ∧
 (↑g.fst.length :
 Int) =
 (↑g.fst.length :
 Int) ∧
 g_1.snd.fst +
 (1 :
 Int) =
 g_1.snd.fst +
 (1 :
 Int) ∧
 True) ∧
 (g.fst =
 g.fst ∧
 g.snd.fst =
 g.snd.fst ∧
 g.snd.snd.snd.fst =
 g.snd.snd.snd.fst ∧
 ((x.fst.getD
 g.snd.snd.snd.snd.fst.toNat
 ((0 :
 Int),
 (0 :
 Int))).fst =
 (x.fst.getD
 g.snd.snd.snd.snd.fst.toNat
 ((0 :
 Int),
 (0 :
 Int))).fst ∧
 (x.fst.getD
 g.snd.snd.snd.snd.fst.toNat
 ((0 :
 Int),
 (0 :
 Int))).snd =
 (x.fst.getD
 g.snd.snd.snd.snd.fst.toNat
 ((0 :
 Int),
 (0 :
 Int))).snd ∧
 True) ∧
 True) ∧
 True)) ∧
 (decide
 (g_1.snd.fst <
 (↑g.fst.length :
 Int)) =
 false →
 (decide
 ((0 : Int) ≤
 g_1.fst) =
 true →
 ((-9223372036854775808 :
 Int) ≤
 g_1.fst +
 (1 :
 Int) ∧
 g_1.fst +
 (1 :
 Int) ≤
 (9223372036854775807 :
 Int)) ∧
 (((0 : Int) ≤
 (0 :
 Int) ∧
 (0 :
 Int) ≤
 g_1.fst +
 (1 :
 Int)) ∧
 g_1.fst +
 (1 :
 Int) ≤
 (↑g.fst.length :
 Int)) ∧
 (g.snd.fst.length +
 (List.drop
 (Int.toNat
 (0 :
 Int))
 (List.take
 (g_1.fst +
 (1 :
 Int)).toNat
 g.fst)).length ≤
 (9223372036854775807 :
 Nat) ∧
 (g.snd.fst.length +
 (List.drop
 (Int.toNat
 (0 :
 Int))
 (List.take
 (g_1.fst +
 (1 :
 Int)).toNat
 g.fst)).length +
 (g.snd.fst.length +
 (List.drop
 (Int.toNat
 (0 :
 Int))
 (List.take
 (g_1.fst +
 (1 :
 Int)).toNat
 g.fst)).length) /
 (4 :
 Nat) +
 (192 :
 Nat)) *
 (8 :
 Nat) ≤
 (281474976710656 :
 Nat)) ∧
 ((-9223372036854775808 :
 Int) ≤
 g_1.fst +
 (1 :
 Int) ∧
 g_1.fst +
 (1 :
 Int) ≤
 (9223372036854775807 :
 Int)) ∧
 (((0 :
 Int) ≤
 g_1.fst +
 (1 :
 Int) ∧
 g_1.fst +
 (1 :
 Int) ≤
 (↑g.fst.length :
 Int)) ∧
 (↑g.fst.length :
 Int) ≤
 (↑g.fst.length :
 Int)) ∧
 (g.snd.snd.snd.fst.length +
 (((0 :
 Int) ::
 ([] :
 List
 Int)).set
 (0 :
 Nat)
 (0 :
 Int)).length ≤
 (9223372036854775807 :
 Nat) ∧
 (g.snd.snd.snd.fst.length +
 (((0 :
 Int) ::
 ([] :
 List
 Int)).set
 (0 :
 Nat)
 (0 :
 Int)).length +
 (g.snd.snd.snd.fst.length +
 (((0 :
 Int) ::
 ([] :
 List
 Int)).set
 (0 :
 Nat)
 (0 :
 Int)).length) /
 (4 :
 Nat) +
 (192 :
 Nat)) *
 (8 :
 Nat) ≤
 (281474976710656 :
 Nat)) ∧
 ((-9223372036854775808 :
 Int) ≤
 g.snd.snd.snd.snd.fst +
 (1 :
 Int) ∧
 g.snd.snd.snd.snd.fst +
 (1 :
 Int) ≤
 (9223372036854775807 :
 Int)) ∧
 (((0 :
 Int) ≤
 g.snd.snd.snd.snd.fst +
 (1 :
 Int) ∧
 g.snd.snd.snd.snd.fst +
 (1 :
 Int) ≤
 (↑x.fst.length :
 Int) ∧
 ((pl
 (List.take
 (g.snd.snd.snd.snd.fst +
 (1 :
 Int)).toNat
 x.fst)).snd =
 g.snd.snd.snd.fst ++
 ((0 :
 Int) ::
 ([] :
 List
 Int)).set
 (0 :
 Nat)
 (0 :
 Int) ∧
 good
 (pl
 (List.take
 (g.snd.snd.snd.snd.fst +
 (1 :
 Int)).toNat
 x.fst)).fst
 (g.snd.snd.snd.snd.fst +
 (1 :
 Int))) ∧
 (↑(g.snd.snd.snd.fst ++
 ((0 :
 Int) ::
 ([] :
 List
 Int)).set
 (0 :
 Nat)
 (0 :
 Int)).length :
 Int) =
 g.snd.snd.snd.snd.fst +
 (1 :
 Int) ∧
 List.drop
 (g_1.fst +
 (1 :
 Int)).toNat
 (List.take
 (↑g.fst.length :
 Int).toNat
 g.fst) =
 lst
 (pl
 (List.take
 (g.snd.snd.snd.snd.fst +
 (1 :
 Int)).toNat
 x.fst)).fst ∧
 g.snd.fst ++
 List.drop
 (Int.toNat
 (0 :
 Int))
 (List.take
 (g_1.fst +
 (1 :
 Int)).toNat
 g.fst) =
 (pl
 (List.take
 (g.snd.snd.snd.snd.fst +
 (1 :
 Int)).toNat
 x.fst)).fst.snd.snd ∧
 (0 :
 Int) =
 onOf
 (pl
 (List.take
 (g.snd.snd.snd.snd.fst +
 (1 :
 Int)).toNat
 x.fst)).fst) ∧
 ((↑x.fst.length :
 Int) -
 (g.snd.snd.snd.snd.fst +
 (1 :
 Int))).toNat <
 ((↑x.fst.length :
 Int) -
 g.snd.snd.snd.snd.fst).toNat) ∧
 (True ∧
 True ∧
 (0 :
 Int) =
 (0 :
 Int) ∧
 True ∧
 x.fst =
 x.fst ∧
 (↑x.fst.length :
 Int) =
 (↑x.fst.length :
 Int) ∧
 g.snd.snd.snd.snd.fst +
 (1 :
 Int) =
 g.snd.snd.snd.snd.fst +
 (1 :
 Int) ∧
 True) ∧
 (List.drop
 (g_1.fst +
 (1 :
 Int)).toNat
 (List.take
 (↑g.fst.length :
 Int).toNat
 g.fst) =
 List.drop
 (g_1.fst +
 (1 :
 Int)).toNat
 (List.take
 (↑g.fst.length :
 Int).toNat
 g.fst) ∧
 g.snd.fst ++
 List.drop
 (Int.toNat
 (0 :
 Int))
 (List.take
 (g_1.fst +
 (1 :
 Int)).toNat
 g.fst) =
 g.snd.fst ++
 List.drop
 (Int.toNat
 (0 :
 Int))
 (List.take
 (g_1.fst +
 (1 :
 Int)).toNat
 g.fst) ∧
 g.snd.snd.snd.fst ++
 ((0 :
 Int) ::
 ([] :
 List
 Int)).set
 (0 :
 Nat)
 (0 :
 Int) =
 g.snd.snd.snd.fst ++
 ((0 :
 Int) ::
 ([] :
 List
 Int)).set
 (0 :
 Nat)
 (0 :
 Int) ∧
 True) ∧
 True) ∧
 (decide
 ((0 : Int) ≤
 g_1.fst) =
 false →
 (g.snd.snd.snd.fst.length +
 (((0 :
 Int) ::
 ([] :
 List
 Int)).set
 (0 :
 Nat)
 (0 :
 Int)).length ≤
 (9223372036854775807 :
 Nat) ∧
 (g.snd.snd.snd.fst.length +
 (((0 :
 Int) ::
 ([] :
 List
 Int)).set
 (0 :
 Nat)
 (0 :
 Int)).length +
 (g.snd.snd.snd.fst.length +
 (((0 :
 Int) ::
 ([] :
 List
 Int)).set
 (0 :
 Nat)
 (0 :
 Int)).length) /
 (4 :
 Nat) +
 (192 :
 Nat)) *
 (8 :
 Nat) ≤
 (281474976710656 :
 Nat)) ∧
 ((-9223372036854775808 :
 Int) ≤
 g.snd.snd.snd.snd.fst +
 (1 :
 Int) ∧
 g.snd.snd.snd.snd.fst +
 (1 :
 Int) ≤
 (9223372036854775807 :
 Int)) ∧
 (((0 : Int) ≤
 g.snd.snd.snd.snd.fst +
 (1 :
 Int) ∧
 g.snd.snd.snd.snd.fst +
 (1 :
 Int) ≤
 (↑x.fst.length :
 Int) ∧
 ((pl
 (List.take
 (g.snd.snd.snd.snd.fst +
 (1 :
 Int)).toNat
 x.fst)).snd =
 g.snd.snd.snd.fst ++
 ((0 :
 Int) ::
 ([] :
 List
 Int)).set
 (0 :
 Nat)
 (0 :
 Int) ∧
 good
 (pl
 (List.take
 (g.snd.snd.snd.snd.fst +
 (1 :
 Int)).toNat
 x.fst)).fst
 (g.snd.snd.snd.snd.fst +
 (1 :
 Int))) ∧
 (↑(g.snd.snd.snd.fst ++
 ((0 :
 Int) ::
 ([] :
 List
 Int)).set
 (0 :
 Nat)
 (0 :
 Int)).length :
 Int) =
 g.snd.snd.snd.snd.fst +
 (1 :
 Int) ∧
 g.fst =
 lst
 (pl
 (List.take
 (g.snd.snd.snd.snd.fst +
 (1 :
 Int)).toNat
 x.fst)).fst ∧
 g.snd.fst =
 (pl
 (List.take
 (g.snd.snd.snd.snd.fst +
 (1 :
 Int)).toNat
 x.fst)).fst.snd.snd ∧
 g.snd.snd.fst =
 onOf
 (pl
 (List.take
 (g.snd.snd.snd.snd.fst +
 (1 :
 Int)).toNat
 x.fst)).fst) ∧
 ((↑x.fst.length :
 Int) -
 (g.snd.snd.snd.snd.fst +
 (1 :
 Int))).toNat <
 ((↑x.fst.length :
 Int) -
 g.snd.snd.snd.snd.fst).toNat) ∧
 (True ∧
 True ∧
 g.snd.snd.fst =
 g.snd.snd.fst ∧
 True ∧
 x.fst =
 x.fst ∧
 (↑x.fst.length :
 Int) =
 (↑x.fst.length :
 Int) ∧
 g.snd.snd.snd.snd.fst +
 (1 :
 Int) =
 g.snd.snd.snd.snd.fst +
 (1 :
 Int) ∧
 True) ∧
 (g.fst =
 g.fst ∧
 g.snd.fst =
 g.snd.fst ∧
 g.snd.snd.snd.fst ++
 ((0 :
 Int) ::
 ([] :
 List
 Int)).set
 (0 :
 Nat)
 (0 :
 Int) =
 g.snd.snd.snd.fst ++
 ((0 :
 Int) ::
 ([] :
 List
 Int)).set
 (0 :
 Nat)
 (0 :
 Int) ∧
 True) ∧
 True)))))))))))))) ∧
 (decide (g.snd.snd.snd.snd.fst < (↑x.fst.length : Int)) = false →
 ((g.snd.snd.fst == (1 : Int)) = true →
 ((0 : Int) ≤ (0 : Int) ∧ (0 : Int) < (↑g.fst.length : Int)) ∧
 (((0 : Int) ≤ g.snd.snd.fst ∧ g.snd.snd.fst ≤ (↑g.fst.length : Int)) ∧ (↑g.fst.length : Int) ≤ (↑g.fst.length : Int)) ∧
 (([] : List Int).length + (List.drop g.snd.snd.fst.toNat (List.take (↑g.fst.length : Int).toNat g.fst)).length ≤
 (9223372036854775807 : Nat) ∧
 (([] : List Int).length + (List.drop g.snd.snd.fst.toNat (List.take (↑g.fst.length : Int).toNat g.fst)).length +
 (([] : List Int).length + (List.drop g.snd.snd.fst.toNat (List.take (↑g.fst.length : Int).toNat g.fst)).length) /
 (4 : Nat) +
 (192 : Nat)) *
 (8 : Nat) ≤
 (281474976710656 : Nat)) ∧
 g.snd.snd.snd.fst = (play x.fst).fst ∧
 g.snd.fst = (play x.fst).snd.fst ∧
 ([] : List Int) ++ List.drop g.snd.snd.fst.toNat (List.take (↑g.fst.length : Int).toNat g.fst) =
 (play x.fst).snd.snd.fst ∧
 g.fst.getD (Int.toNat (0 : Int)) (0 : Int) = (play x.fst).snd.snd.snd.fst ∧
 (0 : Int) = (play x.fst).snd.snd.snd.snd.fst) ∧
 ((g.snd.snd.fst == (1 : Int)) = false →
 (((0 : Int) ≤ g.snd.snd.fst ∧ g.snd.snd.fst ≤ (↑g.fst.length : Int)) ∧ (↑g.fst.length : Int) ≤ (↑g.fst.length : Int)) ∧
 (([] : List Int).length + (List.drop g.snd.snd.fst.toNat (List.take (↑g.fst.length : Int).toNat g.fst)).length ≤
 (9223372036854775807 : Nat) ∧
 (([] : List Int).length + (List.drop g.snd.snd.fst.toNat (List.take (↑g.fst.length : Int).toNat g.fst)).length +
 (([] : List Int).length + (List.drop g.snd.snd.fst.toNat (List.take (↑g.fst.length : Int).toNat g.fst)).length) /
 (4 : Nat) +
 (192 : Nat)) *
 (8 : Nat) ≤
 (281474976710656 : Nat)) ∧
 g.snd.snd.snd.fst = (play x.fst).fst ∧
 g.snd.fst = (play x.fst).snd.fst ∧
 ([] : List Int) ++ List.drop g.snd.snd.fst.toNat (List.take (↑g.fst.length : Int).toNat g.fst) =
 (play x.fst).snd.snd.fst ∧
 (-1 : Int) = (play x.fst).snd.snd.snd.fst ∧ (0 : Int) = (play x.fst).snd.snd.snd.snd.fst)))

theorem E_lplay_eq (x : HL (cPlay : Ctr).as) : vc (fx_lplay x) 1 16 Try.f16 (cPlay) x = E_lplay x := by kernel_rfl

def E_plays (x : List (Int × Int) × Unit) : Prop :=
 Holds True ∧
 Holds True ∧
 (((play x.fst).snd.snd.snd.snd.fst == (play x.fst).snd.snd.snd.snd.fst) = true →
 ((play x.fst).snd.snd.snd.snd.fst == (play x.fst).snd.snd.snd.snd.fst) = true ∧
 ((play x.fst).snd.snd.snd.snd.fst == (play x.fst).snd.snd.snd.snd.fst) = true) ∧
 (((play x.fst).snd.snd.snd.snd.fst == (play x.fst).snd.snd.snd.snd.fst) = true →
 ((play x.fst).snd.snd.snd.snd.fst == (play x.fst).snd.snd.snd.snd.fst) = true) ∧
 (((play x.fst).snd.snd.snd.snd.fst == (play x.fst).snd.snd.snd.snd.fst && (play x.fst).snd.snd.snd.fst == (play x.fst).snd.snd.snd.fst) =
 true →
 (((play x.fst).snd.snd.snd.snd.fst == (play x.fst).snd.snd.snd.snd.fst && (play x.fst).snd.snd.snd.fst == (play x.fst).snd.snd.snd.fst) =
 true ∧
 ((play x.fst).snd.snd.snd.snd.fst == (play x.fst).snd.snd.snd.snd.fst &&
 (play x.fst).snd.snd.snd.fst == (play x.fst).snd.snd.snd.fst) =
 true) ∧
 Holds True) ∧
 (((play x.fst).snd.snd.snd.snd.fst == (play x.fst).snd.snd.snd.snd.fst && (play x.fst).snd.snd.snd.fst == (play x.fst).snd.snd.snd.fst) =
 true →
 ((play x.fst).snd.snd.snd.snd.fst == (play x.fst).snd.snd.snd.snd.fst && (play x.fst).snd.snd.snd.fst == (play x.fst).snd.snd.snd.fst) =
 true) ∧
 (((play x.fst).snd.snd.snd.snd.fst == (play x.fst).snd.snd.snd.snd.fst && (play x.fst).snd.snd.snd.fst == (play x.fst).snd.snd.snd.fst &&
 decide ((play x.fst).fst = (play x.fst).fst)) =
 true →
 (((play x.fst).snd.snd.snd.snd.fst == (play x.fst).snd.snd.snd.snd.fst &&
 (play x.fst).snd.snd.snd.fst == (play x.fst).snd.snd.snd.fst &&
 decide ((play x.fst).fst = (play x.fst).fst)) =
 true ∧
 ((play x.fst).snd.snd.snd.snd.fst == (play x.fst).snd.snd.snd.snd.fst &&
 (play x.fst).snd.snd.snd.fst == (play x.fst).snd.snd.snd.fst &&
 decide ((play x.fst).fst = (play x.fst).fst)) =
 true) ∧
 Holds True) ∧
 (((play x.fst).snd.snd.snd.snd.fst == (play x.fst).snd.snd.snd.snd.fst &&
 (play x.fst).snd.snd.snd.fst == (play x.fst).snd.snd.snd.fst &&
 decide ((play x.fst).fst = (play x.fst).fst)) =
 true →
 ((play x.fst).snd.snd.snd.snd.fst == (play x.fst).snd.snd.snd.snd.fst &&
 (play x.fst).snd.snd.snd.fst == (play x.fst).snd.snd.snd.fst &&
 decide ((play x.fst).fst = (play x.fst).fst)) =
 true) ∧
 (((play x.fst).snd.snd.snd.snd.fst == (play x.fst).snd.snd.snd.snd.fst &&
 (play x.fst).snd.snd.snd.fst == (play x.fst).snd.snd.snd.fst &&
 decide ((play x.fst).fst = (play x.fst).fst) &&
 decide ((play x.fst).snd.fst = (play x.fst).snd.fst)) =
 true →
 (((play x.fst).snd.snd.snd.snd.fst == (play x.fst).snd.snd.snd.snd.fst &&
 (play x.fst).snd.snd.snd.fst == (play x.fst).snd.snd.snd.fst &&
 decide ((play x.fst).fst = (play x.fst).fst) &&
 decide ((play x.fst).snd.fst = (play x.fst).snd.fst)) =
 true ∧
 ((play x.fst).snd.snd.snd.snd.fst == (play x.fst).snd.snd.snd.snd.fst &&
 (play x.fst).snd.snd.snd.fst == (play x.fst).snd.snd.snd.fst &&
 decide ((play x.fst).fst = (play x.fst).fst) &&
 decide ((play x.fst).snd.fst = (play x.fst).snd.fst)) =
 true) ∧
 Holds True) ∧
 (((play x.fst).snd.snd.snd.snd.fst == (play x.fst).snd.snd.snd.snd.fst &&
 (play x.fst).snd.snd.snd.fst == (play x.fst).snd.snd.snd.fst &&
 decide ((play x.fst).fst = (play x.fst).fst) &&
 decide ((play x.fst).snd.fst = (play x.fst).snd.fst)) =
 true →
 ((play x.fst).snd.snd.snd.snd.fst == (play x.fst).snd.snd.snd.snd.fst &&
 (play x.fst).snd.snd.snd.fst == (play x.fst).snd.snd.snd.fst &&
 decide ((play x.fst).fst = (play x.fst).fst) &&
 decide ((play x.fst).snd.fst = (play x.fst).snd.fst)) =
 true) ∧
 ((play x.fst).snd.snd.snd.snd.fst == (play x.fst).snd.snd.snd.snd.fst &&
 (play x.fst).snd.snd.snd.fst == (play x.fst).snd.snd.snd.fst &&
 decide ((play x.fst).fst = (play x.fst).fst) &&
 decide ((play x.fst).snd.fst = (play x.fst).snd.fst) &&
 decide ((play x.fst).snd.snd.fst = (play x.fst).snd.snd.fst)) =
 true

theorem E_plays_eq (x : HL (cLaw : Ctr).as) : vc (fx_plays x) 1 4 Try.f4 (cLaw) x = E_plays x := by kernel_rfl

end Go.Proofs.Ytlkhpbjjimjhbaa.Work
