/-
  The conditions that the executor comes to, written out (by a tool of ours), and that they are the conditions (by the kernel).
-/
import Derived.Test.YtpnmfoojmodnlaaLiftmC
namespace Go.Proofs.Ytpnmfoojmodnlaa.Liftm
open Go.Sx
set_option maxRecDepth 100000

def E_equal (x : List (Int × Int) × List (Int × Int) × Unit) : Prop :=
 (((↑x.1.length : Int) != (↑x.2.1.length : Int)) = true → false = decide (x.1 = x.2.1)) ∧
 (((↑x.1.length : Int) != (↑x.2.1.length : Int)) = false →
 ((((0 : Int) ≤ (0 : Int) ∧
 (0 : Int) ≤ (↑x.1.length : Int) ∧ List.take (Int.toNat (0 : Int)) x.1 = List.take (Int.toNat (0 : Int)) x.2.1) ∧
 True) ∧
 (x.1 = x.1 ∧ x.2.1 = x.2.1 ∧ (↑x.1.length : Int) = (↑x.1.length : Int) ∧ (0 : Int) = (0 : Int) ∧ True) ∧ True ∧ True) ∧
 ∀ (g : Int × Unit),
 (0 : Int) ≤ g.1 ∧ g.1 ≤ (↑x.1.length : Int) ∧ List.take g.1.toNat x.1 = List.take g.1.toNat x.2.1 →
 ((-9223372036854775808 : Int) ≤ g.1 ∧ g.1 ≤ (9223372036854775807 : Int)) ∧ True →
 (decide (g.1 < (↑x.1.length : Int)) = true →
 ((0 : Int) ≤ g.1 ∧ g.1 < (↑x.1.length : Int)) ∧
 ((0 : Int) ≤ g.1 ∧ g.1 < (↑x.2.1.length : Int)) ∧
 ((!deq ((Ty.int IntKind.i64).pair (Ty.int IntKind.i64))
 ((x.1.getD g.1.toNat ((0 : Int), (0 : Int))).1, (x.1.getD g.1.toNat ((0 : Int), (0 : Int))).2)
 ((x.2.1.getD g.1.toNat ((0 : Int), (0 : Int))).1, (x.2.1.getD g.1.toNat ((0 : Int), (0 : Int))).2)) =
 true →
 false = decide (x.1 = x.2.1)) ∧
 ((!deq ((Ty.int IntKind.i64).pair (Ty.int IntKind.i64))
 ((x.1.getD g.1.toNat ((0 : Int), (0 : Int))).1, (x.1.getD g.1.toNat ((0 : Int), (0 : Int))).2)
 ((x.2.1.getD g.1.toNat ((0 : Int), (0 : Int))).1, (x.2.1.getD g.1.toNat ((0 : Int), (0 : Int))).2)) =
 false →
 ((-9223372036854775808 : Int) ≤ g.1 + (1 : Int) ∧ g.1 + (1 : Int) ≤ (9223372036854775807 : Int)) ∧
 (((0 : Int) ≤ g.1 + (1 : Int) ∧
 g.1 + (1 : Int) ≤ (↑x.1.length : Int) ∧
 List.take (g.1 + (1 : Int)).toNat x.1 = List.take (g.1 + (1 : Int)).toNat x.2.1) ∧
 ((↑x.1.length : Int) - (g.1 + (1 : Int))).toNat < ((↑x.1.length : Int) - g.1).toNat) ∧
 (x.1 = x.1 ∧
 x.2.1 = x.2.1 ∧
 (↑x.1.length : Int) = (↑x.1.length : Int) ∧ g.1 + (1 : Int) = g.1 + (1 : Int) ∧ True) ∧
 True ∧ True)) ∧
 (decide (g.1 < (↑x.1.length : Int)) = false → true = decide (x.1 = x.2.1)))

theorem E_equal_eq (x : HL (cEqual : Ctr).as) : vc (fx_equal x) 1 9 Try.f9 (cEqual) x = E_equal x := by kernel_rfl

def E_merge (x : List (Int × Int) × Unit) : Prop :=
 (decide ((400 : Int) < (↑x.1.length : Int)) = true → ([] : List (Int × Int)) = (merge x.1).1 ∧ (2 : Int) = (merge x.1).2) ∧
 (decide ((400 : Int) < (↑x.1.length : Int)) = false →
 ((((0 : Int) ≤ (0 : Int) ∧ (0 : Int) ≤ (↑x.1.length : Int) ∧ (List.take (Int.toNat (0 : Int)) x.1).all okP = true) ∧ True) ∧
 (x.1 = x.1 ∧ x.1 = x.1 ∧ (↑x.1.length : Int) = (↑x.1.length : Int) ∧ (0 : Int) = (0 : Int) ∧ True) ∧ True ∧ True) ∧
 ∀ (g : Int × Unit),
 (0 : Int) ≤ g.1 ∧ g.1 ≤ (↑x.1.length : Int) ∧ (List.take g.1.toNat x.1).all okP = true →
 ((-9223372036854775808 : Int) ≤ g.1 ∧ g.1 ≤ (9223372036854775807 : Int)) ∧ True →
 (decide (g.1 < (↑x.1.length : Int)) = true →
 ((0 : Int) ≤ g.1 ∧ g.1 < (↑x.1.length : Int)) ∧
 ((!decide ((x.1.getD g.1.toNat ((0 : Int), (0 : Int))).1 < (0 : Int))) = true →
 (!decide ((x.1.getD g.1.toNat ((0 : Int), (0 : Int))).1 < (0 : Int))) = true) ∧
 ((!decide ((x.1.getD g.1.toNat ((0 : Int), (0 : Int))).1 < (0 : Int))) = true →
 (!decide ((x.1.getD g.1.toNat ((0 : Int), (0 : Int))).1 < (0 : Int))) = true) ∧
 ((!decide ((x.1.getD g.1.toNat ((0 : Int), (0 : Int))).1 < (0 : Int))) = true →
 (!decide ((x.1.getD g.1.toNat ((0 : Int), (0 : Int))).1 < (0 : Int))) = true ∧
 (!decide ((x.1.getD g.1.toNat ((0 : Int), (0 : Int))).1 < (0 : Int))) = true) ∧
 (decide ((x.1.getD g.1.toNat ((0 : Int), (0 : Int))).1 < (0 : Int)) = false →
 (!decide ((x.1.getD g.1.toNat ((0 : Int), (0 : Int))).1 < (0 : Int))) = true) ∧
 ((!(decide ((x.1.getD g.1.toNat ((0 : Int), (0 : Int))).1 < (0 : Int)) ||
 decide
 ((x.1.getD g.1.toNat ((0 : Int), (0 : Int))).2 ≤ (x.1.getD g.1.toNat ((0 : Int), (0 : Int))).1))) =
 true →
 (!(decide ((x.1.getD g.1.toNat ((0 : Int), (0 : Int))).1 < (0 : Int)) ||
 decide
 ((x.1.getD g.1.toNat ((0 : Int), (0 : Int))).2 ≤ (x.1.getD g.1.toNat ((0 : Int), (0 : Int))).1))) =
 true) ∧
 ((!(decide ((x.1.getD g.1.toNat ((0 : Int), (0 : Int))).1 < (0 : Int)) ||
 decide
 ((x.1.getD g.1.toNat ((0 : Int), (0 : Int))).2 ≤
 (x.1.getD g.1.toNat ((0 : Int), (0 : Int))).1))) =
 true →
 (!(decide ((x.1.getD g.1.toNat ((0 : Int), (0 : Int))).1 < (0 : Int)) ||
 decide
 ((x.1.getD g.1.toNat ((0 : Int), (0 : Int))).2 ≤
 (x.1.getD g.1.toNat ((0 : Int), (0 : Int))).1))) =
 true) ∧
 ((decide ((x.1.getD g.1.toNat ((0 : Int), (0 : Int))).1 < (0 : Int)) ||
 decide
 ((x.1.getD g.1.toNat ((0 : Int), (0 : Int))).2 ≤ (x.1.getD g.1.toNat ((0 : Int), (0 : Int))).1)) =
 false →
 (!(decide ((x.1.getD g.1.toNat ((0 : Int), (0 : Int))).1 < (0 : Int)) ||
 decide
 ((x.1.getD g.1.toNat ((0 : Int), (0 : Int))).2 ≤
 (x.1.getD g.1.toNat ((0 : Int), (0 : Int))).1))) =
 true) ∧
 ((decide ((x.1.getD g.1.toNat ((0 : Int), (0 : Int))).1 < (0 : Int)) ||
 decide
 ((x.1.getD g.1.toNat ((0 : Int), (0 : Int))).2 ≤
 (x.1.getD g.1.toNat ((0 : Int), (0 : Int))).1) ||
 decide ((1099511627776 : Int) < (x.1.getD g.1.toNat ((0 : Int), (0 : Int))).2)) =
 true →
 ([] : List (Int × Int)) = (merge x.1).1 ∧ (2 : Int) = (merge x.1).2) ∧
 ((decide ((x.1.getD g.1.toNat ((0 : Int), (0 : Int))).1 < (0 : Int)) ||
 decide
 ((x.1.getD g.1.toNat ((0 : Int), (0 : Int))).2 ≤
 (x.1.getD g.1.toNat ((0 : Int), (0 : Int))).1) ||
 decide ((1099511627776 : Int) < (x.1.getD g.1.toNat ((0 : Int), (0 : Int))).2)) =
 false →
 ((-9223372036854775808 : Int) ≤ g.1 + (1 : Int) ∧ g.1 + (1 : Int) ≤ (9223372036854775807 : Int)) ∧
 (((0 : Int) ≤ g.1 + (1 : Int) ∧
 g.1 + (1 : Int) ≤ (↑x.1.length : Int) ∧ (List.take (g.1 + (1 : Int)).toNat x.1).all okP = true) ∧
 ((↑x.1.length : Int) - (g.1 + (1 : Int))).toNat < ((↑x.1.length : Int) - g.1).toNat) ∧
 (x.1 = x.1 ∧
 x.1 = x.1 ∧
 (↑x.1.length : Int) = (↑x.1.length : Int) ∧ g.1 + (1 : Int) = g.1 + (1 : Int) ∧ True) ∧
 True ∧ True)) ∧
 (decide (g.1 < (↑x.1.length : Int)) = false →
 Holds (x.1.length ≤ (400 : Nat) ∧ x.1.all okS = true) ∧
 ((((0 : Int) ≤ (0 : Int) ∧
 (0 : Int) ≤ (↑x.1.length : Int) ∧
 ([] : List (Int × Int)) = List.foldl mStep ([] : List Sp) (List.take (Int.toNat (0 : Int)) (sortS x.1))) ∧
 True) ∧
 (True ∧
 sortS x.1 = sortS x.1 ∧ (↑(sortS x.1).length : Int) = (↑(sortS x.1).length : Int) ∧ (0 : Int) = (0 : Int) ∧ True) ∧
 (([] : List (Int × Int)) = ([] : List (Int × Int)) ∧ True) ∧ True) ∧
 ∀ (g : List (Int × Int) × Int × Unit),
 (0 : Int) ≤ g.2.1 ∧
 g.2.1 ≤ (↑x.1.length : Int) ∧ g.1 = List.foldl mStep ([] : List Sp) (List.take g.2.1.toNat (sortS x.1)) →
 (g.1.length ≤ (9223372036854775807 : Nat) ∧
 ∀ (x : Int × Int),
 x ∈ g.1 →
 ((-9223372036854775808 : Int) ≤ x.1 ∧ x.1 ≤ (9223372036854775807 : Int)) ∧
 (-9223372036854775808 : Int) ≤ x.2 ∧ x.2 ≤ (9223372036854775807 : Int)) ∧
 ((-9223372036854775808 : Int) ≤ g.2.1 ∧ g.2.1 ≤ (9223372036854775807 : Int)) ∧ True →
 (decide (g.2.1 < (↑(sortS x.1).length : Int)) = true →
 ((0 : Int) ≤ g.2.1 ∧ g.2.1 < (↑(sortS x.1).length : Int)) ∧
 ((-9223372036854775808 : Int) ≤ (↑g.1.length : Int) - (1 : Int) ∧
 (↑g.1.length : Int) - (1 : Int) ≤ (9223372036854775807 : Int)) ∧
 (decide ((0 : Int) ≤ (↑g.1.length : Int) - (1 : Int)) = true →
 ((0 : Int) ≤ (↑g.1.length : Int) - (1 : Int) ∧ (↑g.1.length : Int) - (1 : Int) < (↑g.1.length : Int)) ∧
 (decide
 (((sortS x.1).getD g.2.1.toNat ((0 : Int), (0 : Int))).1 ≤
 (g.1.getD ((↑g.1.length : Int) - (1 : Int)).toNat ((0 : Int), (0 : Int))).2) =
 true →
 ((0 : Int) ≤ (↑g.1.length : Int) - (1 : Int) ∧
 (↑g.1.length : Int) - (1 : Int) < (↑g.1.length : Int)) ∧
 ((0 : Int) ≤ (↑g.1.length : Int) - (1 : Int) ∧
 (↑g.1.length : Int) - (1 : Int) < (↑g.1.length : Int)) ∧
 ((-9223372036854775808 : Int) ≤ g.2.1 + (1 : Int) ∧
 g.2.1 + (1 : Int) ≤ (9223372036854775807 : Int)) ∧
 (((0 : Int) ≤ g.2.1 + (1 : Int) ∧
 g.2.1 + (1 : Int) ≤ (↑x.1.length : Int) ∧
 g.1.set ((↑g.1.length : Int) - (1 : Int)).toNat
 ((g.1.getD ((↑g.1.length : Int) - (1 : Int)).toNat ((0 : Int), (0 : Int))).1,
 max (g.1.getD ((↑g.1.length : Int) - (1 : Int)).toNat ((0 : Int), (0 : Int))).2
 ((sortS x.1).getD g.2.1.toNat ((0 : Int), (0 : Int))).2) =
 List.foldl mStep ([] : List Sp) (List.take (g.2.1 + (1 : Int)).toNat (sortS x.1))) ∧
 ((↑x.1.length : Int) - (g.2.1 + (1 : Int))).toNat <
 ((↑x.1.length : Int) - g.2.1).toNat) ∧
 (True ∧
 sortS x.1 = sortS x.1 ∧
 (↑(sortS x.1).length : Int) = (↑(sortS x.1).length : Int) ∧
 g.2.1 + (1 : Int) = g.2.1 + (1 : Int) ∧ True) ∧
 (g.1.set ((↑g.1.length : Int) - (1 : Int)).toNat
 ((g.1.getD ((↑g.1.length : Int) - (1 : Int)).toNat ((0 : Int), (0 : Int))).1,
 max (g.1.getD ((↑g.1.length : Int) - (1 : Int)).toNat ((0 : Int), (0 : Int))).2
 ((sortS x.1).getD g.2.1.toNat ((0 : Int), (0 : Int))).2) =
 g.1.set ((↑g.1.length : Int) - (1 : Int)).toNat
 ((g.1.getD ((↑g.1.length : Int) - (1 : Int)).toNat ((0 : Int), (0 : Int))).1,
 max (g.1.getD ((↑g.1.length : Int) - (1 : Int)).toNat ((0 : Int), (0 : Int))).2
 ((sortS x.1).getD g.2.1.toNat ((0 : Int), (0 : Int))).2) ∧
 True) ∧
 True) ∧
 (decide
 (((sortS x.1).getD g.2.1.toNat ((0 : Int), (0 : Int))).1 ≤
 (g.1.getD ((↑g.1.length : Int) - (1 : Int)).toNat ((0 : Int), (0 : Int))).2) =
 false →
 (g.1.length +
 ((((0 : Int), (0 : Int)) :: ([] : List (Int × Int))).set (0 : Nat)
 (((sortS x.1).getD g.2.1.toNat ((0 : Int), (0 : Int))).1,
 ((sortS x.1).getD g.2.1.toNat ((0 : Int), (0 : Int))).2)).length ≤
 (9223372036854775807 : Nat) ∧
 (g.1.length +
 ((((0 : Int), (0 : Int)) :: ([] : List (Int × Int))).set (0 : Nat)
 (((sortS x.1).getD g.2.1.toNat ((0 : Int), (0 : Int))).1,
 ((sortS x.1).getD g.2.1.toNat ((0 : Int), (0 : Int))).2)).length +
 (g.1.length +
 ((((0 : Int), (0 : Int)) :: ([] : List (Int × Int))).set (0 : Nat)
 (((sortS x.1).getD g.2.1.toNat ((0 : Int), (0 : Int))).1,
 ((sortS x.1).getD g.2.1.toNat ((0 : Int), (0 : Int))).2)).length) /
 (4 : Nat) +
 (192 : Nat)) *
 (16 : Nat) ≤
 (281474976710656 : Nat)) ∧
 ((-9223372036854775808 : Int) ≤ g.2.1 + (1 : Int) ∧
 g.2.1 + (1 : Int) ≤ (9223372036854775807 : Int)) ∧
 (((0 : Int) ≤ g.2.1 + (1 : Int) ∧
 g.2.1 + (1 : Int) ≤ (↑x.1.length : Int) ∧
 g.1 ++
 (((0 : Int), (0 : Int)) :: ([] : List (Int × Int))).set (0 : Nat)
 (((sortS x.1).getD g.2.1.toNat ((0 : Int), (0 : Int))).1,
 ((sortS x.1).getD g.2.1.toNat ((0 : Int), (0 : Int))).2) =
 List.foldl mStep ([] : List Sp) (List.take (g.2.1 + (1 : Int)).toNat (sortS x.1))) ∧
 ((↑x.1.length : Int) - (g.2.1 + (1 : Int))).toNat <
 ((↑x.1.length : Int) - g.2.1).toNat) ∧
 (True ∧
 sortS x.1 = sortS x.1 ∧
 (↑(sortS x.1).length : Int) = (↑(sortS x.1).length : Int) ∧
 g.2.1 + (1 : Int) = g.2.1 + (1 : Int) ∧ True) ∧
 (g.1 ++
 (((0 : Int), (0 : Int)) :: ([] : List (Int × Int))).set (0 : Nat)
 (((sortS x.1).getD g.2.1.toNat ((0 : Int), (0 : Int))).1,
 ((sortS x.1).getD g.2.1.toNat ((0 : Int), (0 : Int))).2) =
 g.1 ++
 (((0 : Int), (0 : Int)) :: ([] : List (Int × Int))).set (0 : Nat)
 (((sortS x.1).getD g.2.1.toNat ((0 : Int), (0 : Int))).1,
 ((sortS x.1).getD g.2.1.toNat ((0 : Int), (0 : Int))).2) ∧
 True) ∧
 True)) ∧
 (decide ((0 : Int) ≤ (↑g.1.length : Int) - (1 : Int)) = !true →
 (g.1.length +
 ((((0 : Int), (0 : Int)) :: ([] : List (Int × Int))).set (0 : Nat)
 (((sortS x.1).getD g.2.1.toNat ((0 : Int), (0 : Int))).1,
 ((sortS x.1).getD g.2.1.toNat ((0 : Int), (0 : Int))).2)).length ≤
 (9223372036854775807 : Nat) ∧
 (g.1.length +
 ((((0 : Int), (0 : Int)) :: ([] : List (Int × Int))).set (0 : Nat)
 (((sortS x.1).getD g.2.1.toNat ((0 : Int), (0 : Int))).1,
 ((sortS x.1).getD g.2.1.toNat ((0 : Int), (0 : Int))).2)).length +
 (g.1.length +
 ((((0 : Int), (0 : Int)) :: ([] : List (Int × Int))).set (0 : Nat)
 (((sortS x.1).getD g.2.1.toNat ((0 : Int), (0 : Int))).1,
 ((sortS x.1).getD g.2.1.toNat ((0 : Int), (0 : Int))).2)).length) /
 (4 : Nat) +
 (192 : Nat)) *
 (16 : Nat) ≤
 (281474976710656 : Nat)) ∧
 ((-9223372036854775808 : Int) ≤ g.2.1 + (1 : Int) ∧ g.2.1 + (1 : Int) ≤ (9223372036854775807 : Int)) ∧
 (((0 : Int) ≤ g.2.1 + (1 : Int) ∧
 g.2.1 + (1 : Int) ≤ (↑x.1.length : Int) ∧
 g.1 ++
 (((0 : Int), (0 : Int)) :: ([] : List (Int × Int))).set (0 : Nat)
 (((sortS x.1).getD g.2.1.toNat ((0 : Int), (0 : Int))).1,
 ((sortS x.1).getD g.2.1.toNat ((0 : Int), (0 : Int))).2) =
 List.foldl mStep ([] : List Sp) (List.take (g.2.1 + (1 : Int)).toNat (sortS x.1))) ∧
 ((↑x.1.length : Int) - (g.2.1 + (1 : Int))).toNat < ((↑x.1.length : Int) - g.2.1).toNat) ∧
 (True ∧
 sortS x.1 = sortS x.1 ∧
 (↑(sortS x.1).length : Int) = (↑(sortS x.1).length : Int) ∧
 g.2.1 + (1 : Int) = g.2.1 + (1 : Int) ∧ True) ∧
 (g.1 ++
 (((0 : Int), (0 : Int)) :: ([] : List (Int × Int))).set (0 : Nat)
 (((sortS x.1).getD g.2.1.toNat ((0 : Int), (0 : Int))).1,
 ((sortS x.1).getD g.2.1.toNat ((0 : Int), (0 : Int))).2) =
 g.1 ++
 (((0 : Int), (0 : Int)) :: ([] : List (Int × Int))).set (0 : Nat)
 (((sortS x.1).getD g.2.1.toNat ((0 : Int), (0 : Int))).1,
 ((sortS x.1).getD g.2.1.toNat ((0 : Int), (0 : Int))).2) ∧
 True) ∧
 True)) ∧
 (decide (g.2.1 < (↑(sortS x.1).length : Int)) = false → g.1 = (merge x.1).1 ∧ (0 : Int) = (merge x.1).2)))

theorem E_merge_eq (x : HL (cMerge : Ctr).as) : vc (fx_merge x) 2 7 Try.f7 (cMerge) x = E_merge x := by kernel_rfl

def E_smerge (x : List (Int × Int) × Unit) : Prop :=
 (decide ((400 : Int) < (↑x.1.length : Int)) = true → ([] : List (Int × Int)) = (smerge x.1).1 ∧ (2 : Int) = (smerge x.1).2) ∧
 (decide ((400 : Int) < (↑x.1.length : Int)) = false →
 ((((0 : Int) ≤ (0 : Int) ∧
 (0 : Int) ≤ (↑x.1.length : Int) ∧
 (List.take (Int.toNat (0 : Int)) x.1).all okP = true ∧
 ([] : List (Int × Int)) = List.foldl insP ([] : List Sp) (List.take (Int.toNat (0 : Int)) x.1)) ∧
 True) ∧
 (True ∧ x.1 = x.1 ∧ (↑x.1.length : Int) = (↑x.1.length : Int) ∧ (0 : Int) = (0 : Int) ∧ True) ∧
 (([] : List (Int × Int)) = ([] : List (Int × Int)) ∧ True) ∧ True) ∧
 ∀ (g : List (Int × Int) × Int × Unit),
 (0 : Int) ≤ g.2.1 ∧
 g.2.1 ≤ (↑x.1.length : Int) ∧
 (List.take g.2.1.toNat x.1).all okP = true ∧ g.1 = List.foldl insP ([] : List Sp) (List.take g.2.1.toNat x.1) →
 (g.1.length ≤ (9223372036854775807 : Nat) ∧
 ∀ (x : Int × Int),
 x ∈ g.1 →
 ((-9223372036854775808 : Int) ≤ x.1 ∧ x.1 ≤ (9223372036854775807 : Int)) ∧
 (-9223372036854775808 : Int) ≤ x.2 ∧ x.2 ≤ (9223372036854775807 : Int)) ∧
 ((-9223372036854775808 : Int) ≤ g.2.1 ∧ g.2.1 ≤ (9223372036854775807 : Int)) ∧ True →
 (decide (g.2.1 < (↑x.1.length : Int)) = true →
 ((0 : Int) ≤ g.2.1 ∧ g.2.1 < (↑x.1.length : Int)) ∧
 ((!decide ((x.1.getD g.2.1.toNat ((0 : Int), (0 : Int))).1 < (0 : Int))) = true →
 (!decide ((x.1.getD g.2.1.toNat ((0 : Int), (0 : Int))).1 < (0 : Int))) = true) ∧
 ((!decide ((x.1.getD g.2.1.toNat ((0 : Int), (0 : Int))).1 < (0 : Int))) = true →
 (!decide ((x.1.getD g.2.1.toNat ((0 : Int), (0 : Int))).1 < (0 : Int))) = true) ∧
 (decide ((x.1.getD g.2.1.toNat ((0 : Int), (0 : Int))).1 < (0 : Int)) = false →
 (!decide ((x.1.getD g.2.1.toNat ((0 : Int), (0 : Int))).1 < (0 : Int))) = true) ∧
 ((!(decide ((x.1.getD g.2.1.toNat ((0 : Int), (0 : Int))).1 < (0 : Int)) ||
 decide ((1099511627776 : Int) < (x.1.getD g.2.1.toNat ((0 : Int), (0 : Int))).2))) =
 true →
 (!(decide ((x.1.getD g.2.1.toNat ((0 : Int), (0 : Int))).1 < (0 : Int)) ||
 decide ((1099511627776 : Int) < (x.1.getD g.2.1.toNat ((0 : Int), (0 : Int))).2))) =
 true) ∧
 ((!(decide ((x.1.getD g.2.1.toNat ((0 : Int), (0 : Int))).1 < (0 : Int)) ||
 decide ((1099511627776 : Int) < (x.1.getD g.2.1.toNat ((0 : Int), (0 : Int))).2))) =
 true →
 (!(decide ((x.1.getD g.2.1.toNat ((0 : Int), (0 : Int))).1 < (0 : Int)) ||
 decide ((1099511627776 : Int) < (x.1.getD g.2.1.toNat ((0 : Int), (0 : Int))).2))) =
 true) ∧
 ((!(decide ((x.1.getD g.2.1.toNat ((0 : Int), (0 : Int))).1 < (0 : Int)) ||
 decide ((1099511627776 : Int) < (x.1.getD g.2.1.toNat ((0 : Int), (0 : Int))).2))) =
 true →
 (!(decide ((x.1.getD g.2.1.toNat ((0 : Int), (0 : Int))).1 < (0 : Int)) ||
 decide ((1099511627776 : Int) < (x.1.getD g.2.1.toNat ((0 : Int), (0 : Int))).2))) =
 true ∧
 (!(decide ((x.1.getD g.2.1.toNat ((0 : Int), (0 : Int))).1 < (0 : Int)) ||
 decide ((1099511627776 : Int) < (x.1.getD g.2.1.toNat ((0 : Int), (0 : Int))).2))) =
 true) ∧
 ((decide ((x.1.getD g.2.1.toNat ((0 : Int), (0 : Int))).1 < (0 : Int)) ||
 decide ((1099511627776 : Int) < (x.1.getD g.2.1.toNat ((0 : Int), (0 : Int))).2)) =
 false →
 (!(decide ((x.1.getD g.2.1.toNat ((0 : Int), (0 : Int))).1 < (0 : Int)) ||
 decide ((1099511627776 : Int) < (x.1.getD g.2.1.toNat ((0 : Int), (0 : Int))).2))) =
 true) ∧
 ((decide ((x.1.getD g.2.1.toNat ((0 : Int), (0 : Int))).1 < (0 : Int)) ||
 decide ((1099511627776 : Int) < (x.1.getD g.2.1.toNat ((0 : Int), (0 : Int))).2) ||
 decide
 ((x.1.getD g.2.1.toNat ((0 : Int), (0 : Int))).2 ≤
 (x.1.getD g.2.1.toNat ((0 : Int), (0 : Int))).1)) =
 true →
 ([] : List (Int × Int)) = (smerge x.1).1 ∧ (2 : Int) = (smerge x.1).2) ∧
 ((decide ((x.1.getD g.2.1.toNat ((0 : Int), (0 : Int))).1 < (0 : Int)) ||
 decide ((1099511627776 : Int) < (x.1.getD g.2.1.toNat ((0 : Int), (0 : Int))).2) ||
 decide
 ((x.1.getD g.2.1.toNat ((0 : Int), (0 : Int))).2 ≤
 (x.1.getD g.2.1.toNat ((0 : Int), (0 : Int))).1)) =
 false →
 ((((0 : Int) ≤ (0 : Int) ∧
 (0 : Int) ≤ (↑g.1.length : Int) ∧
 List.foldl iStep
 (([] : List Sp), (x.1.getD g.2.1.toNat ((0 : Int), (0 : Int))).1,
 (x.1.getD g.2.1.toNat ((0 : Int), (0 : Int))).2)
 (List.take (Int.toNat (0 : Int)) g.1) =
 (([] : List (Int × Int)), (x.1.getD g.2.1.toNat ((0 : Int), (0 : Int))).1,
 (x.1.getD g.2.1.toNat ((0 : Int), (0 : Int))).2)) ∧
 True) ∧
 ((True ∧ True) ∧
 True ∧
 x.1 = x.1 ∧
 (↑x.1.length : Int) = (↑x.1.length : Int) ∧
 g.2.1 = g.2.1 ∧
 True ∧ (↑g.1.length : Int) = (↑g.1.length : Int) ∧ (0 : Int) = (0 : Int) ∧ True) ∧
 (((x.1.getD g.2.1.toNat ((0 : Int), (0 : Int))).1 =
 (x.1.getD g.2.1.toNat ((0 : Int), (0 : Int))).1 ∧
 (x.1.getD g.2.1.toNat ((0 : Int), (0 : Int))).2 =
 (x.1.getD g.2.1.toNat ((0 : Int), (0 : Int))).2 ∧
 True) ∧
 ([] : List (Int × Int)) = ([] : List (Int × Int)) ∧ g.1 = g.1 ∧ True) ∧
 True) ∧
 ∀ (g_1 : (Int × Int) × List (Int × Int) × Int × Unit),
 (0 : Int) ≤ g_1.2.2.1 ∧
 g_1.2.2.1 ≤ (↑g.1.length : Int) ∧
 List.foldl iStep
 (([] : List Sp), (x.1.getD g.2.1.toNat ((0 : Int), (0 : Int))).1,
 (x.1.getD g.2.1.toNat ((0 : Int), (0 : Int))).2)
 (List.take g_1.2.2.1.toNat g.1) =
 (g_1.2.1, g_1.1) →
 (((-9223372036854775808 : Int) ≤ g_1.1.1 ∧ g_1.1.1 ≤ (9223372036854775807 : Int)) ∧
 (-9223372036854775808 : Int) ≤ g_1.1.2 ∧ g_1.1.2 ≤ (9223372036854775807 : Int)) ∧
 (g_1.2.1.length ≤ (9223372036854775807 : Nat) ∧
 ∀ (x : Int × Int),
 x ∈ g_1.2.1 →
 ((-9223372036854775808 : Int) ≤ x.1 ∧ x.1 ≤ (9223372036854775807 : Int)) ∧
 (-9223372036854775808 : Int) ≤ x.2 ∧ x.2 ≤ (9223372036854775807 : Int)) ∧
 ((-9223372036854775808 : Int) ≤ g_1.2.2.1 ∧ g_1.2.2.1 ≤ (9223372036854775807 : Int)) ∧
 True →
 (decide (g_1.2.2.1 < (↑g.1.length : Int)) = true →
 ((0 : Int) ≤ g_1.2.2.1 ∧ g_1.2.2.1 < (↑g.1.length : Int)) ∧
 ((!decide ((g.1.getD g_1.2.2.1.toNat ((0 : Int), (0 : Int))).2 < g_1.1.1)) = true →
 (!decide ((g.1.getD g_1.2.2.1.toNat ((0 : Int), (0 : Int))).2 < g_1.1.1)) =
 true) ∧
 ((!decide ((g.1.getD g_1.2.2.1.toNat ((0 : Int), (0 : Int))).2 < g_1.1.1)) = true →
 (!decide ((g.1.getD g_1.2.2.1.toNat ((0 : Int), (0 : Int))).2 < g_1.1.1)) =
 true) ∧
 ((!decide ((g.1.getD g_1.2.2.1.toNat ((0 : Int), (0 : Int))).2 < g_1.1.1)) =
 true →
 (!decide ((g.1.getD g_1.2.2.1.toNat ((0 : Int), (0 : Int))).2 < g_1.1.1)) =
 true ∧
 (!decide ((g.1.getD g_1.2.2.1.toNat ((0 : Int), (0 : Int))).2 < g_1.1.1)) =
 true) ∧
 (decide ((g.1.getD g_1.2.2.1.toNat ((0 : Int), (0 : Int))).2 < g_1.1.1) =
 false →
 (!decide ((g.1.getD g_1.2.2.1.toNat ((0 : Int), (0 : Int))).2 < g_1.1.1)) =
 true) ∧
 ((decide ((g.1.getD g_1.2.2.1.toNat ((0 : Int), (0 : Int))).2 < g_1.1.1) ||
 decide
 (g_1.1.2 < (g.1.getD g_1.2.2.1.toNat ((0 : Int), (0 : Int))).1)) =
 true →
 (g_1.2.1.length +
 ((((0 : Int), (0 : Int)) :: ([] : List (Int × Int))).set (0 : Nat)
 ((g.1.getD g_1.2.2.1.toNat ((0 : Int), (0 : Int))).1,
 (g.1.getD g_1.2.2.1.toNat ((0 : Int), (0 : Int))).2)).length ≤
 (9223372036854775807 : Nat) ∧
 (g_1.2.1.length +
 ((((0 : Int), (0 : Int)) :: ([] : List (Int × Int))).set (0 : Nat)
 ((g.1.getD g_1.2.2.1.toNat ((0 : Int), (0 : Int))).1,
 (g.1.getD g_1.2.2.1.toNat
 ((0 : Int), (0 : Int))).2)).length +
 (g_1.2.1.length +
 ((((0 : Int), (0 : Int)) :: ([] : List (Int × Int))).set (0 : Nat)
 ((g.1.getD g_1.2.2.1.toNat ((0 : Int), (0 : Int))).1,
 (g.1.getD g_1.2.2.1.toNat
 ((0 : Int), (0 : Int))).2)).length) /
 (4 : Nat) +
 (192 : Nat)) *
 (16 : Nat) ≤
 (281474976710656 : Nat)) ∧
 ((-9223372036854775808 : Int) ≤ g_1.2.2.1 + (1 : Int) ∧
 g_1.2.2.1 + (1 : Int) ≤ (9223372036854775807 : Int)) ∧
 (((0 : Int) ≤ g_1.2.2.1 + (1 : Int) ∧
 g_1.2.2.1 + (1 : Int) ≤ (↑g.1.length : Int) ∧
 List.foldl iStep
 (([] : List Sp),
 (x.1.getD g.2.1.toNat ((0 : Int), (0 : Int))).1,
 (x.1.getD g.2.1.toNat ((0 : Int), (0 : Int))).2)
 (List.take (g_1.2.2.1 + (1 : Int)).toNat g.1) =
 (g_1.2.1 ++
 (((0 : Int), (0 : Int)) :: ([] : List (Int × Int))).set (0 : Nat)
 ((g.1.getD g_1.2.2.1.toNat ((0 : Int), (0 : Int))).1,
 (g.1.getD g_1.2.2.1.toNat ((0 : Int), (0 : Int))).2),
 g_1.1.1, g_1.1.2)) ∧
 ((↑g.1.length : Int) - (g_1.2.2.1 + (1 : Int))).toNat <
 ((↑g.1.length : Int) - g_1.2.2.1).toNat) ∧
 ((True ∧ True) ∧
 True ∧
 x.1 = x.1 ∧
 (↑x.1.length : Int) = (↑x.1.length : Int) ∧
 g.2.1 = g.2.1 ∧
 True ∧
 (↑g.1.length : Int) = (↑g.1.length : Int) ∧
 g_1.2.2.1 + (1 : Int) = g_1.2.2.1 + (1 : Int) ∧
 True) ∧
 ((g_1.1.1 = g_1.1.1 ∧ g_1.1.2 = g_1.1.2 ∧ True) ∧
 g_1.2.1 ++
 (((0 : Int), (0 : Int)) :: ([] : List (Int × Int))).set (0 : Nat)
 ((g.1.getD g_1.2.2.1.toNat ((0 : Int), (0 : Int))).1,
 (g.1.getD g_1.2.2.1.toNat ((0 : Int), (0 : Int))).2) =
 g_1.2.1 ++
 (((0 : Int), (0 : Int)) :: ([] : List (Int × Int))).set (0 : Nat)
 ((g.1.getD g_1.2.2.1.toNat ((0 : Int), (0 : Int))).1,
 (g.1.getD g_1.2.2.1.toNat ((0 : Int), (0 : Int))).2) ∧
 g.1 = g.1 ∧ True) ∧
 True) ∧
 ((decide ((g.1.getD g_1.2.2.1.toNat ((0 : Int), (0 : Int))).2 < g_1.1.1) ||
 decide
 (g_1.1.2 < (g.1.getD g_1.2.2.1.toNat ((0 : Int), (0 : Int))).1)) =
 false →
 ((-9223372036854775808 : Int) ≤ g_1.2.2.1 + (1 : Int) ∧
 g_1.2.2.1 + (1 : Int) ≤ (9223372036854775807 : Int)) ∧
 (((0 : Int) ≤ g_1.2.2.1 + (1 : Int) ∧
 g_1.2.2.1 + (1 : Int) ≤ (↑g.1.length : Int) ∧
 List.foldl iStep
 (([] : List Sp), (x.1.getD g.2.1.toNat ((0 : Int), (0 : Int))).1,
 (x.1.getD g.2.1.toNat ((0 : Int), (0 : Int))).2)
 (List.take (g_1.2.2.1 + (1 : Int)).toNat g.1) =
 (g_1.2.1,
 min g_1.1.1
 (g.1.getD g_1.2.2.1.toNat ((0 : Int), (0 : Int))).1,
 max g_1.1.2
 (g.1.getD g_1.2.2.1.toNat ((0 : Int), (0 : Int))).2)) ∧
 ((↑g.1.length : Int) - (g_1.2.2.1 + (1 : Int))).toNat <
 ((↑g.1.length : Int) - g_1.2.2.1).toNat) ∧
 ((True ∧ True) ∧
 True ∧
 x.1 = x.1 ∧
 (↑x.1.length : Int) = (↑x.1.length : Int) ∧
 g.2.1 = g.2.1 ∧
 True ∧
 (↑g.1.length : Int) = (↑g.1.length : Int) ∧
 g_1.2.2.1 + (1 : Int) = g_1.2.2.1 + (1 : Int) ∧ True) ∧
 ((min g_1.1.1 (g.1.getD g_1.2.2.1.toNat ((0 : Int), (0 : Int))).1 =
 min g_1.1.1
 (g.1.getD g_1.2.2.1.toNat ((0 : Int), (0 : Int))).1 ∧
 max g_1.1.2
 (g.1.getD g_1.2.2.1.toNat ((0 : Int), (0 : Int))).2 =
 max g_1.1.2
 (g.1.getD g_1.2.2.1.toNat ((0 : Int), (0 : Int))).2 ∧
 True) ∧
 g_1.2.1 = g_1.2.1 ∧ g.1 = g.1 ∧ True) ∧
 True)) ∧
 (decide (g_1.2.2.1 < (↑g.1.length : Int)) = false →
 (g_1.2.1.length +
 ((((0 : Int), (0 : Int)) :: ([] : List (Int × Int))).set (0 : Nat)
 (g_1.1.1, g_1.1.2)).length ≤
 (9223372036854775807 : Nat) ∧
 (g_1.2.1.length +
 ((((0 : Int), (0 : Int)) :: ([] : List (Int × Int))).set (0 : Nat)
 (g_1.1.1, g_1.1.2)).length +
 (g_1.2.1.length +
 ((((0 : Int), (0 : Int)) :: ([] : List (Int × Int))).set (0 : Nat)
 (g_1.1.1, g_1.1.2)).length) /
 (4 : Nat) +
 (192 : Nat)) *
 (16 : Nat) ≤
 (281474976710656 : Nat)) ∧
 ((-9223372036854775808 : Int) ≤ g.2.1 + (1 : Int) ∧
 g.2.1 + (1 : Int) ≤ (9223372036854775807 : Int)) ∧
 (((0 : Int) ≤ g.2.1 + (1 : Int) ∧
 g.2.1 + (1 : Int) ≤ (↑x.1.length : Int) ∧
 (List.take (g.2.1 + (1 : Int)).toNat x.1).all okP = true ∧
 g_1.2.1 ++
 (((0 : Int), (0 : Int)) :: ([] : List (Int × Int))).set (0 : Nat)
 (g_1.1.1, g_1.1.2) =
 List.foldl insP ([] : List Sp) (List.take (g.2.1 + (1 : Int)).toNat x.1)) ∧
 ((↑x.1.length : Int) - (g.2.1 + (1 : Int))).toNat <
 ((↑x.1.length : Int) - g.2.1).toNat) ∧
 (True ∧
 x.1 = x.1 ∧
 (↑x.1.length : Int) = (↑x.1.length : Int) ∧
 g.2.1 + (1 : Int) = g.2.1 + (1 : Int) ∧ True) ∧
 (g_1.2.1 ++
 (((0 : Int), (0 : Int)) :: ([] : List (Int × Int))).set (0 : Nat)
 (g_1.1.1, g_1.1.2) =
 g_1.2.1 ++
 (((0 : Int), (0 : Int)) :: ([] : List (Int × Int))).set (0 : Nat)
 (g_1.1.1, g_1.1.2) ∧
 True) ∧
 True))) ∧
 (decide (g.2.1 < (↑x.1.length : Int)) = false →
 Holds (g.1.length ≤ (400 : Nat) ∧ g.1.all okS = true) ∧
 ((True ∧
 Value.func (Fn.func (33 : Nat)) ([] : List Value).toArray ([] : List Value).toArray =
 Value.func (Fn.func (33 : FuncId)) ([] : List Value).toArray ([] : List Value).toArray ∧
 True) ∧
 g.1 = g.1 ∧ True) ∧
 sortS g.1 = (smerge x.1).1 ∧ (0 : Int) = (smerge x.1).2))

theorem E_smerge_eq (x : HL (cSmerge : Ctr).as) : vc (fx_smerge x) 1 8 Try.f8 (cSmerge) x = E_smerge x := by kernel_rfl

def E_law (x : List (Int × Int) × Unit) : Prop :=
 Holds True ∧
 Holds True ∧
 (((merge x.1).2 == (smerge x.1).2) = true →
 (((merge x.1).2 == (smerge x.1).2) = true ∧ ((merge x.1).2 == (smerge x.1).2) = true) ∧ Holds True) ∧
 (((merge x.1).2 == (smerge x.1).2) = true → ((merge x.1).2 == (smerge x.1).2) = true) ∧
 ((merge x.1).2 == (smerge x.1).2 && decide ((merge x.1).1 = (smerge x.1).1)) = true

theorem E_law_eq (x : HL (cLaw : Ctr).as) : vc (fx_law x) 1 3 Try.f3 (cLaw) x = E_law x := by kernel_rfl

end Go.Proofs.Ytpnmfoojmodnlaa.Liftm
