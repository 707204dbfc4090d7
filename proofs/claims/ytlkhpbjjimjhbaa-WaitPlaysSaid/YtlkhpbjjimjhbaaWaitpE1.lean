/-
  The conditions that the executor comes to, written out (by a tool of ours), and that they are the conditions (by the kernel).
-/
import Derived.Test.YtlkhpbjjimjhbaaWaitpE0
namespace Go.Proofs.Ytlkhpbjjimjhbaa.Waitp
open Go.Sx
set_option maxRecDepth 100000

def E_play (x : List (Int × Int) × Unit) : Prop :=
 ((((0 : Int) ≤ (0 : Int) ∧
 (0 : Int) ≤ (↑x.1.length : Int) ∧
 (↑([] : List Int).length : Int) = (0 : Int) ∧
 ∃ l,
 pl (List.take (Int.toNat (0 : Int)) x.1) = ((l, (0 : Int), ([] : List Int)), ([] : List Int)) ∧
 MQ ([] : List Int) ([] : List (Int × Bool)) ([] : List (Int × Bool)) l ∧ good (l, (0 : Int), ([] : List Int)) (0 : Int)) ∧
 True) ∧
 ((True ∧ True) ∧ (True ∧ True) ∧ True ∧ x.1 = x.1 ∧ (↑x.1.length : Int) = (↑x.1.length : Int) ∧ (0 : Int) = (0 : Int) ∧ True) ∧
 (((True ∧ True) ∧ True) ∧
 ((0 : Int) = (0 : Int) ∧ True ∧ True ∧ True ∧ True ∧ True) ∧
 ([] : List Int) = ([] : List Int) ∧
 ([] : List (Int × Bool)) = ([] : List (Int × Bool)) ∧
 ([] : List (Int × Bool)) = ([] : List (Int × Bool)) ∧ ([] : List Int) = ([] : List Int) ∧ ([] : List Int) = ([] : List Int) ∧ True) ∧
 True) ∧
 ∀ (g : Unit × (Int × List Int × List (Int × Bool) × List (Int × Bool) × List Int) × List Int × Int × Unit),
 ((0 : Int) ≤ g.2.2.2.1 ∧
 g.2.2.2.1 ≤ (↑x.1.length : Int) ∧
 (↑g.2.2.1.length : Int) = g.2.2.2.1 ∧
 ∃ l,
 pl (List.take g.2.2.2.1.toNat x.1) = ((l, g.2.1.1, g.2.1.2.2.2.2), g.2.2.1) ∧
 MQ g.2.1.2.1 g.2.1.2.2.1 g.2.1.2.2.2.1 l ∧
 good (l, g.2.1.1, g.2.1.2.2.2.2) g.2.2.2.1) →
 True ∧
 (((-9223372036854775808 : Int) ≤ g.2.1.1 ∧ g.2.1.1 ≤ (9223372036854775807 : Int)) ∧
 (g.2.1.2.1.length ≤ (9223372036854775807 : Nat) ∧
 ∀ (x : Int), x ∈ g.2.1.2.1 → (-9223372036854775808 : Int) ≤ x ∧ x ≤ (9223372036854775807 : Int)) ∧
 (∀ (e : Int × Bool),
 e ∈ g.2.1.2.2.1 → ((-9223372036854775808 : Int) ≤ e.1 ∧ e.1 ≤ (9223372036854775807 : Int)) ∧ True) ∧
 (∀ (e : Int × Bool),
 e ∈ g.2.1.2.2.2.1 → ((-9223372036854775808 : Int) ≤ e.1 ∧ e.1 ≤ (9223372036854775807 : Int)) ∧ True) ∧
 g.2.1.2.2.2.2.length ≤ (9223372036854775807 : Nat) ∧
 ∀ (x : Int), x ∈ g.2.1.2.2.2.2 → (-9223372036854775808 : Int) ≤ x ∧ x ≤ (9223372036854775807 : Int)) ∧
 (g.2.2.1.length ≤ (9223372036854775807 : Nat) ∧
 ∀ (x : Int), x ∈ g.2.2.1 → (-9223372036854775808 : Int) ≤ x ∧ x ≤ (9223372036854775807 : Int)) ∧
 ((-9223372036854775808 : Int) ≤ g.2.2.2.1 ∧ g.2.2.2.1 ≤ (9223372036854775807 : Int)) ∧ True →
 (decide (g.2.2.2.1 < (↑x.1.length : Int)) = true →
 ((0 : Int) ≤ g.2.2.2.1 ∧ g.2.2.2.1 < (↑x.1.length : Int)) ∧
 ((!decide ((x.1.getD g.2.2.2.1.toNat ((0 : Int), (0 : Int))).1 < (1 : Int))) = true →
 (!decide ((x.1.getD g.2.2.2.1.toNat ((0 : Int), (0 : Int))).1 < (1 : Int))) = true) ∧
 ((!decide ((x.1.getD g.2.2.2.1.toNat ((0 : Int), (0 : Int))).1 < (1 : Int))) = true →
 (!decide ((x.1.getD g.2.2.2.1.toNat ((0 : Int), (0 : Int))).1 < (1 : Int))) = true) ∧
 (decide ((x.1.getD g.2.2.2.1.toNat ((0 : Int), (0 : Int))).1 < (1 : Int)) = false →
 (!decide ((x.1.getD g.2.2.2.1.toNat ((0 : Int), (0 : Int))).1 < (1 : Int))) = true) ∧
 ((decide ((x.1.getD g.2.2.2.1.toNat ((0 : Int), (0 : Int))).1 < (1 : Int)) ||
 decide ((5 : Int) < (x.1.getD g.2.2.2.1.toNat ((0 : Int), (0 : Int))).1)) =
 true →
 (g.2.2.1.length + (((0 : Int) :: ([] : List Int)).set (0 : Nat) (5 : Int)).length ≤ (9223372036854775807 : Nat) ∧
 (g.2.2.1.length + (((0 : Int) :: ([] : List Int)).set (0 : Nat) (5 : Int)).length +
 (g.2.2.1.length + (((0 : Int) :: ([] : List Int)).set (0 : Nat) (5 : Int)).length) / (4 : Nat) +
 (192 : Nat)) *
 (8 : Nat) ≤
 (281474976710656 : Nat)) ∧
 ((-9223372036854775808 : Int) ≤ g.2.2.2.1 + (1 : Int) ∧
 g.2.2.2.1 + (1 : Int) ≤ (9223372036854775807 : Int)) ∧
 (((0 : Int) ≤ g.2.2.2.1 + (1 : Int) ∧
 g.2.2.2.1 + (1 : Int) ≤ (↑x.1.length : Int) ∧
 (↑(g.2.2.1 ++ ((0 : Int) :: ([] : List Int)).set (0 : Nat) (5 : Int)).length : Int) =
 g.2.2.2.1 + (1 : Int) ∧
 ∃ l,
 pl (List.take (g.2.2.2.1 + (1 : Int)).toNat x.1) =
 ((l, g.2.1.1, g.2.1.2.2.2.2),
 g.2.2.1 ++ ((0 : Int) :: ([] : List Int)).set (0 : Nat) (5 : Int)) ∧
 MQ g.2.1.2.1 g.2.1.2.2.1 g.2.1.2.2.2.1 l ∧
 good (l, g.2.1.1, g.2.1.2.2.2.2) (g.2.2.2.1 + (1 : Int))) ∧
 ((↑x.1.length : Int) - (g.2.2.2.1 + (1 : Int))).toNat < ((↑x.1.length : Int) - g.2.2.2.1).toNat) ∧
 ((True ∧ True) ∧
 (True ∧ True) ∧
 True ∧
 x.1 = x.1 ∧
 (↑x.1.length : Int) = (↑x.1.length : Int) ∧
 g.2.2.2.1 + (1 : Int) = g.2.2.2.1 + (1 : Int) ∧ True) ∧
 (((True ∧ True) ∧ True) ∧
 (g.2.1.1 = g.2.1.1 ∧ True ∧ True ∧ True ∧ True ∧ True) ∧
 g.2.1.2.1 = g.2.1.2.1 ∧
 g.2.1.2.2.1 = g.2.1.2.2.1 ∧
 g.2.1.2.2.2.1 = g.2.1.2.2.2.1 ∧
 g.2.1.2.2.2.2 = g.2.1.2.2.2.2 ∧
 g.2.2.1 ++ ((0 : Int) :: ([] : List Int)).set (0 : Nat) (5 : Int) =
 g.2.2.1 ++ ((0 : Int) :: ([] : List Int)).set (0 : Nat) (5 : Int) ∧
 True) ∧
 True) ∧
 ((decide ((x.1.getD g.2.2.2.1.toNat ((0 : Int), (0 : Int))).1 < (1 : Int)) ||
 decide ((5 : Int) < (x.1.getD g.2.2.2.1.toNat ((0 : Int), (0 : Int))).1)) =
 false →
 ((!decide ((x.1.getD g.2.2.2.1.toNat ((0 : Int), (0 : Int))).2 < (0 : Int))) = true →
 (!decide ((x.1.getD g.2.2.2.1.toNat ((0 : Int), (0 : Int))).2 < (0 : Int))) = true) ∧
 ((!decide ((x.1.getD g.2.2.2.1.toNat ((0 : Int), (0 : Int))).2 < (0 : Int))) = true →
 (!decide ((x.1.getD g.2.2.2.1.toNat ((0 : Int), (0 : Int))).2 < (0 : Int))) = true) ∧
 (decide ((x.1.getD g.2.2.2.1.toNat ((0 : Int), (0 : Int))).2 < (0 : Int)) = false →
 (!decide ((x.1.getD g.2.2.2.1.toNat ((0 : Int), (0 : Int))).2 < (0 : Int))) = true) ∧
 ((decide ((x.1.getD g.2.2.2.1.toNat ((0 : Int), (0 : Int))).2 < (0 : Int)) ||
 decide ((63 : Int) < (x.1.getD g.2.2.2.1.toNat ((0 : Int), (0 : Int))).2)) =
 true →
 (g.2.2.1.length + (((0 : Int) :: ([] : List Int)).set (0 : Nat) (2 : Int)).length ≤
 (9223372036854775807 : Nat) ∧
 (g.2.2.1.length + (((0 : Int) :: ([] : List Int)).set (0 : Nat) (2 : Int)).length +
 (g.2.2.1.length + (((0 : Int) :: ([] : List Int)).set (0 : Nat) (2 : Int)).length) / (4 : Nat) +
 (192 : Nat)) *
 (8 : Nat) ≤
 (281474976710656 : Nat)) ∧
 ((-9223372036854775808 : Int) ≤ g.2.2.2.1 + (1 : Int) ∧
 g.2.2.2.1 + (1 : Int) ≤ (9223372036854775807 : Int)) ∧
 (((0 : Int) ≤ g.2.2.2.1 + (1 : Int) ∧
 g.2.2.2.1 + (1 : Int) ≤ (↑x.1.length : Int) ∧
 (↑(g.2.2.1 ++ ((0 : Int) :: ([] : List Int)).set (0 : Nat) (2 : Int)).length : Int) =
 g.2.2.2.1 + (1 : Int) ∧
 ∃ l,
 pl (List.take (g.2.2.2.1 + (1 : Int)).toNat x.1) =
 ((l, g.2.1.1, g.2.1.2.2.2.2),
 g.2.2.1 ++ ((0 : Int) :: ([] : List Int)).set (0 : Nat) (2 : Int)) ∧
 MQ g.2.1.2.1 g.2.1.2.2.1 g.2.1.2.2.2.1 l ∧
 good (l, g.2.1.1, g.2.1.2.2.2.2) (g.2.2.2.1 + (1 : Int))) ∧
 ((↑x.1.length : Int) - (g.2.2.2.1 + (1 : Int))).toNat <
 ((↑x.1.length : Int) - g.2.2.2.1).toNat) ∧
 ((True ∧ True) ∧
 (True ∧ True) ∧
 True ∧
 x.1 = x.1 ∧
 (↑x.1.length : Int) = (↑x.1.length : Int) ∧
 g.2.2.2.1 + (1 : Int) = g.2.2.2.1 + (1 : Int) ∧ True) ∧
 (((True ∧ True) ∧ True) ∧
 (g.2.1.1 = g.2.1.1 ∧ True ∧ True ∧ True ∧ True ∧ True) ∧
 g.2.1.2.1 = g.2.1.2.1 ∧
 g.2.1.2.2.1 = g.2.1.2.2.1 ∧
 g.2.1.2.2.2.1 = g.2.1.2.2.2.1 ∧
 g.2.1.2.2.2.2 = g.2.1.2.2.2.2 ∧
 g.2.2.1 ++ ((0 : Int) :: ([] : List Int)).set (0 : Nat) (2 : Int) =
 g.2.2.1 ++ ((0 : Int) :: ([] : List Int)).set (0 : Nat) (2 : Int) ∧
 True) ∧
 True) ∧
 ((decide ((x.1.getD g.2.2.2.1.toNat ((0 : Int), (0 : Int))).2 < (0 : Int)) ||
 decide ((63 : Int) < (x.1.getD g.2.2.2.1.toNat ((0 : Int), (0 : Int))).2)) =
 false →
 Holds True ∧
 (((x.1.getD g.2.2.2.1.toNat ((0 : Int), (0 : Int))).1 == (1 : Int)) = true →
 (mval Ty.bool g.2.1.2.2.2.1 (x.1.getD g.2.2.2.1.toNat ((0 : Int), (0 : Int))).2 =
 true →
 (g.2.2.1.length + (((0 : Int) :: ([] : List Int)).set (0 : Nat) (7 : Int)).length ≤
 (9223372036854775807 : Nat) ∧
 (g.2.2.1.length + (((0 : Int) :: ([] : List Int)).set (0 : Nat) (7 : Int)).length +
 (g.2.2.1.length + (((0 : Int) :: ([] : List Int)).set (0 : Nat) (7 : Int)).length) /
 (4 : Nat) +
 (192 : Nat)) *
 (8 : Nat) ≤
 (281474976710656 : Nat)) ∧
 ((-9223372036854775808 : Int) ≤ g.2.2.2.1 + (1 : Int) ∧
 g.2.2.2.1 + (1 : Int) ≤ (9223372036854775807 : Int)) ∧
 (((0 : Int) ≤ g.2.2.2.1 + (1 : Int) ∧
 g.2.2.2.1 + (1 : Int) ≤ (↑x.1.length : Int) ∧
 (↑(g.2.2.1 ++ ((0 : Int) :: ([] : List Int)).set (0 : Nat) (7 : Int)).length : Int) =
 g.2.2.2.1 + (1 : Int) ∧
 ∃ l,
 pl (List.take (g.2.2.2.1 + (1 : Int)).toNat x.1) =
 ((l, g.2.1.1, g.2.1.2.2.2.2),
 g.2.2.1 ++ ((0 : Int) :: ([] : List Int)).set (0 : Nat) (7 : Int)) ∧
 MQ g.2.1.2.1 g.2.1.2.2.1 g.2.1.2.2.2.1 l ∧
 good (l, g.2.1.1, g.2.1.2.2.2.2) (g.2.2.2.1 + (1 : Int))) ∧
 ((↑x.1.length : Int) - (g.2.2.2.1 + (1 : Int))).toNat <
 ((↑x.1.length : Int) - g.2.2.2.1).toNat) ∧
 ((True ∧ True) ∧
 (True ∧ True) ∧
 True ∧
 x.1 = x.1 ∧
 (↑x.1.length : Int) = (↑x.1.length : Int) ∧
 g.2.2.2.1 + (1 : Int) = g.2.2.2.1 + (1 : Int) ∧ True) ∧
 (((True ∧ True) ∧ True) ∧
 (g.2.1.1 = g.2.1.1 ∧ True ∧ True ∧ True ∧ True ∧ True) ∧
 g.2.1.2.1 = g.2.1.2.1 ∧
 g.2.1.2.2.1 = g.2.1.2.2.1 ∧
 g.2.1.2.2.2.1 = g.2.1.2.2.2.1 ∧
 g.2.1.2.2.2.2 = g.2.1.2.2.2.2 ∧
 g.2.2.1 ++ ((0 : Int) :: ([] : List Int)).set (0 : Nat) (7 : Int) =
 g.2.2.1 ++ ((0 : Int) :: ([] : List Int)).set (0 : Nat) (7 : Int) ∧
 True) ∧
 True) ∧
 (mval Ty.bool g.2.1.2.2.2.1 (x.1.getD g.2.2.2.1.toNat ((0 : Int), (0 : Int))).2 =
 false →
 ((!decide
 ((0 : Int) ≤
 idx g.2.1.2.1 (x.1.getD g.2.2.2.1.toNat ((0 : Int), (0 : Int))).2)) =
 true →
 (g.2.1.2.1.length +
 (((0 : Int) :: ([] : List Int)).set (0 : Nat)
 (x.1.getD g.2.2.2.1.toNat ((0 : Int), (0 : Int))).2).length ≤
 (9223372036854775807 : Nat) ∧
 (g.2.1.2.1.length +
 (((0 : Int) :: ([] : List Int)).set (0 : Nat)
 (x.1.getD g.2.2.2.1.toNat ((0 : Int), (0 : Int))).2).length +
 (g.2.1.2.1.length +
 (((0 : Int) :: ([] : List Int)).set (0 : Nat)
 (x.1.getD g.2.2.2.1.toNat ((0 : Int), (0 : Int))).2).length) /
 (4 : Nat) +
 (192 : Nat)) *
 (8 : Nat) ≤
 (281474976710656 : Nat)) ∧
 (g.2.2.1.length + (((0 : Int) :: ([] : List Int)).set (0 : Nat) (0 : Int)).length ≤
 (9223372036854775807 : Nat) ∧
 (g.2.2.1.length + (((0 : Int) :: ([] : List Int)).set (0 : Nat) (0 : Int)).length +
 (g.2.2.1.length +
 (((0 : Int) :: ([] : List Int)).set (0 : Nat) (0 : Int)).length) /
 (4 : Nat) +
 (192 : Nat)) *
 (8 : Nat) ≤
 (281474976710656 : Nat)) ∧
 ((-9223372036854775808 : Int) ≤ g.2.2.2.1 + (1 : Int) ∧
 g.2.2.2.1 + (1 : Int) ≤ (9223372036854775807 : Int)) ∧
 (((0 : Int) ≤ g.2.2.2.1 + (1 : Int) ∧
 g.2.2.2.1 + (1 : Int) ≤ (↑x.1.length : Int) ∧
 (↑(g.2.2.1 ++ ((0 : Int) :: ([] : List Int)).set (0 : Nat) (0 : Int)).length :
 Int) =
 g.2.2.2.1 + (1 : Int) ∧
 ∃ l,
 pl (List.take (g.2.2.2.1 + (1 : Int)).toNat x.1) =
 ((l, g.2.1.1, g.2.1.2.2.2.2),
 g.2.2.1 ++ ((0 : Int) :: ([] : List Int)).set (0 : Nat) (0 : Int)) ∧
 MQ
 (g.2.1.2.1 ++
 ((0 : Int) :: ([] : List Int)).set (0 : Nat)
 (x.1.getD g.2.2.2.1.toNat ((0 : Int), (0 : Int))).2)
 (mdel Ty.bool g.2.1.2.2.1
 (x.1.getD g.2.2.2.1.toNat ((0 : Int), (0 : Int))).2)
 g.2.1.2.2.2.1 l ∧
 good (l, g.2.1.1, g.2.1.2.2.2.2)
 (g.2.2.2.1 + (1 : Int))) ∧
 ((↑x.1.length : Int) - (g.2.2.2.1 + (1 : Int))).toNat <
 ((↑x.1.length : Int) - g.2.2.2.1).toNat) ∧
 ((True ∧ True) ∧
 (True ∧ True) ∧
 True ∧
 x.1 = x.1 ∧
 (↑x.1.length : Int) = (↑x.1.length : Int) ∧
 g.2.2.2.1 + (1 : Int) = g.2.2.2.1 + (1 : Int) ∧ True) ∧
 (((True ∧ True) ∧ True) ∧
 (g.2.1.1 = g.2.1.1 ∧ True ∧ True ∧ True ∧ True ∧ True) ∧
 g.2.1.2.1 ++
 ((0 : Int) :: ([] : List Int)).set (0 : Nat)
 (x.1.getD g.2.2.2.1.toNat ((0 : Int), (0 : Int))).2 =
 g.2.1.2.1 ++
 ((0 : Int) :: ([] : List Int)).set (0 : Nat)
 (x.1.getD g.2.2.2.1.toNat ((0 : Int), (0 : Int))).2 ∧
 mdel Ty.bool g.2.1.2.2.1
 (x.1.getD g.2.2.2.1.toNat ((0 : Int), (0 : Int))).2 =
 mdel Ty.bool g.2.1.2.2.1
 (x.1.getD g.2.2.2.1.toNat ((0 : Int), (0 : Int))).2 ∧
 g.2.1.2.2.2.1 = g.2.1.2.2.2.1 ∧
 g.2.1.2.2.2.2 = g.2.1.2.2.2.2 ∧
 g.2.2.1 ++ ((0 : Int) :: ([] : List Int)).set (0 : Nat) (0 : Int) =
 g.2.2.1 ++ ((0 : Int) :: ([] : List Int)).set (0 : Nat) (0 : Int) ∧
 True) ∧
 True) ∧
 ((!decide
 ((0 : Int) ≤
 idx g.2.1.2.1 (x.1.getD g.2.2.2.1.toNat ((0 : Int), (0 : Int))).2)) =
 false →
 (g.2.2.1.length + (((0 : Int) :: ([] : List Int)).set (0 : Nat) (0 : Int)).length ≤
 (9223372036854775807 : Nat) ∧
 (g.2.2.1.length + (((0 : Int) :: ([] : List Int)).set (0 : Nat) (0 : Int)).length +
 (g.2.2.1.length + (((0 : Int) :: ([] : List Int)).set (0 : Nat) (0 : Int)).length) /
 (4 : Nat) +
 (192 : Nat)) *
 (8 : Nat) ≤
 (281474976710656 : Nat)) ∧
 ((-9223372036854775808 : Int) ≤ g.2.2.2.1 + (1 : Int) ∧
 g.2.2.2.1 + (1 : Int) ≤ (9223372036854775807 : Int)) ∧
 (((0 : Int) ≤ g.2.2.2.1 + (1 : Int) ∧
 g.2.2.2.1 + (1 : Int) ≤ (↑x.1.length : Int) ∧
 (↑(g.2.2.1 ++ ((0 : Int) :: ([] : List Int)).set (0 : Nat) (0 : Int)).length :
 Int) =
 g.2.2.2.1 + (1 : Int) ∧
 ∃ l,
 pl (List.take (g.2.2.2.1 + (1 : Int)).toNat x.1) =
 ((l, g.2.1.1, g.2.1.2.2.2.2),
 g.2.2.1 ++ ((0 : Int) :: ([] : List Int)).set (0 : Nat) (0 : Int)) ∧
 MQ g.2.1.2.1
 (mdel Ty.bool g.2.1.2.2.1
 (x.1.getD g.2.2.2.1.toNat ((0 : Int), (0 : Int))).2)
 g.2.1.2.2.2.1 l ∧
 good (l, g.2.1.1, g.2.1.2.2.2.2)
 (g.2.2.2.1 + (1 : Int))) ∧
 ((↑x.1.length : Int) - (g.2.2.2.1 + (1 : Int))).toNat <
 ((↑x.1.length : Int) - g.2.2.2.1).toNat) ∧
 ((True ∧ True) ∧
 (True ∧ True) ∧
 True ∧
 x.1 = x.1 ∧
 (↑x.1.length : Int) = (↑x.1.length : Int) ∧
 g.2.2.2.1 + (1 : Int) = g.2.2.2.1 + (1 : Int) ∧ True) ∧
 (((True ∧ True) ∧ True) ∧
 (g.2.1.1 = g.2.1.1 ∧ True ∧ True ∧ True ∧ True ∧ True) ∧
 g.2.1.2.1 = g.2.1.2.1 ∧
 mdel Ty.bool g.2.1.2.2.1
 (x.1.getD g.2.2.2.1.toNat ((0 : Int), (0 : Int))).2 =
 mdel Ty.bool g.2.1.2.2.1
 (x.1.getD g.2.2.2.1.toNat ((0 : Int), (0 : Int))).2 ∧
 g.2.1.2.2.2.1 = g.2.1.2.2.2.1 ∧
 g.2.1.2.2.2.2 = g.2.1.2.2.2.2 ∧
 g.2.2.1 ++ ((0 : Int) :: ([] : List Int)).set (0 : Nat) (0 : Int) =
 g.2.2.1 ++ ((0 : Int) :: ([] : List Int)).set (0 : Nat) (0 : Int) ∧
 True) ∧
 True))) ∧
 (((x.1.getD g.2.2.2.1.toNat ((0 : Int), (0 : Int))).1 == (1 : Int)) = false →
 (((x.1.getD g.2.2.2.1.toNat ((0 : Int), (0 : Int))).1 == (2 : Int)) = true →
 (mval Ty.bool g.2.1.2.2.2.1 (x.1.getD g.2.2.2.1.toNat ((0 : Int), (0 : Int))).2 =
 true →
 (g.2.2.1.length + (((0 : Int) :: ([] : List Int)).set (0 : Nat) (7 : Int)).length ≤
 (9223372036854775807 : Nat) ∧
 (g.2.2.1.length + (((0 : Int) :: ([] : List Int)).set (0 : Nat) (7 : Int)).length +
 (g.2.2.1.length + (((0 : Int) :: ([] : List Int)).set (0 : Nat) (7 : Int)).length) /
 (4 : Nat) +
 (192 : Nat)) *
 (8 : Nat) ≤
 (281474976710656 : Nat)) ∧
 ((-9223372036854775808 : Int) ≤ g.2.2.2.1 + (1 : Int) ∧
 g.2.2.2.1 + (1 : Int) ≤ (9223372036854775807 : Int)) ∧
 (((0 : Int) ≤ g.2.2.2.1 + (1 : Int) ∧
 g.2.2.2.1 + (1 : Int) ≤ (↑x.1.length : Int) ∧
 (↑(g.2.2.1 ++ ((0 : Int) :: ([] : List Int)).set (0 : Nat) (7 : Int)).length :
 Int) =
 g.2.2.2.1 + (1 : Int) ∧
 ∃ l,
 pl (List.take (g.2.2.2.1 + (1 : Int)).toNat x.1) =
 ((l, g.2.1.1, g.2.1.2.2.2.2),
 g.2.2.1 ++ ((0 : Int) :: ([] : List Int)).set (0 : Nat) (7 : Int)) ∧
 MQ g.2.1.2.1 g.2.1.2.2.1 g.2.1.2.2.2.1 l ∧
 good (l, g.2.1.1, g.2.1.2.2.2.2)
 (g.2.2.2.1 + (1 : Int))) ∧
 ((↑x.1.length : Int) - (g.2.2.2.1 + (1 : Int))).toNat <
 ((↑x.1.length : Int) - g.2.2.2.1).toNat) ∧
 ((True ∧ True) ∧
 (True ∧ True) ∧
 True ∧
 x.1 = x.1 ∧
 (↑x.1.length : Int) = (↑x.1.length : Int) ∧
 g.2.2.2.1 + (1 : Int) = g.2.2.2.1 + (1 : Int) ∧ True) ∧
 (((True ∧ True) ∧ True) ∧
 (g.2.1.1 = g.2.1.1 ∧ True ∧ True ∧ True ∧ True ∧ True) ∧
 g.2.1.2.1 = g.2.1.2.1 ∧
 g.2.1.2.2.1 = g.2.1.2.2.1 ∧
 g.2.1.2.2.2.1 = g.2.1.2.2.2.1 ∧
 g.2.1.2.2.2.2 = g.2.1.2.2.2.2 ∧
 g.2.2.1 ++ ((0 : Int) :: ([] : List Int)).set (0 : Nat) (7 : Int) =
 g.2.2.1 ++ ((0 : Int) :: ([] : List Int)).set (0 : Nat) (7 : Int) ∧
 True) ∧
 True) ∧
 (mval Ty.bool g.2.1.2.2.2.1
 (x.1.getD g.2.2.2.1.toNat ((0 : Int), (0 : Int))).2 =
 false →
 ((!decide
 ((0 : Int) ≤
 idx g.2.1.2.1 (x.1.getD g.2.2.2.1.toNat ((0 : Int), (0 : Int))).2)) =
 true →
 (g.2.2.1.length + (((0 : Int) :: ([] : List Int)).set (0 : Nat) (3 : Int)).length ≤
 (9223372036854775807 : Nat) ∧
 (g.2.2.1.length + (((0 : Int) :: ([] : List Int)).set (0 : Nat) (3 : Int)).length +
 (g.2.2.1.length +
 (((0 : Int) :: ([] : List Int)).set (0 : Nat) (3 : Int)).length) /
 (4 : Nat) +
 (192 : Nat)) *
 (8 : Nat) ≤
 (281474976710656 : Nat)) ∧
 ((-9223372036854775808 : Int) ≤ g.2.2.2.1 + (1 : Int) ∧
 g.2.2.2.1 + (1 : Int) ≤ (9223372036854775807 : Int)) ∧
 (((0 : Int) ≤ g.2.2.2.1 + (1 : Int) ∧
 g.2.2.2.1 + (1 : Int) ≤ (↑x.1.length : Int) ∧
 (↑(g.2.2.1 ++ ((0 : Int) :: ([] : List Int)).set (0 : Nat) (3 : Int)).length :
 Int) =
 g.2.2.2.1 + (1 : Int) ∧
 ∃ l,
 pl (List.take (g.2.2.2.1 + (1 : Int)).toNat x.1) =
 ((l, g.2.1.1, g.2.1.2.2.2.2),
 g.2.2.1 ++ ((0 : Int) :: ([] : List Int)).set (0 : Nat) (3 : Int)) ∧
 MQ g.2.1.2.1 g.2.1.2.2.1 g.2.1.2.2.2.1 l ∧
 good (l, g.2.1.1, g.2.1.2.2.2.2)
 (g.2.2.2.1 + (1 : Int))) ∧
 ((↑x.1.length : Int) - (g.2.2.2.1 + (1 : Int))).toNat <
 ((↑x.1.length : Int) - g.2.2.2.1).toNat) ∧
 ((True ∧ True) ∧
 (True ∧ True) ∧
 True ∧
 x.1 = x.1 ∧
 (↑x.1.length : Int) = (↑x.1.length : Int) ∧
 g.2.2.2.1 + (1 : Int) = g.2.2.2.1 + (1 : Int) ∧ True) ∧
 (((True ∧ True) ∧ True) ∧
 (g.2.1.1 = g.2.1.1 ∧ True ∧ True ∧ True ∧ True ∧ True) ∧
 g.2.1.2.1 = g.2.1.2.1 ∧
 g.2.1.2.2.1 = g.2.1.2.2.1 ∧
 g.2.1.2.2.2.1 = g.2.1.2.2.2.1 ∧
 g.2.1.2.2.2.2 = g.2.1.2.2.2.2 ∧
 g.2.2.1 ++ ((0 : Int) :: ([] : List Int)).set (0 : Nat) (3 : Int) =
 g.2.2.1 ++
 ((0 : Int) :: ([] : List Int)).set (0 : Nat) (3 : Int) ∧
 True) ∧
 True) ∧
 ((!decide
 ((0 : Int) ≤
 idx g.2.1.2.1 (x.1.getD g.2.2.2.1.toNat ((0 : Int), (0 : Int))).2)) =
 false →
 ((g.2.1.1 == (0 : Int)) = true →
 (g.2.2.1.length + (((0 : Int) :: ([] : List Int)).set (0 : Nat) (6 : Int)).length ≤
 (9223372036854775807 : Nat) ∧
 (g.2.2.1.length + (((0 : Int) :: ([] : List Int)).set (0 : Nat) (6 : Int)).length +
 (g.2.2.1.length +
 (((0 : Int) :: ([] : List Int)).set (0 : Nat) (6 : Int)).length) /
 (4 : Nat) +
 (192 : Nat)) *
 (8 : Nat) ≤
 (281474976710656 : Nat)) ∧
 ((-9223372036854775808 : Int) ≤ g.2.2.2.1 + (1 : Int) ∧
 g.2.2.2.1 + (1 : Int) ≤ (9223372036854775807 : Int)) ∧
 (((0 : Int) ≤ g.2.2.2.1 + (1 : Int) ∧
 g.2.2.2.1 + (1 : Int) ≤ (↑x.1.length : Int) ∧
 (↑(g.2.2.1 ++
 ((0 : Int) :: ([] : List Int)).set (0 : Nat) (6 : Int)).length :
 Int) =
 g.2.2.2.1 + (1 : Int) ∧
 ∃ l,
 pl (List.take (g.2.2.2.1 + (1 : Int)).toNat x.1) =
 ((l, g.2.1.1, g.2.1.2.2.2.2),
 g.2.2.1 ++
 ((0 : Int) :: ([] : List Int)).set (0 : Nat) (6 : Int)) ∧
 MQ g.2.1.2.1 g.2.1.2.2.1 g.2.1.2.2.2.1 l ∧
 good (l, g.2.1.1, g.2.1.2.2.2.2)
 (g.2.2.2.1 + (1 : Int))) ∧
 ((↑x.1.length : Int) - (g.2.2.2.1 + (1 : Int))).toNat <
 ((↑x.1.length : Int) - g.2.2.2.1).toNat) ∧
 ((True ∧ True) ∧
 (True ∧ True) ∧
 True ∧
 x.1 = x.1 ∧
 (↑x.1.length : Int) = (↑x.1.length : Int) ∧
 g.2.2.2.1 + (1 : Int) = g.2.2.2.1 + (1 : Int) ∧ True) ∧
 (((True ∧ True) ∧ True) ∧
 (g.2.1.1 = g.2.1.1 ∧ True ∧ True ∧ True ∧ True ∧ True) ∧
 g.2.1.2.1 = g.2.1.2.1 ∧
 g.2.1.2.2.1 = g.2.1.2.2.1 ∧
 g.2.1.2.2.2.1 = g.2.1.2.2.2.1 ∧
 g.2.1.2.2.2.2 = g.2.1.2.2.2.2 ∧
 g.2.2.1 ++
 ((0 : Int) :: ([] : List Int)).set (0 : Nat) (6 : Int) =
 g.2.2.1 ++
 ((0 : Int) :: ([] : List Int)).set (0 : Nat) (6 : Int) ∧
 True) ∧
 True) ∧
 ((g.2.1.1 == (0 : Int)) = false →
 ((-9223372036854775808 : Int) ≤ g.2.1.1 - (1 : Int) ∧
 g.2.1.1 - (1 : Int) ≤ (9223372036854775807 : Int)) ∧
 Holds (g.2.1.2.1.length * (8 : Nat) ≤ (140737488355328 : Nat)) ∧
 ((((0 : Int) ≤ (0 : Int) ∧
 (0 : Int) ≤ (↑g.2.1.2.1.length : Int) ∧
 ((List.take (Int.toNat (0 : Int)) g.2.1.2.1).any fun y ↦
 capF (some (x.1.getD g.2.2.2.1.toNat ((0 : Int), (0 : Int))).2)
 ([] : List (Int × Bool)) y) =
 false) ∧
 True) ∧
 (True ∧
 True ∧
 (↑g.2.1.2.1.length : Int) = (↑g.2.1.2.1.length : Int) ∧
 (0 : Int) = (0 : Int) ∧ True) ∧
 (g.2.1.2.1 = g.2.1.2.1 ∧
 (True ∧ (True ∧ True) ∧ True) ∧
 ((x.1.getD g.2.2.2.1.toNat ((0 : Int), (0 : Int))).2 =
 (x.1.getD g.2.2.2.1.toNat ((0 : Int), (0 : Int))).2 ∧
 True) ∧
 (g.2.1.1 - (1 : Int) = g.2.1.1 - (1 : Int) ∧
 True ∧ True ∧ True ∧ True ∧ True) ∧
 g.2.1.2.1 = g.2.1.2.1 ∧
 g.2.1.2.2.1 = g.2.1.2.2.1 ∧
 g.2.1.2.2.2.1 = g.2.1.2.2.2.1 ∧
 g.2.1.2.2.2.2 = g.2.1.2.2.2.2 ∧
 ((x.1.getD g.2.2.2.1.toNat ((0 : Int), (0 : Int))).1 =
 (x.1.getD g.2.2.2.1.toNat
 ((0 : Int), (0 : Int))).1 ∧
 (x.1.getD g.2.2.2.1.toNat
 ((0 : Int), (0 : Int))).2 =
 (x.1.getD g.2.2.2.1.toNat
 ((0 : Int), (0 : Int))).2 ∧
 True) ∧
 ((True ∧ True) ∧ True) ∧
 g.2.2.1 = g.2.2.1 ∧
 ((x.1.getD g.2.2.2.1.toNat
 ((0 : Int), (0 : Int))).1 =
 (x.1.getD g.2.2.2.1.toNat
 ((0 : Int), (0 : Int))).1 ∧
 (x.1.getD g.2.2.2.1.toNat
 ((0 : Int), (0 : Int))).2 =
 (x.1.getD g.2.2.2.1.toNat
 ((0 : Int), (0 : Int))).2 ∧
 True) ∧
 True) ∧
 True ∧
 True ∧
 True ∧
 True ∧
 Value.slice none (0 : Nat) (0 : Nat) =
 Value.slice none (0 : Nat) (0 : Nat) ∧
 True ∧
 True ∧
 True ∧
 True ∧
 True ∧
 True ∧
 True ∧
 True ∧
 True ∧
 True ∧
 True ∧
 True ∧
 True ∧
 True ∧
 True ∧
 True ∧
 True ∧
 True ∧
 True ∧
 True ∧
 True ∧
 True ∧
 True ∧
 True ∧
 True ∧
 True ∧
 True ∧
 True ∧
 True ∧
 True ∧
 True ∧
 True ∧
 True ∧
 True ∧
 True ∧
 True ∧
 True ∧
 (True ∧
 True) ∧
 (x.1.getD
 g.2.2.2.1.toNat
 ((0 :
 Int),
 (0 :
 Int))).2 =
 (x.1.getD
 g.2.2.2.1.toNat
 ((0 :
 Int),
 (0 :
 Int))).2 ∧
 True ∧
 (True ∧
 True) ∧
 (True ∧
 True) ∧
 (True ∧
 True) ∧
 (True ∧
 True) ∧
 (True ∧
 True) ∧
 True ∧
 True ∧
 True ∧
 True ∧
 True ∧
 True ∧
 True ∧
 True ∧
 True ∧
 True ∧
 True ∧
 True ∧
 True ∧
 True ∧
 True ∧
 True ∧
 (True ∧
 True) ∧
 ((x.1.getD
 g.2.2.2.1.toNat
 ((0 :
 Int),
 (0 :
 Int))).1 =
 (x.1.getD
 g.2.2.2.1.toNat
 ((0 :
 Int),
 (0 :
 Int))).1 ∧
 (x.1.getD
 g.2.2.2.1.toNat
 ((0 :
 Int),
 (0 :
 Int))).2 =
 (x.1.getD
 g.2.2.2.1.toNat
 ((0 :
 Int),
 (0 :
 Int))).2 ∧
 True) ∧
 True ∧
 (True ∧
 True) ∧
 (0 :
 Int) =
 (0 :
 Int) ∧
 decide
 ((0 :
 Int) ≤
 idx
 g.2.1.2.1
 (x.1.getD
 g.2.2.2.1.toNat
 ((0 :
 Int),
 (0 :
 Int))).2) =
 decide
 ((0 :
 Int) ≤
 idx
 g.2.1.2.1
 (x.1.getD
 g.2.2.2.1.toNat
 ((0 :
 Int),
 (0 :
 Int))).2) ∧
 false =
 false ∧
 (True ∧
 True) ∧
 (x.1.getD
 g.2.2.2.1.toNat
 ((0 :
 Int),
 (0 :
 Int))).1 =
 (x.1.getD
 g.2.2.2.1.toNat
 ((0 :
 Int),
 (0 :
 Int))).1 ∧
 decide
 ((x.1.getD
 g.2.2.2.1.toNat
 ((0 :
 Int),
 (0 :
 Int))).1 <
 (1 :
 Int)) =
 decide
 ((x.1.getD
 g.2.2.2.1.toNat
 ((0 :
 Int),
 (0 :
 Int))).1 <
 (1 :
 Int)) ∧
 decide
 ((x.1.getD
 g.2.2.2.1.toNat
 ((0 :
 Int),
 (0 :
 Int))).1 <
 (1 :
 Int)) =
 decide
 ((x.1.getD
 g.2.2.2.1.toNat
 ((0 :
 Int),
 (0 :
 Int))).1 <
 (1 :
 Int)) ∧
 True ∧
 True ∧
 True ∧
 (decide
 ((x.1.getD
 g.2.2.2.1.toNat
 ((0 :
 Int),
 (0 :
 Int))).1 <
 (1 :
 Int)) ||
 decide
 ((5 :
 Int) <
 (x.1.getD
 g.2.2.2.1.toNat
 ((0 :
 Int),
 (0 :
 Int))).1)) =
 (decide
 ((x.1.getD
 g.2.2.2.1.toNat
 ((0 :
 Int),
 (0 :
 Int))).1 <
 (1 :
 Int)) ||
 decide
 ((5 :
 Int) <
 (x.1.getD
 g.2.2.2.1.toNat
 ((0 :
 Int),
 (0 :
 Int))).1)) ∧
 false =
 false ∧
 (True ∧
 True) ∧
 (x.1.getD
 g.2.2.2.1.toNat
 ((0 :
 Int),
 (0 :
 Int))).2 =
 (x.1.getD
 g.2.2.2.1.toNat
 ((0 :
 Int),
 (0 :
 Int))).2 ∧
 decide
 ((x.1.getD
 g.2.2.2.1.toNat
 ((0 :
 Int),
 (0 :
 Int))).2 <
 (0 :
 Int)) =
 decide
 ((x.1.getD
 g.2.2.2.1.toNat
 ((0 :
 Int),
 (0 :
 Int))).2 <
 (0 :
 Int)) ∧
 decide
 ((x.1.getD
 g.2.2.2.1.toNat
 ((0 :
 Int),
 (0 :
 Int))).2 <
 (0 :
 Int)) =
 decide
 ((x.1.getD
 g.2.2.2.1.toNat
 ((0 :
 Int),
 (0 :
 Int))).2 <
 (0 :
 Int)) ∧
 True ∧
 True ∧
 True ∧
 (decide
 ((x.1.getD
 g.2.2.2.1.toNat
 ((0 :
 Int),
 (0 :
 Int))).2 <
 (0 :
 Int)) ||
 decide
 ((63 :
 Int) <
 (x.1.getD
 g.2.2.2.1.toNat
 ((0 :
 Int),
 (0 :
 Int))).2)) =
 (decide
 ((x.1.getD
 g.2.2.2.1.toNat
 ((0 :
 Int),
 (0 :
 Int))).2 <
 (0 :
 Int)) ||
 decide
 ((63 :
 Int) <
 (x.1.getD
 g.2.2.2.1.toNat
 ((0 :
 Int),
 (0 :
 Int))).2)) ∧
 (True ∧
 True) ∧
 (True ∧
 True) ∧
 (True ∧
 True) ∧
 True ∧
 (True ∧
 True) ∧
 (x.1.getD
 g.2.2.2.1.toNat
 ((0 :
 Int),
 (0 :
 Int))).2 =
 (x.1.getD
 g.2.2.2.1.toNat
 ((0 :
 Int),
 (0 :
 Int))).2 ∧
 decide
 ((0 :
 Int) ≤
 idx
 g.2.1.2.1
 (x.1.getD
 g.2.2.2.1.toNat
 ((0 :
 Int),
 (0 :
 Int))).2) =
 decide
 ((0 :
 Int) ≤
 idx
 g.2.1.2.1
 (x.1.getD
 g.2.2.2.1.toNat
 ((0 :
 Int),
 (0 :
 Int))).2) ∧
 (True ∧
 True) ∧
 (x.1.getD
 g.2.2.2.1.toNat
 ((0 :
 Int),
 (0 :
 Int))).1 =
 (x.1.getD
 g.2.2.2.1.toNat
 ((0 :
 Int),
 (0 :
 Int))).1 ∧
 false =
 false ∧
 ((x.1.getD
 g.2.2.2.1.toNat
 ((0 :
 Int),
 (0 :
 Int))).1 ==
 (1 :
 Int)) =
 ((x.1.getD
 g.2.2.2.1.toNat
 ((0 :
 Int),
 (0 :
 Int))).1 ==
 (1 :
 Int)) ∧
 True ∧
 True ∧
 True ∧
 True ∧
 True ∧
 True ∧
 True ∧
 True ∧
 True ∧
 True ∧
 True ∧
 True ∧
 True ∧
 True ∧
 True ∧
 True ∧
 True ∧
 True ∧
 True ∧
 True ∧
 True ∧
 True ∧
 True ∧
 True ∧
 True ∧
 True ∧
 True ∧
 True ∧
 true =
 true ∧
 ((x.1.getD
 g.2.2.2.1.toNat
 ((0 :
 Int),
 (0 :
 Int))).1 ==
 (2 :
 Int)) =
 ((x.1.getD
 g.2.2.2.1.toNat
 ((0 :
 Int),
 (0 :
 Int))).1 ==
 (2 :
 Int)) ∧
 false =
 false ∧
 (True ∧
 True) ∧
 (True ∧
 True) ∧
 (True ∧
 True) ∧
 True ∧
 (True ∧
 True) ∧
 (x.1.getD
 g.2.2.2.1.toNat
 ((0 :
 Int),
 (0 :
 Int))).2 =
 (x.1.getD
 g.2.2.2.1.toNat
 ((0 :
 Int),
 (0 :
 Int))).2 ∧
 mval
 Ty.bool
 g.2.1.2.2.2.1
 (x.1.getD
 g.2.2.2.1.toNat
 ((0 :
 Int),
 (0 :
 Int))).2 =
 mval
 Ty.bool
 g.2.1.2.2.2.1
 (x.1.getD
 g.2.2.2.1.toNat
 ((0 :
 Int),
 (0 :
 Int))).2 ∧
 false =
 false ∧
 decide
 ((0 :
 Int) ≤
 idx
 g.2.1.2.1
 (x.1.getD
 g.2.2.2.1.toNat
 ((0 :
 Int),
 (0 :
 Int))).2) =
 decide
 ((0 :
 Int) ≤
 idx
 g.2.1.2.1
 (x.1.getD
 g.2.2.2.1.toNat
 ((0 :
 Int),
 (0 :
 Int))).2) ∧
 (!decide
 ((0 :
 Int) ≤
 idx
 g.2.1.2.1
 (x.1.getD
 g.2.2.2.1.toNat
 ((0 :
 Int),
 (0 :
 Int))).2)) =
 !decide
 ((0 :
 Int) ≤
 idx
 g.2.1.2.1
 (x.1.getD
 g.2.2.2.1.toNat
 ((0 :
 Int),
 (0 :
 Int))).2) ∧
 false =
 false ∧
 (True ∧
 True) ∧
 (True ∧
 True) ∧
 (True ∧
 True) ∧
 g.2.1.1 =
 g.2.1.1 ∧
 (g.2.1.1 ==
 (0 :
 Int)) =
 (g.2.1.1 ==
 (0 :
 Int)) ∧
 (True ∧
 True) ∧
 (True ∧
 True) ∧
 (True ∧
 True) ∧
 g.2.1.1 =
 g.2.1.1 ∧
 g.2.1.1 -
 (1 :
 Int) =
 g.2.1.1 -
 (1 :
 Int) ∧
 (True ∧
 True) ∧
 (True ∧
 True) ∧
 (True ∧
 True) ∧
 (True ∧
 True) ∧
 (x.1.getD
 g.2.2.2.1.toNat
 ((0 :
 Int),
 (0 :
 Int))).2 =
 (x.1.getD
 g.2.2.2.1.toNat
 ((0 :
 Int),
 (0 :
 Int))).2 ∧
 True ∧
 True ∧
 True ∧
 True ∧
 True ∧
 True ∧
 True ∧
 True ∧
 True ∧
 True ∧
 True ∧
 True ∧
 True ∧
 True ∧
 True ∧
 True ∧
 True ∧
 True ∧
 True ∧
 True ∧
 True ∧
 True ∧
 True ∧
 True ∧
 True ∧
 True ∧
 True ∧
 True ∧
 True ∧
 True ∧
 True ∧
 True ∧
 True ∧
 True ∧
 True ∧
 True ∧
 True ∧
 True ∧
 True ∧
 True ∧
 True ∧
 True ∧
 True ∧
 True ∧
 True ∧
 True ∧
 True ∧
 True ∧
 True ∧
 True ∧
 True ∧
 True ∧
 True ∧
 True ∧
 True ∧
 True ∧
 True ∧
 True ∧
 True ∧
 True ∧
 True ∧
 True ∧
 True ∧
 True ∧
 True ∧
 True ∧
 True ∧
 True ∧
 True ∧
 True ∧
 True ∧
 True ∧
 True ∧
 True ∧
 True ∧
 True ∧
 True ∧
 True ∧
 True ∧
 True ∧
 (True ∧
 True) ∧
 True ∧
 True ∧
 (True ∧
 True) ∧
 True ∧
 True ∧
 True ∧
 True ∧
 (True ∧
 True) ∧
 x.1 =
 x.1 ∧
 (↑x.1.length :
 Int) =
 (↑x.1.length :
 Int) ∧
 g.2.2.2.1 =
 g.2.2.2.1 ∧
 true =
 true ∧
 True ∧
 ((x.1.getD
 g.2.2.2.1.toNat
 ((0 :
 Int),
 (0 :
 Int))).1 =
 (x.1.getD
 g.2.2.2.1.toNat
 ((0 :
 Int),
 (0 :
 Int))).1 ∧
 (x.1.getD
 g.2.2.2.1.toNat
 ((0 :
 Int),
 (0 :
 Int))).2 =
 (x.1.getD
 g.2.2.2.1.toNat
 ((0 :
 Int),
 (0 :
 Int))).2 ∧
 True) ∧
 True ∧
 (True ∧
 True) ∧
 ((x.1.getD
 g.2.2.2.1.toNat
 ((0 :
 Int),
 (0 :
 Int))).1 =
 (x.1.getD
 g.2.2.2.1.toNat
 ((0 :
 Int),
 (0 :
 Int))).1 ∧
 (x.1.getD
 g.2.2.2.1.toNat
 ((0 :
 Int),
 (0 :
 Int))).2 =
 (x.1.getD
 g.2.2.2.1.toNat
 ((0 :
 Int),
 (0 :
 Int))).2 ∧
 True) ∧
 True ∧
 True ∧
 True ∧
 True ∧
 True ∧
 True ∧
 True ∧
 True ∧
 True ∧
 True ∧
 True ∧
 True ∧
 True ∧
 True ∧
 True ∧
 True ∧
 True ∧
 True ∧
 True ∧
 True ∧
 True ∧
 True) ∧
 ∀ (g_1 : Int × Unit),
 (0 : Int) ≤ g_1.1 ∧
 g_1.1 ≤ (↑g.2.1.2.1.length : Int) ∧
 ((List.take g_1.1.toNat g.2.1.2.1).any fun y ↦
 capF (some (x.1.getD g.2.2.2.1.toNat ((0 : Int), (0 : Int))).2)
 ([] : List (Int × Bool)) y) =
 false →
 ((-9223372036854775808 : Int) ≤ g_1.1 ∧ g_1.1 ≤ (9223372036854775807 : Int)) ∧
 True →
 (decide (g_1.1 < (↑g.2.1.2.1.length : Int)) = true →
 ((0 : Int) ≤ g_1.1 ∧ g_1.1 < (↑g.2.1.2.1.length : Int)) ∧
 ((g.2.1.2.1.getD g_1.1.toNat (0 : Int) ==
 (x.1.getD g.2.2.2.1.toNat ((0 : Int), (0 : Int))).2) =
 true →
 ((g_1.1 == (-1 : Int)) = true →
 (g.2.1.2.2.2.2.length +
 (((0 : Int) :: ([] : List Int)).set (0 : Nat)
 (x.1.getD g.2.2.2.1.toNat
 ((0 : Int), (0 : Int))).2).length ≤
 (9223372036854775807 : Nat) ∧
 (g.2.1.2.2.2.2.length +
 (((0 : Int) :: ([] : List Int)).set (0 : Nat)
 (x.1.getD g.2.2.2.1.toNat
 ((0 : Int), (0 : Int))).2).length +
 (g.2.1.2.2.2.2.length +
 (((0 : Int) :: ([] : List Int)).set (0 : Nat)
 (x.1.getD g.2.2.2.1.toNat
 ((0 : Int), (0 : Int))).2).length) /
 (4 : Nat) +
 (192 : Nat)) *
 (8 : Nat) ≤
 (281474976710656 : Nat)) ∧
 (decide ((0 : Int) < g.2.1.1 - (1 : Int)) = true →
 ((((0 : Int) ≤ (0 : Int) ∧
 (0 : Int) ≤ (↑g.2.1.2.1.length : Int) ∧
 ((List.take (Int.toNat (0 : Int))
 g.2.1.2.1).all
 fun y ↦
 mval Ty.bool
 (mdel Ty.bool g.2.1.2.2.1
 (x.1.getD g.2.2.2.1.toNat
 ((0 : Int), (0 : Int))).2)
 y) =
 true) ∧
 True) ∧
 ((True ∧ True) ∧
 True ∧
 (↑g.2.1.2.1.length : Int) =
 (↑g.2.1.2.1.length : Int) ∧
 (0 : Int) = (0 : Int) ∧ True) ∧
 ((g.2.1.1 - (1 : Int) =
 g.2.1.1 - (1 : Int) ∧
 True ∧ True ∧ True ∧ True ∧ True) ∧
 g.2.1.2.1 = g.2.1.2.1 ∧
 mdel Ty.bool g.2.1.2.2.1
 (x.1.getD g.2.2.2.1.toNat
 ((0 : Int), (0 : Int))).2 =
 mdel Ty.bool g.2.1.2.2.1
 (x.1.getD g.2.2.2.1.toNat
 ((0 : Int), (0 : Int))).2 ∧
 mdel Ty.bool g.2.1.2.2.2.1
 (x.1.getD g.2.2.2.1.toNat
 ((0 : Int), (0 : Int))).2 =
 mdel Ty.bool g.2.1.2.2.2.1
 (x.1.getD g.2.2.2.1.toNat
 ((0 : Int), (0 : Int))).2 ∧
 g.2.1.2.2.2.2 ++
 ((0 : Int) :: ([] : List Int)).set
 (0 : Nat)
 (x.1.getD g.2.2.2.1.toNat
 ((0 : Int), (0 : Int))).2 =
 g.2.1.2.2.2.2 ++
 ((0 : Int) :: ([] : List Int)).set
 (0 : Nat)
 (x.1.getD g.2.2.2.1.toNat
 ((0 : Int), (0 : Int))).2 ∧
 ((x.1.getD g.2.2.2.1.toNat
 ((0 : Int), (0 : Int))).1 =
 (x.1.getD g.2.2.2.1.toNat
 ((0 : Int), (0 : Int))).1 ∧
 (x.1.getD g.2.2.2.1.toNat
 ((0 : Int), (0 : Int))).2 =
 (x.1.getD g.2.2.2.1.toNat
 ((0 : Int), (0 : Int))).2 ∧
 True) ∧
 g.2.1.2.1 = g.2.1.2.1 ∧
 ((0 : Int) :: ([] : List Int)).set
 (0 : Nat)
 (x.1.getD
 g.2.2.2.1.toNat
 ((0 : Int), (0 : Int))).2 =
 ((0 : Int) :: ([] : List Int)).set
 (0 : Nat)
 (x.1.getD
 g.2.2.2.1.toNat
 ((0 : Int), (0 : Int))).2 ∧
 ((True ∧ True) ∧ True) ∧
 g.2.2.1 = g.2.2.1 ∧
 ((x.1.getD
 g.2.2.2.1.toNat
 ((0 : Int),
 (0 : Int))).1 =
 (x.1.getD
 g.2.2.2.1.toNat
 ((0 : Int),
 (0 : Int))).1 ∧
 (x.1.getD
 g.2.2.2.1.toNat
 ((0 : Int),
 (0 : Int))).2 =
 (x.1.getD
 g.2.2.2.1.toNat
 ((0 : Int),
 (0 : Int))).2 ∧
 True) ∧
 True) ∧
 (True ∧ True) ∧
 ((x.1.getD g.2.2.2.1.toNat
 ((0 : Int), (0 : Int))).1 =
 (x.1.getD g.2.2.2.1.toNat
 ((0 : Int), (0 : Int))).1 ∧
 (x.1.getD g.2.2.2.1.toNat
 ((0 : Int), (0 : Int))).2 =
 (x.1.getD g.2.2.2.1.toNat
 ((0 : Int), (0 : Int))).2 ∧
 True) ∧
 True ∧
 (True ∧ True) ∧
 (0 : Int) = (0 : Int) ∧
 decide
 ((0 : Int) ≤
 idx g.2.1.2.1
 (x.1.getD
 g.2.2.2.1.toNat
 ((0 : Int), (0 : Int))).2) =
 decide
 ((0 : Int) ≤
 idx g.2.1.2.1
 (x.1.getD
 g.2.2.2.1.toNat
 ((0 : Int), (0 : Int))).2) ∧
 false = false ∧
 (True ∧ True) ∧
 (x.1.getD g.2.2.2.1.toNat
 ((0 : Int), (0 : Int))).1 =
 (x.1.getD
 g.2.2.2.1.toNat
 ((0 : Int), (0 : Int))).1 ∧
 decide
 ((x.1.getD
 g.2.2.2.1.toNat
 ((0 : Int),
 (0 : Int))).1 <
 (1 : Int)) =
 decide
 ((x.1.getD
 g.2.2.2.1.toNat
 ((0 : Int),
 (0 : Int))).1 <
 (1 : Int)) ∧
 decide
 ((x.1.getD
 g.2.2.2.1.toNat
 ((0 : Int),
 (0 : Int))).1 <
 (1 : Int)) =
 decide
 ((x.1.getD
 g.2.2.2.1.toNat
 ((0 : Int),
 (0 : Int))).1 <
 (1 : Int)) ∧
 True ∧
 True ∧
 True ∧
 (decide
 ((x.1.getD
 g.2.2.2.1.toNat
 ((0 : Int),
 (0 :
 Int))).1 <
 (1 : Int)) ||
 decide
 ((5 : Int) <
 (x.1.getD
 g.2.2.2.1.toNat
 ((0 : Int),
 (0 :
 Int))).1)) =
 (decide
 ((x.1.getD
 g.2.2.2.1.toNat
 ((0 : Int),
 (0 :
 Int))).1 <
 (1 : Int)) ||
 decide
 ((5 : Int) <
 (x.1.getD
 g.2.2.2.1.toNat
 ((0 : Int),
 (0 :
 Int))).1)) ∧
 false = false ∧
 (True ∧ True) ∧
 (x.1.getD
 g.2.2.2.1.toNat
 ((0 : Int),
 (0 :
 Int))).2 =
 (x.1.getD
 g.2.2.2.1.toNat
 ((0 : Int),
 (0 :
 Int))).2 ∧
 decide
 ((x.1.getD
 g.2.2.2.1.toNat
 ((0 :
 Int),
 (0 :
 Int))).2 <
 (0 :
 Int)) =
 decide
 ((x.1.getD
 g.2.2.2.1.toNat
 ((0 :
 Int),
 (0 :
 Int))).2 <
 (0 :
 Int)) ∧
 decide
 ((x.1.getD
 g.2.2.2.1.toNat
 ((0 :
 Int),
 (0 :
 Int))).2 <
 (0 :
 Int)) =
 decide
 ((x.1.getD
 g.2.2.2.1.toNat
 ((0 :
 Int),
 (0 :
 Int))).2 <
 (0 :
 Int)) ∧
 True ∧
 True ∧
 True ∧
 (decide
 ((x.1.getD
 g.2.2.2.1.toNat
 ((0 :
 Int),
 (0 :
 Int))).2 <
 (0 :
 Int)) ||
 decide
 ((63 :
 Int) <
 (x.1.getD
 g.2.2.2.1.toNat
 ((0 :
 Int),
 (0 :
 Int))).2)) =
 (decide
 ((x.1.getD
 g.2.2.2.1.toNat
 ((0 :
 Int),
 (0 :
 Int))).2 <
 (0 :
 Int)) ||
 decide
 ((63 :
 Int) <
 (x.1.getD
 g.2.2.2.1.toNat
 ((0 :
 Int),
 (0 :
 Int))).2)) ∧
 (True ∧
 True) ∧
 (True ∧
 True) ∧
 (True ∧
 True) ∧
 True ∧
 (True ∧
 True) ∧
 (x.1.getD
 g.2.2.2.1.toNat
 ((0 :
 Int),
 (0 :
 Int))).2 =
 (x.1.getD
 g.2.2.2.1.toNat
 ((0 :
 Int),
 (0 :
 Int))).2 ∧
 decide
 ((0 :
 Int) ≤
 idx
 g.2.1.2.1
 (x.1.getD
 g.2.2.2.1.toNat
 ((0 :
 Int),
 (0 :
 Int))).2) =
 decide
 ((0 :
 Int) ≤
 idx
 g.2.1.2.1
 (x.1.getD
 g.2.2.2.1.toNat
 ((0 :
 Int),
 (0 :
 Int))).2) ∧
 (True ∧
 True) ∧
 (x.1.getD
 g.2.2.2.1.toNat
 ((0 :
 Int),
 (0 :
 Int))).1 =
 (x.1.getD
 g.2.2.2.1.toNat
 ((0 :
 Int),
 (0 :
 Int))).1 ∧
 false =
 false ∧
 ((x.1.getD
 g.2.2.2.1.toNat
 ((0 :
 Int),
 (0 :
 Int))).1 ==
 (1 :
 Int)) =
 ((x.1.getD
 g.2.2.2.1.toNat
 ((0 :
 Int),
 (0 :
 Int))).1 ==
 (1 :
 Int)) ∧
 True ∧
 True ∧
 True ∧
 True ∧
 True ∧
 True ∧
 True ∧
 True ∧
 True ∧
 True ∧
 True ∧
 True ∧
 True ∧
 True ∧
 True ∧
 True ∧
 True ∧
 True ∧
 True ∧
 True ∧
 True ∧
 True ∧
 True ∧
 True ∧
 True ∧
 True ∧
 True ∧
 True ∧
 true =
 true ∧
 ((x.1.getD
 g.2.2.2.1.toNat
 ((0 :
 Int),
 (0 :
 Int))).1 ==
 (2 :
 Int)) =
 ((x.1.getD
 g.2.2.2.1.toNat
 ((0 :
 Int),
 (0 :
 Int))).1 ==
 (2 :
 Int)) ∧
 false =
 false ∧
 (True ∧
 True) ∧
 (True ∧
 True) ∧
 (True ∧
 True) ∧
 True ∧
 (True ∧
 True) ∧
 (x.1.getD
 g.2.2.2.1.toNat
 ((0 :
 Int),
 (0 :
 Int))).2 =
 (x.1.getD
 g.2.2.2.1.toNat
 ((0 :
 Int),
 (0 :
 Int))).2 ∧
 mval
 Ty.bool
 g.2.1.2.2.2.1
 (x.1.getD
 g.2.2.2.1.toNat
 ((0 :
 Int),
 (0 :
 Int))).2 =
 mval
 Ty.bool
 g.2.1.2.2.2.1
 (x.1.getD
 g.2.2.2.1.toNat
 ((0 :
 Int),
 (0 :
 Int))).2 ∧
 false =
 false ∧
 decide
 ((0 :
 Int) ≤
 idx
 g.2.1.2.1
 (x.1.getD
 g.2.2.2.1.toNat
 ((0 :
 Int),
 (0 :
 Int))).2) =
 decide
 ((0 :
 Int) ≤
 idx
 g.2.1.2.1
 (x.1.getD
 g.2.2.2.1.toNat
 ((0 :
 Int),
 (0 :
 Int))).2) ∧
 (!decide
 ((0 :
 Int) ≤
 idx
 g.2.1.2.1
 (x.1.getD
 g.2.2.2.1.toNat
 ((0 :
 Int),
 (0 :
 Int))).2)) =
 !decide
 ((0 :
 Int) ≤
 idx
 g.2.1.2.1
 (x.1.getD
 g.2.2.2.1.toNat
 ((0 :
 Int),
 (0 :
 Int))).2) ∧
 false =
 false ∧
 (True ∧
 True) ∧
 (True ∧
 True) ∧
 (True ∧
 True) ∧
 g.2.1.1 =
 g.2.1.1 ∧
 (g.2.1.1 ==
 (0 :
 Int)) =
 (g.2.1.1 ==
 (0 :
 Int)) ∧
 (True ∧
 True) ∧
 (True ∧
 True) ∧
 (True ∧
 True) ∧
 g.2.1.1 =
 g.2.1.1 ∧
 g.2.1.1 -
 (1 :
 Int) =
 g.2.1.1 -
 (1 :
 Int) ∧
 (True ∧
 True) ∧
 (True ∧
 True) ∧
 (True ∧
 True) ∧
 (True ∧
 True) ∧
 (x.1.getD
 g.2.2.2.1.toNat
 ((0 :
 Int),
 (0 :
 Int))).2 =
 (x.1.getD
 g.2.2.2.1.toNat
 ((0 :
 Int),
 (0 :
 Int))).2 ∧
 True ∧
 (True ∧
 True) ∧
 (True ∧
 True) ∧
 (True ∧
 True) ∧
 (True ∧
 True) ∧
 True ∧
 (True ∧
 True) ∧
 (x.1.getD
 g.2.2.2.1.toNat
 ((0 :
 Int),
 (0 :
 Int))).2 =
 (x.1.getD
 g.2.2.2.1.toNat
 ((0 :
 Int),
 (0 :
 Int))).2 ∧
 True ∧
 True ∧
 (True ∧
 True) ∧
 (True ∧
 True) ∧
 (True ∧
 True) ∧
 (True ∧
 True) ∧
 (True ∧
 True) ∧
 g.2.1.1 -
 (1 :
 Int) =
 g.2.1.1 -
 (1 :
 Int) ∧
 true =
 true ∧
 (True ∧
 True) ∧
 True ∧
 True ∧
 True ∧
 True ∧
 True ∧
 True ∧
 True ∧
 True ∧
 True ∧
 True ∧
 True ∧
 True ∧
 True ∧
 True ∧
 True ∧
 True ∧
 True ∧
 True ∧
 True ∧
 True ∧
 True ∧
 True ∧
 True ∧
 True ∧
 True ∧
 True ∧
 True ∧
 True ∧
 True ∧
 True ∧
 True ∧
 True ∧
 True ∧
 True ∧
 True ∧
 True ∧
 True ∧
 True ∧
 True ∧
 True ∧
 True ∧
 True ∧
 True ∧
 True ∧
 True ∧
 True ∧
 True ∧
 True ∧
 True ∧
 True ∧
 True ∧
 True ∧
 True ∧
 True ∧
 True ∧
 True ∧
 True ∧
 True ∧
 True ∧
 True ∧
 True ∧
 True ∧
 (True ∧
 True) ∧
 True ∧
 True ∧
 (True ∧
 True) ∧
 True ∧
 True ∧
 True ∧
 True ∧
 (True ∧
 True) ∧
 x.1 =
 x.1 ∧
 (↑x.1.length :
 Int) =
 (↑x.1.length :
 Int) ∧
 g.2.2.2.1 =
 g.2.2.2.1 ∧
 true =
 true ∧
 True ∧
 ((x.1.getD
 g.2.2.2.1.toNat
 ((0 :
 Int),
 (0 :
 Int))).1 =
 (x.1.getD
 g.2.2.2.1.toNat
 ((0 :
 Int),
 (0 :
 Int))).1 ∧
 (x.1.getD
 g.2.2.2.1.toNat
 ((0 :
 Int),
 (0 :
 Int))).2 =
 (x.1.getD
 g.2.2.2.1.toNat
 ((0 :
 Int),
 (0 :
 Int))).2 ∧
 True) ∧
 True ∧
 (True ∧
 True) ∧
 ((x.1.getD
 g.2.2.2.1.toNat
 ((0 :
 Int),
 (0 :
 Int))).1 =
 (x.1.getD
 g.2.2.2.1.toNat
 ((0 :
 Int),
 (0 :
 Int))).1 ∧
 (x.1.getD
 g.2.2.2.1.toNat
 ((0 :
 Int),
 (0 :
 Int))).2 =
 (x.1.getD
 g.2.2.2.1.toNat
 ((0 :
 Int),
 (0 :
 Int))).2 ∧
 True) ∧
 True ∧
 True ∧
 True ∧
 True ∧
 True ∧
 True ∧
 True ∧
 True ∧
 True ∧
 True ∧
 True ∧
 True ∧
 True ∧
 True ∧
 True ∧
 True ∧
 True ∧
 True ∧
 True ∧
 True ∧
 True ∧
 True) ∧
 ∀ (g_2 : Int × Unit),
 (0 : Int) ≤ g_2.1 ∧
 g_2.1 ≤ (↑g.2.1.2.1.length : Int) ∧
 ((List.take g_2.1.toNat g.2.1.2.1).all
 fun y ↦
 mval Ty.bool
 (mdel Ty.bool g.2.1.2.2.1
 (x.1.getD g.2.2.2.1.toNat
 ((0 : Int), (0 : Int))).2)
 y) =
 true →
 ((-9223372036854775808 : Int) ≤ g_2.1 ∧
 g_2.1 ≤ (9223372036854775807 : Int)) ∧
 True →
 (decide
 (g_2.1 <
 (↑g.2.1.2.1.length : Int)) =
 true →
 ((0 : Int) ≤ g_2.1 ∧
 g_2.1 < (↑g.2.1.2.1.length : Int)) ∧
 ((!mval Ty.bool
 (mdel Ty.bool g.2.1.2.2.1
 (x.1.getD g.2.2.2.1.toNat
 ((0 : Int), (0 : Int))).2)
 (g.2.1.2.1.getD g_2.1.toNat
 (0 : Int))) =
 true →
 (g.2.2.1.length +
 (((0 : Int) :: ([] : List Int)).set
 (0 : Nat) (0 : Int)).length ≤
 (9223372036854775807 : Nat) ∧
 (g.2.2.1.length +
 (((0 : Int) ::
 ([] : List Int)).set
 (0 : Nat)
 (0 : Int)).length +
 (g.2.2.1.length +
 (((0 : Int) ::
 ([] : List Int)).set
 (0 : Nat)
 (0 : Int)).length) /
 (4 : Nat) +
 (192 : Nat)) *
 (8 : Nat) ≤
 (281474976710656 : Nat)) ∧
 ((-9223372036854775808 : Int) ≤
 g.2.2.2.1 + (1 : Int) ∧
 g.2.2.2.1 + (1 : Int) ≤
 (9223372036854775807 : Int)) ∧
 (((0 : Int) ≤
 g.2.2.2.1 + (1 : Int) ∧
 g.2.2.2.1 + (1 : Int) ≤
 (↑x.1.length : Int) ∧
 (↑(g.2.2.1 ++
 ((0 : Int) ::
 ([] :
 List
 Int)).set
 (0 : Nat)
 (0 :
 Int)).length :
 Int) =
 g.2.2.2.1 +
 (1 : Int) ∧
 ∃ l,
 pl
 (List.take
 (g.2.2.2.1 +
 (1 : Int)).toNat
 x.1) =
 ((l,
 g.2.1.1 -
 (1 : Int),
 g.2.1.2.2.2.2 ++
 ((0 : Int) ::
 ([] :
 List
 Int)).set
 (0 : Nat)
 (x.1.getD
 g.2.2.2.1.toNat
 ((0 : Int),
 (0 :
 Int))).2),
 g.2.2.1 ++
 ((0 : Int) ::
 ([] :
 List
 Int)).set
 (0 : Nat)
 (0 : Int)) ∧
 MQ g.2.1.2.1
 (mput Ty.bool
 (mdel Ty.bool
 g.2.1.2.2.1
 (x.1.getD
 g.2.2.2.1.toNat
 ((0 : Int),
 (0 :
 Int))).2)
 (g.2.1.2.1.getD
 g_2.1.toNat
 (0 : Int))
 true)
 (mdel Ty.bool
 (mdel Ty.bool
 g.2.1.2.2.2.1
 (x.1.getD
 g.2.2.2.1.toNat
 ((0 : Int),
 (0 :
 Int))).2)
 (g.2.1.2.1.getD
 g_2.1.toNat
 (0 : Int)))
 l ∧
 good
 (l,
 g.2.1.1 -
 (1 : Int),
 g.2.1.2.2.2.2 ++
 ((0 : Int) ::
 ([] :
 List
 Int)).set
 (0 : Nat)
 (x.1.getD
 g.2.2.2.1.toNat
 ((0 : Int),
 (0 :
 Int))).2)
 (g.2.2.2.1 +
 (1 : Int))) ∧
 ((↑x.1.length : Int) -
 (g.2.2.2.1 +
 (1 : Int))).toNat <
 ((↑x.1.length : Int) -
 g.2.2.2.1).toNat) ∧
 ((True ∧ True) ∧
 (True ∧ True) ∧
 True ∧
 x.1 = x.1 ∧
 (↑x.1.length : Int) =
 (↑x.1.length : Int) ∧
 g.2.2.2.1 +
 (1 : Int) =
 g.2.2.2.1 +
 (1 : Int) ∧
 True) ∧
 (((True ∧ True) ∧ True) ∧
 (g.2.1.1 - (1 : Int) =
 g.2.1.1 -
 (1 : Int) ∧
 True ∧
 True ∧
 True ∧ True ∧ True) ∧
 g.2.1.2.1 =
 g.2.1.2.1 ∧
 mput Ty.bool
 (mdel Ty.bool
 g.2.1.2.2.1
 (x.1.getD
 g.2.2.2.1.toNat
 ((0 : Int),
 (0 :
 Int))).2)
 (g.2.1.2.1.getD
 g_2.1.toNat
 (0 : Int))
 true =
 mput Ty.bool
 (mdel Ty.bool
 g.2.1.2.2.1
 (x.1.getD
 g.2.2.2.1.toNat
 ((0 : Int),
 (0 :
 Int))).2)
 (g.2.1.2.1.getD
 g_2.1.toNat
 (0 : Int))
 true ∧
 mdel Ty.bool
 (mdel Ty.bool
 g.2.1.2.2.2.1
 (x.1.getD
 g.2.2.2.1.toNat
 ((0 : Int),
 (0 :
 Int))).2)
 (g.2.1.2.1.getD
 g_2.1.toNat
 (0 : Int)) =
 mdel Ty.bool
 (mdel Ty.bool
 g.2.1.2.2.2.1
 (x.1.getD
 g.2.2.2.1.toNat
 ((0 : Int),
 (0 :
 Int))).2)
 (g.2.1.2.1.getD
 g_2.1.toNat
 (0 : Int)) ∧
 g.2.1.2.2.2.2 ++
 ((0 : Int) ::
 ([] :
 List
 Int)).set
 (0 : Nat)
 (x.1.getD
 g.2.2.2.1.toNat
 ((0 : Int),
 (0 :
 Int))).2 =
 g.2.1.2.2.2.2 ++
 ((0 : Int) ::
 ([] :
 List
 Int)).set
 (0 : Nat)
 (x.1.getD
 g.2.2.2.1.toNat
 ((0 : Int),
 (0 :
 Int))).2 ∧
 g.2.2.1 ++
 ((0 : Int) ::
 ([] :
 List
 Int)).set
 (0 : Nat)
 (0 : Int) =
 g.2.2.1 ++
 ((0 : Int) ::
 ([] :
 List
 Int)).set
 (0 : Nat)
 (0 : Int) ∧
 True) ∧
 True) ∧
 ((!mval Ty.bool
 (mdel Ty.bool g.2.1.2.2.1
 (x.1.getD g.2.2.2.1.toNat
 ((0 : Int), (0 : Int))).2)
 (g.2.1.2.1.getD g_2.1.toNat
 (0 : Int))) =
 false →
 ((-9223372036854775808 : Int) ≤
 g_2.1 + (1 : Int) ∧
 g_2.1 + (1 : Int) ≤
 (9223372036854775807 : Int)) ∧
 (((0 : Int) ≤ g_2.1 + (1 : Int) ∧
 g_2.1 + (1 : Int) ≤
 (↑g.2.1.2.1.length :
 Int) ∧
 ((List.take
 (g_2.1 +
 (1 : Int)).toNat
 g.2.1.2.1).all
 fun y ↦
 mval Ty.bool
 (mdel Ty.bool
 g.2.1.2.2.1
 (x.1.getD
 g.2.2.2.1.toNat
 ((0 : Int),
 (0 : Int))).2)
 y) =
 true) ∧
 ((↑g.2.1.2.1.length : Int) -
 (g_2.1 + (1 : Int))).toNat <
 ((↑g.2.1.2.1.length : Int) -
 g_2.1).toNat) ∧
 ((True ∧ True) ∧
 True ∧
 (↑g.2.1.2.1.length :
 Int) =
 (↑g.2.1.2.1.length :
 Int) ∧
 g_2.1 + (1 : Int) =
 g_2.1 + (1 : Int) ∧
 True) ∧
 ((g.2.1.1 - (1 : Int) =
 g.2.1.1 - (1 : Int) ∧
 True ∧
 True ∧ True ∧ True ∧ True) ∧
 g.2.1.2.1 =
 g.2.1.2.1 ∧
 mdel Ty.bool
 g.2.1.2.2.1
 (x.1.getD
 g.2.2.2.1.toNat
 ((0 : Int),
 (0 : Int))).2 =
 mdel Ty.bool
 g.2.1.2.2.1
 (x.1.getD
 g.2.2.2.1.toNat
 ((0 : Int),
 (0 : Int))).2 ∧
 mdel Ty.bool
 g.2.1.2.2.2.1
 (x.1.getD
 g.2.2.2.1.toNat
 ((0 : Int),
 (0 : Int))).2 =
 mdel Ty.bool
 g.2.1.2.2.2.1
 (x.1.getD
 g.2.2.2.1.toNat
 ((0 : Int),
 (0 : Int))).2 ∧
 g.2.1.2.2.2.2 ++
 ((0 : Int) ::
 ([] :
 List Int)).set
 (0 : Nat)
 (x.1.getD
 g.2.2.2.1.toNat
 ((0 : Int),
 (0 :
 Int))).2 =
 g.2.1.2.2.2.2 ++
 ((0 : Int) ::
 ([] :
 List Int)).set
 (0 : Nat)
 (x.1.getD
 g.2.2.2.1.toNat
 ((0 : Int),
 (0 :
 Int))).2 ∧
 ((x.1.getD
 g.2.2.2.1.toNat
 ((0 : Int),
 (0 :
 Int))).1 =
 (x.1.getD
 g.2.2.2.1.toNat
 ((0 : Int),
 (0 :
 Int))).1 ∧
 (x.1.getD
 g.2.2.2.1.toNat
 ((0 : Int),
 (0 :
 Int))).2 =
 (x.1.getD
 g.2.2.2.1.toNat
 ((0 : Int),
 (0 :
 Int))).2 ∧
 True) ∧
 g.2.1.2.1 =
 g.2.1.2.1 ∧
 ((0 : Int) ::
 ([] :
 List
 Int)).set
 (0 : Nat)
 (x.1.getD
 g.2.2.2.1.toNat
 ((0 : Int),
 (0 :
 Int))).2 =
 ((0 : Int) ::
 ([] :
 List
 Int)).set
 (0 : Nat)
 (x.1.getD
 g.2.2.2.1.toNat
 ((0 : Int),
 (0 :
 Int))).2 ∧
 ((True ∧ True) ∧
 True) ∧
 g.2.2.1 =
 g.2.2.1 ∧
 ((x.1.getD
 g.2.2.2.1.toNat
 ((0 :
 Int),
 (0 :
 Int))).1 =
 (x.1.getD
 g.2.2.2.1.toNat
 ((0 :
 Int),
 (0 :
 Int))).1 ∧
 (x.1.getD
 g.2.2.2.1.toNat
 ((0 :
 Int),
 (0 :
 Int))).2 =
 (x.1.getD
 g.2.2.2.1.toNat
 ((0 :
 Int),
 (0 :
 Int))).2 ∧
 True) ∧
 True) ∧
 (True ∧ True) ∧
 ((x.1.getD
 g.2.2.2.1.toNat
 ((0 : Int),
 (0 : Int))).1 =
 (x.1.getD
 g.2.2.2.1.toNat
 ((0 : Int),
 (0 : Int))).1 ∧
 (x.1.getD
 g.2.2.2.1.toNat
 ((0 : Int),
 (0 : Int))).2 =
 (x.1.getD
 g.2.2.2.1.toNat
 ((0 : Int),
 (0 : Int))).2 ∧
 True) ∧
 True ∧
 (True ∧ True) ∧
 (0 : Int) = (0 : Int) ∧
 decide
 ((0 : Int) ≤
 idx
 g.2.1.2.1
 (x.1.getD
 g.2.2.2.1.toNat
 ((0 : Int),
 (0 :
 Int))).2) =
 decide
 ((0 : Int) ≤
 idx
 g.2.1.2.1
 (x.1.getD
 g.2.2.2.1.toNat
 ((0 : Int),
 (0 :
 Int))).2) ∧
 false = false ∧
 (True ∧ True) ∧
 (x.1.getD
 g.2.2.2.1.toNat
 ((0 : Int),
 (0 :
 Int))).1 =
 (x.1.getD
 g.2.2.2.1.toNat
 ((0 : Int),
 (0 :
 Int))).1 ∧
 decide
 ((x.1.getD
 g.2.2.2.1.toNat
 ((0 :
 Int),
 (0 :
 Int))).1 <
 (1 :
 Int)) =
 decide
 ((x.1.getD
 g.2.2.2.1.toNat
 ((0 :
 Int),
 (0 :
 Int))).1 <
 (1 :
 Int)) ∧
 decide
 ((x.1.getD
 g.2.2.2.1.toNat
 ((0 :
 Int),
 (0 :
 Int))).1 <
 (1 :
 Int)) =
 decide
 ((x.1.getD
 g.2.2.2.1.toNat
 ((0 :
 Int),
 (0 :
 Int))).1 <
 (1 :
 Int)) ∧
 True ∧
 True ∧
 True ∧
 (decide
 ((x.1.getD
 g.2.2.2.1.toNat
 ((0 :
 Int),
 (0 :
 Int))).1 <
 (1 :
 Int)) ||
 decide
 ((5 :
 Int) <
 (x.1.getD
 g.2.2.2.1.toNat
 ((0 :
 Int),
 (0 :
 Int))).1)) =
 (decide
 ((x.1.getD
 g.2.2.2.1.toNat
 ((0 :
 Int),
 (0 :
 Int))).1 <
 (1 :
 Int)) ||
 decide
 ((5 :
 Int) <
 (x.1.getD
 g.2.2.2.1.toNat
 ((0 :
 Int),
 (0 :
 Int))).1)) ∧
 false =
 false ∧
 (True ∧
 True) ∧
 (x.1.getD
 g.2.2.2.1.toNat
 ((0 :
 Int),
 (0 :
 Int))).2 =
 (x.1.getD
 g.2.2.2.1.toNat
 ((0 :
 Int),
 (0 :
 Int))).2 ∧
 decide
 ((x.1.getD
 g.2.2.2.1.toNat
 ((0 :
 Int),
 (0 :
 Int))).2 <
 (0 :
 Int)) =
 decide
 ((x.1.getD
 g.2.2.2.1.toNat
 ((0 :
 Int),
 (0 :
 Int))).2 <
 (0 :
 Int)) ∧
 decide
 ((x.1.getD
 g.2.2.2.1.toNat
 ((0 :
 Int),
 (0 :
 Int))).2 <
 (0 :
 Int)) =
 decide
 ((x.1.getD
 g.2.2.2.1.toNat
 ((0 :
 Int),
 (0 :
 Int))).2 <
 (0 :
 Int)) ∧
 True ∧
 True ∧
 True ∧
 (decide
 ((x.1.getD
 g.2.2.2.1.toNat
 ((0 :
 Int),
 (0 :
 Int))).2 <
 (0 :
 Int)) ||
 decide
 ((63 :
 Int) <
 (x.1.getD
 g.2.2.2.1.toNat
 ((0 :
 Int),
 (0 :
 Int))).2)) =
 (decide
 ((x.1.getD
 g.2.2.2.1.toNat
 ((0 :
 Int),
 (0 :
 Int))).2 <
 (0 :
 Int)) ||
 decide
 ((63 :
 Int) <
 (x.1.getD
 g.2.2.2.1.toNat
 ((0 :
 Int),
 (0 :
 Int))).2)) ∧
 (True ∧
 True) ∧
 (True ∧
 True) ∧
 (True ∧
 True) ∧
 True ∧
 (True ∧
 True) ∧
 (x.1.getD
 g.2.2.2.1.toNat
 ((0 :
 Int),
 (0 :
 Int))).2 =
 (x.1.getD
 g.2.2.2.1.toNat
 ((0 :
 Int),
 (0 :
 Int))).2 ∧
 decide
 ((0 :
 Int) ≤
 idx
 g.2.1.2.1
 (x.1.getD
 g.2.2.2.1.toNat
 ((0 :
 Int),
 (0 :
 Int))).2) =
 decide
 ((0 :
 Int) ≤
 idx
 g.2.1.2.1
 (x.1.getD
 g.2.2.2.1.toNat
 ((0 :
 Int),
 (0 :
 Int))).2) ∧
 (True ∧
 True) ∧
 (x.1.getD
 g.2.2.2.1.toNat
 ((0 :
 Int),
 (0 :
 Int))).1 =
 (x.1.getD
 g.2.2.2.1.toNat
 ((0 :
 Int),
 (0 :
 Int))).1 ∧
 false =
 false ∧
 ((x.1.getD
 g.2.2.2.1.toNat
 ((0 :
 Int),
 (0 :
 Int))).1 ==
 (1 :
 Int)) =
 ((x.1.getD
 g.2.2.2.1.toNat
 ((0 :
 Int),
 (0 :
 Int))).1 ==
 (1 :
 Int)) ∧
 True ∧
 True ∧
 True ∧
 True ∧
 True ∧
 True ∧
 True ∧
 True ∧
 True ∧
 True ∧
 True ∧
 True ∧
 True ∧
 True ∧
 True ∧
 True ∧
 True ∧
 True ∧
 True ∧
 True ∧
 True ∧
 True ∧
 True ∧
 True ∧
 True ∧
 True ∧
 True ∧
 True ∧
 true =
 true ∧
 ((x.1.getD
 g.2.2.2.1.toNat
 ((0 :
 Int),
 (0 :
 Int))).1 ==
 (2 :
 Int)) =
 ((x.1.getD
 g.2.2.2.1.toNat
 ((0 :
 Int),
 (0 :
 Int))).1 ==
 (2 :
 Int)) ∧
 false =
 false ∧
 (True ∧
 True) ∧
 (True ∧
 True) ∧
 (True ∧
 True) ∧
 True ∧
 (True ∧
 True) ∧
 (x.1.getD
 g.2.2.2.1.toNat
 ((0 :
 Int),
 (0 :
 Int))).2 =
 (x.1.getD
 g.2.2.2.1.toNat
 ((0 :
 Int),
 (0 :
 Int))).2 ∧
 mval
 Ty.bool
 g.2.1.2.2.2.1
 (x.1.getD
 g.2.2.2.1.toNat
 ((0 :
 Int),
 (0 :
 Int))).2 =
 mval
 Ty.bool
 g.2.1.2.2.2.1
 (x.1.getD
 g.2.2.2.1.toNat
 ((0 :
 Int),
 (0 :
 Int))).2 ∧
 false =
 false ∧
 decide
 ((0 :
 Int) ≤
 idx
 g.2.1.2.1
 (x.1.getD
 g.2.2.2.1.toNat
 ((0 :
 Int),
 (0 :
 Int))).2) =
 decide
 ((0 :
 Int) ≤
 idx
 g.2.1.2.1
 (x.1.getD
 g.2.2.2.1.toNat
 ((0 :
 Int),
 (0 :
 Int))).2) ∧
 (!decide
 ((0 :
 Int) ≤
 idx
 g.2.1.2.1
 (x.1.getD
 g.2.2.2.1.toNat
 ((0 :
 Int),
 (0 :
 Int))).2)) =
 !decide
 ((0 :
 Int) ≤
 idx
 g.2.1.2.1
 (x.1.getD
 g.2.2.2.1.toNat
 ((0 :
 Int),
 (0 :
 Int))).2) ∧
 false =
 false ∧
 (True ∧
 True) ∧
 (True ∧
 True) ∧
 (True ∧
 True) ∧
 g.2.1.1 =
 g.2.1.1 ∧
 (g.2.1.1 ==
 (0 :
 Int)) =
 (g.2.1.1 ==
 (0 :
 Int)) ∧
 (True ∧
 True) ∧
 (True ∧
 True) ∧
 (True ∧
 True) ∧
 g.2.1.1 =
 g.2.1.1 ∧
 g.2.1.1 -
 (1 :
 Int) =
 g.2.1.1 -
 (1 :
 Int) ∧
 (True ∧
 True) ∧
 (True ∧
 True) ∧
 (True ∧
 True) ∧
 (True ∧
 True) ∧
 (x.1.getD
 g.2.2.2.1.toNat
 ((0 :
 Int),
 (0 :
 Int))).2 =
 (x.1.getD
 g.2.2.2.1.toNat
 ((0 :
 Int),
 (0 :
 Int))).2 ∧
 True ∧
 (True ∧
 True) ∧
 (True ∧
 True) ∧
 (True ∧
 True) ∧
 (True ∧
 True) ∧
 True ∧
 (True ∧
 True) ∧
 (x.1.getD
 g.2.2.2.1.toNat
 ((0 :
 Int),
 (0 :
 Int))).2 =
 (x.1.getD
 g.2.2.2.1.toNat
 ((0 :
 Int),
 (0 :
 Int))).2 ∧
 True ∧
 True ∧
 (True ∧
 True) ∧
 (True ∧
 True) ∧
 (True ∧
 True) ∧
 (True ∧
 True) ∧
 (True ∧
 True) ∧
 g.2.1.1 -
 (1 :
 Int) =
 g.2.1.1 -
 (1 :
 Int) ∧
 true =
 true ∧
 (True ∧
 True) ∧
 True ∧
 True ∧
 True ∧
 True ∧
 True ∧
 True ∧
 True ∧
 True ∧
 True ∧
 True ∧
 True ∧
 True ∧
 True ∧
 True ∧
 True ∧
 True ∧
 True ∧
 True ∧
 True ∧
 True ∧
 True ∧
 True ∧
 True ∧
 True ∧
 True ∧
 True ∧
 True ∧
 True ∧
 True ∧
 True ∧
 True ∧
 True ∧
 True ∧
 True ∧
 True ∧
 True ∧
 True ∧
 True ∧
 True ∧
 True ∧
 True ∧
 True ∧
 True ∧
 True ∧
 True ∧
 True ∧
 True ∧
 True ∧
 True ∧
 True ∧
 True ∧
 True ∧
 True ∧
 True ∧
 True ∧
 True ∧
 True ∧
 True ∧
 True ∧
 True ∧
 True ∧
 True ∧
 (True ∧
 True) ∧
 True ∧
 True ∧
 (True ∧
 True) ∧
 True ∧
 True ∧
 True ∧
 True ∧
 (True ∧
 True) ∧
 x.1 =
 x.1 ∧
 (↑x.1.length :
 Int) =
 (↑x.1.length :
 Int) ∧
 g.2.2.2.1 =
 g.2.2.2.1 ∧
 true =
 true ∧
 True ∧
 ((x.1.getD
 g.2.2.2.1.toNat
 ((0 :
 Int),
 (0 :
 Int))).1 =
 (x.1.getD
 g.2.2.2.1.toNat
 ((0 :
 Int),
 (0 :
 Int))).1 ∧
 (x.1.getD
 g.2.2.2.1.toNat
 ((0 :
 Int),
 (0 :
 Int))).2 =
 (x.1.getD
 g.2.2.2.1.toNat
 ((0 :
 Int),
 (0 :
 Int))).2 ∧
 True) ∧
 True ∧
 (True ∧
 True) ∧
 ((x.1.getD
 g.2.2.2.1.toNat
 ((0 :
 Int),
 (0 :
 Int))).1 =
 (x.1.getD
 g.2.2.2.1.toNat
 ((0 :
 Int),
 (0 :
 Int))).1 ∧
 (x.1.getD
 g.2.2.2.1.toNat
 ((0 :
 Int),
 (0 :
 Int))).2 =
 (x.1.getD
 g.2.2.2.1.toNat
 ((0 :
 Int),
 (0 :
 Int))).2 ∧
 True) ∧
 True ∧
 True ∧
 True ∧
 True ∧
 True ∧
 True ∧
 True ∧
 True ∧
 True ∧
 True ∧
 True ∧
 True ∧
 True ∧
 True ∧
 True ∧
 True ∧
 True ∧
 True ∧
 True ∧
 True ∧
 True ∧
 True)) ∧
 (decide
 (g_2.1 <
 (↑g.2.1.2.1.length : Int)) =
 false →
 (g.2.2.1.length +
 (((0 : Int) :: ([] : List Int)).set
 (0 : Nat) (0 : Int)).length ≤
 (9223372036854775807 : Nat) ∧
 (g.2.2.1.length +
 (((0 : Int) :: ([] : List Int)).set
 (0 : Nat) (0 : Int)).length +
 (g.2.2.1.length +
 (((0 : Int) ::
 ([] : List Int)).set
 (0 : Nat) (0 : Int)).length) /
 (4 : Nat) +
 (192 : Nat)) *
 (8 : Nat) ≤
 (281474976710656 : Nat)) ∧
 ((-9223372036854775808 : Int) ≤
 g.2.2.2.1 + (1 : Int) ∧
 g.2.2.2.1 + (1 : Int) ≤
 (9223372036854775807 : Int)) ∧
 (((0 : Int) ≤ g.2.2.2.1 + (1 : Int) ∧
 g.2.2.2.1 + (1 : Int) ≤
 (↑x.1.length : Int) ∧
 (↑(g.2.2.1 ++
 ((0 : Int) ::
 ([] : List Int)).set
 (0 : Nat)
 (0 : Int)).length :
 Int) =
 g.2.2.2.1 + (1 : Int) ∧
 ∃ l,
 pl
 (List.take
 (g.2.2.2.1 +
 (1 : Int)).toNat
 x.1) =
 ((l,
 g.2.1.1 - (1 : Int),
 g.2.1.2.2.2.2 ++
 ((0 : Int) ::
 ([] :
 List Int)).set
 (0 : Nat)
 (x.1.getD
 g.2.2.2.1.toNat
 ((0 : Int),
 (0 :
 Int))).2),
 g.2.2.1 ++
 ((0 : Int) ::
 ([] : List Int)).set
 (0 : Nat) (0 : Int)) ∧
 MQ g.2.1.2.1
 (mdel Ty.bool
 g.2.1.2.2.1
 (x.1.getD
 g.2.2.2.1.toNat
 ((0 : Int),
 (0 : Int))).2)
 (mdel Ty.bool
 g.2.1.2.2.2.1
 (x.1.getD
 g.2.2.2.1.toNat
 ((0 : Int),
 (0 : Int))).2)
 l ∧
 good
 (l,
 g.2.1.1 - (1 : Int),
 g.2.1.2.2.2.2 ++
 ((0 : Int) ::
 ([] :
 List Int)).set
 (0 : Nat)
 (x.1.getD
 g.2.2.2.1.toNat
 ((0 : Int),
 (0 : Int))).2)
 (g.2.2.2.1 +
 (1 : Int))) ∧
 ((↑x.1.length : Int) -
 (g.2.2.2.1 +
 (1 : Int))).toNat <
 ((↑x.1.length : Int) -
 g.2.2.2.1).toNat) ∧
 ((True ∧ True) ∧
 (True ∧ True) ∧
 True ∧
 x.1 = x.1 ∧
 (↑x.1.length : Int) =
 (↑x.1.length : Int) ∧
 g.2.2.2.1 + (1 : Int) =
 g.2.2.2.1 +
 (1 : Int) ∧
 True) ∧
 (((True ∧ True) ∧ True) ∧
 (g.2.1.1 - (1 : Int) =
 g.2.1.1 - (1 : Int) ∧
 True ∧
 True ∧ True ∧ True ∧ True) ∧
 g.2.1.2.1 =
 g.2.1.2.1 ∧
 mdel Ty.bool g.2.1.2.2.1
 (x.1.getD
 g.2.2.2.1.toNat
 ((0 : Int),
 (0 : Int))).2 =
 mdel Ty.bool
 g.2.1.2.2.1
 (x.1.getD
 g.2.2.2.1.toNat
 ((0 : Int),
 (0 : Int))).2 ∧
 mdel Ty.bool
 g.2.1.2.2.2.1
 (x.1.getD
 g.2.2.2.1.toNat
 ((0 : Int),
 (0 : Int))).2 =
 mdel Ty.bool
 g.2.1.2.2.2.1
 (x.1.getD
 g.2.2.2.1.toNat
 ((0 : Int),
 (0 : Int))).2 ∧
 g.2.1.2.2.2.2 ++
 ((0 : Int) ::
 ([] :
 List Int)).set
 (0 : Nat)
 (x.1.getD
 g.2.2.2.1.toNat
 ((0 : Int),
 (0 :
 Int))).2 =
 g.2.1.2.2.2.2 ++
 ((0 : Int) ::
 ([] :
 List Int)).set
 (0 : Nat)
 (x.1.getD
 g.2.2.2.1.toNat
 ((0 : Int),
 (0 :
 Int))).2 ∧
 g.2.2.1 ++
 ((0 : Int) ::
 ([] :
 List Int)).set
 (0 : Nat)
 (0 : Int) =
 g.2.2.1 ++
 ((0 : Int) ::
 ([] :
 List Int)).set
 (0 : Nat)
 (0 : Int) ∧
 True) ∧
 True)) ∧
 (decide ((0 : Int) < g.2.1.1 - (1 : Int)) = false →
 (g.2.2.1.length +
 (((0 : Int) :: ([] : List Int)).set (0 : Nat)
 (0 : Int)).length ≤
 (9223372036854775807 : Nat) ∧
 (g.2.2.1.length +
 (((0 : Int) :: ([] : List Int)).set (0 : Nat)
 (0 : Int)).length +
 (g.2.2.1.length +
 (((0 : Int) :: ([] : List Int)).set (0 : Nat)
 (0 : Int)).length) /
 (4 : Nat) +
 (192 : Nat)) *
 (8 : Nat) ≤
 (281474976710656 : Nat)) ∧
 ((-9223372036854775808 : Int) ≤
 g.2.2.2.1 + (1 : Int) ∧
 g.2.2.2.1 + (1 : Int) ≤
 (9223372036854775807 : Int)) ∧
 (((0 : Int) ≤ g.2.2.2.1 + (1 : Int) ∧
 g.2.2.2.1 + (1 : Int) ≤
 (↑x.1.length : Int) ∧
 (↑(g.2.2.1 ++
 ((0 : Int) :: ([] : List Int)).set
 (0 : Nat) (0 : Int)).length :
 Int) =
 g.2.2.2.1 + (1 : Int) ∧
 ∃ l,
 pl
 (List.take
 (g.2.2.2.1 + (1 : Int)).toNat
 x.1) =
 ((l, g.2.1.1 - (1 : Int),
 g.2.1.2.2.2.2 ++
 ((0 : Int) :: ([] : List Int)).set
 (0 : Nat)
 (x.1.getD
 g.2.2.2.1.toNat
 ((0 : Int), (0 : Int))).2),
 g.2.2.1 ++
 ((0 : Int) :: ([] : List Int)).set
 (0 : Nat) (0 : Int)) ∧
 MQ g.2.1.2.1
 (mdel Ty.bool g.2.1.2.2.1
 (x.1.getD g.2.2.2.1.toNat
 ((0 : Int), (0 : Int))).2)
 (mdel Ty.bool g.2.1.2.2.2.1
 (x.1.getD g.2.2.2.1.toNat
 ((0 : Int), (0 : Int))).2)
 l ∧
 good
 (l, g.2.1.1 - (1 : Int),
 g.2.1.2.2.2.2 ++
 ((0 : Int) :: ([] : List Int)).set
 (0 : Nat)
 (x.1.getD
 g.2.2.2.1.toNat
 ((0 : Int), (0 : Int))).2)
 (g.2.2.2.1 + (1 : Int))) ∧
 ((↑x.1.length : Int) -
 (g.2.2.2.1 + (1 : Int))).toNat <
 ((↑x.1.length : Int) - g.2.2.2.1).toNat) ∧
 ((True ∧ True) ∧
 (True ∧ True) ∧
 True ∧
 x.1 = x.1 ∧
 (↑x.1.length : Int) =
 (↑x.1.length : Int) ∧
 g.2.2.2.1 + (1 : Int) =
 g.2.2.2.1 + (1 : Int) ∧
 True) ∧
 (((True ∧ True) ∧ True) ∧
 (g.2.1.1 - (1 : Int) =
 g.2.1.1 - (1 : Int) ∧
 True ∧ True ∧ True ∧ True ∧ True) ∧
 g.2.1.2.1 = g.2.1.2.1 ∧
 mdel Ty.bool g.2.1.2.2.1
 (x.1.getD g.2.2.2.1.toNat
 ((0 : Int), (0 : Int))).2 =
 mdel Ty.bool g.2.1.2.2.1
 (x.1.getD g.2.2.2.1.toNat
 ((0 : Int), (0 : Int))).2 ∧
 mdel Ty.bool g.2.1.2.2.2.1
 (x.1.getD g.2.2.2.1.toNat
 ((0 : Int), (0 : Int))).2 =
 mdel Ty.bool g.2.1.2.2.2.1
 (x.1.getD g.2.2.2.1.toNat
 ((0 : Int), (0 : Int))).2 ∧
 g.2.1.2.2.2.2 ++
 ((0 : Int) :: ([] : List Int)).set
 (0 : Nat)
 (x.1.getD
 g.2.2.2.1.toNat
 ((0 : Int), (0 : Int))).2 =
 g.2.1.2.2.2.2 ++
 ((0 : Int) :: ([] : List Int)).set
 (0 : Nat)
 (x.1.getD
 g.2.2.2.1.toNat
 ((0 : Int), (0 : Int))).2 ∧
 g.2.2.1 ++
 ((0 : Int) :: ([] : List Int)).set
 (0 : Nat) (0 : Int) =
 g.2.2.1 ++
 ((0 : Int) :: ([] : List Int)).set
 (0 : Nat) (0 : Int) ∧
 True) ∧
 True)) ∧
 ((g_1.1 == (-1 : Int)) = false →
 ((-9223372036854775808 : Int) ≤ g_1.1 + (1 : Int) ∧
 g_1.1 + (1 : Int) ≤ (9223372036854775807 : Int)) ∧
 (((((0 : Int) ≤ g_1.1 ∧
 g_1.1 ≤ g_1.1 + (1 : Int) ∧
 g_1.1 + (1 : Int) ≤
 (↑g.2.1.2.1.length : Int)) ∧
 g.2.1.2.1.length = g.2.1.2.1.length ∧
 List.take g_1.1.toNat g.2.1.2.1 =
 List.filter
 (fun y ↦
 !capF
 (some
 (x.1.getD g.2.2.2.1.toNat
 ((0 : Int), (0 : Int))).2)
 ([] : List (Int × Bool)) y)
 (List.take (g_1.1 + (1 : Int)).toNat
 g.2.1.2.1) ∧
 List.drop (g_1.1 + (1 : Int)).toNat
 g.2.1.2.1 =
 List.drop (g_1.1 + (1 : Int)).toNat
 g.2.1.2.1) ∧
 True) ∧
 (True ∧
 True ∧
 g_1.1 = g_1.1 ∧
 g_1.1 + (1 : Int) = g_1.1 + (1 : Int) ∧ True) ∧
 (g.2.1.2.1 = g.2.1.2.1 ∧
 (g.2.1.1 - (1 : Int) = g.2.1.1 - (1 : Int) ∧
 True ∧ True ∧ True ∧ True ∧ True) ∧
 g.2.1.2.1 = g.2.1.2.1 ∧
 g.2.1.2.2.1 = g.2.1.2.2.1 ∧
 g.2.1.2.2.2.1 =
 g.2.1.2.2.2.1 ∧
 g.2.1.2.2.2.2 =
 g.2.1.2.2.2.2 ∧
 ((x.1.getD g.2.2.2.1.toNat
 ((0 : Int), (0 : Int))).2 =
 (x.1.getD g.2.2.2.1.toNat
 ((0 : Int), (0 : Int))).2 ∧
 True) ∧
 (True ∧ (True ∧ True) ∧ True) ∧
 ((x.1.getD g.2.2.2.1.toNat
 ((0 : Int), (0 : Int))).1 =
 (x.1.getD g.2.2.2.1.toNat
 ((0 : Int), (0 : Int))).1 ∧
 (x.1.getD g.2.2.2.1.toNat
 ((0 : Int), (0 : Int))).2 =
 (x.1.getD
 g.2.2.2.1.toNat
 ((0 : Int), (0 : Int))).2 ∧
 True) ∧
 ((True ∧ True) ∧ True) ∧
 g.2.2.1 = g.2.2.1 ∧
 ((x.1.getD g.2.2.2.1.toNat
 ((0 : Int),
 (0 : Int))).1 =
 (x.1.getD
 g.2.2.2.1.toNat
 ((0 : Int),
 (0 : Int))).1 ∧
 (x.1.getD
 g.2.2.2.1.toNat
 ((0 : Int),
 (0 : Int))).2 =
 (x.1.getD
 g.2.2.2.1.toNat
 ((0 : Int),
 (0 : Int))).2 ∧
 True) ∧
 True) ∧
 (True ∧ True) ∧
 (x.1.getD g.2.2.2.1.toNat
 ((0 : Int), (0 : Int))).2 =
 (x.1.getD g.2.2.2.1.toNat
 ((0 : Int), (0 : Int))).2 ∧
 True ∧
 (True ∧ True) ∧
 (True ∧ True) ∧
 (True ∧ True) ∧
 (True ∧ True) ∧
 (True ∧ True) ∧
 True ∧
 True ∧
 True ∧
 True ∧
 True ∧
 True ∧
 True ∧
 True ∧
 True ∧
 True ∧
 True ∧
 True ∧
 True ∧
 True ∧
 True ∧
 True ∧
 (True ∧
 True) ∧
 ((x.1.getD
 g.2.2.2.1.toNat
 ((0 :
 Int),
 (0 :
 Int))).1 =
 (x.1.getD
 g.2.2.2.1.toNat
 ((0 :
 Int),
 (0 :
 Int))).1 ∧
 (x.1.getD
 g.2.2.2.1.toNat
 ((0 :
 Int),
 (0 :
 Int))).2 =
 (x.1.getD
 g.2.2.2.1.toNat
 ((0 :
 Int),
 (0 :
 Int))).2 ∧
 True) ∧
 True ∧
 (True ∧
 True) ∧
 (0 :
 Int) =
 (0 :
 Int) ∧
 decide
 ((0 :
 Int) ≤
 idx
 g.2.1.2.1
 (x.1.getD
 g.2.2.2.1.toNat
 ((0 :
 Int),
 (0 :
 Int))).2) =
 decide
 ((0 :
 Int) ≤
 idx
 g.2.1.2.1
 (x.1.getD
 g.2.2.2.1.toNat
 ((0 :
 Int),
 (0 :
 Int))).2) ∧
 false =
 false ∧
 (True ∧
 True) ∧
 (x.1.getD
 g.2.2.2.1.toNat
 ((0 :
 Int),
 (0 :
 Int))).1 =
 (x.1.getD
 g.2.2.2.1.toNat
 ((0 :
 Int),
 (0 :
 Int))).1 ∧
 decide
 ((x.1.getD
 g.2.2.2.1.toNat
 ((0 :
 Int),
 (0 :
 Int))).1 <
 (1 :
 Int)) =
 decide
 ((x.1.getD
 g.2.2.2.1.toNat
 ((0 :
 Int),
 (0 :
 Int))).1 <
 (1 :
 Int)) ∧
 decide
 ((x.1.getD
 g.2.2.2.1.toNat
 ((0 :
 Int),
 (0 :
 Int))).1 <
 (1 :
 Int)) =
 decide
 ((x.1.getD
 g.2.2.2.1.toNat
 ((0 :
 Int),
 (0 :
 Int))).1 <
 (1 :
 Int)) ∧
 True ∧
 True ∧
 True ∧
 (decide
 ((x.1.getD
 g.2.2.2.1.toNat
 ((0 :
 Int),
 (0 :
 Int))).1 <
 (1 :
 Int)) ||
 decide
 ((5 :
 Int) <
 (x.1.getD
 g.2.2.2.1.toNat
 ((0 :
 Int),
 (0 :
 Int))).1)) =
 (decide
 ((x.1.getD
 g.2.2.2.1.toNat
 ((0 :
 Int),
 (0 :
 Int))).1 <
 (1 :
 Int)) ||
 decide
 ((5 :
 Int) <
 (x.1.getD
 g.2.2.2.1.toNat
 ((0 :
 Int),
 (0 :
 Int))).1)) ∧
 false =
 false ∧
 (True ∧
 True) ∧
 (x.1.getD
 g.2.2.2.1.toNat
 ((0 :
 Int),
 (0 :
 Int))).2 =
 (x.1.getD
 g.2.2.2.1.toNat
 ((0 :
 Int),
 (0 :
 Int))).2 ∧
 decide
 ((x.1.getD
 g.2.2.2.1.toNat
 ((0 :
 Int),
 (0 :
 Int))).2 <
 (0 :
 Int)) =
 decide
 ((x.1.getD
 g.2.2.2.1.toNat
 ((0 :
 Int),
 (0 :
 Int))).2 <
 (0 :
 Int)) ∧
 decide
 ((x.1.getD
 g.2.2.2.1.toNat
 ((0 :
 Int),
 (0 :
 Int))).2 <
 (0 :
 Int)) =
 decide
 ((x.1.getD
 g.2.2.2.1.toNat
 ((0 :
 Int),
 (0 :
 Int))).2 <
 (0 :
 Int)) ∧
 True ∧
 True ∧
 True ∧
 (decide
 ((x.1.getD
 g.2.2.2.1.toNat
 ((0 :
 Int),
 (0 :
 Int))).2 <
 (0 :
 Int)) ||
 decide
 ((63 :
 Int) <
 (x.1.getD
 g.2.2.2.1.toNat
 ((0 :
 Int),
 (0 :
 Int))).2)) =
 (decide
 ((x.1.getD
 g.2.2.2.1.toNat
 ((0 :
 Int),
 (0 :
 Int))).2 <
 (0 :
 Int)) ||
 decide
 ((63 :
 Int) <
 (x.1.getD
 g.2.2.2.1.toNat
 ((0 :
 Int),
 (0 :
 Int))).2)) ∧
 (True ∧
 True) ∧
 (True ∧
 True) ∧
 (True ∧
 True) ∧
 True ∧
 (True ∧
 True) ∧
 (x.1.getD
 g.2.2.2.1.toNat
 ((0 :
 Int),
 (0 :
 Int))).2 =
 (x.1.getD
 g.2.2.2.1.toNat
 ((0 :
 Int),
 (0 :
 Int))).2 ∧
 decide
 ((0 :
 Int) ≤
 idx
 g.2.1.2.1
 (x.1.getD
 g.2.2.2.1.toNat
 ((0 :
 Int),
 (0 :
 Int))).2) =
 decide
 ((0 :
 Int) ≤
 idx
 g.2.1.2.1
 (x.1.getD
 g.2.2.2.1.toNat
 ((0 :
 Int),
 (0 :
 Int))).2) ∧
 (True ∧
 True) ∧
 (x.1.getD
 g.2.2.2.1.toNat
 ((0 :
 Int),
 (0 :
 Int))).1 =
 (x.1.getD
 g.2.2.2.1.toNat
 ((0 :
 Int),
 (0 :
 Int))).1 ∧
 false =
 false ∧
 ((x.1.getD
 g.2.2.2.1.toNat
 ((0 :
 Int),
 (0 :
 Int))).1 ==
 (1 :
 Int)) =
 ((x.1.getD
 g.2.2.2.1.toNat
 ((0 :
 Int),
 (0 :
 Int))).1 ==
 (1 :
 Int)) ∧
 True ∧
 True ∧
 True ∧
 True ∧
 True ∧
 True ∧
 True ∧
 True ∧
 True ∧
 True ∧
 True ∧
 True ∧
 True ∧
 True ∧
 True ∧
 True ∧
 True ∧
 True ∧
 True ∧
 True ∧
 True ∧
 True ∧
 True ∧
 True ∧
 True ∧
 True ∧
 True ∧
 True ∧
 true =
 true ∧
 ((x.1.getD
 g.2.2.2.1.toNat
 ((0 :
 Int),
 (0 :
 Int))).1 ==
 (2 :
 Int)) =
 ((x.1.getD
 g.2.2.2.1.toNat
 ((0 :
 Int),
 (0 :
 Int))).1 ==
 (2 :
 Int)) ∧
 false =
 false ∧
 (True ∧
 True) ∧
 (True ∧
 True) ∧
 (True ∧
 True) ∧
 True ∧
 (True ∧
 True) ∧
 (x.1.getD
 g.2.2.2.1.toNat
 ((0 :
 Int),
 (0 :
 Int))).2 =
 (x.1.getD
 g.2.2.2.1.toNat
 ((0 :
 Int),
 (0 :
 Int))).2 ∧
 mval
 Ty.bool
 g.2.1.2.2.2.1
 (x.1.getD
 g.2.2.2.1.toNat
 ((0 :
 Int),
 (0 :
 Int))).2 =
 mval
 Ty.bool
 g.2.1.2.2.2.1
 (x.1.getD
 g.2.2.2.1.toNat
 ((0 :
 Int),
 (0 :
 Int))).2 ∧
 false =
 false ∧
 decide
 ((0 :
 Int) ≤
 idx
 g.2.1.2.1
 (x.1.getD
 g.2.2.2.1.toNat
 ((0 :
 Int),
 (0 :
 Int))).2) =
 decide
 ((0 :
 Int) ≤
 idx
 g.2.1.2.1
 (x.1.getD
 g.2.2.2.1.toNat
 ((0 :
 Int),
 (0 :
 Int))).2) ∧
 (!decide
 ((0 :
 Int) ≤
 idx
 g.2.1.2.1
 (x.1.getD
 g.2.2.2.1.toNat
 ((0 :
 Int),
 (0 :
 Int))).2)) =
 !decide
 ((0 :
 Int) ≤
 idx
 g.2.1.2.1
 (x.1.getD
 g.2.2.2.1.toNat
 ((0 :
 Int),
 (0 :
 Int))).2) ∧
 false =
 false ∧
 (True ∧
 True) ∧
 (True ∧
 True) ∧
 (True ∧
 True) ∧
 g.2.1.1 =
 g.2.1.1 ∧
 (g.2.1.1 ==
 (0 :
 Int)) =
 (g.2.1.1 ==
 (0 :
 Int)) ∧
 (True ∧
 True) ∧
 (True ∧
 True) ∧
 (True ∧
 True) ∧
 g.2.1.1 =
 g.2.1.1 ∧
 g.2.1.1 -
 (1 :
 Int) =
 g.2.1.1 -
 (1 :
 Int) ∧
 (True ∧
 True) ∧
 (True ∧
 True) ∧
 (True ∧
 True) ∧
 (True ∧
 True) ∧
 (x.1.getD
 g.2.2.2.1.toNat
 ((0 :
 Int),
 (0 :
 Int))).2 =
 (x.1.getD
 g.2.2.2.1.toNat
 ((0 :
 Int),
 (0 :
 Int))).2 ∧
 True ∧
 True ∧
 True ∧
 True ∧
 True ∧
 True ∧
 True ∧
 True ∧
 True ∧
 True ∧
 True ∧
 True ∧
 True ∧
 True ∧
 True ∧
 True ∧
 True ∧
 True ∧
 True ∧
 True ∧
 True ∧
 True ∧
 True ∧
 True ∧
 True ∧
 True ∧
 True ∧
 True ∧
 True ∧
 True ∧
 True ∧
 True ∧
 True ∧
 True ∧
 True ∧
 True ∧
 True ∧
 True ∧
 True ∧
 True ∧
 True ∧
 True ∧
 True ∧
 True ∧
 True ∧
 True ∧
 True ∧
 True ∧
 True ∧
 True ∧
 True ∧
 True ∧
 True ∧
 True ∧
 True ∧
 True ∧
 True ∧
 True ∧
 True ∧
 True ∧
 True ∧
 True ∧
 True ∧
 True ∧
 True ∧
 True ∧
 True ∧
 True ∧
 True ∧
 True ∧
 True ∧
 True ∧
 True ∧
 True ∧
 True ∧
 True ∧
 True ∧
 True ∧
 True ∧
 True ∧
 (True ∧
 True) ∧
 True ∧
 True ∧
 (True ∧
 True) ∧
 True ∧
 True ∧
 True ∧
 True ∧
 (True ∧
 True) ∧
 x.1 =
 x.1 ∧
 (↑x.1.length :
 Int) =
 (↑x.1.length :
 Int) ∧
 g.2.2.2.1 =
 g.2.2.2.1 ∧
 true =
 true ∧
 True ∧
 ((x.1.getD
 g.2.2.2.1.toNat
 ((0 :
 Int),
 (0 :
 Int))).1 =
 (x.1.getD
 g.2.2.2.1.toNat
 ((0 :
 Int),
 (0 :
 Int))).1 ∧
 (x.1.getD
 g.2.2.2.1.toNat
 ((0 :
 Int),
 (0 :
 Int))).2 =
 (x.1.getD
 g.2.2.2.1.toNat
 ((0 :
 Int),
 (0 :
 Int))).2 ∧
 True) ∧
 True ∧
 (True ∧
 True) ∧
 ((x.1.getD
 g.2.2.2.1.toNat
 ((0 :
 Int),
 (0 :
 Int))).1 =
 (x.1.getD
 g.2.2.2.1.toNat
 ((0 :
 Int),
 (0 :
 Int))).1 ∧
 (x.1.getD
 g.2.2.2.1.toNat
 ((0 :
 Int),
 (0 :
 Int))).2 =
 (x.1.getD
 g.2.2.2.1.toNat
 ((0 :
 Int),
 (0 :
 Int))).2 ∧
 True) ∧
 True ∧
 True ∧
 True ∧
 True ∧
 True ∧
 True ∧
 True ∧
 True ∧
 True ∧
 True ∧
 True ∧
 True ∧
 True ∧
 True ∧
 True ∧
 True ∧
 True ∧
 True ∧
 True ∧
 True ∧
 True ∧
 True) ∧
 ∀ (g_2 : List Int × Int × Int × Unit),
 ((0 : Int) ≤ g_2.2.1 ∧
 g_2.2.1 ≤ g_2.2.2.1 ∧
 g_2.2.2.1 ≤ (↑g.2.1.2.1.length : Int)) ∧
 g_2.1.length = g.2.1.2.1.length ∧
 List.take g_2.2.1.toNat g_2.1 =
 List.filter
 (fun y ↦
 !capF
 (some
 (x.1.getD g.2.2.2.1.toNat
 ((0 : Int), (0 : Int))).2)
 ([] : List (Int × Bool)) y)
 (List.take g_2.2.2.1.toNat
 g.2.1.2.1) ∧
 List.drop g_2.2.2.1.toNat g_2.1 =
 List.drop g_2.2.2.1.toNat g.2.1.2.1 →
 (g_2.1.length ≤ (9223372036854775807 : Nat) ∧
 ∀ (x : Int),
 x ∈ g_2.1 →
 (-9223372036854775808 : Int) ≤ x ∧
 x ≤ (9223372036854775807 : Int)) ∧
 ((-9223372036854775808 : Int) ≤ g_2.2.1 ∧
 g_2.2.1 ≤ (9223372036854775807 : Int)) ∧
 ((-9223372036854775808 : Int) ≤ g_2.2.2.1 ∧
 g_2.2.2.1 ≤ (9223372036854775807 : Int)) ∧
 True →
 (decide (g_2.2.2.1 < (↑g_2.1.length : Int)) =
 true →
 ((0 : Int) ≤ g_2.2.2.1 ∧
 g_2.2.2.1 < (↑g_2.1.length : Int)) ∧
 ((!g_2.1.getD g_2.2.2.1.toNat (0 : Int) ==
 (x.1.getD g.2.2.2.1.toNat
 ((0 : Int), (0 : Int))).2) =
 true →
 ((0 : Int) ≤ g_2.2.1 ∧
 g_2.2.1 < (↑g_2.1.length : Int)) ∧
 ((-9223372036854775808 : Int) ≤
 g_2.2.1 + (1 : Int) ∧
 g_2.2.1 + (1 : Int) ≤
 (9223372036854775807 : Int)) ∧
 ((-9223372036854775808 : Int) ≤
 g_2.2.2.1 + (1 : Int) ∧
 g_2.2.2.1 + (1 : Int) ≤
 (9223372036854775807 : Int)) ∧
 ((((0 : Int) ≤ g_2.2.1 + (1 : Int) ∧
 g_2.2.1 + (1 : Int) ≤
 g_2.2.2.1 + (1 : Int) ∧
 g_2.2.2.1 + (1 : Int) ≤
 (↑g.2.1.2.1.length :
 Int)) ∧
 (g_2.1.set g_2.2.1.toNat
 (g_2.1.getD
 g_2.2.2.1.toNat
 (0 : Int))).length =
 g.2.1.2.1.length ∧
 List.take
 (g_2.2.1 +
 (1 : Int)).toNat
 (g_2.1.set
 g_2.2.1.toNat
 (g_2.1.getD
 g_2.2.2.1.toNat
 (0 : Int))) =
 List.filter
 (fun y ↦
 !capF
 (some
 (x.1.getD
 g.2.2.2.1.toNat
 ((0 : Int),
 (0 :
 Int))).2)
 ([] :
 List (Int × Bool))
 y)
 (List.take
 (g_2.2.2.1 +
 (1 : Int)).toNat
 g.2.1.2.1) ∧
 List.drop
 (g_2.2.2.1 +
 (1 : Int)).toNat
 (g_2.1.set
 g_2.2.1.toNat
 (g_2.1.getD
 g_2.2.2.1.toNat
 (0 : Int))) =
 List.drop
 (g_2.2.2.1 +
 (1 : Int)).toNat
 g.2.1.2.1) ∧
 ((↑g.2.1.2.1.length : Int) -
 (g_2.2.2.1 +
 (1 : Int))).toNat <
 ((↑g.2.1.2.1.length : Int) -
 g_2.2.2.1).toNat) ∧
 (True ∧
 True ∧
 g_2.2.1 + (1 : Int) =
 g_2.2.1 + (1 : Int) ∧
 g_2.2.2.1 + (1 : Int) =
 g_2.2.2.1 +
 (1 : Int) ∧
 True) ∧
 (g_2.1.set g_2.2.1.toNat
 (g_2.1.getD
 g_2.2.2.1.toNat
 (0 : Int)) =
 g_2.1.set g_2.2.1.toNat
 (g_2.1.getD
 g_2.2.2.1.toNat
 (0 : Int)) ∧
 (g.2.1.1 - (1 : Int) =
 g.2.1.1 - (1 : Int) ∧
 True ∧
 True ∧ True ∧ True ∧ True) ∧
 g.2.1.2.1 =
 g.2.1.2.1 ∧
 g.2.1.2.2.1 =
 g.2.1.2.2.1 ∧
 g.2.1.2.2.2.1 =
 g.2.1.2.2.2.1 ∧
 g.2.1.2.2.2.2 =
 g.2.1.2.2.2.2 ∧
 ((x.1.getD
 g.2.2.2.1.toNat
 ((0 : Int),
 (0 :
 Int))).2 =
 (x.1.getD
 g.2.2.2.1.toNat
 ((0 : Int),
 (0 :
 Int))).2 ∧
 True) ∧
 (True ∧
 (True ∧ True) ∧
 True) ∧
 ((x.1.getD
 g.2.2.2.1.toNat
 ((0 :
 Int),
 (0 :
 Int))).1 =
 (x.1.getD
 g.2.2.2.1.toNat
 ((0 :
 Int),
 (0 :
 Int))).1 ∧
 (x.1.getD
 g.2.2.2.1.toNat
 ((0 :
 Int),
 (0 :
 Int))).2 =
 (x.1.getD
 g.2.2.2.1.toNat
 ((0 :
 Int),
 (0 :
 Int))).2 ∧
 True) ∧
 ((True ∧ True) ∧
 True) ∧
 g.2.2.1 =
 g.2.2.1 ∧
 ((x.1.getD
 g.2.2.2.1.toNat
 ((0 :
 Int),
 (0 :
 Int))).1 =
 (x.1.getD
 g.2.2.2.1.toNat
 ((0 :
 Int),
 (0 :
 Int))).1 ∧
 (x.1.getD
 g.2.2.2.1.toNat
 ((0 :
 Int),
 (0 :
 Int))).2 =
 (x.1.getD
 g.2.2.2.1.toNat
 ((0 :
 Int),
 (0 :
 Int))).2 ∧
 True) ∧
 True) ∧
 (True ∧ True) ∧
 (x.1.getD
 g.2.2.2.1.toNat
 ((0 : Int),
 (0 : Int))).2 =
 (x.1.getD
 g.2.2.2.1.toNat
 ((0 : Int),
 (0 : Int))).2 ∧
 True ∧
 (True ∧ True) ∧
 (True ∧ True) ∧
 (True ∧ True) ∧
 (True ∧ True) ∧
 (True ∧ True) ∧
 True ∧
 True ∧
 True ∧
 True ∧
 True ∧
 True ∧
 True ∧
 True ∧
 True ∧
 True ∧
 True ∧
 True ∧
 True ∧
 True ∧
 True ∧
 True ∧
 (True ∧
 True) ∧
 ((x.1.getD
 g.2.2.2.1.toNat
 ((0 :
 Int),
 (0 :
 Int))).1 =
 (x.1.getD
 g.2.2.2.1.toNat
 ((0 :
 Int),
 (0 :
 Int))).1 ∧
 (x.1.getD
 g.2.2.2.1.toNat
 ((0 :
 Int),
 (0 :
 Int))).2 =
 (x.1.getD
 g.2.2.2.1.toNat
 ((0 :
 Int),
 (0 :
 Int))).2 ∧
 True) ∧
 True ∧
 (True ∧
 True) ∧
 (0 :
 Int) =
 (0 :
 Int) ∧
 decide
 ((0 :
 Int) ≤
 idx
 g.2.1.2.1
 (x.1.getD
 g.2.2.2.1.toNat
 ((0 :
 Int),
 (0 :
 Int))).2) =
 decide
 ((0 :
 Int) ≤
 idx
 g.2.1.2.1
 (x.1.getD
 g.2.2.2.1.toNat
 ((0 :
 Int),
 (0 :
 Int))).2) ∧
 false =
 false ∧
 (True ∧
 True) ∧
 (x.1.getD
 g.2.2.2.1.toNat
 ((0 :
 Int),
 (0 :
 Int))).1 =
 (x.1.getD
 g.2.2.2.1.toNat
 ((0 :
 Int),
 (0 :
 Int))).1 ∧
 decide
 ((x.1.getD
 g.2.2.2.1.toNat
 ((0 :
 Int),
 (0 :
 Int))).1 <
 (1 :
 Int)) =
 decide
 ((x.1.getD
 g.2.2.2.1.toNat
 ((0 :
 Int),
 (0 :
 Int))).1 <
 (1 :
 Int)) ∧
 decide
 ((x.1.getD
 g.2.2.2.1.toNat
 ((0 :
 Int),
 (0 :
 Int))).1 <
 (1 :
 Int)) =
 decide
 ((x.1.getD
 g.2.2.2.1.toNat
 ((0 :
 Int),
 (0 :
 Int))).1 <
 (1 :
 Int)) ∧
 True ∧
 True ∧
 True ∧
 (decide
 ((x.1.getD
 g.2.2.2.1.toNat
 ((0 :
 Int),
 (0 :
 Int))).1 <
 (1 :
 Int)) ||
 decide
 ((5 :
 Int) <
 (x.1.getD
 g.2.2.2.1.toNat
 ((0 :
 Int),
 (0 :
 Int))).1)) =
 (decide
 ((x.1.getD
 g.2.2.2.1.toNat
 ((0 :
 Int),
 (0 :
 Int))).1 <
 (1 :
 Int)) ||
 decide
 ((5 :
 Int) <
 (x.1.getD
 g.2.2.2.1.toNat
 ((0 :
 Int),
 (0 :
 Int))).1)) ∧
 false =
 false ∧
 (True ∧
 True) ∧
 (x.1.getD
 g.2.2.2.1.toNat
 ((0 :
 Int),
 (0 :
 Int))).2 =
 (x.1.getD
 g.2.2.2.1.toNat
 ((0 :
 Int),
 (0 :
 Int))).2 ∧
 decide
 ((x.1.getD
 g.2.2.2.1.toNat
 ((0 :
 Int),
 (0 :
 Int))).2 <
 (0 :
 Int)) =
 decide
 ((x.1.getD
 g.2.2.2.1.toNat
 ((0 :
 Int),
 (0 :
 Int))).2 <
 (0 :
 Int)) ∧
 decide
 ((x.1.getD
 g.2.2.2.1.toNat
 ((0 :
 Int),
 (0 :
 Int))).2 <
 (0 :
 Int)) =
 decide
 ((x.1.getD
 g.2.2.2.1.toNat
 ((0 :
 Int),
 (0 :
 Int))).2 <
 (0 :
 Int)) ∧
 True ∧
 True ∧
 True ∧
 (decide
 ((x.1.getD
 g.2.2.2.1.toNat
 ((0 :
 Int),
 (0 :
 Int))).2 <
 (0 :
 Int)) ||
 decide
 ((63 :
 Int) <
 (x.1.getD
 g.2.2.2.1.toNat
 ((0 :
 Int),
 (0 :
 Int))).2)) =
 (decide
 ((x.1.getD
 g.2.2.2.1.toNat
 ((0 :
 Int),
 (0 :
 Int))).2 <
 (0 :
 Int)) ||
 decide
 ((63 :
 Int) <
 (x.1.getD
 g.2.2.2.1.toNat
 ((0 :
 Int),
 (0 :
 Int))).2)) ∧
 (True ∧
 True) ∧
 (True ∧
 True) ∧
 (True ∧
 True) ∧
 True ∧
 (True ∧
 True) ∧
 (x.1.getD
 g.2.2.2.1.toNat
 ((0 :
 Int),
 (0 :
 Int))).2 =
 (x.1.getD
 g.2.2.2.1.toNat
 ((0 :
 Int),
 (0 :
 Int))).2 ∧
 decide
 ((0 :
 Int) ≤
 idx
 g.2.1.2.1
 (x.1.getD
 g.2.2.2.1.toNat
 ((0 :
 Int),
 (0 :
 Int))).2) =
 decide
 ((0 :
 Int) ≤
 idx
 g.2.1.2.1
 (x.1.getD
 g.2.2.2.1.toNat
 ((0 :
 Int),
 (0 :
 Int))).2) ∧
 (True ∧
 True) ∧
 (x.1.getD
 g.2.2.2.1.toNat
 ((0 :
 Int),
 (0 :
 Int))).1 =
 (x.1.getD
 g.2.2.2.1.toNat
 ((0 :
 Int),
 (0 :
 Int))).1 ∧
 false =
 false ∧
 ((x.1.getD
 g.2.2.2.1.toNat
 ((0 :
 Int),
 (0 :
 Int))).1 ==
 (1 :
 Int)) =
 ((x.1.getD
 g.2.2.2.1.toNat
 ((0 :
 Int),
 (0 :
 Int))).1 ==
 (1 :
 Int)) ∧
 True ∧
 True ∧
 True ∧
 True ∧
 True ∧
 True ∧
 True ∧
 True ∧
 True ∧
 True ∧
 True ∧
 True ∧
 True ∧
 True ∧
 True ∧
 True ∧
 True ∧
 True ∧
 True ∧
 True ∧
 True ∧
 True ∧
 True ∧
 True ∧
 True ∧
 True ∧
 True ∧
 True ∧
 true =
 true ∧
 ((x.1.getD
 g.2.2.2.1.toNat
 ((0 :
 Int),
 (0 :
 Int))).1 ==
 (2 :
 Int)) =
 ((x.1.getD
 g.2.2.2.1.toNat
 ((0 :
 Int),
 (0 :
 Int))).1 ==
 (2 :
 Int)) ∧
 false =
 false ∧
 (True ∧
 True) ∧
 (True ∧
 True) ∧
 (True ∧
 True) ∧
 True ∧
 (True ∧
 True) ∧
 (x.1.getD
 g.2.2.2.1.toNat
 ((0 :
 Int),
 (0 :
 Int))).2 =
 (x.1.getD
 g.2.2.2.1.toNat
 ((0 :
 Int),
 (0 :
 Int))).2 ∧
 mval
 Ty.bool
 g.2.1.2.2.2.1
 (x.1.getD
 g.2.2.2.1.toNat
 ((0 :
 Int),
 (0 :
 Int))).2 =
 mval
 Ty.bool
 g.2.1.2.2.2.1
 (x.1.getD
 g.2.2.2.1.toNat
 ((0 :
 Int),
 (0 :
 Int))).2 ∧
 false =
 false ∧
 decide
 ((0 :
 Int) ≤
 idx
 g.2.1.2.1
 (x.1.getD
 g.2.2.2.1.toNat
 ((0 :
 Int),
 (0 :
 Int))).2) =
 decide
 ((0 :
 Int) ≤
 idx
 g.2.1.2.1
 (x.1.getD
 g.2.2.2.1.toNat
 ((0 :
 Int),
 (0 :
 Int))).2) ∧
 (!decide
 ((0 :
 Int) ≤
 idx
 g.2.1.2.1
 (x.1.getD
 g.2.2.2.1.toNat
 ((0 :
 Int),
 (0 :
 Int))).2)) =
 !decide
 ((0 :
 Int) ≤
 idx
 g.2.1.2.1
 (x.1.getD
 g.2.2.2.1.toNat
 ((0 :
 Int),
 (0 :
 Int))).2) ∧
 false =
 false ∧
 (True ∧
 True) ∧
 (True ∧
 True) ∧
 (True ∧
 True) ∧
 g.2.1.1 =
 g.2.1.1 ∧
 (g.2.1.1 ==
 (0 :
 Int)) =
 (g.2.1.1 ==
 (0 :
 Int)) ∧
 (True ∧
 True) ∧
 (True ∧
 True) ∧
 (True ∧
 True) ∧
 g.2.1.1 =
 g.2.1.1 ∧
 g.2.1.1 -
 (1 :
 Int) =
 g.2.1.1 -
 (1 :
 Int) ∧
 (True ∧
 True) ∧
 (True ∧
 True) ∧
 (True ∧
 True) ∧
 (True ∧
 True) ∧
 (x.1.getD
 g.2.2.2.1.toNat
 ((0 :
 Int),
 (0 :
 Int))).2 =
 (x.1.getD
 g.2.2.2.1.toNat
 ((0 :
 Int),
 (0 :
 Int))).2 ∧
 True ∧
 True ∧
 True ∧
 True ∧
 True ∧
 True ∧
 True ∧
 True ∧
 True ∧
 True ∧
 True ∧
 True ∧
 True ∧
 True ∧
 True ∧
 True ∧
 True ∧
 True ∧
 True ∧
 True ∧
 True ∧
 True ∧
 True ∧
 True ∧
 True ∧
 True ∧
 True ∧
 True ∧
 True ∧
 True ∧
 True ∧
 True ∧
 True ∧
 True ∧
 True ∧
 True ∧
 True ∧
 True ∧
 True ∧
 True ∧
 True ∧
 True ∧
 True ∧
 True ∧
 True ∧
 True ∧
 True ∧
 True ∧
 True ∧
 True ∧
 True ∧
 True ∧
 True ∧
 True ∧
 True ∧
 True ∧
 True ∧
 True ∧
 True ∧
 True ∧
 True ∧
 True ∧
 True ∧
 True ∧
 True ∧
 True ∧
 True ∧
 True ∧
 True ∧
 True ∧
 True ∧
 True ∧
 True ∧
 True ∧
 True ∧
 True ∧
 True ∧
 True ∧
 True ∧
 True ∧
 (True ∧
 True) ∧
 True ∧
 True ∧
 (True ∧
 True) ∧
 True ∧
 True ∧
 True ∧
 True ∧
 (True ∧
 True) ∧
 x.1 =
 x.1 ∧
 (↑x.1.length :
 Int) =
 (↑x.1.length :
 Int) ∧
 g.2.2.2.1 =
 g.2.2.2.1 ∧
 true =
 true ∧
 True ∧
 ((x.1.getD
 g.2.2.2.1.toNat
 ((0 :
 Int),
 (0 :
 Int))).1 =
 (x.1.getD
 g.2.2.2.1.toNat
 ((0 :
 Int),
 (0 :
 Int))).1 ∧
 (x.1.getD
 g.2.2.2.1.toNat
 ((0 :
 Int),
 (0 :
 Int))).2 =
 (x.1.getD
 g.2.2.2.1.toNat
 ((0 :
 Int),
 (0 :
 Int))).2 ∧
 True) ∧
 True ∧
 (True ∧
 True) ∧
 ((x.1.getD
 g.2.2.2.1.toNat
 ((0 :
 Int),
 (0 :
 Int))).1 =
 (x.1.getD
 g.2.2.2.1.toNat
 ((0 :
 Int),
 (0 :
 Int))).1 ∧
 (x.1.getD
 g.2.2.2.1.toNat
 ((0 :
 Int),
 (0 :
 Int))).2 =
 (x.1.getD
 g.2.2.2.1.toNat
 ((0 :
 Int),
 (0 :
 Int))).2 ∧
 True) ∧
 True ∧
 True ∧
 True ∧
 True ∧
 True ∧
 True ∧
 True ∧
 True ∧
 True ∧
 True ∧
 True ∧
 True ∧
 True ∧
 True ∧
 True ∧
 True ∧
 True ∧
 True ∧
 True ∧
 True ∧
 True ∧
 True) ∧
 ((!g_2.1.getD g_2.2.2.1.toNat (0 : Int) ==
 (x.1.getD g.2.2.2.1.toNat
 ((0 : Int), (0 : Int))).2) =
 false →
 ((-9223372036854775808 : Int) ≤
 g_2.2.2.1 + (1 : Int) ∧
 g_2.2.2.1 + (1 : Int) ≤
 (9223372036854775807 : Int)) ∧
 ((((0 : Int) ≤ g_2.2.1 ∧
 g_2.2.1 ≤
 g_2.2.2.1 + (1 : Int) ∧
 g_2.2.2.1 + (1 : Int) ≤
 (↑g.2.1.2.1.length :
 Int)) ∧
 g_2.1.length =
 g.2.1.2.1.length ∧
 List.take g_2.2.1.toNat g_2.1 =
 List.filter
 (fun y ↦
 !capF
 (some
 (x.1.getD
 g.2.2.2.1.toNat
 ((0 : Int),
 (0 : Int))).2)
 ([] : List (Int × Bool))
 y)
 (List.take
 (g_2.2.2.1 +
 (1 : Int)).toNat
 g.2.1.2.1) ∧
 List.drop
 (g_2.2.2.1 +
 (1 : Int)).toNat
 g_2.1 =
 List.drop
 (g_2.2.2.1 +
 (1 : Int)).toNat
 g.2.1.2.1) ∧
 ((↑g.2.1.2.1.length : Int) -
 (g_2.2.2.1 +
 (1 : Int))).toNat <
 ((↑g.2.1.2.1.length : Int) -
 g_2.2.2.1).toNat) ∧
 (True ∧
 True ∧
 g_2.2.1 = g_2.2.1 ∧
 g_2.2.2.1 + (1 : Int) =
 g_2.2.2.1 + (1 : Int) ∧
 True) ∧
 (g_2.1 = g_2.1 ∧
 (g.2.1.1 - (1 : Int) =
 g.2.1.1 - (1 : Int) ∧
 True ∧
 True ∧ True ∧ True ∧ True) ∧
 g.2.1.2.1 =
 g.2.1.2.1 ∧
 g.2.1.2.2.1 =
 g.2.1.2.2.1 ∧
 g.2.1.2.2.2.1 =
 g.2.1.2.2.2.1 ∧
 g.2.1.2.2.2.2 =
 g.2.1.2.2.2.2 ∧
 ((x.1.getD
 g.2.2.2.1.toNat
 ((0 : Int),
 (0 :
 Int))).2 =
 (x.1.getD
 g.2.2.2.1.toNat
 ((0 : Int),
 (0 :
 Int))).2 ∧
 True) ∧
 (True ∧
 (True ∧ True) ∧
 True) ∧
 ((x.1.getD
 g.2.2.2.1.toNat
 ((0 : Int),
 (0 :
 Int))).1 =
 (x.1.getD
 g.2.2.2.1.toNat
 ((0 : Int),
 (0 :
 Int))).1 ∧
 (x.1.getD
 g.2.2.2.1.toNat
 ((0 : Int),
 (0 :
 Int))).2 =
 (x.1.getD
 g.2.2.2.1.toNat
 ((0 : Int),
 (0 :
 Int))).2 ∧
 True) ∧
 ((True ∧ True) ∧
 True) ∧
 g.2.2.1 =
 g.2.2.1 ∧
 ((x.1.getD
 g.2.2.2.1.toNat
 ((0 :
 Int),
 (0 :
 Int))).1 =
 (x.1.getD
 g.2.2.2.1.toNat
 ((0 :
 Int),
 (0 :
 Int))).1 ∧
 (x.1.getD
 g.2.2.2.1.toNat
 ((0 :
 Int),
 (0 :
 Int))).2 =
 (x.1.getD
 g.2.2.2.1.toNat
 ((0 :
 Int),
 (0 :
 Int))).2 ∧
 True) ∧
 True) ∧
 (True ∧ True) ∧
 (x.1.getD g.2.2.2.1.toNat
 ((0 : Int), (0 : Int))).2 =
 (x.1.getD
 g.2.2.2.1.toNat
 ((0 : Int), (0 : Int))).2 ∧
 True ∧
 (True ∧ True) ∧
 (True ∧ True) ∧
 (True ∧ True) ∧
 (True ∧ True) ∧
 (True ∧ True) ∧
 True ∧
 True ∧
 True ∧
 True ∧
 True ∧
 True ∧
 True ∧
 True ∧
 True ∧
 True ∧
 True ∧
 True ∧
 True ∧
 True ∧
 True ∧
 True ∧
 (True ∧
 True) ∧
 ((x.1.getD
 g.2.2.2.1.toNat
 ((0 :
 Int),
 (0 :
 Int))).1 =
 (x.1.getD
 g.2.2.2.1.toNat
 ((0 :
 Int),
 (0 :
 Int))).1 ∧
 (x.1.getD
 g.2.2.2.1.toNat
 ((0 :
 Int),
 (0 :
 Int))).2 =
 (x.1.getD
 g.2.2.2.1.toNat
 ((0 :
 Int),
 (0 :
 Int))).2 ∧
 True) ∧
 True ∧
 (True ∧
 True) ∧
 (0 :
 Int) =
 (0 :
 Int) ∧
 decide
 ((0 :
 Int) ≤
 idx
 g.2.1.2.1
 (x.1.getD
 g.2.2.2.1.toNat
 ((0 :
 Int),
 (0 :
 Int))).2) =
 decide
 ((0 :
 Int) ≤
 idx
 g.2.1.2.1
 (x.1.getD
 g.2.2.2.1.toNat
 ((0 :
 Int),
 (0 :
 Int))).2) ∧
 false =
 false ∧
 (True ∧
 True) ∧
 (x.1.getD
 g.2.2.2.1.toNat
 ((0 :
 Int),
 (0 :
 Int))).1 =
 (x.1.getD
 g.2.2.2.1.toNat
 ((0 :
 Int),
 (0 :
 Int))).1 ∧
 decide
 ((x.1.getD
 g.2.2.2.1.toNat
 ((0 :
 Int),
 (0 :
 Int))).1 <
 (1 :
 Int)) =
 decide
 ((x.1.getD
 g.2.2.2.1.toNat
 ((0 :
 Int),
 (0 :
 Int))).1 <
 (1 :
 Int)) ∧
 decide
 ((x.1.getD
 g.2.2.2.1.toNat
 ((0 :
 Int),
 (0 :
 Int))).1 <
 (1 :
 Int)) =
 decide
 ((x.1.getD
 g.2.2.2.1.toNat
 ((0 :
 Int),
 (0 :
 Int))).1 <
 (1 :
 Int)) ∧
 True ∧
 True ∧
 True ∧
 (decide
 ((x.1.getD
 g.2.2.2.1.toNat
 ((0 :
 Int),
 (0 :
 Int))).1 <
 (1 :
 Int)) ||
 decide
 ((5 :
 Int) <
 (x.1.getD
 g.2.2.2.1.toNat
 ((0 :
 Int),
 (0 :
 Int))).1)) =
 (decide
 ((x.1.getD
 g.2.2.2.1.toNat
 ((0 :
 Int),
 (0 :
 Int))).1 <
 (1 :
 Int)) ||
 decide
 ((5 :
 Int) <
 (x.1.getD
 g.2.2.2.1.toNat
 ((0 :
 Int),
 (0 :
 Int))).1)) ∧
 false =
 false ∧
 (True ∧
 True) ∧
 (x.1.getD
 g.2.2.2.1.toNat
 ((0 :
 Int),
 (0 :
 Int))).2 =
 (x.1.getD
 g.2.2.2.1.toNat
 ((0 :
 Int),
 (0 :
 Int))).2 ∧
 decide
 ((x.1.getD
 g.2.2.2.1.toNat
 ((0 :
 Int),
 (0 :
 Int))).2 <
 (0 :
 Int)) =
 decide
 ((x.1.getD
 g.2.2.2.1.toNat
 ((0 :
 Int),
 (0 :
 Int))).2 <
 (0 :
 Int)) ∧
 decide
 ((x.1.getD
 g.2.2.2.1.toNat
 ((0 :
 Int),
 (0 :
 Int))).2 <
 (0 :
 Int)) =
 decide
 ((x.1.getD
 g.2.2.2.1.toNat
 ((0 :
 Int),
 (0 :
 Int))).2 <
 (0 :
 Int)) ∧
 True ∧
 True ∧
 True ∧
 (decide
 ((x.1.getD
 g.2.2.2.1.toNat
 ((0 :
 Int),
 (0 :
 Int))).2 <
 (0 :
 Int)) ||
 decide
 ((63 :
 Int) <
 (x.1.getD
 g.2.2.2.1.toNat
 ((0 :
 Int),
 (0 :
 Int))).2)) =
 (decide
 ((x.1.getD
 g.2.2.2.1.toNat
 ((0 :
 Int),
 (0 :
 Int))).2 <
 (0 :
 Int)) ||
 decide
 ((63 :
 Int) <
 (x.1.getD
 g.2.2.2.1.toNat
 ((0 :
 Int),
 (0 :
 Int))).2)) ∧
 (True ∧
 True) ∧
 (True ∧
 True) ∧
 (True ∧
 True) ∧
 True ∧
 (True ∧
 True) ∧
 (x.1.getD
 g.2.2.2.1.toNat
 ((0 :
 Int),
 (0 :
 Int))).2 =
 (x.1.getD
 g.2.2.2.1.toNat
 ((0 :
 Int),
 (0 :
 Int))).2 ∧
 decide
 ((0 :
 Int) ≤
 idx
 g.2.1.2.1
 (x.1.getD
 g.2.2.2.1.toNat
 ((0 :
 Int),
 (0 :
 Int))).2) =
 decide
 ((0 :
 Int) ≤
 idx
 g.2.1.2.1
 (x.1.getD
 g.2.2.2.1.toNat
 ((0 :
 Int),
 (0 :
 Int))).2) ∧
 (True ∧
 True) ∧
 (x.1.getD
 g.2.2.2.1.toNat
 ((0 :
 Int),
 (0 :
 Int))).1 =
 (x.1.getD
 g.2.2.2.1.toNat
 ((0 :
 Int),
 (0 :
 Int))).1 ∧
 false =
 false ∧
 ((x.1.getD
 g.2.2.2.1.toNat
 ((0 :
 Int),
 (0 :
 Int))).1 ==
 (1 :
 Int)) =
 ((x.1.getD
 g.2.2.2.1.toNat
 ((0 :
 Int),
 (0 :
 Int))).1 ==
 (1 :
 Int)) ∧
 True ∧
 True ∧
 True ∧
 True ∧
 True ∧
 True ∧
 True ∧
 True ∧
 True ∧
 True ∧
 True ∧
 True ∧
 True ∧
 True ∧
 True ∧
 True ∧
 True ∧
 True ∧
 True ∧
 True ∧
 True ∧
 True ∧
 True ∧
 True ∧
 True ∧
 True ∧
 True ∧
 True ∧
 true =
 true ∧
 ((x.1.getD
 g.2.2.2.1.toNat
 ((0 :
 Int),
 (0 :
 Int))).1 ==
 (2 :
 Int)) =
 ((x.1.getD
 g.2.2.2.1.toNat
 ((0 :
 Int),
 (0 :
 Int))).1 ==
 (2 :
 Int)) ∧
 false =
 false ∧
 (True ∧
 True) ∧
 (True ∧
 True) ∧
 (True ∧
 True) ∧
 True ∧
 (True ∧
 True) ∧
 (x.1.getD
 g.2.2.2.1.toNat
 ((0 :
 Int),
 (0 :
 Int))).2 =
 (x.1.getD
 g.2.2.2.1.toNat
 ((0 :
 Int),
 (0 :
 Int))).2 ∧
 mval
 Ty.bool
 g.2.1.2.2.2.1
 (x.1.getD
 g.2.2.2.1.toNat
 ((0 :
 Int),
 (0 :
 Int))).2 =
 mval
 Ty.bool
 g.2.1.2.2.2.1
 (x.1.getD
 g.2.2.2.1.toNat
 ((0 :
 Int),
 (0 :
 Int))).2 ∧
 false =
 false ∧
 decide
 ((0 :
 Int) ≤
 idx
 g.2.1.2.1
 (x.1.getD
 g.2.2.2.1.toNat
 ((0 :
 Int),
 (0 :
 Int))).2) =
 decide
 ((0 :
 Int) ≤
 idx
 g.2.1.2.1
 (x.1.getD
 g.2.2.2.1.toNat
 ((0 :
 Int),
 (0 :
 Int))).2) ∧
 (!decide
 ((0 :
 Int) ≤
 idx
 g.2.1.2.1
 (x.1.getD
 g.2.2.2.1.toNat
 ((0 :
 Int),
 (0 :
 Int))).2)) =
 !decide
 ((0 :
 Int) ≤
 idx
 g.2.1.2.1
 (x.1.getD
 g.2.2.2.1.toNat
 ((0 :
 Int),
 (0 :
 Int))).2) ∧
 false =
 false ∧
 (True ∧
 True) ∧
 (True ∧
 True) ∧
 (True ∧
 True) ∧
 g.2.1.1 =
 g.2.1.1 ∧
 (g.2.1.1 ==
 (0 :
 Int)) =
 (g.2.1.1 ==
 (0 :
 Int)) ∧
 (True ∧
 True) ∧
 (True ∧
 True) ∧
 (True ∧
 True) ∧
 g.2.1.1 =
 g.2.1.1 ∧
 g.2.1.1 -
 (1 :
 Int) =
 g.2.1.1 -
 (1 :
 Int) ∧
 (True ∧
 True) ∧
 (True ∧
 True) ∧
 (True ∧
 True) ∧
 (True ∧
 True) ∧
 (x.1.getD
 g.2.2.2.1.toNat
 ((0 :
 Int),
 (0 :
 Int))).2 =
 (x.1.getD
 g.2.2.2.1.toNat
 ((0 :
 Int),
 (0 :
 Int))).2 ∧
 True ∧
 True ∧
 True ∧
 True ∧
 True ∧
 True ∧
 True ∧
 True ∧
 True ∧
 True ∧
 True ∧
 True ∧
 True ∧
 True ∧
 True ∧
 True ∧
 True ∧
 True ∧
 True ∧
 True ∧
 True ∧
 True ∧
 True ∧
 True ∧
 True ∧
 True ∧
 True ∧
 True ∧
 True ∧
 True ∧
 True ∧
 True ∧
 True ∧
 True ∧
 True ∧
 True ∧
 True ∧
 True ∧
 True ∧
 True ∧
 True ∧
 True ∧
 True ∧
 True ∧
 True ∧
 True ∧
 True ∧
 True ∧
 True ∧
 True ∧
 True ∧
 True ∧
 True ∧
 True ∧
 True ∧
 True ∧
 True ∧
 True ∧
 True ∧
 True ∧
 True ∧
 True ∧
 True ∧
 True ∧
 True ∧
 True ∧
 True ∧
 True ∧
 True ∧
 True ∧
 True ∧
 True ∧
 True ∧
 True ∧
 True ∧
 True ∧
 True ∧
 True ∧
 True ∧
 True ∧
 (True ∧
 True) ∧
 True ∧
 True ∧
 (True ∧
 True) ∧
 True ∧
 True ∧
 True ∧
 True ∧
 (True ∧
 True) ∧
 x.1 =
 x.1 ∧
 (↑x.1.length :
 Int) =
 (↑x.1.length :
 Int) ∧
 g.2.2.2.1 =
 g.2.2.2.1 ∧
 true =
 true ∧
 True ∧
 ((x.1.getD
 g.2.2.2.1.toNat
 ((0 :
 Int),
 (0 :
 Int))).1 =
 (x.1.getD
 g.2.2.2.1.toNat
 ((0 :
 Int),
 (0 :
 Int))).1 ∧
 (x.1.getD
 g.2.2.2.1.toNat
 ((0 :
 Int),
 (0 :
 Int))).2 =
 (x.1.getD
 g.2.2.2.1.toNat
 ((0 :
 Int),
 (0 :
 Int))).2 ∧
 True) ∧
 True ∧
 (True ∧
 True) ∧
 ((x.1.getD
 g.2.2.2.1.toNat
 ((0 :
 Int),
 (0 :
 Int))).1 =
 (x.1.getD
 g.2.2.2.1.toNat
 ((0 :
 Int),
 (0 :
 Int))).1 ∧
 (x.1.getD
 g.2.2.2.1.toNat
 ((0 :
 Int),
 (0 :
 Int))).2 =
 (x.1.getD
 g.2.2.2.1.toNat
 ((0 :
 Int),
 (0 :
 Int))).2 ∧
 True) ∧
 True ∧
 True ∧
 True ∧
 True ∧
 True ∧
 True ∧
 True ∧
 True ∧
 True ∧
 True ∧
 True ∧
 True ∧
 True ∧
 True ∧
 True ∧
 True ∧
 True ∧
 True ∧
 True ∧
 True ∧
 True ∧
 True)) ∧
 (decide (g_2.2.2.1 < (↑g_2.1.length : Int)) =
 false →
 (((0 : Int) ≤ g_2.2.1 ∧
 g_2.2.1 ≤ (↑g_2.1.length : Int)) ∧
 (↑g_2.1.length : Int) ≤
 (↑g_2.1.length : Int)) ∧
 (((0 : Int) ≤ (0 : Int) ∧ (0 : Int) ≤ g_2.2.1) ∧
 g_2.2.1 ≤
 (↑(List.take g_2.2.1.toNat g_2.1 ++
 (List.replicate
 ((↑g_2.1.length : Int).toNat -
 g_2.2.1.toNat)
 (0 : Int) ++
 List.drop
 (g_2.2.1.toNat +
 ((↑g_2.1.length : Int).toNat -
 g_2.2.1.toNat))
 g_2.1)).length :
 Int)) ∧
 (g.2.1.2.2.2.2.length +
 (((0 : Int) :: ([] : List Int)).set
 (0 : Nat)
 (x.1.getD g.2.2.2.1.toNat
 ((0 : Int),
 (0 : Int))).2).length ≤
 (9223372036854775807 : Nat) ∧
 (g.2.1.2.2.2.2.length +
 (((0 : Int) :: ([] : List Int)).set
 (0 : Nat)
 (x.1.getD
 g.2.2.2.1.toNat
 ((0 : Int),
 (0 : Int))).2).length +
 (g.2.1.2.2.2.2.length +
 (((0 : Int) ::
 ([] : List Int)).set
 (0 : Nat)
 (x.1.getD
 g.2.2.2.1.toNat
 ((0 : Int),
 (0 :
 Int))).2).length) /
 (4 : Nat) +
 (192 : Nat)) *
 (8 : Nat) ≤
 (281474976710656 : Nat)) ∧
 (decide
 ((0 : Int) <
 g.2.1.1 - (1 : Int)) =
 true →
 ((((0 : Int) ≤ (0 : Int) ∧
 (0 : Int) ≤
 (↑(List.drop (nat_lit 0)
 (List.take
 g_2.2.1.toNat
 (List.take
 g_2.2.1.toNat
 g_2.1 ++
 (List.replicate
 ((↑g_2.1.length :
 Int).toNat -
 g_2.2.1.toNat)
 (0 : Int) ++
 List.drop
 (g_2.2.1.toNat +
 ((↑g_2.1.length :
 Int).toNat -
 g_2.2.1.toNat))
 g_2.1)))).length :
 Int) ∧
 ((List.take (Int.toNat (0 : Int))
 (List.drop (nat_lit 0)
 (List.take
 g_2.2.1.toNat
 (List.take
 g_2.2.1.toNat
 g_2.1 ++
 (List.replicate
 ((↑g_2.1.length :
 Int).toNat -
 g_2.2.1.toNat)
 (0 : Int) ++
 List.drop
 (g_2.2.1.toNat +
 ((↑g_2.1.length :
 Int).toNat -
 g_2.2.1.toNat))
 g_2.1))))).all
 fun y ↦
 mval Ty.bool
 (mdel Ty.bool
 g.2.1.2.2.1
 (x.1.getD
 g.2.2.2.1.toNat
 ((0 : Int),
 (0 : Int))).2)
 y) =
 true) ∧
 True) ∧
 ((True ∧ True) ∧
 True ∧
 (↑(List.drop (nat_lit 0)
 (List.take
 g_2.2.1.toNat
 (List.take
 g_2.2.1.toNat
 g_2.1 ++
 (List.replicate
 ((↑g_2.1.length :
 Int).toNat -
 g_2.2.1.toNat)
 (0 : Int) ++
 List.drop
 (g_2.2.1.toNat +
 ((↑g_2.1.length :
 Int).toNat -
 g_2.2.1.toNat))
 g_2.1)))).length :
 Int) =
 (↑(List.drop (nat_lit 0)
 (List.take
 g_2.2.1.toNat
 (List.take
 g_2.2.1.toNat
 g_2.1 ++
 (List.replicate
 ((↑g_2.1.length :
 Int).toNat -
 g_2.2.1.toNat)
 (0 : Int) ++
 List.drop
 (g_2.2.1.toNat +
 ((↑g_2.1.length :
 Int).toNat -
 g_2.2.1.toNat))
 g_2.1)))).length :
 Int) ∧
 (0 : Int) = (0 : Int) ∧ True) ∧
 ((g.2.1.1 - (1 : Int) =
 g.2.1.1 - (1 : Int) ∧
 True ∧
 True ∧ True ∧ True ∧ True) ∧
 List.drop (nat_lit 0)
 (List.take g_2.2.1.toNat
 (List.take
 g_2.2.1.toNat
 g_2.1 ++
 (List.replicate
 ((↑g_2.1.length :
 Int).toNat -
 g_2.2.1.toNat)
 (0 : Int) ++
 List.drop
 (g_2.2.1.toNat +
 ((↑g_2.1.length :
 Int).toNat -
 g_2.2.1.toNat))
 g_2.1))) =
 List.drop (nat_lit 0)
 (List.take g_2.2.1.toNat
 (List.take
 g_2.2.1.toNat
 g_2.1 ++
 (List.replicate
 ((↑g_2.1.length :
 Int).toNat -
 g_2.2.1.toNat)
 (0 : Int) ++
 List.drop
 (g_2.2.1.toNat +
 ((↑g_2.1.length :
 Int).toNat -
 g_2.2.1.toNat))
 g_2.1))) ∧
 mdel Ty.bool
 g.2.1.2.2.1
 (x.1.getD
 g.2.2.2.1.toNat
 ((0 : Int),
 (0 : Int))).2 =
 mdel Ty.bool
 g.2.1.2.2.1
 (x.1.getD
 g.2.2.2.1.toNat
 ((0 : Int),
 (0 : Int))).2 ∧
 mdel Ty.bool
 g.2.1.2.2.2.1
 (x.1.getD
 g.2.2.2.1.toNat
 ((0 : Int),
 (0 : Int))).2 =
 mdel Ty.bool
 g.2.1.2.2.2.1
 (x.1.getD
 g.2.2.2.1.toNat
 ((0 : Int),
 (0 : Int))).2 ∧
 g.2.1.2.2.2.2 ++
 ((0 : Int) ::
 ([] :
 List Int)).set
 (0 : Nat)
 (x.1.getD
 g.2.2.2.1.toNat
 ((0 : Int),
 (0 :
 Int))).2 =
 g.2.1.2.2.2.2 ++
 ((0 : Int) ::
 ([] :
 List Int)).set
 (0 : Nat)
 (x.1.getD
 g.2.2.2.1.toNat
 ((0 : Int),
 (0 :
 Int))).2 ∧
 ((x.1.getD
 g.2.2.2.1.toNat
 ((0 : Int),
 (0 :
 Int))).1 =
 (x.1.getD
 g.2.2.2.1.toNat
 ((0 : Int),
 (0 :
 Int))).1 ∧
 (x.1.getD
 g.2.2.2.1.toNat
 ((0 : Int),
 (0 :
 Int))).2 =
 (x.1.getD
 g.2.2.2.1.toNat
 ((0 : Int),
 (0 :
 Int))).2 ∧
 True) ∧
 g.2.1.2.1 =
 g.2.1.2.1 ∧
 ((0 : Int) ::
 ([] :
 List
 Int)).set
 (0 : Nat)
 (x.1.getD
 g.2.2.2.1.toNat
 ((0 : Int),
 (0 :
 Int))).2 =
 ((0 : Int) ::
 ([] :
 List
 Int)).set
 (0 : Nat)
 (x.1.getD
 g.2.2.2.1.toNat
 ((0 : Int),
 (0 :
 Int))).2 ∧
 ((True ∧ True) ∧
 True) ∧
 g.2.2.1 =
 g.2.2.1 ∧
 ((x.1.getD
 g.2.2.2.1.toNat
 ((0 :
 Int),
 (0 :
 Int))).1 =
 (x.1.getD
 g.2.2.2.1.toNat
 ((0 :
 Int),
 (0 :
 Int))).1 ∧
 (x.1.getD
 g.2.2.2.1.toNat
 ((0 :
 Int),
 (0 :
 Int))).2 =
 (x.1.getD
 g.2.2.2.1.toNat
 ((0 :
 Int),
 (0 :
 Int))).2 ∧
 True) ∧
 True) ∧
 (True ∧ True) ∧
 ((x.1.getD
 g.2.2.2.1.toNat
 ((0 : Int),
 (0 : Int))).1 =
 (x.1.getD
 g.2.2.2.1.toNat
 ((0 : Int),
 (0 : Int))).1 ∧
 (x.1.getD
 g.2.2.2.1.toNat
 ((0 : Int),
 (0 : Int))).2 =
 (x.1.getD
 g.2.2.2.1.toNat
 ((0 : Int),
 (0 : Int))).2 ∧
 True) ∧
 True ∧
 (True ∧ True) ∧
 (0 : Int) = (0 : Int) ∧
 decide
 ((0 : Int) ≤
 idx
 g.2.1.2.1
 (x.1.getD
 g.2.2.2.1.toNat
 ((0 : Int),
 (0 :
 Int))).2) =
 decide
 ((0 : Int) ≤
 idx
 g.2.1.2.1
 (x.1.getD
 g.2.2.2.1.toNat
 ((0 : Int),
 (0 :
 Int))).2) ∧
 false = false ∧
 (True ∧ True) ∧
 (x.1.getD
 g.2.2.2.1.toNat
 ((0 : Int),
 (0 :
 Int))).1 =
 (x.1.getD
 g.2.2.2.1.toNat
 ((0 : Int),
 (0 :
 Int))).1 ∧
 decide
 ((x.1.getD
 g.2.2.2.1.toNat
 ((0 :
 Int),
 (0 :
 Int))).1 <
 (1 :
 Int)) =
 decide
 ((x.1.getD
 g.2.2.2.1.toNat
 ((0 :
 Int),
 (0 :
 Int))).1 <
 (1 :
 Int)) ∧
 decide
 ((x.1.getD
 g.2.2.2.1.toNat
 ((0 :
 Int),
 (0 :
 Int))).1 <
 (1 :
 Int)) =
 decide
 ((x.1.getD
 g.2.2.2.1.toNat
 ((0 :
 Int),
 (0 :
 Int))).1 <
 (1 :
 Int)) ∧
 True ∧
 True ∧
 True ∧
 (decide
 ((x.1.getD
 g.2.2.2.1.toNat
 ((0 :
 Int),
 (0 :
 Int))).1 <
 (1 :
 Int)) ||
 decide
 ((5 :
 Int) <
 (x.1.getD
 g.2.2.2.1.toNat
 ((0 :
 Int),
 (0 :
 Int))).1)) =
 (decide
 ((x.1.getD
 g.2.2.2.1.toNat
 ((0 :
 Int),
 (0 :
 Int))).1 <
 (1 :
 Int)) ||
 decide
 ((5 :
 Int) <
 (x.1.getD
 g.2.2.2.1.toNat
 ((0 :
 Int),
 (0 :
 Int))).1)) ∧
 false =
 false ∧
 (True ∧
 True) ∧
 (x.1.getD
 g.2.2.2.1.toNat
 ((0 :
 Int),
 (0 :
 Int))).2 =
 (x.1.getD
 g.2.2.2.1.toNat
 ((0 :
 Int),
 (0 :
 Int))).2 ∧
 decide
 ((x.1.getD
 g.2.2.2.1.toNat
 ((0 :
 Int),
 (0 :
 Int))).2 <
 (0 :
 Int)) =
 decide
 ((x.1.getD
 g.2.2.2.1.toNat
 ((0 :
 Int),
 (0 :
 Int))).2 <
 (0 :
 Int)) ∧
 decide
 ((x.1.getD
 g.2.2.2.1.toNat
 ((0 :
 Int),
 (0 :
 Int))).2 <
 (0 :
 Int)) =
 decide
 ((x.1.getD
 g.2.2.2.1.toNat
 ((0 :
 Int),
 (0 :
 Int))).2 <
 (0 :
 Int)) ∧
 True ∧
 True ∧
 True ∧
 (decide
 ((x.1.getD
 g.2.2.2.1.toNat
 ((0 :
 Int),
 (0 :
 Int))).2 <
 (0 :
 Int)) ||
 decide
 ((63 :
 Int) <
 (x.1.getD
 g.2.2.2.1.toNat
 ((0 :
 Int),
 (0 :
 Int))).2)) =
 (decide
 ((x.1.getD
 g.2.2.2.1.toNat
 ((0 :
 Int),
 (0 :
 Int))).2 <
 (0 :
 Int)) ||
 decide
 ((63 :
 Int) <
 (x.1.getD
 g.2.2.2.1.toNat
 ((0 :
 Int),
 (0 :
 Int))).2)) ∧
 (True ∧
 True) ∧
 (True ∧
 True) ∧
 (True ∧
 True) ∧
 True ∧
 (True ∧
 True) ∧
 (x.1.getD
 g.2.2.2.1.toNat
 ((0 :
 Int),
 (0 :
 Int))).2 =
 (x.1.getD
 g.2.2.2.1.toNat
 ((0 :
 Int),
 (0 :
 Int))).2 ∧
 decide
 ((0 :
 Int) ≤
 idx
 g.2.1.2.1
 (x.1.getD
 g.2.2.2.1.toNat
 ((0 :
 Int),
 (0 :
 Int))).2) =
 decide
 ((0 :
 Int) ≤
 idx
 g.2.1.2.1
 (x.1.getD
 g.2.2.2.1.toNat
 ((0 :
 Int),
 (0 :
 Int))).2) ∧
 (True ∧
 True) ∧
 (x.1.getD
 g.2.2.2.1.toNat
 ((0 :
 Int),
 (0 :
 Int))).1 =
 (x.1.getD
 g.2.2.2.1.toNat
 ((0 :
 Int),
 (0 :
 Int))).1 ∧
 false =
 false ∧
 ((x.1.getD
 g.2.2.2.1.toNat
 ((0 :
 Int),
 (0 :
 Int))).1 ==
 (1 :
 Int)) =
 ((x.1.getD
 g.2.2.2.1.toNat
 ((0 :
 Int),
 (0 :
 Int))).1 ==
 (1 :
 Int)) ∧
 True ∧
 True ∧
 True ∧
 True ∧
 True ∧
 True ∧
 True ∧
 True ∧
 True ∧
 True ∧
 True ∧
 True ∧
 True ∧
 True ∧
 True ∧
 True ∧
 True ∧
 True ∧
 True ∧
 True ∧
 True ∧
 True ∧
 True ∧
 True ∧
 True ∧
 True ∧
 True ∧
 True ∧
 true =
 true ∧
 ((x.1.getD
 g.2.2.2.1.toNat
 ((0 :
 Int),
 (0 :
 Int))).1 ==
 (2 :
 Int)) =
 ((x.1.getD
 g.2.2.2.1.toNat
 ((0 :
 Int),
 (0 :
 Int))).1 ==
 (2 :
 Int)) ∧
 false =
 false ∧
 (True ∧
 True) ∧
 (True ∧
 True) ∧
 (True ∧
 True) ∧
 True ∧
 (True ∧
 True) ∧
 (x.1.getD
 g.2.2.2.1.toNat
 ((0 :
 Int),
 (0 :
 Int))).2 =
 (x.1.getD
 g.2.2.2.1.toNat
 ((0 :
 Int),
 (0 :
 Int))).2 ∧
 mval
 Ty.bool
 g.2.1.2.2.2.1
 (x.1.getD
 g.2.2.2.1.toNat
 ((0 :
 Int),
 (0 :
 Int))).2 =
 mval
 Ty.bool
 g.2.1.2.2.2.1
 (x.1.getD
 g.2.2.2.1.toNat
 ((0 :
 Int),
 (0 :
 Int))).2 ∧
 false =
 false ∧
 decide
 ((0 :
 Int) ≤
 idx
 g.2.1.2.1
 (x.1.getD
 g.2.2.2.1.toNat
 ((0 :
 Int),
 (0 :
 Int))).2) =
 decide
 ((0 :
 Int) ≤
 idx
 g.2.1.2.1
 (x.1.getD
 g.2.2.2.1.toNat
 ((0 :
 Int),
 (0 :
 Int))).2) ∧
 (!decide
 ((0 :
 Int) ≤
 idx
 g.2.1.2.1
 (x.1.getD
 g.2.2.2.1.toNat
 ((0 :
 Int),
 (0 :
 Int))).2)) =
 !decide
 ((0 :
 Int) ≤
 idx
 g.2.1.2.1
 (x.1.getD
 g.2.2.2.1.toNat
 ((0 :
 Int),
 (0 :
 Int))).2) ∧
 false =
 false ∧
 (True ∧
 True) ∧
 (True ∧
 True) ∧
 (True ∧
 True) ∧
 g.2.1.1 =
 g.2.1.1 ∧
 (g.2.1.1 ==
 (0 :
 Int)) =
 (g.2.1.1 ==
 (0 :
 Int)) ∧
 (True ∧
 True) ∧
 (True ∧
 True) ∧
 (True ∧
 True) ∧
 g.2.1.1 =
 g.2.1.1 ∧
 g.2.1.1 -
 (1 :
 Int) =
 g.2.1.1 -
 (1 :
 Int) ∧
 (True ∧
 True) ∧
 (True ∧
 True) ∧
 (True ∧
 True) ∧
 (True ∧
 True) ∧
 (x.1.getD
 g.2.2.2.1.toNat
 ((0 :
 Int),
 (0 :
 Int))).2 =
 (x.1.getD
 g.2.2.2.1.toNat
 ((0 :
 Int),
 (0 :
 Int))).2 ∧
 True ∧
 (True ∧
 True) ∧
 (True ∧
 True) ∧
 (True ∧
 True) ∧
 (True ∧
 True) ∧
 True ∧
 (True ∧
 True) ∧
 (x.1.getD
 g.2.2.2.1.toNat
 ((0 :
 Int),
 (0 :
 Int))).2 =
 (x.1.getD
 g.2.2.2.1.toNat
 ((0 :
 Int),
 (0 :
 Int))).2 ∧
 True ∧
 True ∧
 (True ∧
 True) ∧
 (True ∧
 True) ∧
 (True ∧
 True) ∧
 (True ∧
 True) ∧
 (True ∧
 True) ∧
 g.2.1.1 -
 (1 :
 Int) =
 g.2.1.1 -
 (1 :
 Int) ∧
 true =
 true ∧
 (True ∧
 True) ∧
 True ∧
 True ∧
 True ∧
 True ∧
 True ∧
 True ∧
 True ∧
 True ∧
 True ∧
 True ∧
 True ∧
 True ∧
 True ∧
 True ∧
 True ∧
 True ∧
 True ∧
 True ∧
 True ∧
 True ∧
 True ∧
 True ∧
 True ∧
 True ∧
 True ∧
 True ∧
 True ∧
 True ∧
 True ∧
 True ∧
 True ∧
 True ∧
 True ∧
 True ∧
 True ∧
 True ∧
 True ∧
 True ∧
 True ∧
 True ∧
 True ∧
 True ∧
 True ∧
 True ∧
 True ∧
 True ∧
 True ∧
 True ∧
 True ∧
 True ∧
 True ∧
 True ∧
 True ∧
 True ∧
 True ∧
 True ∧
 True ∧
 True ∧
 True ∧
 True ∧
 True ∧
 True ∧
 (True ∧
 True) ∧
 True ∧
 True ∧
 (True ∧
 True) ∧
 True ∧
 True ∧
 True ∧
 True ∧
 (True ∧
 True) ∧
 x.1 =
 x.1 ∧
 (↑x.1.length :
 Int) =
 (↑x.1.length :
 Int) ∧
 g.2.2.2.1 =
 g.2.2.2.1 ∧
 true =
 true ∧
 True ∧
 ((x.1.getD
 g.2.2.2.1.toNat
 ((0 :
 Int),
 (0 :
 Int))).1 =
 (x.1.getD
 g.2.2.2.1.toNat
 ((0 :
 Int),
 (0 :
 Int))).1 ∧
 (x.1.getD
 g.2.2.2.1.toNat
 ((0 :
 Int),
 (0 :
 Int))).2 =
 (x.1.getD
 g.2.2.2.1.toNat
 ((0 :
 Int),
 (0 :
 Int))).2 ∧
 True) ∧
 True ∧
 (True ∧
 True) ∧
 ((x.1.getD
 g.2.2.2.1.toNat
 ((0 :
 Int),
 (0 :
 Int))).1 =
 (x.1.getD
 g.2.2.2.1.toNat
 ((0 :
 Int),
 (0 :
 Int))).1 ∧
 (x.1.getD
 g.2.2.2.1.toNat
 ((0 :
 Int),
 (0 :
 Int))).2 =
 (x.1.getD
 g.2.2.2.1.toNat
 ((0 :
 Int),
 (0 :
 Int))).2 ∧
 True) ∧
 True ∧
 True ∧
 True ∧
 True ∧
 True ∧
 True ∧
 True ∧
 True ∧
 True ∧
 True ∧
 True ∧
 True ∧
 True ∧
 True ∧
 True ∧
 True ∧
 True ∧
 True ∧
 True ∧
 True ∧
 True ∧
 True) ∧
 ∀ (g_3 : Int × Unit),
 (0 : Int) ≤ g_3.1 ∧
 g_3.1 ≤
 (↑(List.drop (nat_lit 0)
 (List.take
 g_2.2.1.toNat
 (List.take
 g_2.2.1.toNat
 g_2.1 ++
 (List.replicate
 ((↑g_2.1.length :
 Int).toNat -
 g_2.2.1.toNat)
 (0 : Int) ++
 List.drop
 (g_2.2.1.toNat +
 ((↑g_2.1.length :
 Int).toNat -
 g_2.2.1.toNat))
 g_2.1)))).length :
 Int) ∧
 ((List.take g_3.1.toNat
 (List.drop (nat_lit 0)
 (List.take
 g_2.2.1.toNat
 (List.take
 g_2.2.1.toNat
 g_2.1 ++
 (List.replicate
 ((↑g_2.1.length :
 Int).toNat -
 g_2.2.1.toNat)
 (0 : Int) ++
 List.drop
 (g_2.2.1.toNat +
 ((↑g_2.1.length :
 Int).toNat -
 g_2.2.1.toNat))
 g_2.1))))).all
 fun y ↦
 mval Ty.bool
 (mdel Ty.bool
 g.2.1.2.2.1
 (x.1.getD
 g.2.2.2.1.toNat
 ((0 : Int),
 (0 : Int))).2)
 y) =
 true →
 ((-9223372036854775808 : Int) ≤
 g_3.1 ∧
 g_3.1 ≤
 (9223372036854775807 : Int)) ∧
 True →
 (decide
 (g_3.1 <
 (↑(List.drop (nat_lit 0)
 (List.take
 g_2.2.1.toNat
 (List.take
 g_2.2.1.toNat
 g_2.1 ++
 (List.replicate
 ((↑g_2.1.length :
 Int).toNat -
 g_2.2.1.toNat)
 (0 :
 Int) ++
 List.drop
 (g_2.2.1.toNat +
 ((↑g_2.1.length :
 Int).toNat -
 g_2.2.1.toNat))
 g_2.1)))).length :
 Int)) =
 true →
 ((0 : Int) ≤ g_3.1 ∧
 g_3.1 <
 (↑(List.drop (nat_lit 0)
 (List.take
 g_2.2.1.toNat
 (List.take
 g_2.2.1.toNat
 g_2.1 ++
 (List.replicate
 ((↑g_2.1.length :
 Int).toNat -
 g_2.2.1.toNat)
 (0 :
 Int) ++
 List.drop
 (g_2.2.1.toNat +
 ((↑g_2.1.length :
 Int).toNat -
 g_2.2.1.toNat))
 g_2.1)))).length :
 Int)) ∧
 ((!mval Ty.bool
 (mdel Ty.bool
 g.2.1.2.2.1
 (x.1.getD
 g.2.2.2.1.toNat
 ((0 : Int),
 (0 :
 Int))).2)
 ((List.drop
 (nat_lit 0)
 (List.take
 g_2.2.1.toNat
 (List.take
 g_2.2.1.toNat
 g_2.1 ++
 (List.replicate
 ((↑g_2.1.length :
 Int).toNat -
 g_2.2.1.toNat)
 (0 :
 Int) ++
 List.drop
 (g_2.2.1.toNat +
 ((↑g_2.1.length :
 Int).toNat -
 g_2.2.1.toNat))
 g_2.1)))).getD
 g_3.1.toNat
 (0 : Int))) =
 true →
 (g.2.2.1.length +
 (((0 : Int) ::
 ([] :
 List
 Int)).set
 (0 : Nat)
 (0 :
 Int)).length ≤
 (9223372036854775807 :
 Nat) ∧
 (g.2.2.1.length +
 (((0 :
 Int) ::
 ([] :
 List
 Int)).set
 (0 :
 Nat)
 (0 :
 Int)).length +
 (g.2.2.1.length +
 (((0 :
 Int) ::
 ([] :
 List
 Int)).set
 (0 :
 Nat)
 (0 :
 Int)).length) /
 (4 : Nat) +
 (192 : Nat)) *
 (8 : Nat) ≤
 (281474976710656 :
 Nat)) ∧
 ((-9223372036854775808 :
 Int) ≤
 g.2.2.2.1 +
 (1 : Int) ∧
 g.2.2.2.1 +
 (1 : Int) ≤
 (9223372036854775807 :
 Int)) ∧
 (((0 : Int) ≤
 g.2.2.2.1 +
 (1 : Int) ∧
 g.2.2.2.1 +
 (1 :
 Int) ≤
 (↑x.1.length :
 Int) ∧
 (↑(g.2.2.1 ++
 ((0 :
 Int) ::
 ([] :
 List
 Int)).set
 (0 :
 Nat)
 (0 :
 Int)).length :
 Int) =
 g.2.2.2.1 +
 (1 :
 Int) ∧
 ∃ l,
 pl
 (List.take
 (g.2.2.2.1 +
 (1 :
 Int)).toNat
 x.1) =
 ((l,
 g.2.1.1 -
 (1 :
 Int),
 g.2.1.2.2.2.2 ++
 ((0 :
 Int) ::
 ([] :
 List
 Int)).set
 (0 :
 Nat)
 (x.1.getD
 g.2.2.2.1.toNat
 ((0 :
 Int),
 (0 :
 Int))).2),
 g.2.2.1 ++
 ((0 :
 Int) ::
 ([] :
 List
 Int)).set
 (0 :
 Nat)
 (0 :
 Int)) ∧
 MQ
 (List.drop
 (nat_lit
 0)
 (List.take
 g_2.2.1.toNat
 (List.take
 g_2.2.1.toNat
 g_2.1 ++
 (List.replicate
 ((↑g_2.1.length :
 Int).toNat -
 g_2.2.1.toNat)
 (0 :
 Int) ++
 List.drop
 (g_2.2.1.toNat +
 ((↑g_2.1.length :
 Int).toNat -
 g_2.2.1.toNat))
 g_2.1))))
 (mput
 Ty.bool
 (mdel
 Ty.bool
 g.2.1.2.2.1
 (x.1.getD
 g.2.2.2.1.toNat
 ((0 :
 Int),
 (0 :
 Int))).2)
 ((List.drop
 (nat_lit
 0)
 (List.take
 g_2.2.1.toNat
 (List.take
 g_2.2.1.toNat
 g_2.1 ++
 (List.replicate
 ((↑g_2.1.length :
 Int).toNat -
 g_2.2.1.toNat)
 (0 :
 Int) ++
 List.drop
 (g_2.2.1.toNat +
 ((↑g_2.1.length :
 Int).toNat -
 g_2.2.1.toNat))
 g_2.1)))).getD
 g_3.1.toNat
 (0 :
 Int))
 true)
 (mdel
 Ty.bool
 (mdel
 Ty.bool
 g.2.1.2.2.2.1
 (x.1.getD
 g.2.2.2.1.toNat
 ((0 :
 Int),
 (0 :
 Int))).2)
 ((List.drop
 (nat_lit
 0)
 (List.take
 g_2.2.1.toNat
 (List.take
 g_2.2.1.toNat
 g_2.1 ++
 (List.replicate
 ((↑g_2.1.length :
 Int).toNat -
 g_2.2.1.toNat)
 (0 :
 Int) ++
 List.drop
 (g_2.2.1.toNat +
 ((↑g_2.1.length :
 Int).toNat -
 g_2.2.1.toNat))
 g_2.1)))).getD
 g_3.1.toNat
 (0 :
 Int)))
 l ∧
 good
 (l,
 g.2.1.1 -
 (1 :
 Int),
 g.2.1.2.2.2.2 ++
 ((0 :
 Int) ::
 ([] :
 List
 Int)).set
 (0 :
 Nat)
 (x.1.getD
 g.2.2.2.1.toNat
 ((0 :
 Int),
 (0 :
 Int))).2)
 (g.2.2.2.1 +
 (1 :
 Int))) ∧
 ((↑x.1.length :
 Int) -
 (g.2.2.2.1 +
 (1 :
 Int))).toNat <
 ((↑x.1.length :
 Int) -
 g.2.2.2.1).toNat) ∧
 ((True ∧ True) ∧
 (True ∧ True) ∧
 True ∧
 x.1 =
 x.1 ∧
 (↑x.1.length :
 Int) =
 (↑x.1.length :
 Int) ∧
 g.2.2.2.1 +
 (1 :
 Int) =
 g.2.2.2.1 +
 (1 :
 Int) ∧
 True) ∧
 (((True ∧ True) ∧
 True) ∧
 (g.2.1.1 -
 (1 :
 Int) =
 g.2.1.1 -
 (1 :
 Int) ∧
 True ∧
 True ∧
 True ∧
 True ∧
 True) ∧
 List.drop
 (nat_lit
 0)
 (List.take
 g_2.2.1.toNat
 (List.take
 g_2.2.1.toNat
 g_2.1 ++
 (List.replicate
 ((↑g_2.1.length :
 Int).toNat -
 g_2.2.1.toNat)
 (0 :
 Int) ++
 List.drop
 (g_2.2.1.toNat +
 ((↑g_2.1.length :
 Int).toNat -
 g_2.2.1.toNat))
 g_2.1))) =
 List.drop
 (nat_lit
 0)
 (List.take
 g_2.2.1.toNat
 (List.take
 g_2.2.1.toNat
 g_2.1 ++
 (List.replicate
 ((↑g_2.1.length :
 Int).toNat -
 g_2.2.1.toNat)
 (0 :
 Int) ++
 List.drop
 (g_2.2.1.toNat +
 ((↑g_2.1.length :
 Int).toNat -
 g_2.2.1.toNat))
 g_2.1))) ∧
 mput
 Ty.bool
 (mdel
 Ty.bool
 g.2.1.2.2.1
 (x.1.getD
 g.2.2.2.1.toNat
 ((0 :
 Int),
 (0 :
 Int))).2)
 ((List.drop
 (nat_lit
 0)
 (List.take
 g_2.2.1.toNat
 (List.take
 g_2.2.1.toNat
 g_2.1 ++
 (List.replicate
 ((↑g_2.1.length :
 Int).toNat -
 g_2.2.1.toNat)
 (0 :
 Int) ++
 List.drop
 (g_2.2.1.toNat +
 ((↑g_2.1.length :
 Int).toNat -
 g_2.2.1.toNat))
 g_2.1)))).getD
 g_3.1.toNat
 (0 :
 Int))
 true =
 mput
 Ty.bool
 (mdel
 Ty.bool
 g.2.1.2.2.1
 (x.1.getD
 g.2.2.2.1.toNat
 ((0 :
 Int),
 (0 :
 Int))).2)
 ((List.drop
 (nat_lit
 0)
 (List.take
 g_2.2.1.toNat
 (List.take
 g_2.2.1.toNat
 g_2.1 ++
 (List.replicate
 ((↑g_2.1.length :
 Int).toNat -
 g_2.2.1.toNat)
 (0 :
 Int) ++
 List.drop
 (g_2.2.1.toNat +
 ((↑g_2.1.length :
 Int).toNat -
 g_2.2.1.toNat))
 g_2.1)))).getD
 g_3.1.toNat
 (0 :
 Int))
 true ∧
 mdel
 Ty.bool
 (mdel
 Ty.bool
 g.2.1.2.2.2.1
 (x.1.getD
 g.2.2.2.1.toNat
 ((0 :
 Int),
 (0 :
 Int))).2)
 ((List.drop
 (nat_lit
 0)
 (List.take
 g_2.2.1.toNat
 (List.take
 g_2.2.1.toNat
 g_2.1 ++
 (List.replicate
 ((↑g_2.1.length :
 Int).toNat -
 g_2.2.1.toNat)
 (0 :
 Int) ++
 List.drop
 (g_2.2.1.toNat +
 ((↑g_2.1.length :
 Int).toNat -
 g_2.2.1.toNat))
 g_2.1)))).getD
 g_3.1.toNat
 (0 :
 Int)) =
 mdel
 Ty.bool
 (mdel
 Ty.bool
 g.2.1.2.2.2.1
 (x.1.getD
 g.2.2.2.1.toNat
 ((0 :
 Int),
 (0 :
 Int))).2)
 ((List.drop
 (nat_lit
 0)
 (List.take
 g_2.2.1.toNat
 (List.take
 g_2.2.1.toNat
 g_2.1 ++
 (List.replicate
 ((↑g_2.1.length :
 Int).toNat -
 g_2.2.1.toNat)
 (0 :
 Int) ++
 List.drop
 (g_2.2.1.toNat +
 ((↑g_2.1.length :
 Int).toNat -
 g_2.2.1.toNat))
 g_2.1)))).getD
 g_3.1.toNat
 (0 :
 Int)) ∧
 g.2.1.2.2.2.2 ++
 ((0 :
 Int) ::
 ([] :
 List
 Int)).set
 (0 :
 Nat)
 (x.1.getD
 g.2.2.2.1.toNat
 ((0 :
 Int),
 (0 :
 Int))).2 =
 g.2.1.2.2.2.2 ++
 ((0 :
 Int) ::
 ([] :
 List
 Int)).set
 (0 :
 Nat)
 (x.1.getD
 g.2.2.2.1.toNat
 ((0 :
 Int),
 (0 :
 Int))).2 ∧
 g.2.2.1 ++
 ((0 :
 Int) ::
 ([] :
 List
 Int)).set
 (0 :
 Nat)
 (0 :
 Int) =
 g.2.2.1 ++
 ((0 :
 Int) ::
 ([] :
 List
 Int)).set
 (0 :
 Nat)
 (0 :
 Int) ∧
 True) ∧
 True) ∧
 ((!mval Ty.bool
 (mdel Ty.bool
 g.2.1.2.2.1
 (x.1.getD
 g.2.2.2.1.toNat
 ((0 : Int),
 (0 :
 Int))).2)
 ((List.drop
 (nat_lit 0)
 (List.take
 g_2.2.1.toNat
 (List.take
 g_2.2.1.toNat
 g_2.1 ++
 (List.replicate
 ((↑g_2.1.length :
 Int).toNat -
 g_2.2.1.toNat)
 (0 :
 Int) ++
 List.drop
 (g_2.2.1.toNat +
 ((↑g_2.1.length :
 Int).toNat -
 g_2.2.1.toNat))
 g_2.1)))).getD
 g_3.1.toNat
 (0 : Int))) =
 false →
 ((-9223372036854775808 :
 Int) ≤
 g_3.1 +
 (1 : Int) ∧
 g_3.1 + (1 : Int) ≤
 (9223372036854775807 :
 Int)) ∧
 (((0 : Int) ≤
 g_3.1 +
 (1 : Int) ∧
 g_3.1 +
 (1 : Int) ≤
 (↑(List.drop
 (nat_lit
 0)
 (List.take
 g_2.2.1.toNat
 (List.take
 g_2.2.1.toNat
 g_2.1 ++
 (List.replicate
 ((↑g_2.1.length :
 Int).toNat -
 g_2.2.1.toNat)
 (0 :
 Int) ++
 List.drop
 (g_2.2.1.toNat +
 ((↑g_2.1.length :
 Int).toNat -
 g_2.2.1.toNat))
 g_2.1)))).length :
 Int) ∧
 ((List.take
 (g_3.1 +
 (1 :
 Int)).toNat
 (List.drop
 (nat_lit
 0)
 (List.take
 g_2.2.1.toNat
 (List.take
 g_2.2.1.toNat
 g_2.1 ++
 (List.replicate
 ((↑g_2.1.length :
 Int).toNat -
 g_2.2.1.toNat)
 (0 :
 Int) ++
 List.drop
 (g_2.2.1.toNat +
 ((↑g_2.1.length :
 Int).toNat -
 g_2.2.1.toNat))
 g_2.1))))).all
 fun y ↦
 mval Ty.bool
 (mdel
 Ty.bool
 g.2.1.2.2.1
 (x.1.getD
 g.2.2.2.1.toNat
 ((0 :
 Int),
 (0 :
 Int))).2)
 y) =
 true) ∧
 ((↑(List.drop
 (nat_lit
 0)
 (List.take
 g_2.2.1.toNat
 (List.take
 g_2.2.1.toNat
 g_2.1 ++
 (List.replicate
 ((↑g_2.1.length :
 Int).toNat -
 g_2.2.1.toNat)
 (0 :
 Int) ++
 List.drop
 (g_2.2.1.toNat +
 ((↑g_2.1.length :
 Int).toNat -
 g_2.2.1.toNat))
 g_2.1)))).length :
 Int) -
 (g_3.1 +
 (1 :
 Int))).toNat <
 ((↑(List.drop
 (nat_lit
 0)
 (List.take
 g_2.2.1.toNat
 (List.take
 g_2.2.1.toNat
 g_2.1 ++
 (List.replicate
 ((↑g_2.1.length :
 Int).toNat -
 g_2.2.1.toNat)
 (0 :
 Int) ++
 List.drop
 (g_2.2.1.toNat +
 ((↑g_2.1.length :
 Int).toNat -
 g_2.2.1.toNat))
 g_2.1)))).length :
 Int) -
 g_3.1).toNat) ∧
 ((True ∧ True) ∧
 True ∧
 (↑(List.drop
 (nat_lit
 0)
 (List.take
 g_2.2.1.toNat
 (List.take
 g_2.2.1.toNat
 g_2.1 ++
 (List.replicate
 ((↑g_2.1.length :
 Int).toNat -
 g_2.2.1.toNat)
 (0 :
 Int) ++
 List.drop
 (g_2.2.1.toNat +
 ((↑g_2.1.length :
 Int).toNat -
 g_2.2.1.toNat))
 g_2.1)))).length :
 Int) =
 (↑(List.drop
 (nat_lit
 0)
 (List.take
 g_2.2.1.toNat
 (List.take
 g_2.2.1.toNat
 g_2.1 ++
 (List.replicate
 ((↑g_2.1.length :
 Int).toNat -
 g_2.2.1.toNat)
 (0 :
 Int) ++
 List.drop
 (g_2.2.1.toNat +
 ((↑g_2.1.length :
 Int).toNat -
 g_2.2.1.toNat))
 g_2.1)))).length :
 Int) ∧
 g_3.1 +
 (1 :
 Int) =
 g_3.1 +
 (1 :
 Int) ∧
 True) ∧
 ((g.2.1.1 -
 (1 :
 Int) =
 g.2.1.1 -
 (1 :
 Int) ∧
 True ∧
 True ∧
 True ∧
 True ∧
 True) ∧
 List.drop
 (nat_lit
 0)
 (List.take
 g_2.2.1.toNat
 (List.take
 g_2.2.1.toNat
 g_2.1 ++
 (List.replicate
 ((↑g_2.1.length :
 Int).toNat -
 g_2.2.1.toNat)
 (0 :
 Int) ++
 List.drop
 (g_2.2.1.toNat +
 ((↑g_2.1.length :
 Int).toNat -
 g_2.2.1.toNat))
 g_2.1))) =
 List.drop
 (nat_lit
 0)
 (List.take
 g_2.2.1.toNat
 (List.take
 g_2.2.1.toNat
 g_2.1 ++
 (List.replicate
 ((↑g_2.1.length :
 Int).toNat -
 g_2.2.1.toNat)
 (0 :
 Int) ++
 List.drop
 (g_2.2.1.toNat +
 ((↑g_2.1.length :
 Int).toNat -
 g_2.2.1.toNat))
 g_2.1))) ∧
 mdel Ty.bool
 g.2.1.2.2.1
 (x.1.getD
 g.2.2.2.1.toNat
 ((0 :
 Int),
 (0 :
 Int))).2 =
 mdel
 Ty.bool
 g.2.1.2.2.1
 (x.1.getD
 g.2.2.2.1.toNat
 ((0 :
 Int),
 (0 :
 Int))).2 ∧
 mdel Ty.bool
 g.2.1.2.2.2.1
 (x.1.getD
 g.2.2.2.1.toNat
 ((0 :
 Int),
 (0 :
 Int))).2 =
 mdel
 Ty.bool
 g.2.1.2.2.2.1
 (x.1.getD
 g.2.2.2.1.toNat
 ((0 :
 Int),
 (0 :
 Int))).2 ∧
 g.2.1.2.2.2.2 ++
 ((0 :
 Int) ::
 ([] :
 List
 Int)).set
 (0 :
 Nat)
 (x.1.getD
 g.2.2.2.1.toNat
 ((0 :
 Int),
 (0 :
 Int))).2 =
 g.2.1.2.2.2.2 ++
 ((0 :
 Int) ::
 ([] :
 List
 Int)).set
 (0 :
 Nat)
 (x.1.getD
 g.2.2.2.1.toNat
 ((0 :
 Int),
 (0 :
 Int))).2 ∧
 ((x.1.getD
 g.2.2.2.1.toNat
 ((0 :
 Int),
 (0 :
 Int))).1 =
 (x.1.getD
 g.2.2.2.1.toNat
 ((0 :
 Int),
 (0 :
 Int))).1 ∧
 (x.1.getD
 g.2.2.2.1.toNat
 ((0 :
 Int),
 (0 :
 Int))).2 =
 (x.1.getD
 g.2.2.2.1.toNat
 ((0 :
 Int),
 (0 :
 Int))).2 ∧
 True) ∧
 g.2.1.2.1 =
 g.2.1.2.1 ∧
 ((0 :
 Int) ::
 ([] :
 List
 Int)).set
 (0 :
 Nat)
 (x.1.getD
 g.2.2.2.1.toNat
 ((0 :
 Int),
 (0 :
 Int))).2 =
 ((0 :
 Int) ::
 ([] :
 List
 Int)).set
 (0 :
 Nat)
 (x.1.getD
 g.2.2.2.1.toNat
 ((0 :
 Int),
 (0 :
 Int))).2 ∧
 ((True ∧
 True) ∧
 True) ∧
 g.2.2.1 =
 g.2.2.1 ∧
 ((x.1.getD
 g.2.2.2.1.toNat
 ((0 :
 Int),
 (0 :
 Int))).1 =
 (x.1.getD
 g.2.2.2.1.toNat
 ((0 :
 Int),
 (0 :
 Int))).1 ∧
 (x.1.getD
 g.2.2.2.1.toNat
 ((0 :
 Int),
 (0 :
 Int))).2 =
 (x.1.getD
 g.2.2.2.1.toNat
 ((0 :
 Int),
 (0 :
 Int))).2 ∧
 True) ∧
 True) ∧
 (True ∧ True) ∧
 ((x.1.getD
 g.2.2.2.1.toNat
 ((0 :
 Int),
 (0 :
 Int))).1 =
 (x.1.getD
 g.2.2.2.1.toNat
 ((0 :
 Int),
 (0 :
 Int))).1 ∧
 (x.1.getD
 g.2.2.2.1.toNat
 ((0 :
 Int),
 (0 :
 Int))).2 =
 (x.1.getD
 g.2.2.2.1.toNat
 ((0 :
 Int),
 (0 :
 Int))).2 ∧
 True) ∧
 True ∧
 (True ∧
 True) ∧
 (0 :
 Int) =
 (0 :
 Int) ∧
 decide
 ((0 :
 Int) ≤
 idx
 g.2.1.2.1
 (x.1.getD
 g.2.2.2.1.toNat
 ((0 :
 Int),
 (0 :
 Int))).2) =
 decide
 ((0 :
 Int) ≤
 idx
 g.2.1.2.1
 (x.1.getD
 g.2.2.2.1.toNat
 ((0 :
 Int),
 (0 :
 Int))).2) ∧
 false =
 false ∧
 (True ∧
 True) ∧
 (x.1.getD
 g.2.2.2.1.toNat
 ((0 :
 Int),
 (0 :
 Int))).1 =
 (x.1.getD
 g.2.2.2.1.toNat
 ((0 :
 Int),
 (0 :
 Int))).1 ∧
 decide
 ((x.1.getD
 g.2.2.2.1.toNat
 ((0 :
 Int),
 (0 :
 Int))).1 <
 (1 :
 Int)) =
 decide
 ((x.1.getD
 g.2.2.2.1.toNat
 ((0 :
 Int),
 (0 :
 Int))).1 <
 (1 :
 Int)) ∧
 decide
 ((x.1.getD
 g.2.2.2.1.toNat
 ((0 :
 Int),
 (0 :
 Int))).1 <
 (1 :
 Int)) =
 decide
 ((x.1.getD
 g.2.2.2.1.toNat
 ((0 :
 Int),
 (0 :
 Int))).1 <
 (1 :
 Int)) ∧
 True ∧
 True ∧
 True ∧
 (decide
 ((x.1.getD
 g.2.2.2.1.toNat
 ((0 :
 Int),
 (0 :
 Int))).1 <
 (1 :
 Int)) ||
 decide
 ((5 :
 Int) <
 (x.1.getD
 g.2.2.2.1.toNat
 ((0 :
 Int),
 (0 :
 Int))).1)) =
 (decide
 ((x.1.getD
 g.2.2.2.1.toNat
 ((0 :
 Int),
 (0 :
 Int))).1 <
 (1 :
 Int)) ||
 decide
 ((5 :
 Int) <
 (x.1.getD
 g.2.2.2.1.toNat
 ((0 :
 Int),
 (0 :
 Int))).1)) ∧
 false =
 false ∧
 (True ∧
 True) ∧
 (x.1.getD
 g.2.2.2.1.toNat
 ((0 :
 Int),
 (0 :
 Int))).2 =
 (x.1.getD
 g.2.2.2.1.toNat
 ((0 :
 Int),
 (0 :
 Int))).2 ∧
 decide
 ((x.1.getD
 g.2.2.2.1.toNat
 ((0 :
 Int),
 (0 :
 Int))).2 <
 (0 :
 Int)) =
 decide
 ((x.1.getD
 g.2.2.2.1.toNat
 ((0 :
 Int),
 (0 :
 Int))).2 <
 (0 :
 Int)) ∧
 decide
 ((x.1.getD
 g.2.2.2.1.toNat
 ((0 :
 Int),
 (0 :
 Int))).2 <
 (0 :
 Int)) =
 decide
 ((x.1.getD
 g.2.2.2.1.toNat
 ((0 :
 Int),
 (0 :
 Int))).2 <
 (0 :
 Int)) ∧
 True ∧
 True ∧
 True ∧
 (decide
 ((x.1.getD
 g.2.2.2.1.toNat
 ((0 :
 Int),
 (0 :
 Int))).2 <
 (0 :
 Int)) ||
 decide
 ((63 :
 Int) <
 (x.1.getD
 g.2.2.2.1.toNat
 ((0 :
 Int),
 (0 :
 Int))).2)) =
 (decide
 ((x.1.getD
 g.2.2.2.1.toNat
 ((0 :
 Int),
 (0 :
 Int))).2 <
 (0 :
 Int)) ||
 decide
 ((63 :
 Int) <
 (x.1.getD
 g.2.2.2.1.toNat
 ((0 :
 Int),
 (0 :
 Int))).2)) ∧
 (True ∧
 True) ∧
 (True ∧
 True) ∧
 (True ∧
 True) ∧
 True ∧
 (True ∧
 True) ∧
 (x.1.getD
 g.2.2.2.1.toNat
 ((0 :
 Int),
 (0 :
 Int))).2 =
 (x.1.getD
 g.2.2.2.1.toNat
 ((0 :
 Int),
 (0 :
 Int))).2 ∧
 decide
 ((0 :
 Int) ≤
 idx
 g.2.1.2.1
 (x.1.getD
 g.2.2.2.1.toNat
 ((0 :
 Int),
 (0 :
 Int))).2) =
 decide
 ((0 :
 Int) ≤
 idx
 g.2.1.2.1
 (x.1.getD
 g.2.2.2.1.toNat
 ((0 :
 Int),
 (0 :
 Int))).2) ∧
 (True ∧
 True) ∧
 (x.1.getD
 g.2.2.2.1.toNat
 ((0 :
 Int),
 (0 :
 Int))).1 =
 (x.1.getD
 g.2.2.2.1.toNat
 ((0 :
 Int),
 (0 :
 Int))).1 ∧
 false =
 false ∧
 ((x.1.getD
 g.2.2.2.1.toNat
 ((0 :
 Int),
 (0 :
 Int))).1 ==
 (1 :
 Int)) =
 ((x.1.getD
 g.2.2.2.1.toNat
 ((0 :
 Int),
 (0 :
 Int))).1 ==
 (1 :
 Int)) ∧
 True ∧
 True ∧
 True ∧
 True ∧
 True ∧
 True ∧
 True ∧
 True ∧
 True ∧
 True ∧
 True ∧
 True ∧
 True ∧
 True ∧
 True ∧
 True ∧
 True ∧
 True ∧
 True ∧
 True ∧
 True ∧
 True ∧
 True ∧
 True ∧
 True ∧
 True ∧
 True ∧
 True ∧
 true =
 true ∧
 ((x.1.getD
 g.2.2.2.1.toNat
 ((0 :
 Int),
 (0 :
 Int))).1 ==
 (2 :
 Int)) =
 ((x.1.getD
 g.2.2.2.1.toNat
 ((0 :
 Int),
 (0 :
 Int))).1 ==
 (2 :
 Int)) ∧
 false =
 false ∧
 (True ∧
 True) ∧
 (True ∧
 True) ∧
 (True ∧
 True) ∧
 True ∧
 (True ∧
 True) ∧
 (x.1.getD
 g.2.2.2.1.toNat
 ((0 :
 Int),
 (0 :
 Int))).2 =
 (x.1.getD
 g.2.2.2.1.toNat
 ((0 :
 Int),
 (0 :
 Int))).2 ∧
 mval
 Ty.bool
 g.2.1.2.2.2.1
 (x.1.getD
 g.2.2.2.1.toNat
 ((0 :
 Int),
 (0 :
 Int))).2 =
 mval
 Ty.bool
 g.2.1.2.2.2.1
 (x.1.getD
 g.2.2.2.1.toNat
 ((0 :
 Int),
 (0 :
 Int))).2 ∧
 false =
 false ∧
 decide
 ((0 :
 Int) ≤
 idx
 g.2.1.2.1
 (x.1.getD
 g.2.2.2.1.toNat
 ((0 :
 Int),
 (0 :
 Int))).2) =
 decide
 ((0 :
 Int) ≤
 idx
 g.2.1.2.1
 (x.1.getD
 g.2.2.2.1.toNat
 ((0 :
 Int),
 (0 :
 Int))).2) ∧
 (!decide
 ((0 :
 Int) ≤
 idx
 g.2.1.2.1
 (x.1.getD
 g.2.2.2.1.toNat
 ((0 :
 Int),
 (0 :
 Int))).2)) =
 !decide
 ((0 :
 Int) ≤
 idx
 g.2.1.2.1
 (x.1.getD
 g.2.2.2.1.toNat
 ((0 :
 Int),
 (0 :
 Int))).2) ∧
 false =
 false ∧
 (True ∧
 True) ∧
 (True ∧
 True) ∧
 (True ∧
 True) ∧
 g.2.1.1 =
 g.2.1.1 ∧
 (g.2.1.1 ==
 (0 :
 Int)) =
 (g.2.1.1 ==
 (0 :
 Int)) ∧
 (True ∧
 True) ∧
 (True ∧
 True) ∧
 (True ∧
 True) ∧
 g.2.1.1 =
 g.2.1.1 ∧
 g.2.1.1 -
 (1 :
 Int) =
 g.2.1.1 -
 (1 :
 Int) ∧
 (True ∧
 True) ∧
 (True ∧
 True) ∧
 (True ∧
 True) ∧
 (True ∧
 True) ∧
 (x.1.getD
 g.2.2.2.1.toNat
 ((0 :
 Int),
 (0 :
 Int))).2 =
 (x.1.getD
 g.2.2.2.1.toNat
 ((0 :
 Int),
 (0 :
 Int))).2 ∧
 True ∧
 (True ∧
 True) ∧
 (True ∧
 True) ∧
 (True ∧
 True) ∧
 (True ∧
 True) ∧
 True ∧
 (True ∧
 True) ∧
 (x.1.getD
 g.2.2.2.1.toNat
 ((0 :
 Int),
 (0 :
 Int))).2 =
 (x.1.getD
 g.2.2.2.1.toNat
 ((0 :
 Int),
 (0 :
 Int))).2 ∧
 True ∧
 True ∧
 (True ∧
 True) ∧
 (True ∧
 True) ∧
 (True ∧
 True) ∧
 (True ∧
 True) ∧
 (True ∧
 True) ∧
 g.2.1.1 -
 (1 :
 Int) =
 g.2.1.1 -
 (1 :
 Int) ∧
 true =
 true ∧
 (True ∧
 True) ∧
 True ∧
 True ∧
 True ∧
 True ∧
 True ∧
 True ∧
 True ∧
 True ∧
 True ∧
 True ∧
 True ∧
 True ∧
 True ∧
 True ∧
 True ∧
 True ∧
 True ∧
 True ∧
 True ∧
 True ∧
 True ∧
 True ∧
 True ∧
 True ∧
 True ∧
 True ∧
 True ∧
 True ∧
 True ∧
 True ∧
 True ∧
 True ∧
 True ∧
 True ∧
 True ∧
 True ∧
 True ∧
 True ∧
 True ∧
 True ∧
 True ∧
 True ∧
 True ∧
 True ∧
 True ∧
 True ∧
 True ∧
 True ∧
 True ∧
 True ∧
 True ∧
 True ∧
 True ∧
 True ∧
 True ∧
 True ∧
 True ∧
 True ∧
 True ∧
 True ∧
 True ∧
 True ∧
 (True ∧
 True) ∧
 True ∧
 True ∧
 (True ∧
 True) ∧
 True ∧
 True ∧
 True ∧
 True ∧
 (True ∧
 True) ∧
 x.1 =
 x.1 ∧
 (↑x.1.length :
 Int) =
 (↑x.1.length :
 Int) ∧
 g.2.2.2.1 =
 g.2.2.2.1 ∧
 true =
 true ∧
 True ∧
 ((x.1.getD
 g.2.2.2.1.toNat
 ((0 :
 Int),
 (0 :
 Int))).1 =
 (x.1.getD
 g.2.2.2.1.toNat
 ((0 :
 Int),
 (0 :
 Int))).1 ∧
 (x.1.getD
 g.2.2.2.1.toNat
 ((0 :
 Int),
 (0 :
 Int))).2 =
 (x.1.getD
 g.2.2.2.1.toNat
 ((0 :
 Int),
 (0 :
 Int))).2 ∧
 True) ∧
 True ∧
 (True ∧
 True) ∧
 ((x.1.getD
 g.2.2.2.1.toNat
 ((0 :
 Int),
 (0 :
 Int))).1 =
 (x.1.getD
 g.2.2.2.1.toNat
 ((0 :
 Int),
 (0 :
 Int))).1 ∧
 (x.1.getD
 g.2.2.2.1.toNat
 ((0 :
 Int),
 (0 :
 Int))).2 =
 (x.1.getD
 g.2.2.2.1.toNat
 ((0 :
 Int),
 (0 :
 Int))).2 ∧
 True) ∧
 True ∧
 True ∧
 True ∧
 True ∧
 True ∧
 True ∧
 True ∧
 True ∧
 True ∧
 True ∧
 True ∧
 True ∧
 True ∧
 True ∧
 True ∧
 True ∧
 True ∧
 True ∧
 True ∧
 True ∧
 True ∧
 True)) ∧
 (decide
 (g_3.1 <
 (↑(List.drop (nat_lit 0)
 (List.take
 g_2.2.1.toNat
 (List.take
 g_2.2.1.toNat
 g_2.1 ++
 (List.replicate
 ((↑g_2.1.length :
 Int).toNat -
 g_2.2.1.toNat)
 (0 :
 Int) ++
 List.drop
 (g_2.2.1.toNat +
 ((↑g_2.1.length :
 Int).toNat -
 g_2.2.1.toNat))
 g_2.1)))).length :
 Int)) =
 false →
 (g.2.2.1.length +
 (((0 : Int) ::
 ([] :
 List Int)).set
 (0 : Nat)
 (0 : Int)).length ≤
 (9223372036854775807 :
 Nat) ∧
 (g.2.2.1.length +
 (((0 : Int) ::
 ([] :
 List
 Int)).set
 (0 : Nat)
 (0 :
 Int)).length +
 (g.2.2.1.length +
 (((0 : Int) ::
 ([] :
 List
 Int)).set
 (0 : Nat)
 (0 :
 Int)).length) /
 (4 : Nat) +
 (192 : Nat)) *
 (8 : Nat) ≤
 (281474976710656 : Nat)) ∧
 ((-9223372036854775808 :
 Int) ≤
 g.2.2.2.1 +
 (1 : Int) ∧
 g.2.2.2.1 +
 (1 : Int) ≤
 (9223372036854775807 :
 Int)) ∧
 (((0 : Int) ≤
 g.2.2.2.1 +
 (1 : Int) ∧
 g.2.2.2.1 +
 (1 : Int) ≤
 (↑x.1.length :
 Int) ∧
 (↑(g.2.2.1 ++
 ((0 :
 Int) ::
 ([] :
 List
 Int)).set
 (0 :
 Nat)
 (0 :
 Int)).length :
 Int) =
 g.2.2.2.1 +
 (1 : Int) ∧
 ∃ l,
 pl
 (List.take
 (g.2.2.2.1 +
 (1 :
 Int)).toNat
 x.1) =
 ((l,
 g.2.1.1 -
 (1 :
 Int),
 g.2.1.2.2.2.2 ++
 ((0 :
 Int) ::
 ([] :
 List
 Int)).set
 (0 :
 Nat)
 (x.1.getD
 g.2.2.2.1.toNat
 ((0 :
 Int),
 (0 :
 Int))).2),
 g.2.2.1 ++
 ((0 :
 Int) ::
 ([] :
 List
 Int)).set
 (0 :
 Nat)
 (0 :
 Int)) ∧
 MQ
 (List.drop
 (nat_lit
 0)
 (List.take
 g_2.2.1.toNat
 (List.take
 g_2.2.1.toNat
 g_2.1 ++
 (List.replicate
 ((↑g_2.1.length :
 Int).toNat -
 g_2.2.1.toNat)
 (0 :
 Int) ++
 List.drop
 (g_2.2.1.toNat +
 ((↑g_2.1.length :
 Int).toNat -
 g_2.2.1.toNat))
 g_2.1))))
 (mdel
 Ty.bool
 g.2.1.2.2.1
 (x.1.getD
 g.2.2.2.1.toNat
 ((0 :
 Int),
 (0 :
 Int))).2)
 (mdel
 Ty.bool
 g.2.1.2.2.2.1
 (x.1.getD
 g.2.2.2.1.toNat
 ((0 :
 Int),
 (0 :
 Int))).2)
 l ∧
 good
 (l,
 g.2.1.1 -
 (1 :
 Int),
 g.2.1.2.2.2.2 ++
 ((0 :
 Int) ::
 ([] :
 List
 Int)).set
 (0 :
 Nat)
 (x.1.getD
 g.2.2.2.1.toNat
 ((0 :
 Int),
 (0 :
 Int))).2)
 (g.2.2.2.1 +
 (1 :
 Int))) ∧
 ((↑x.1.length : Int) -
 (g.2.2.2.1 +
 (1 :
 Int))).toNat <
 ((↑x.1.length :
 Int) -
 g.2.2.2.1).toNat) ∧
 ((True ∧ True) ∧
 (True ∧ True) ∧
 True ∧
 x.1 = x.1 ∧
 (↑x.1.length :
 Int) =
 (↑x.1.length :
 Int) ∧
 g.2.2.2.1 +
 (1 :
 Int) =
 g.2.2.2.1 +
 (1 :
 Int) ∧
 True) ∧
 (((True ∧ True) ∧
 True) ∧
 (g.2.1.1 -
 (1 : Int) =
 g.2.1.1 -
 (1 : Int) ∧
 True ∧
 True ∧
 True ∧
 True ∧
 True) ∧
 List.drop
 (nat_lit 0)
 (List.take
 g_2.2.1.toNat
 (List.take
 g_2.2.1.toNat
 g_2.1 ++
 (List.replicate
 ((↑g_2.1.length :
 Int).toNat -
 g_2.2.1.toNat)
 (0 :
 Int) ++
 List.drop
 (g_2.2.1.toNat +
 ((↑g_2.1.length :
 Int).toNat -
 g_2.2.1.toNat))
 g_2.1))) =
 List.drop
 (nat_lit 0)
 (List.take
 g_2.2.1.toNat
 (List.take
 g_2.2.1.toNat
 g_2.1 ++
 (List.replicate
 ((↑g_2.1.length :
 Int).toNat -
 g_2.2.1.toNat)
 (0 :
 Int) ++
 List.drop
 (g_2.2.1.toNat +
 ((↑g_2.1.length :
 Int).toNat -
 g_2.2.1.toNat))
 g_2.1))) ∧
 mdel Ty.bool
 g.2.1.2.2.1
 (x.1.getD
 g.2.2.2.1.toNat
 ((0 :
 Int),
 (0 :
 Int))).2 =
 mdel Ty.bool
 g.2.1.2.2.1
 (x.1.getD
 g.2.2.2.1.toNat
 ((0 :
 Int),
 (0 :
 Int))).2 ∧
 mdel Ty.bool
 g.2.1.2.2.2.1
 (x.1.getD
 g.2.2.2.1.toNat
 ((0 :
 Int),
 (0 :
 Int))).2 =
 mdel
 Ty.bool
 g.2.1.2.2.2.1
 (x.1.getD
 g.2.2.2.1.toNat
 ((0 :
 Int),
 (0 :
 Int))).2 ∧
 g.2.1.2.2.2.2 ++
 ((0 :
 Int) ::
 ([] :
 List
 Int)).set
 (0 :
 Nat)
 (x.1.getD
 g.2.2.2.1.toNat
 ((0 :
 Int),
 (0 :
 Int))).2 =
 g.2.1.2.2.2.2 ++
 ((0 :
 Int) ::
 ([] :
 List
 Int)).set
 (0 :
 Nat)
 (x.1.getD
 g.2.2.2.1.toNat
 ((0 :
 Int),
 (0 :
 Int))).2 ∧
 g.2.2.1 ++
 ((0 :
 Int) ::
 ([] :
 List
 Int)).set
 (0 :
 Nat)
 (0 :
 Int) =
 g.2.2.1 ++
 ((0 :
 Int) ::
 ([] :
 List
 Int)).set
 (0 :
 Nat)
 (0 :
 Int) ∧
 True) ∧
 True)) ∧
 (decide
 ((0 : Int) <
 g.2.1.1 - (1 : Int)) =
 false →
 (g.2.2.1.length +
 (((0 : Int) :: ([] : List Int)).set
 (0 : Nat) (0 : Int)).length ≤
 (9223372036854775807 : Nat) ∧
 (g.2.2.1.length +
 (((0 : Int) ::
 ([] : List Int)).set
 (0 : Nat)
 (0 : Int)).length +
 (g.2.2.1.length +
 (((0 : Int) ::
 ([] : List Int)).set
 (0 : Nat)
 (0 : Int)).length) /
 (4 : Nat) +
 (192 : Nat)) *
 (8 : Nat) ≤
 (281474976710656 : Nat)) ∧
 ((-9223372036854775808 : Int) ≤
 g.2.2.2.1 + (1 : Int) ∧
 g.2.2.2.1 + (1 : Int) ≤
 (9223372036854775807 : Int)) ∧
 (((0 : Int) ≤
 g.2.2.2.1 + (1 : Int) ∧
 g.2.2.2.1 + (1 : Int) ≤
 (↑x.1.length : Int) ∧
 (↑(g.2.2.1 ++
 ((0 : Int) ::
 ([] :
 List
 Int)).set
 (0 : Nat)
 (0 :
 Int)).length :
 Int) =
 g.2.2.2.1 +
 (1 : Int) ∧
 ∃ l,
 pl
 (List.take
 (g.2.2.2.1 +
 (1 : Int)).toNat
 x.1) =
 ((l,
 g.2.1.1 -
 (1 : Int),
 g.2.1.2.2.2.2 ++
 ((0 : Int) ::
 ([] :
 List
 Int)).set
 (0 : Nat)
 (x.1.getD
 g.2.2.2.1.toNat
 ((0 : Int),
 (0 :
 Int))).2),
 g.2.2.1 ++
 ((0 : Int) ::
 ([] :
 List
 Int)).set
 (0 : Nat)
 (0 : Int)) ∧
 MQ
 (List.drop (nat_lit 0)
 (List.take
 g_2.2.1.toNat
 (List.take
 g_2.2.1.toNat
 g_2.1 ++
 (List.replicate
 ((↑g_2.1.length :
 Int).toNat -
 g_2.2.1.toNat)
 (0 : Int) ++
 List.drop
 (g_2.2.1.toNat +
 ((↑g_2.1.length :
 Int).toNat -
 g_2.2.1.toNat))
 g_2.1))))
 (mdel Ty.bool
 g.2.1.2.2.1
 (x.1.getD
 g.2.2.2.1.toNat
 ((0 : Int),
 (0 :
 Int))).2)
 (mdel Ty.bool
 g.2.1.2.2.2.1
 (x.1.getD
 g.2.2.2.1.toNat
 ((0 : Int),
 (0 :
 Int))).2)
 l ∧
 good
 (l,
 g.2.1.1 -
 (1 : Int),
 g.2.1.2.2.2.2 ++
 ((0 : Int) ::
 ([] :
 List
 Int)).set
 (0 : Nat)
 (x.1.getD
 g.2.2.2.1.toNat
 ((0 : Int),
 (0 :
 Int))).2)
 (g.2.2.2.1 +
 (1 : Int))) ∧
 ((↑x.1.length : Int) -
 (g.2.2.2.1 +
 (1 : Int))).toNat <
 ((↑x.1.length : Int) -
 g.2.2.2.1).toNat) ∧
 ((True ∧ True) ∧
 (True ∧ True) ∧
 True ∧
 x.1 = x.1 ∧
 (↑x.1.length : Int) =
 (↑x.1.length : Int) ∧
 g.2.2.2.1 +
 (1 : Int) =
 g.2.2.2.1 +
 (1 : Int) ∧
 True) ∧
 (((True ∧ True) ∧ True) ∧
 (g.2.1.1 - (1 : Int) =
 g.2.1.1 -
 (1 : Int) ∧
 True ∧
 True ∧
 True ∧ True ∧ True) ∧
 List.drop (nat_lit 0)
 (List.take
 g_2.2.1.toNat
 (List.take
 g_2.2.1.toNat
 g_2.1 ++
 (List.replicate
 ((↑g_2.1.length :
 Int).toNat -
 g_2.2.1.toNat)
 (0 : Int) ++
 List.drop
 (g_2.2.1.toNat +
 ((↑g_2.1.length :
 Int).toNat -
 g_2.2.1.toNat))
 g_2.1))) =
 List.drop (nat_lit 0)
 (List.take
 g_2.2.1.toNat
 (List.take
 g_2.2.1.toNat
 g_2.1 ++
 (List.replicate
 ((↑g_2.1.length :
 Int).toNat -
 g_2.2.1.toNat)
 (0 : Int) ++
 List.drop
 (g_2.2.1.toNat +
 ((↑g_2.1.length :
 Int).toNat -
 g_2.2.1.toNat))
 g_2.1))) ∧
 mdel Ty.bool
 g.2.1.2.2.1
 (x.1.getD
 g.2.2.2.1.toNat
 ((0 : Int),
 (0 :
 Int))).2 =
 mdel Ty.bool
 g.2.1.2.2.1
 (x.1.getD
 g.2.2.2.1.toNat
 ((0 : Int),
 (0 :
 Int))).2 ∧
 mdel Ty.bool
 g.2.1.2.2.2.1
 (x.1.getD
 g.2.2.2.1.toNat
 ((0 : Int),
 (0 :
 Int))).2 =
 mdel Ty.bool
 g.2.1.2.2.2.1
 (x.1.getD
 g.2.2.2.1.toNat
 ((0 : Int),
 (0 :
 Int))).2 ∧
 g.2.1.2.2.2.2 ++
 ((0 : Int) ::
 ([] :
 List
 Int)).set
 (0 : Nat)
 (x.1.getD
 g.2.2.2.1.toNat
 ((0 : Int),
 (0 :
 Int))).2 =
 g.2.1.2.2.2.2 ++
 ((0 : Int) ::
 ([] :
 List
 Int)).set
 (0 : Nat)
 (x.1.getD
 g.2.2.2.1.toNat
 ((0 : Int),
 (0 :
 Int))).2 ∧
 g.2.2.1 ++
 ((0 : Int) ::
 ([] :
 List
 Int)).set
 (0 : Nat)
 (0 : Int) =
 g.2.2.1 ++
 ((0 : Int) ::
 ([] :
 List
 Int)).set
 (0 : Nat)
 (0 : Int) ∧
 True) ∧
 True)))) ∧
 ((g.2.1.2.1.getD g_1.1.toNat (0 : Int) ==
 (x.1.getD g.2.2.2.1.toNat ((0 : Int), (0 : Int))).2) =
 false →
 ((-9223372036854775808 : Int) ≤ g_1.1 + (1 : Int) ∧
 g_1.1 + (1 : Int) ≤ (9223372036854775807 : Int)) ∧
 (((0 : Int) ≤ g_1.1 + (1 : Int) ∧
 g_1.1 + (1 : Int) ≤ (↑g.2.1.2.1.length : Int) ∧
 ((List.take (g_1.1 + (1 : Int)).toNat g.2.1.2.1).any
 fun y ↦
 capF
 (some
 (x.1.getD g.2.2.2.1.toNat
 ((0 : Int), (0 : Int))).2)
 ([] : List (Int × Bool)) y) =
 false) ∧
 ((↑g.2.1.2.1.length : Int) -
 (g_1.1 + (1 : Int))).toNat <
 ((↑g.2.1.2.1.length : Int) - g_1.1).toNat) ∧
 (True ∧
 True ∧
 (↑g.2.1.2.1.length : Int) =
 (↑g.2.1.2.1.length : Int) ∧
 g_1.1 + (1 : Int) = g_1.1 + (1 : Int) ∧ True) ∧
 (g.2.1.2.1 = g.2.1.2.1 ∧
 (True ∧ (True ∧ True) ∧ True) ∧
 ((x.1.getD g.2.2.2.1.toNat
 ((0 : Int), (0 : Int))).2 =
 (x.1.getD g.2.2.2.1.toNat
 ((0 : Int), (0 : Int))).2 ∧
 True) ∧
 (g.2.1.1 - (1 : Int) = g.2.1.1 - (1 : Int) ∧
 True ∧ True ∧ True ∧ True ∧ True) ∧
 g.2.1.2.1 = g.2.1.2.1 ∧
 g.2.1.2.2.1 = g.2.1.2.2.1 ∧
 g.2.1.2.2.2.1 =
 g.2.1.2.2.2.1 ∧
 g.2.1.2.2.2.2 =
 g.2.1.2.2.2.2 ∧
 ((x.1.getD g.2.2.2.1.toNat
 ((0 : Int), (0 : Int))).1 =
 (x.1.getD g.2.2.2.1.toNat
 ((0 : Int), (0 : Int))).1 ∧
 (x.1.getD g.2.2.2.1.toNat
 ((0 : Int), (0 : Int))).2 =
 (x.1.getD g.2.2.2.1.toNat
 ((0 : Int), (0 : Int))).2 ∧
 True) ∧
 ((True ∧ True) ∧ True) ∧
 g.2.2.1 = g.2.2.1 ∧
 ((x.1.getD g.2.2.2.1.toNat
 ((0 : Int), (0 : Int))).1 =
 (x.1.getD g.2.2.2.1.toNat
 ((0 : Int), (0 : Int))).1 ∧
 (x.1.getD g.2.2.2.1.toNat
 ((0 : Int), (0 : Int))).2 =
 (x.1.getD
 g.2.2.2.1.toNat
 ((0 : Int), (0 : Int))).2 ∧
 True) ∧
 True) ∧
 True ∧
 True ∧
 True ∧
 True ∧
 Value.slice none (0 : Nat) (0 : Nat) =
 Value.slice none (0 : Nat) (0 : Nat) ∧
 True ∧
 True ∧
 True ∧
 True ∧
 True ∧
 True ∧
 True ∧
 True ∧
 True ∧
 True ∧
 True ∧
 True ∧
 True ∧
 True ∧
 True ∧
 True ∧
 True ∧
 True ∧
 True ∧
 True ∧
 True ∧
 True ∧
 True ∧
 True ∧
 True ∧
 True ∧
 True ∧
 True ∧
 True ∧
 True ∧
 True ∧
 True ∧
 True ∧
 True ∧
 True ∧
 True ∧
 True ∧
 (True ∧
 True) ∧
 (x.1.getD
 g.2.2.2.1.toNat
 ((0 :
 Int),
 (0 :
 Int))).2 =
 (x.1.getD
 g.2.2.2.1.toNat
 ((0 :
 Int),
 (0 :
 Int))).2 ∧
 True ∧
 (True ∧
 True) ∧
 (True ∧
 True) ∧
 (True ∧
 True) ∧
 (True ∧
 True) ∧
 (True ∧
 True) ∧
 True ∧
 True ∧
 True ∧
 True ∧
 True ∧
 True ∧
 True ∧
 True ∧
 True ∧
 True ∧
 True ∧
 True ∧
 True ∧
 True ∧
 True ∧
 True ∧
 (True ∧
 True) ∧
 ((x.1.getD
 g.2.2.2.1.toNat
 ((0 :
 Int),
 (0 :
 Int))).1 =
 (x.1.getD
 g.2.2.2.1.toNat
 ((0 :
 Int),
 (0 :
 Int))).1 ∧
 (x.1.getD
 g.2.2.2.1.toNat
 ((0 :
 Int),
 (0 :
 Int))).2 =
 (x.1.getD
 g.2.2.2.1.toNat
 ((0 :
 Int),
 (0 :
 Int))).2 ∧
 True) ∧
 True ∧
 (True ∧
 True) ∧
 (0 :
 Int) =
 (0 :
 Int) ∧
 decide
 ((0 :
 Int) ≤
 idx
 g.2.1.2.1
 (x.1.getD
 g.2.2.2.1.toNat
 ((0 :
 Int),
 (0 :
 Int))).2) =
 decide
 ((0 :
 Int) ≤
 idx
 g.2.1.2.1
 (x.1.getD
 g.2.2.2.1.toNat
 ((0 :
 Int),
 (0 :
 Int))).2) ∧
 false =
 false ∧
 (True ∧
 True) ∧
 (x.1.getD
 g.2.2.2.1.toNat
 ((0 :
 Int),
 (0 :
 Int))).1 =
 (x.1.getD
 g.2.2.2.1.toNat
 ((0 :
 Int),
 (0 :
 Int))).1 ∧
 decide
 ((x.1.getD
 g.2.2.2.1.toNat
 ((0 :
 Int),
 (0 :
 Int))).1 <
 (1 :
 Int)) =
 decide
 ((x.1.getD
 g.2.2.2.1.toNat
 ((0 :
 Int),
 (0 :
 Int))).1 <
 (1 :
 Int)) ∧
 decide
 ((x.1.getD
 g.2.2.2.1.toNat
 ((0 :
 Int),
 (0 :
 Int))).1 <
 (1 :
 Int)) =
 decide
 ((x.1.getD
 g.2.2.2.1.toNat
 ((0 :
 Int),
 (0 :
 Int))).1 <
 (1 :
 Int)) ∧
 True ∧
 True ∧
 True ∧
 (decide
 ((x.1.getD
 g.2.2.2.1.toNat
 ((0 :
 Int),
 (0 :
 Int))).1 <
 (1 :
 Int)) ||
 decide
 ((5 :
 Int) <
 (x.1.getD
 g.2.2.2.1.toNat
 ((0 :
 Int),
 (0 :
 Int))).1)) =
 (decide
 ((x.1.getD
 g.2.2.2.1.toNat
 ((0 :
 Int),
 (0 :
 Int))).1 <
 (1 :
 Int)) ||
 decide
 ((5 :
 Int) <
 (x.1.getD
 g.2.2.2.1.toNat
 ((0 :
 Int),
 (0 :
 Int))).1)) ∧
 false =
 false ∧
 (True ∧
 True) ∧
 (x.1.getD
 g.2.2.2.1.toNat
 ((0 :
 Int),
 (0 :
 Int))).2 =
 (x.1.getD
 g.2.2.2.1.toNat
 ((0 :
 Int),
 (0 :
 Int))).2 ∧
 decide
 ((x.1.getD
 g.2.2.2.1.toNat
 ((0 :
 Int),
 (0 :
 Int))).2 <
 (0 :
 Int)) =
 decide
 ((x.1.getD
 g.2.2.2.1.toNat
 ((0 :
 Int),
 (0 :
 Int))).2 <
 (0 :
 Int)) ∧
 decide
 ((x.1.getD
 g.2.2.2.1.toNat
 ((0 :
 Int),
 (0 :
 Int))).2 <
 (0 :
 Int)) =
 decide
 ((x.1.getD
 g.2.2.2.1.toNat
 ((0 :
 Int),
 (0 :
 Int))).2 <
 (0 :
 Int)) ∧
 True ∧
 True ∧
 True ∧
 (decide
 ((x.1.getD
 g.2.2.2.1.toNat
 ((0 :
 Int),
 (0 :
 Int))).2 <
 (0 :
 Int)) ||
 decide
 ((63 :
 Int) <
 (x.1.getD
 g.2.2.2.1.toNat
 ((0 :
 Int),
 (0 :
 Int))).2)) =
 (decide
 ((x.1.getD
 g.2.2.2.1.toNat
 ((0 :
 Int),
 (0 :
 Int))).2 <
 (0 :
 Int)) ||
 decide
 ((63 :
 Int) <
 (x.1.getD
 g.2.2.2.1.toNat
 ((0 :
 Int),
 (0 :
 Int))).2)) ∧
 (True ∧
 True) ∧
 (True ∧
 True) ∧
 (True ∧
 True) ∧
 True ∧
 (True ∧
 True) ∧
 (x.1.getD
 g.2.2.2.1.toNat
 ((0 :
 Int),
 (0 :
 Int))).2 =
 (x.1.getD
 g.2.2.2.1.toNat
 ((0 :
 Int),
 (0 :
 Int))).2 ∧
 decide
 ((0 :
 Int) ≤
 idx
 g.2.1.2.1
 (x.1.getD
 g.2.2.2.1.toNat
 ((0 :
 Int),
 (0 :
 Int))).2) =
 decide
 ((0 :
 Int) ≤
 idx
 g.2.1.2.1
 (x.1.getD
 g.2.2.2.1.toNat
 ((0 :
 Int),
 (0 :
 Int))).2) ∧
 (True ∧
 True) ∧
 (x.1.getD
 g.2.2.2.1.toNat
 ((0 :
 Int),
 (0 :
 Int))).1 =
 (x.1.getD
 g.2.2.2.1.toNat
 ((0 :
 Int),
 (0 :
 Int))).1 ∧
 false =
 false ∧
 ((x.1.getD
 g.2.2.2.1.toNat
 ((0 :
 Int),
 (0 :
 Int))).1 ==
 (1 :
 Int)) =
 ((x.1.getD
 g.2.2.2.1.toNat
 ((0 :
 Int),
 (0 :
 Int))).1 ==
 (1 :
 Int)) ∧
 True ∧
 True ∧
 True ∧
 True ∧
 True ∧
 True ∧
 True ∧
 True ∧
 True ∧
 True ∧
 True ∧
 True ∧
 True ∧
 True ∧
 True ∧
 True ∧
 True ∧
 True ∧
 True ∧
 True ∧
 True ∧
 True ∧
 True ∧
 True ∧
 True ∧
 True ∧
 True ∧
 True ∧
 true =
 true ∧
 ((x.1.getD
 g.2.2.2.1.toNat
 ((0 :
 Int),
 (0 :
 Int))).1 ==
 (2 :
 Int)) =
 ((x.1.getD
 g.2.2.2.1.toNat
 ((0 :
 Int),
 (0 :
 Int))).1 ==
 (2 :
 Int)) ∧
 false =
 false ∧
 (True ∧
 True) ∧
 (True ∧
 True) ∧
 (True ∧
 True) ∧
 True ∧
 (True ∧
 True) ∧
 (x.1.getD
 g.2.2.2.1.toNat
 ((0 :
 Int),
 (0 :
 Int))).2 =
 (x.1.getD
 g.2.2.2.1.toNat
 ((0 :
 Int),
 (0 :
 Int))).2 ∧
 mval
 Ty.bool
 g.2.1.2.2.2.1
 (x.1.getD
 g.2.2.2.1.toNat
 ((0 :
 Int),
 (0 :
 Int))).2 =
 mval
 Ty.bool
 g.2.1.2.2.2.1
 (x.1.getD
 g.2.2.2.1.toNat
 ((0 :
 Int),
 (0 :
 Int))).2 ∧
 false =
 false ∧
 decide
 ((0 :
 Int) ≤
 idx
 g.2.1.2.1
 (x.1.getD
 g.2.2.2.1.toNat
 ((0 :
 Int),
 (0 :
 Int))).2) =
 decide
 ((0 :
 Int) ≤
 idx
 g.2.1.2.1
 (x.1.getD
 g.2.2.2.1.toNat
 ((0 :
 Int),
 (0 :
 Int))).2) ∧
 (!decide
 ((0 :
 Int) ≤
 idx
 g.2.1.2.1
 (x.1.getD
 g.2.2.2.1.toNat
 ((0 :
 Int),
 (0 :
 Int))).2)) =
 !decide
 ((0 :
 Int) ≤
 idx
 g.2.1.2.1
 (x.1.getD
 g.2.2.2.1.toNat
 ((0 :
 Int),
 (0 :
 Int))).2) ∧
 false =
 false ∧
 (True ∧
 True) ∧
 (True ∧
 True) ∧
 (True ∧
 True) ∧
 g.2.1.1 =
 g.2.1.1 ∧
 (g.2.1.1 ==
 (0 :
 Int)) =
 (g.2.1.1 ==
 (0 :
 Int)) ∧
 (True ∧
 True) ∧
 (True ∧
 True) ∧
 (True ∧
 True) ∧
 g.2.1.1 =
 g.2.1.1 ∧
 g.2.1.1 -
 (1 :
 Int) =
 g.2.1.1 -
 (1 :
 Int) ∧
 (True ∧
 True) ∧
 (True ∧
 True) ∧
 (True ∧
 True) ∧
 (True ∧
 True) ∧
 (x.1.getD
 g.2.2.2.1.toNat
 ((0 :
 Int),
 (0 :
 Int))).2 =
 (x.1.getD
 g.2.2.2.1.toNat
 ((0 :
 Int),
 (0 :
 Int))).2 ∧
 True ∧
 True ∧
 True ∧
 True ∧
 True ∧
 True ∧
 True ∧
 True ∧
 True ∧
 True ∧
 True ∧
 True ∧
 True ∧
 True ∧
 True ∧
 True ∧
 True ∧
 True ∧
 True ∧
 True ∧
 True ∧
 True ∧
 True ∧
 True ∧
 True ∧
 True ∧
 True ∧
 True ∧
 True ∧
 True ∧
 True ∧
 True ∧
 True ∧
 True ∧
 True ∧
 True ∧
 True ∧
 True ∧
 True ∧
 True ∧
 True ∧
 True ∧
 True ∧
 True ∧
 True ∧
 True ∧
 True ∧
 True ∧
 True ∧
 True ∧
 True ∧
 True ∧
 True ∧
 True ∧
 True ∧
 True ∧
 True ∧
 True ∧
 True ∧
 True ∧
 True ∧
 True ∧
 True ∧
 True ∧
 True ∧
 True ∧
 True ∧
 True ∧
 True ∧
 True ∧
 True ∧
 True ∧
 True ∧
 True ∧
 True ∧
 True ∧
 True ∧
 True ∧
 True ∧
 True ∧
 (True ∧
 True) ∧
 True ∧
 True ∧
 (True ∧
 True) ∧
 True ∧
 True ∧
 True ∧
 True ∧
 (True ∧
 True) ∧
 x.1 =
 x.1 ∧
 (↑x.1.length :
 Int) =
 (↑x.1.length :
 Int) ∧
 g.2.2.2.1 =
 g.2.2.2.1 ∧
 true =
 true ∧
 True ∧
 ((x.1.getD
 g.2.2.2.1.toNat
 ((0 :
 Int),
 (0 :
 Int))).1 =
 (x.1.getD
 g.2.2.2.1.toNat
 ((0 :
 Int),
 (0 :
 Int))).1 ∧
 (x.1.getD
 g.2.2.2.1.toNat
 ((0 :
 Int),
 (0 :
 Int))).2 =
 (x.1.getD
 g.2.2.2.1.toNat
 ((0 :
 Int),
 (0 :
 Int))).2 ∧
 True) ∧
 True ∧
 (True ∧
 True) ∧
 ((x.1.getD
 g.2.2.2.1.toNat
 ((0 :
 Int),
 (0 :
 Int))).1 =
 (x.1.getD
 g.2.2.2.1.toNat
 ((0 :
 Int),
 (0 :
 Int))).1 ∧
 (x.1.getD
 g.2.2.2.1.toNat
 ((0 :
 Int),
 (0 :
 Int))).2 =
 (x.1.getD
 g.2.2.2.1.toNat
 ((0 :
 Int),
 (0 :
 Int))).2 ∧
 True) ∧
 True ∧
 True ∧
 True ∧
 True ∧
 True ∧
 True ∧
 True ∧
 True ∧
 True ∧
 True ∧
 True ∧
 True ∧
 True ∧
 True ∧
 True ∧
 True ∧
 True ∧
 True ∧
 True ∧
 True ∧
 True ∧
 True)) ∧
 (decide (g_1.1 < (↑g.2.1.2.1.length : Int)) = false →
 (((-1 : Int) == (-1 : Int)) = true →
 (g.2.1.2.2.2.2.length +
 (((0 : Int) :: ([] : List Int)).set (0 : Nat)
 (x.1.getD g.2.2.2.1.toNat
 ((0 : Int), (0 : Int))).2).length ≤
 (9223372036854775807 : Nat) ∧
 (g.2.1.2.2.2.2.length +
 (((0 : Int) :: ([] : List Int)).set (0 : Nat)
 (x.1.getD g.2.2.2.1.toNat
 ((0 : Int), (0 : Int))).2).length +
 (g.2.1.2.2.2.2.length +
 (((0 : Int) :: ([] : List Int)).set (0 : Nat)
 (x.1.getD g.2.2.2.1.toNat
 ((0 : Int), (0 : Int))).2).length) /
 (4 : Nat) +
 (192 : Nat)) *
 (8 : Nat) ≤
 (281474976710656 : Nat)) ∧
 (decide ((0 : Int) < g.2.1.1 - (1 : Int)) = true →
 ((((0 : Int) ≤ (0 : Int) ∧
 (0 : Int) ≤ (↑g.2.1.2.1.length : Int) ∧
 ((List.take (Int.toNat (0 : Int)) g.2.1.2.1).all
 fun y ↦
 mval Ty.bool
 (mdel Ty.bool g.2.1.2.2.1
 (x.1.getD g.2.2.2.1.toNat
 ((0 : Int), (0 : Int))).2)
 y) =
 true) ∧
 True) ∧
 ((True ∧ True) ∧
 True ∧
 (↑g.2.1.2.1.length : Int) =
 (↑g.2.1.2.1.length : Int) ∧
 (0 : Int) = (0 : Int) ∧ True) ∧
 ((g.2.1.1 - (1 : Int) = g.2.1.1 - (1 : Int) ∧
 True ∧ True ∧ True ∧ True ∧ True) ∧
 g.2.1.2.1 = g.2.1.2.1 ∧
 mdel Ty.bool g.2.1.2.2.1
 (x.1.getD g.2.2.2.1.toNat
 ((0 : Int), (0 : Int))).2 =
 mdel Ty.bool g.2.1.2.2.1
 (x.1.getD g.2.2.2.1.toNat
 ((0 : Int), (0 : Int))).2 ∧
 mdel Ty.bool g.2.1.2.2.2.1
 (x.1.getD g.2.2.2.1.toNat
 ((0 : Int), (0 : Int))).2 =
 mdel Ty.bool g.2.1.2.2.2.1
 (x.1.getD g.2.2.2.1.toNat
 ((0 : Int), (0 : Int))).2 ∧
 g.2.1.2.2.2.2 ++
 ((0 : Int) :: ([] : List Int)).set (0 : Nat)
 (x.1.getD g.2.2.2.1.toNat
 ((0 : Int), (0 : Int))).2 =
 g.2.1.2.2.2.2 ++
 ((0 : Int) :: ([] : List Int)).set (0 : Nat)
 (x.1.getD g.2.2.2.1.toNat
 ((0 : Int), (0 : Int))).2 ∧
 ((x.1.getD g.2.2.2.1.toNat
 ((0 : Int), (0 : Int))).1 =
 (x.1.getD g.2.2.2.1.toNat
 ((0 : Int), (0 : Int))).1 ∧
 (x.1.getD g.2.2.2.1.toNat
 ((0 : Int), (0 : Int))).2 =
 (x.1.getD g.2.2.2.1.toNat
 ((0 : Int), (0 : Int))).2 ∧
 True) ∧
 g.2.1.2.1 = g.2.1.2.1 ∧
 ((0 : Int) :: ([] : List Int)).set (0 : Nat)
 (x.1.getD g.2.2.2.1.toNat
 ((0 : Int), (0 : Int))).2 =
 ((0 : Int) :: ([] : List Int)).set
 (0 : Nat)
 (x.1.getD g.2.2.2.1.toNat
 ((0 : Int), (0 : Int))).2 ∧
 ((True ∧ True) ∧ True) ∧
 g.2.2.1 = g.2.2.1 ∧
 ((x.1.getD g.2.2.2.1.toNat
 ((0 : Int), (0 : Int))).1 =
 (x.1.getD
 g.2.2.2.1.toNat
 ((0 : Int), (0 : Int))).1 ∧
 (x.1.getD g.2.2.2.1.toNat
 ((0 : Int),
 (0 : Int))).2 =
 (x.1.getD
 g.2.2.2.1.toNat
 ((0 : Int),
 (0 : Int))).2 ∧
 True) ∧
 True) ∧
 (True ∧ True) ∧
 ((x.1.getD g.2.2.2.1.toNat
 ((0 : Int), (0 : Int))).1 =
 (x.1.getD g.2.2.2.1.toNat
 ((0 : Int), (0 : Int))).1 ∧
 (x.1.getD g.2.2.2.1.toNat
 ((0 : Int), (0 : Int))).2 =
 (x.1.getD g.2.2.2.1.toNat
 ((0 : Int), (0 : Int))).2 ∧
 True) ∧
 True ∧
 (True ∧ True) ∧
 (0 : Int) = (0 : Int) ∧
 decide
 ((0 : Int) ≤
 idx g.2.1.2.1
 (x.1.getD g.2.2.2.1.toNat
 ((0 : Int), (0 : Int))).2) =
 decide
 ((0 : Int) ≤
 idx g.2.1.2.1
 (x.1.getD g.2.2.2.1.toNat
 ((0 : Int), (0 : Int))).2) ∧
 false = false ∧
 (True ∧ True) ∧
 (x.1.getD g.2.2.2.1.toNat
 ((0 : Int), (0 : Int))).1 =
 (x.1.getD g.2.2.2.1.toNat
 ((0 : Int), (0 : Int))).1 ∧
 decide
 ((x.1.getD g.2.2.2.1.toNat
 ((0 : Int), (0 : Int))).1 <
 (1 : Int)) =
 decide
 ((x.1.getD g.2.2.2.1.toNat
 ((0 : Int), (0 : Int))).1 <
 (1 : Int)) ∧
 decide
 ((x.1.getD
 g.2.2.2.1.toNat
 ((0 : Int),
 (0 : Int))).1 <
 (1 : Int)) =
 decide
 ((x.1.getD
 g.2.2.2.1.toNat
 ((0 : Int),
 (0 : Int))).1 <
 (1 : Int)) ∧
 True ∧
 True ∧
 True ∧
 (decide
 ((x.1.getD
 g.2.2.2.1.toNat
 ((0 : Int),
 (0 :
 Int))).1 <
 (1 : Int)) ||
 decide
 ((5 : Int) <
 (x.1.getD
 g.2.2.2.1.toNat
 ((0 : Int),
 (0 :
 Int))).1)) =
 (decide
 ((x.1.getD
 g.2.2.2.1.toNat
 ((0 : Int),
 (0 :
 Int))).1 <
 (1 : Int)) ||
 decide
 ((5 : Int) <
 (x.1.getD
 g.2.2.2.1.toNat
 ((0 : Int),
 (0 :
 Int))).1)) ∧
 false = false ∧
 (True ∧ True) ∧
 (x.1.getD
 g.2.2.2.1.toNat
 ((0 : Int),
 (0 :
 Int))).2 =
 (x.1.getD
 g.2.2.2.1.toNat
 ((0 : Int),
 (0 :
 Int))).2 ∧
 decide
 ((x.1.getD
 g.2.2.2.1.toNat
 ((0 : Int),
 (0 :
 Int))).2 <
 (0 : Int)) =
 decide
 ((x.1.getD
 g.2.2.2.1.toNat
 ((0 : Int),
 (0 :
 Int))).2 <
 (0 : Int)) ∧
 decide
 ((x.1.getD
 g.2.2.2.1.toNat
 ((0 :
 Int),
 (0 :
 Int))).2 <
 (0 : Int)) =
 decide
 ((x.1.getD
 g.2.2.2.1.toNat
 ((0 :
 Int),
 (0 :
 Int))).2 <
 (0 : Int)) ∧
 True ∧
 True ∧
 True ∧
 (decide
 ((x.1.getD
 g.2.2.2.1.toNat
 ((0 :
 Int),
 (0 :
 Int))).2 <
 (0 :
 Int)) ||
 decide
 ((63 :
 Int) <
 (x.1.getD
 g.2.2.2.1.toNat
 ((0 :
 Int),
 (0 :
 Int))).2)) =
 (decide
 ((x.1.getD
 g.2.2.2.1.toNat
 ((0 :
 Int),
 (0 :
 Int))).2 <
 (0 :
 Int)) ||
 decide
 ((63 :
 Int) <
 (x.1.getD
 g.2.2.2.1.toNat
 ((0 :
 Int),
 (0 :
 Int))).2)) ∧
 (True ∧
 True) ∧
 (True ∧
 True) ∧
 (True ∧
 True) ∧
 True ∧
 (True ∧
 True) ∧
 (x.1.getD
 g.2.2.2.1.toNat
 ((0 :
 Int),
 (0 :
 Int))).2 =
 (x.1.getD
 g.2.2.2.1.toNat
 ((0 :
 Int),
 (0 :
 Int))).2 ∧
 decide
 ((0 :
 Int) ≤
 idx
 g.2.1.2.1
 (x.1.getD
 g.2.2.2.1.toNat
 ((0 :
 Int),
 (0 :
 Int))).2) =
 decide
 ((0 :
 Int) ≤
 idx
 g.2.1.2.1
 (x.1.getD
 g.2.2.2.1.toNat
 ((0 :
 Int),
 (0 :
 Int))).2) ∧
 (True ∧
 True) ∧
 (x.1.getD
 g.2.2.2.1.toNat
 ((0 :
 Int),
 (0 :
 Int))).1 =
 (x.1.getD
 g.2.2.2.1.toNat
 ((0 :
 Int),
 (0 :
 Int))).1 ∧
 false =
 false ∧
 ((x.1.getD
 g.2.2.2.1.toNat
 ((0 :
 Int),
 (0 :
 Int))).1 ==
 (1 :
 Int)) =
 ((x.1.getD
 g.2.2.2.1.toNat
 ((0 :
 Int),
 (0 :
 Int))).1 ==
 (1 :
 Int)) ∧
 True ∧
 True ∧
 True ∧
 True ∧
 True ∧
 True ∧
 True ∧
 True ∧
 True ∧
 True ∧
 True ∧
 True ∧
 True ∧
 True ∧
 True ∧
 True ∧
 True ∧
 True ∧
 True ∧
 True ∧
 True ∧
 True ∧
 True ∧
 True ∧
 True ∧
 True ∧
 True ∧
 True ∧
 true =
 true ∧
 ((x.1.getD
 g.2.2.2.1.toNat
 ((0 :
 Int),
 (0 :
 Int))).1 ==
 (2 :
 Int)) =
 ((x.1.getD
 g.2.2.2.1.toNat
 ((0 :
 Int),
 (0 :
 Int))).1 ==
 (2 :
 Int)) ∧
 false =
 false ∧
 (True ∧
 True) ∧
 (True ∧
 True) ∧
 (True ∧
 True) ∧
 True ∧
 (True ∧
 True) ∧
 (x.1.getD
 g.2.2.2.1.toNat
 ((0 :
 Int),
 (0 :
 Int))).2 =
 (x.1.getD
 g.2.2.2.1.toNat
 ((0 :
 Int),
 (0 :
 Int))).2 ∧
 mval
 Ty.bool
 g.2.1.2.2.2.1
 (x.1.getD
 g.2.2.2.1.toNat
 ((0 :
 Int),
 (0 :
 Int))).2 =
 mval
 Ty.bool
 g.2.1.2.2.2.1
 (x.1.getD
 g.2.2.2.1.toNat
 ((0 :
 Int),
 (0 :
 Int))).2 ∧
 false =
 false ∧
 decide
 ((0 :
 Int) ≤
 idx
 g.2.1.2.1
 (x.1.getD
 g.2.2.2.1.toNat
 ((0 :
 Int),
 (0 :
 Int))).2) =
 decide
 ((0 :
 Int) ≤
 idx
 g.2.1.2.1
 (x.1.getD
 g.2.2.2.1.toNat
 ((0 :
 Int),
 (0 :
 Int))).2) ∧
 (!decide
 ((0 :
 Int) ≤
 idx
 g.2.1.2.1
 (x.1.getD
 g.2.2.2.1.toNat
 ((0 :
 Int),
 (0 :
 Int))).2)) =
 !decide
 ((0 :
 Int) ≤
 idx
 g.2.1.2.1
 (x.1.getD
 g.2.2.2.1.toNat
 ((0 :
 Int),
 (0 :
 Int))).2) ∧
 false =
 false ∧
 (True ∧
 True) ∧
 (True ∧
 True) ∧
 (True ∧
 True) ∧
 g.2.1.1 =
 g.2.1.1 ∧
 (g.2.1.1 ==
 (0 :
 Int)) =
 (g.2.1.1 ==
 (0 :
 Int)) ∧
 (True ∧
 True) ∧
 (True ∧
 True) ∧
 (True ∧
 True) ∧
 g.2.1.1 =
 g.2.1.1 ∧
 g.2.1.1 -
 (1 :
 Int) =
 g.2.1.1 -
 (1 :
 Int) ∧
 (True ∧
 True) ∧
 (True ∧
 True) ∧
 (True ∧
 True) ∧
 (True ∧
 True) ∧
 (x.1.getD
 g.2.2.2.1.toNat
 ((0 :
 Int),
 (0 :
 Int))).2 =
 (x.1.getD
 g.2.2.2.1.toNat
 ((0 :
 Int),
 (0 :
 Int))).2 ∧
 True ∧
 (True ∧
 True) ∧
 (True ∧
 True) ∧
 (True ∧
 True) ∧
 (True ∧
 True) ∧
 True ∧
 (True ∧
 True) ∧
 (x.1.getD
 g.2.2.2.1.toNat
 ((0 :
 Int),
 (0 :
 Int))).2 =
 (x.1.getD
 g.2.2.2.1.toNat
 ((0 :
 Int),
 (0 :
 Int))).2 ∧
 True ∧
 True ∧
 (True ∧
 True) ∧
 (True ∧
 True) ∧
 (True ∧
 True) ∧
 (True ∧
 True) ∧
 (True ∧
 True) ∧
 g.2.1.1 -
 (1 :
 Int) =
 g.2.1.1 -
 (1 :
 Int) ∧
 true =
 true ∧
 (True ∧
 True) ∧
 True ∧
 True ∧
 True ∧
 True ∧
 True ∧
 True ∧
 True ∧
 True ∧
 True ∧
 True ∧
 True ∧
 True ∧
 True ∧
 True ∧
 True ∧
 True ∧
 True ∧
 True ∧
 True ∧
 True ∧
 True ∧
 True ∧
 True ∧
 True ∧
 True ∧
 True ∧
 True ∧
 True ∧
 True ∧
 True ∧
 True ∧
 True ∧
 True ∧
 True ∧
 True ∧
 True ∧
 True ∧
 True ∧
 True ∧
 True ∧
 True ∧
 True ∧
 True ∧
 True ∧
 True ∧
 True ∧
 True ∧
 True ∧
 True ∧
 True ∧
 True ∧
 True ∧
 True ∧
 True ∧
 True ∧
 True ∧
 True ∧
 True ∧
 True ∧
 True ∧
 True ∧
 True ∧
 (True ∧
 True) ∧
 True ∧
 True ∧
 (True ∧
 True) ∧
 True ∧
 True ∧
 True ∧
 True ∧
 (True ∧
 True) ∧
 x.1 =
 x.1 ∧
 (↑x.1.length :
 Int) =
 (↑x.1.length :
 Int) ∧
 g.2.2.2.1 =
 g.2.2.2.1 ∧
 true =
 true ∧
 True ∧
 ((x.1.getD
 g.2.2.2.1.toNat
 ((0 :
 Int),
 (0 :
 Int))).1 =
 (x.1.getD
 g.2.2.2.1.toNat
 ((0 :
 Int),
 (0 :
 Int))).1 ∧
 (x.1.getD
 g.2.2.2.1.toNat
 ((0 :
 Int),
 (0 :
 Int))).2 =
 (x.1.getD
 g.2.2.2.1.toNat
 ((0 :
 Int),
 (0 :
 Int))).2 ∧
 True) ∧
 True ∧
 (True ∧
 True) ∧
 ((x.1.getD
 g.2.2.2.1.toNat
 ((0 :
 Int),
 (0 :
 Int))).1 =
 (x.1.getD
 g.2.2.2.1.toNat
 ((0 :
 Int),
 (0 :
 Int))).1 ∧
 (x.1.getD
 g.2.2.2.1.toNat
 ((0 :
 Int),
 (0 :
 Int))).2 =
 (x.1.getD
 g.2.2.2.1.toNat
 ((0 :
 Int),
 (0 :
 Int))).2 ∧
 True) ∧
 True ∧
 True ∧
 True ∧
 True ∧
 True ∧
 True ∧
 True ∧
 True ∧
 True ∧
 True ∧
 True ∧
 True ∧
 True ∧
 True ∧
 True ∧
 True ∧
 True ∧
 True ∧
 True ∧
 True ∧
 True ∧
 True) ∧
 ∀ (g_2 : Int × Unit),
 (0 : Int) ≤ g_2.1 ∧
 g_2.1 ≤ (↑g.2.1.2.1.length : Int) ∧
 ((List.take g_2.1.toNat g.2.1.2.1).all fun y ↦
 mval Ty.bool
 (mdel Ty.bool g.2.1.2.2.1
 (x.1.getD g.2.2.2.1.toNat
 ((0 : Int), (0 : Int))).2)
 y) =
 true →
 ((-9223372036854775808 : Int) ≤ g_2.1 ∧
 g_2.1 ≤ (9223372036854775807 : Int)) ∧
 True →
 (decide (g_2.1 < (↑g.2.1.2.1.length : Int)) =
 true →
 ((0 : Int) ≤ g_2.1 ∧
 g_2.1 < (↑g.2.1.2.1.length : Int)) ∧
 ((!mval Ty.bool
 (mdel Ty.bool g.2.1.2.2.1
 (x.1.getD g.2.2.2.1.toNat
 ((0 : Int), (0 : Int))).2)
 (g.2.1.2.1.getD g_2.1.toNat
 (0 : Int))) =
 true →
 (g.2.2.1.length +
 (((0 : Int) :: ([] : List Int)).set
 (0 : Nat) (0 : Int)).length ≤
 (9223372036854775807 : Nat) ∧
 (g.2.2.1.length +
 (((0 : Int) :: ([] : List Int)).set
 (0 : Nat) (0 : Int)).length +
 (g.2.2.1.length +
 (((0 : Int) ::
 ([] : List Int)).set
 (0 : Nat) (0 : Int)).length) /
 (4 : Nat) +
 (192 : Nat)) *
 (8 : Nat) ≤
 (281474976710656 : Nat)) ∧
 ((-9223372036854775808 : Int) ≤
 g.2.2.2.1 + (1 : Int) ∧
 g.2.2.2.1 + (1 : Int) ≤
 (9223372036854775807 : Int)) ∧
 (((0 : Int) ≤ g.2.2.2.1 + (1 : Int) ∧
 g.2.2.2.1 + (1 : Int) ≤
 (↑x.1.length : Int) ∧
 (↑(g.2.2.1 ++
 ((0 : Int) ::
 ([] : List Int)).set
 (0 : Nat)
 (0 : Int)).length :
 Int) =
 g.2.2.2.1 + (1 : Int) ∧
 ∃ l,
 pl
 (List.take
 (g.2.2.2.1 +
 (1 : Int)).toNat
 x.1) =
 ((l,
 g.2.1.1 - (1 : Int),
 g.2.1.2.2.2.2 ++
 ((0 : Int) ::
 ([] :
 List Int)).set
 (0 : Nat)
 (x.1.getD
 g.2.2.2.1.toNat
 ((0 : Int),
 (0 :
 Int))).2),
 g.2.2.1 ++
 ((0 : Int) ::
 ([] : List Int)).set
 (0 : Nat) (0 : Int)) ∧
 MQ g.2.1.2.1
 (mput Ty.bool
 (mdel Ty.bool
 g.2.1.2.2.1
 (x.1.getD
 g.2.2.2.1.toNat
 ((0 : Int),
 (0 : Int))).2)
 (g.2.1.2.1.getD
 g_2.1.toNat (0 : Int))
 true)
 (mdel Ty.bool
 (mdel Ty.bool
 g.2.1.2.2.2.1
 (x.1.getD
 g.2.2.2.1.toNat
 ((0 : Int),
 (0 : Int))).2)
 (g.2.1.2.1.getD
 g_2.1.toNat
 (0 : Int)))
 l ∧
 good
 (l,
 g.2.1.1 - (1 : Int),
 g.2.1.2.2.2.2 ++
 ((0 : Int) ::
 ([] :
 List Int)).set
 (0 : Nat)
 (x.1.getD
 g.2.2.2.1.toNat
 ((0 : Int),
 (0 : Int))).2)
 (g.2.2.2.1 +
 (1 : Int))) ∧
 ((↑x.1.length : Int) -
 (g.2.2.2.1 +
 (1 : Int))).toNat <
 ((↑x.1.length : Int) -
 g.2.2.2.1).toNat) ∧
 ((True ∧ True) ∧
 (True ∧ True) ∧
 True ∧
 x.1 = x.1 ∧
 (↑x.1.length : Int) =
 (↑x.1.length : Int) ∧
 g.2.2.2.1 + (1 : Int) =
 g.2.2.2.1 +
 (1 : Int) ∧
 True) ∧
 (((True ∧ True) ∧ True) ∧
 (g.2.1.1 - (1 : Int) =
 g.2.1.1 - (1 : Int) ∧
 True ∧
 True ∧ True ∧ True ∧ True) ∧
 g.2.1.2.1 =
 g.2.1.2.1 ∧
 mput Ty.bool
 (mdel Ty.bool
 g.2.1.2.2.1
 (x.1.getD
 g.2.2.2.1.toNat
 ((0 : Int),
 (0 : Int))).2)
 (g.2.1.2.1.getD
 g_2.1.toNat (0 : Int))
 true =
 mput Ty.bool
 (mdel Ty.bool
 g.2.1.2.2.1
 (x.1.getD
 g.2.2.2.1.toNat
 ((0 : Int),
 (0 : Int))).2)
 (g.2.1.2.1.getD
 g_2.1.toNat (0 : Int))
 true ∧
 mdel Ty.bool
 (mdel Ty.bool
 g.2.1.2.2.2.1
 (x.1.getD
 g.2.2.2.1.toNat
 ((0 : Int),
 (0 : Int))).2)
 (g.2.1.2.1.getD
 g_2.1.toNat
 (0 : Int)) =
 mdel Ty.bool
 (mdel Ty.bool
 g.2.1.2.2.2.1
 (x.1.getD
 g.2.2.2.1.toNat
 ((0 : Int),
 (0 : Int))).2)
 (g.2.1.2.1.getD
 g_2.1.toNat
 (0 : Int)) ∧
 g.2.1.2.2.2.2 ++
 ((0 : Int) ::
 ([] :
 List Int)).set
 (0 : Nat)
 (x.1.getD
 g.2.2.2.1.toNat
 ((0 : Int),
 (0 :
 Int))).2 =
 g.2.1.2.2.2.2 ++
 ((0 : Int) ::
 ([] :
 List Int)).set
 (0 : Nat)
 (x.1.getD
 g.2.2.2.1.toNat
 ((0 : Int),
 (0 :
 Int))).2 ∧
 g.2.2.1 ++
 ((0 : Int) ::
 ([] :
 List Int)).set
 (0 : Nat)
 (0 : Int) =
 g.2.2.1 ++
 ((0 : Int) ::
 ([] :
 List Int)).set
 (0 : Nat)
 (0 : Int) ∧
 True) ∧
 True) ∧
 ((!mval Ty.bool
 (mdel Ty.bool g.2.1.2.2.1
 (x.1.getD g.2.2.2.1.toNat
 ((0 : Int), (0 : Int))).2)
 (g.2.1.2.1.getD g_2.1.toNat
 (0 : Int))) =
 false →
 ((-9223372036854775808 : Int) ≤
 g_2.1 + (1 : Int) ∧
 g_2.1 + (1 : Int) ≤
 (9223372036854775807 : Int)) ∧
 (((0 : Int) ≤ g_2.1 + (1 : Int) ∧
 g_2.1 + (1 : Int) ≤
 (↑g.2.1.2.1.length : Int) ∧
 ((List.take (g_2.1 + (1 : Int)).toNat
 g.2.1.2.1).all
 fun y ↦
 mval Ty.bool
 (mdel Ty.bool
 g.2.1.2.2.1
 (x.1.getD
 g.2.2.2.1.toNat
 ((0 : Int), (0 : Int))).2)
 y) =
 true) ∧
 ((↑g.2.1.2.1.length : Int) -
 (g_2.1 + (1 : Int))).toNat <
 ((↑g.2.1.2.1.length : Int) -
 g_2.1).toNat) ∧
 ((True ∧ True) ∧
 True ∧
 (↑g.2.1.2.1.length : Int) =
 (↑g.2.1.2.1.length : Int) ∧
 g_2.1 + (1 : Int) =
 g_2.1 + (1 : Int) ∧
 True) ∧
 ((g.2.1.1 - (1 : Int) =
 g.2.1.1 - (1 : Int) ∧
 True ∧ True ∧ True ∧ True ∧ True) ∧
 g.2.1.2.1 = g.2.1.2.1 ∧
 mdel Ty.bool g.2.1.2.2.1
 (x.1.getD
 g.2.2.2.1.toNat
 ((0 : Int),
 (0 : Int))).2 =
 mdel Ty.bool g.2.1.2.2.1
 (x.1.getD
 g.2.2.2.1.toNat
 ((0 : Int),
 (0 : Int))).2 ∧
 mdel Ty.bool
 g.2.1.2.2.2.1
 (x.1.getD
 g.2.2.2.1.toNat
 ((0 : Int),
 (0 : Int))).2 =
 mdel Ty.bool
 g.2.1.2.2.2.1
 (x.1.getD
 g.2.2.2.1.toNat
 ((0 : Int),
 (0 : Int))).2 ∧
 g.2.1.2.2.2.2 ++
 ((0 : Int) ::
 ([] : List Int)).set
 (0 : Nat)
 (x.1.getD
 g.2.2.2.1.toNat
 ((0 : Int),
 (0 : Int))).2 =
 g.2.1.2.2.2.2 ++
 ((0 : Int) ::
 ([] : List Int)).set
 (0 : Nat)
 (x.1.getD
 g.2.2.2.1.toNat
 ((0 : Int),
 (0 : Int))).2 ∧
 ((x.1.getD
 g.2.2.2.1.toNat
 ((0 : Int),
 (0 : Int))).1 =
 (x.1.getD
 g.2.2.2.1.toNat
 ((0 : Int),
 (0 : Int))).1 ∧
 (x.1.getD
 g.2.2.2.1.toNat
 ((0 : Int),
 (0 : Int))).2 =
 (x.1.getD
 g.2.2.2.1.toNat
 ((0 : Int),
 (0 : Int))).2 ∧
 True) ∧
 g.2.1.2.1 =
 g.2.1.2.1 ∧
 ((0 : Int) ::
 ([] :
 List Int)).set
 (0 : Nat)
 (x.1.getD
 g.2.2.2.1.toNat
 ((0 : Int),
 (0 :
 Int))).2 =
 ((0 : Int) ::
 ([] :
 List Int)).set
 (0 : Nat)
 (x.1.getD
 g.2.2.2.1.toNat
 ((0 : Int),
 (0 :
 Int))).2 ∧
 ((True ∧ True) ∧ True) ∧
 g.2.2.1 =
 g.2.2.1 ∧
 ((x.1.getD
 g.2.2.2.1.toNat
 ((0 : Int),
 (0 :
 Int))).1 =
 (x.1.getD
 g.2.2.2.1.toNat
 ((0 : Int),
 (0 :
 Int))).1 ∧
 (x.1.getD
 g.2.2.2.1.toNat
 ((0 :
 Int),
 (0 :
 Int))).2 =
 (x.1.getD
 g.2.2.2.1.toNat
 ((0 :
 Int),
 (0 :
 Int))).2 ∧
 True) ∧
 True) ∧
 (True ∧ True) ∧
 ((x.1.getD g.2.2.2.1.toNat
 ((0 : Int), (0 : Int))).1 =
 (x.1.getD
 g.2.2.2.1.toNat
 ((0 : Int), (0 : Int))).1 ∧
 (x.1.getD g.2.2.2.1.toNat
 ((0 : Int),
 (0 : Int))).2 =
 (x.1.getD
 g.2.2.2.1.toNat
 ((0 : Int),
 (0 : Int))).2 ∧
 True) ∧
 True ∧
 (True ∧ True) ∧
 (0 : Int) = (0 : Int) ∧
 decide
 ((0 : Int) ≤
 idx g.2.1.2.1
 (x.1.getD
 g.2.2.2.1.toNat
 ((0 : Int),
 (0 :
 Int))).2) =
 decide
 ((0 : Int) ≤
 idx g.2.1.2.1
 (x.1.getD
 g.2.2.2.1.toNat
 ((0 : Int),
 (0 :
 Int))).2) ∧
 false = false ∧
 (True ∧ True) ∧
 (x.1.getD
 g.2.2.2.1.toNat
 ((0 : Int),
 (0 :
 Int))).1 =
 (x.1.getD
 g.2.2.2.1.toNat
 ((0 : Int),
 (0 :
 Int))).1 ∧
 decide
 ((x.1.getD
 g.2.2.2.1.toNat
 ((0 : Int),
 (0 :
 Int))).1 <
 (1 : Int)) =
 decide
 ((x.1.getD
 g.2.2.2.1.toNat
 ((0 : Int),
 (0 :
 Int))).1 <
 (1 : Int)) ∧
 decide
 ((x.1.getD
 g.2.2.2.1.toNat
 ((0 :
 Int),
 (0 :
 Int))).1 <
 (1 : Int)) =
 decide
 ((x.1.getD
 g.2.2.2.1.toNat
 ((0 :
 Int),
 (0 :
 Int))).1 <
 (1 : Int)) ∧
 True ∧
 True ∧
 True ∧
 (decide
 ((x.1.getD
 g.2.2.2.1.toNat
 ((0 :
 Int),
 (0 :
 Int))).1 <
 (1 :
 Int)) ||
 decide
 ((5 :
 Int) <
 (x.1.getD
 g.2.2.2.1.toNat
 ((0 :
 Int),
 (0 :
 Int))).1)) =
 (decide
 ((x.1.getD
 g.2.2.2.1.toNat
 ((0 :
 Int),
 (0 :
 Int))).1 <
 (1 :
 Int)) ||
 decide
 ((5 :
 Int) <
 (x.1.getD
 g.2.2.2.1.toNat
 ((0 :
 Int),
 (0 :
 Int))).1)) ∧
 false =
 false ∧
 (True ∧
 True) ∧
 (x.1.getD
 g.2.2.2.1.toNat
 ((0 :
 Int),
 (0 :
 Int))).2 =
 (x.1.getD
 g.2.2.2.1.toNat
 ((0 :
 Int),
 (0 :
 Int))).2 ∧
 decide
 ((x.1.getD
 g.2.2.2.1.toNat
 ((0 :
 Int),
 (0 :
 Int))).2 <
 (0 :
 Int)) =
 decide
 ((x.1.getD
 g.2.2.2.1.toNat
 ((0 :
 Int),
 (0 :
 Int))).2 <
 (0 :
 Int)) ∧
 decide
 ((x.1.getD
 g.2.2.2.1.toNat
 ((0 :
 Int),
 (0 :
 Int))).2 <
 (0 :
 Int)) =
 decide
 ((x.1.getD
 g.2.2.2.1.toNat
 ((0 :
 Int),
 (0 :
 Int))).2 <
 (0 :
 Int)) ∧
 True ∧
 True ∧
 True ∧
 (decide
 ((x.1.getD
 g.2.2.2.1.toNat
 ((0 :
 Int),
 (0 :
 Int))).2 <
 (0 :
 Int)) ||
 decide
 ((63 :
 Int) <
 (x.1.getD
 g.2.2.2.1.toNat
 ((0 :
 Int),
 (0 :
 Int))).2)) =
 (decide
 ((x.1.getD
 g.2.2.2.1.toNat
 ((0 :
 Int),
 (0 :
 Int))).2 <
 (0 :
 Int)) ||
 decide
 ((63 :
 Int) <
 (x.1.getD
 g.2.2.2.1.toNat
 ((0 :
 Int),
 (0 :
 Int))).2)) ∧
 (True ∧
 True) ∧
 (True ∧
 True) ∧
 (True ∧
 True) ∧
 True ∧
 (True ∧
 True) ∧
 (x.1.getD
 g.2.2.2.1.toNat
 ((0 :
 Int),
 (0 :
 Int))).2 =
 (x.1.getD
 g.2.2.2.1.toNat
 ((0 :
 Int),
 (0 :
 Int))).2 ∧
 decide
 ((0 :
 Int) ≤
 idx
 g.2.1.2.1
 (x.1.getD
 g.2.2.2.1.toNat
 ((0 :
 Int),
 (0 :
 Int))).2) =
 decide
 ((0 :
 Int) ≤
 idx
 g.2.1.2.1
 (x.1.getD
 g.2.2.2.1.toNat
 ((0 :
 Int),
 (0 :
 Int))).2) ∧
 (True ∧
 True) ∧
 (x.1.getD
 g.2.2.2.1.toNat
 ((0 :
 Int),
 (0 :
 Int))).1 =
 (x.1.getD
 g.2.2.2.1.toNat
 ((0 :
 Int),
 (0 :
 Int))).1 ∧
 false =
 false ∧
 ((x.1.getD
 g.2.2.2.1.toNat
 ((0 :
 Int),
 (0 :
 Int))).1 ==
 (1 :
 Int)) =
 ((x.1.getD
 g.2.2.2.1.toNat
 ((0 :
 Int),
 (0 :
 Int))).1 ==
 (1 :
 Int)) ∧
 True ∧
 True ∧
 True ∧
 True ∧
 True ∧
 True ∧
 True ∧
 True ∧
 True ∧
 True ∧
 True ∧
 True ∧
 True ∧
 True ∧
 True ∧
 True ∧
 True ∧
 True ∧
 True ∧
 True ∧
 True ∧
 True ∧
 True ∧
 True ∧
 True ∧
 True ∧
 True ∧
 True ∧
 true =
 true ∧
 ((x.1.getD
 g.2.2.2.1.toNat
 ((0 :
 Int),
 (0 :
 Int))).1 ==
 (2 :
 Int)) =
 ((x.1.getD
 g.2.2.2.1.toNat
 ((0 :
 Int),
 (0 :
 Int))).1 ==
 (2 :
 Int)) ∧
 false =
 false ∧
 (True ∧
 True) ∧
 (True ∧
 True) ∧
 (True ∧
 True) ∧
 True ∧
 (True ∧
 True) ∧
 (x.1.getD
 g.2.2.2.1.toNat
 ((0 :
 Int),
 (0 :
 Int))).2 =
 (x.1.getD
 g.2.2.2.1.toNat
 ((0 :
 Int),
 (0 :
 Int))).2 ∧
 mval
 Ty.bool
 g.2.1.2.2.2.1
 (x.1.getD
 g.2.2.2.1.toNat
 ((0 :
 Int),
 (0 :
 Int))).2 =
 mval
 Ty.bool
 g.2.1.2.2.2.1
 (x.1.getD
 g.2.2.2.1.toNat
 ((0 :
 Int),
 (0 :
 Int))).2 ∧
 false =
 false ∧
 decide
 ((0 :
 Int) ≤
 idx
 g.2.1.2.1
 (x.1.getD
 g.2.2.2.1.toNat
 ((0 :
 Int),
 (0 :
 Int))).2) =
 decide
 ((0 :
 Int) ≤
 idx
 g.2.1.2.1
 (x.1.getD
 g.2.2.2.1.toNat
 ((0 :
 Int),
 (0 :
 Int))).2) ∧
 (!decide
 ((0 :
 Int) ≤
 idx
 g.2.1.2.1
 (x.1.getD
 g.2.2.2.1.toNat
 ((0 :
 Int),
 (0 :
 Int))).2)) =
 !decide
 ((0 :
 Int) ≤
 idx
 g.2.1.2.1
 (x.1.getD
 g.2.2.2.1.toNat
 ((0 :
 Int),
 (0 :
 Int))).2) ∧
 false =
 false ∧
 (True ∧
 True) ∧
 (True ∧
 True) ∧
 (True ∧
 True) ∧
 g.2.1.1 =
 g.2.1.1 ∧
 (g.2.1.1 ==
 (0 :
 Int)) =
 (g.2.1.1 ==
 (0 :
 Int)) ∧
 (True ∧
 True) ∧
 (True ∧
 True) ∧
 (True ∧
 True) ∧
 g.2.1.1 =
 g.2.1.1 ∧
 g.2.1.1 -
 (1 :
 Int) =
 g.2.1.1 -
 (1 :
 Int) ∧
 (True ∧
 True) ∧
 (True ∧
 True) ∧
 (True ∧
 True) ∧
 (True ∧
 True) ∧
 (x.1.getD
 g.2.2.2.1.toNat
 ((0 :
 Int),
 (0 :
 Int))).2 =
 (x.1.getD
 g.2.2.2.1.toNat
 ((0 :
 Int),
 (0 :
 Int))).2 ∧
 True ∧
 (True ∧
 True) ∧
 (True ∧
 True) ∧
 (True ∧
 True) ∧
 (True ∧
 True) ∧
 True ∧
 (True ∧
 True) ∧
 (x.1.getD
 g.2.2.2.1.toNat
 ((0 :
 Int),
 (0 :
 Int))).2 =
 (x.1.getD
 g.2.2.2.1.toNat
 ((0 :
 Int),
 (0 :
 Int))).2 ∧
 True ∧
 True ∧
 (True ∧
 True) ∧
 (True ∧
 True) ∧
 (True ∧
 True) ∧
 (True ∧
 True) ∧
 (True ∧
 True) ∧
 g.2.1.1 -
 (1 :
 Int) =
 g.2.1.1 -
 (1 :
 Int) ∧
 true =
 true ∧
 (True ∧
 True) ∧
 True ∧
 True ∧
 True ∧
 True ∧
 True ∧
 True ∧
 True ∧
 True ∧
 True ∧
 True ∧
 True ∧
 True ∧
 True ∧
 True ∧
 True ∧
 True ∧
 True ∧
 True ∧
 True ∧
 True ∧
 True ∧
 True ∧
 True ∧
 True ∧
 True ∧
 True ∧
 True ∧
 True ∧
 True ∧
 True ∧
 True ∧
 True ∧
 True ∧
 True ∧
 True ∧
 True ∧
 True ∧
 True ∧
 True ∧
 True ∧
 True ∧
 True ∧
 True ∧
 True ∧
 True ∧
 True ∧
 True ∧
 True ∧
 True ∧
 True ∧
 True ∧
 True ∧
 True ∧
 True ∧
 True ∧
 True ∧
 True ∧
 True ∧
 True ∧
 True ∧
 True ∧
 True ∧
 (True ∧
 True) ∧
 True ∧
 True ∧
 (True ∧
 True) ∧
 True ∧
 True ∧
 True ∧
 True ∧
 (True ∧
 True) ∧
 x.1 =
 x.1 ∧
 (↑x.1.length :
 Int) =
 (↑x.1.length :
 Int) ∧
 g.2.2.2.1 =
 g.2.2.2.1 ∧
 true =
 true ∧
 True ∧
 ((x.1.getD
 g.2.2.2.1.toNat
 ((0 :
 Int),
 (0 :
 Int))).1 =
 (x.1.getD
 g.2.2.2.1.toNat
 ((0 :
 Int),
 (0 :
 Int))).1 ∧
 (x.1.getD
 g.2.2.2.1.toNat
 ((0 :
 Int),
 (0 :
 Int))).2 =
 (x.1.getD
 g.2.2.2.1.toNat
 ((0 :
 Int),
 (0 :
 Int))).2 ∧
 True) ∧
 True ∧
 (True ∧
 True) ∧
 ((x.1.getD
 g.2.2.2.1.toNat
 ((0 :
 Int),
 (0 :
 Int))).1 =
 (x.1.getD
 g.2.2.2.1.toNat
 ((0 :
 Int),
 (0 :
 Int))).1 ∧
 (x.1.getD
 g.2.2.2.1.toNat
 ((0 :
 Int),
 (0 :
 Int))).2 =
 (x.1.getD
 g.2.2.2.1.toNat
 ((0 :
 Int),
 (0 :
 Int))).2 ∧
 True) ∧
 True ∧
 True ∧
 True ∧
 True ∧
 True ∧
 True ∧
 True ∧
 True ∧
 True ∧
 True ∧
 True ∧
 True ∧
 True ∧
 True ∧
 True ∧
 True ∧
 True ∧
 True ∧
 True ∧
 True ∧
 True ∧
 True)) ∧
 (decide (g_2.1 < (↑g.2.1.2.1.length : Int)) =
 false →
 (g.2.2.1.length +
 (((0 : Int) :: ([] : List Int)).set (0 : Nat)
 (0 : Int)).length ≤
 (9223372036854775807 : Nat) ∧
 (g.2.2.1.length +
 (((0 : Int) :: ([] : List Int)).set
 (0 : Nat) (0 : Int)).length +
 (g.2.2.1.length +
 (((0 : Int) :: ([] : List Int)).set
 (0 : Nat) (0 : Int)).length) /
 (4 : Nat) +
 (192 : Nat)) *
 (8 : Nat) ≤
 (281474976710656 : Nat)) ∧
 ((-9223372036854775808 : Int) ≤
 g.2.2.2.1 + (1 : Int) ∧
 g.2.2.2.1 + (1 : Int) ≤
 (9223372036854775807 : Int)) ∧
 (((0 : Int) ≤ g.2.2.2.1 + (1 : Int) ∧
 g.2.2.2.1 + (1 : Int) ≤
 (↑x.1.length : Int) ∧
 (↑(g.2.2.1 ++
 ((0 : Int) ::
 ([] : List Int)).set
 (0 : Nat) (0 : Int)).length :
 Int) =
 g.2.2.2.1 + (1 : Int) ∧
 ∃ l,
 pl
 (List.take
 (g.2.2.2.1 +
 (1 : Int)).toNat
 x.1) =
 ((l, g.2.1.1 - (1 : Int),
 g.2.1.2.2.2.2 ++
 ((0 : Int) ::
 ([] : List Int)).set
 (0 : Nat)
 (x.1.getD
 g.2.2.2.1.toNat
 ((0 : Int),
 (0 : Int))).2),
 g.2.2.1 ++
 ((0 : Int) ::
 ([] : List Int)).set
 (0 : Nat) (0 : Int)) ∧
 MQ g.2.1.2.1
 (mdel Ty.bool
 g.2.1.2.2.1
 (x.1.getD
 g.2.2.2.1.toNat
 ((0 : Int), (0 : Int))).2)
 (mdel Ty.bool
 g.2.1.2.2.2.1
 (x.1.getD
 g.2.2.2.1.toNat
 ((0 : Int), (0 : Int))).2)
 l ∧
 good
 (l, g.2.1.1 - (1 : Int),
 g.2.1.2.2.2.2 ++
 ((0 : Int) ::
 ([] : List Int)).set
 (0 : Nat)
 (x.1.getD
 g.2.2.2.1.toNat
 ((0 : Int),
 (0 : Int))).2)
 (g.2.2.2.1 + (1 : Int))) ∧
 ((↑x.1.length : Int) -
 (g.2.2.2.1 + (1 : Int))).toNat <
 ((↑x.1.length : Int) -
 g.2.2.2.1).toNat) ∧
 ((True ∧ True) ∧
 (True ∧ True) ∧
 True ∧
 x.1 = x.1 ∧
 (↑x.1.length : Int) =
 (↑x.1.length : Int) ∧
 g.2.2.2.1 + (1 : Int) =
 g.2.2.2.1 + (1 : Int) ∧
 True) ∧
 (((True ∧ True) ∧ True) ∧
 (g.2.1.1 - (1 : Int) =
 g.2.1.1 - (1 : Int) ∧
 True ∧ True ∧ True ∧ True ∧ True) ∧
 g.2.1.2.1 = g.2.1.2.1 ∧
 mdel Ty.bool g.2.1.2.2.1
 (x.1.getD
 g.2.2.2.1.toNat
 ((0 : Int), (0 : Int))).2 =
 mdel Ty.bool g.2.1.2.2.1
 (x.1.getD
 g.2.2.2.1.toNat
 ((0 : Int), (0 : Int))).2 ∧
 mdel Ty.bool g.2.1.2.2.2.1
 (x.1.getD
 g.2.2.2.1.toNat
 ((0 : Int),
 (0 : Int))).2 =
 mdel Ty.bool
 g.2.1.2.2.2.1
 (x.1.getD
 g.2.2.2.1.toNat
 ((0 : Int),
 (0 : Int))).2 ∧
 g.2.1.2.2.2.2 ++
 ((0 : Int) ::
 ([] : List Int)).set
 (0 : Nat)
 (x.1.getD
 g.2.2.2.1.toNat
 ((0 : Int),
 (0 : Int))).2 =
 g.2.1.2.2.2.2 ++
 ((0 : Int) ::
 ([] : List Int)).set
 (0 : Nat)
 (x.1.getD
 g.2.2.2.1.toNat
 ((0 : Int),
 (0 : Int))).2 ∧
 g.2.2.1 ++
 ((0 : Int) ::
 ([] : List Int)).set
 (0 : Nat) (0 : Int) =
 g.2.2.1 ++
 ((0 : Int) ::
 ([] : List Int)).set
 (0 : Nat) (0 : Int) ∧
 True) ∧
 True)) ∧
 (decide ((0 : Int) < g.2.1.1 - (1 : Int)) = false →
 (g.2.2.1.length +
 (((0 : Int) :: ([] : List Int)).set (0 : Nat)
 (0 : Int)).length ≤
 (9223372036854775807 : Nat) ∧
 (g.2.2.1.length +
 (((0 : Int) :: ([] : List Int)).set (0 : Nat)
 (0 : Int)).length +
 (g.2.2.1.length +
 (((0 : Int) :: ([] : List Int)).set (0 : Nat)
 (0 : Int)).length) /
 (4 : Nat) +
 (192 : Nat)) *
 (8 : Nat) ≤
 (281474976710656 : Nat)) ∧
 ((-9223372036854775808 : Int) ≤ g.2.2.2.1 + (1 : Int) ∧
 g.2.2.2.1 + (1 : Int) ≤ (9223372036854775807 : Int)) ∧
 (((0 : Int) ≤ g.2.2.2.1 + (1 : Int) ∧
 g.2.2.2.1 + (1 : Int) ≤ (↑x.1.length : Int) ∧
 (↑(g.2.2.1 ++
 ((0 : Int) :: ([] : List Int)).set (0 : Nat)
 (0 : Int)).length :
 Int) =
 g.2.2.2.1 + (1 : Int) ∧
 ∃ l,
 pl
 (List.take
 (g.2.2.2.1 + (1 : Int)).toNat
 x.1) =
 ((l, g.2.1.1 - (1 : Int),
 g.2.1.2.2.2.2 ++
 ((0 : Int) :: ([] : List Int)).set
 (0 : Nat)
 (x.1.getD g.2.2.2.1.toNat
 ((0 : Int), (0 : Int))).2),
 g.2.2.1 ++
 ((0 : Int) :: ([] : List Int)).set (0 : Nat)
 (0 : Int)) ∧
 MQ g.2.1.2.1
 (mdel Ty.bool g.2.1.2.2.1
 (x.1.getD g.2.2.2.1.toNat
 ((0 : Int), (0 : Int))).2)
 (mdel Ty.bool g.2.1.2.2.2.1
 (x.1.getD g.2.2.2.1.toNat
 ((0 : Int), (0 : Int))).2)
 l ∧
 good
 (l, g.2.1.1 - (1 : Int),
 g.2.1.2.2.2.2 ++
 ((0 : Int) :: ([] : List Int)).set
 (0 : Nat)
 (x.1.getD g.2.2.2.1.toNat
 ((0 : Int), (0 : Int))).2)
 (g.2.2.2.1 + (1 : Int))) ∧
 ((↑x.1.length : Int) -
 (g.2.2.2.1 + (1 : Int))).toNat <
 ((↑x.1.length : Int) - g.2.2.2.1).toNat) ∧
 ((True ∧ True) ∧
 (True ∧ True) ∧
 True ∧
 x.1 = x.1 ∧
 (↑x.1.length : Int) = (↑x.1.length : Int) ∧
 g.2.2.2.1 + (1 : Int) =
 g.2.2.2.1 + (1 : Int) ∧
 True) ∧
 (((True ∧ True) ∧ True) ∧
 (g.2.1.1 - (1 : Int) = g.2.1.1 - (1 : Int) ∧
 True ∧ True ∧ True ∧ True ∧ True) ∧
 g.2.1.2.1 = g.2.1.2.1 ∧
 mdel Ty.bool g.2.1.2.2.1
 (x.1.getD g.2.2.2.1.toNat
 ((0 : Int), (0 : Int))).2 =
 mdel Ty.bool g.2.1.2.2.1
 (x.1.getD g.2.2.2.1.toNat
 ((0 : Int), (0 : Int))).2 ∧
 mdel Ty.bool g.2.1.2.2.2.1
 (x.1.getD g.2.2.2.1.toNat
 ((0 : Int), (0 : Int))).2 =
 mdel Ty.bool g.2.1.2.2.2.1
 (x.1.getD g.2.2.2.1.toNat
 ((0 : Int), (0 : Int))).2 ∧
 g.2.1.2.2.2.2 ++
 ((0 : Int) :: ([] : List Int)).set
 (0 : Nat)
 (x.1.getD g.2.2.2.1.toNat
 ((0 : Int), (0 : Int))).2 =
 g.2.1.2.2.2.2 ++
 ((0 : Int) :: ([] : List Int)).set
 (0 : Nat)
 (x.1.getD g.2.2.2.1.toNat
 ((0 : Int), (0 : Int))).2 ∧
 g.2.2.1 ++
 ((0 : Int) :: ([] : List Int)).set
 (0 : Nat) (0 : Int) =
 g.2.2.1 ++
 ((0 : Int) :: ([] : List Int)).set
 (0 : Nat) (0 : Int) ∧
 True) ∧
 True)) ∧
 (((-1 : Int) == (-1 : Int)) = false →
 ((-9223372036854775808 : Int) ≤ (-1 : Int) + (1 : Int) ∧
 (-1 : Int) + (1 : Int) ≤ (9223372036854775807 : Int)) ∧
 (((((0 : Int) ≤ (-1 : Int) ∧
 (-1 : Int) ≤ (-1 : Int) + (1 : Int) ∧
 (-1 : Int) + (1 : Int) ≤
 (↑g.2.1.2.1.length : Int)) ∧
 g.2.1.2.1.length = g.2.1.2.1.length ∧
 List.take (-1 : Int).toNat g.2.1.2.1 =
 List.filter
 (fun y ↦
 !capF
 (some
 (x.1.getD g.2.2.2.1.toNat
 ((0 : Int), (0 : Int))).2)
 ([] : List (Int × Bool)) y)
 (List.take ((-1 : Int) + (1 : Int)).toNat
 g.2.1.2.1) ∧
 List.drop ((-1 : Int) + (1 : Int)).toNat g.2.1.2.1 =
 List.drop ((-1 : Int) + (1 : Int)).toNat
 g.2.1.2.1) ∧
 True) ∧
 (True ∧
 True ∧
 (-1 : Int) = (-1 : Int) ∧
 (-1 : Int) + (1 : Int) = (-1 : Int) + (1 : Int) ∧ True) ∧
 (g.2.1.2.1 = g.2.1.2.1 ∧
 (g.2.1.1 - (1 : Int) = g.2.1.1 - (1 : Int) ∧
 True ∧ True ∧ True ∧ True ∧ True) ∧
 g.2.1.2.1 = g.2.1.2.1 ∧
 g.2.1.2.2.1 = g.2.1.2.2.1 ∧
 g.2.1.2.2.2.1 = g.2.1.2.2.2.1 ∧
 g.2.1.2.2.2.2 =
 g.2.1.2.2.2.2 ∧
 ((x.1.getD g.2.2.2.1.toNat
 ((0 : Int), (0 : Int))).2 =
 (x.1.getD g.2.2.2.1.toNat
 ((0 : Int), (0 : Int))).2 ∧
 True) ∧
 (True ∧ (True ∧ True) ∧ True) ∧
 ((x.1.getD g.2.2.2.1.toNat
 ((0 : Int), (0 : Int))).1 =
 (x.1.getD g.2.2.2.1.toNat
 ((0 : Int), (0 : Int))).1 ∧
 (x.1.getD g.2.2.2.1.toNat
 ((0 : Int), (0 : Int))).2 =
 (x.1.getD g.2.2.2.1.toNat
 ((0 : Int), (0 : Int))).2 ∧
 True) ∧
 ((True ∧ True) ∧ True) ∧
 g.2.2.1 = g.2.2.1 ∧
 ((x.1.getD g.2.2.2.1.toNat
 ((0 : Int), (0 : Int))).1 =
 (x.1.getD g.2.2.2.1.toNat
 ((0 : Int), (0 : Int))).1 ∧
 (x.1.getD g.2.2.2.1.toNat
 ((0 : Int), (0 : Int))).2 =
 (x.1.getD
 g.2.2.2.1.toNat
 ((0 : Int), (0 : Int))).2 ∧
 True) ∧
 True) ∧
 (True ∧ True) ∧
 (x.1.getD g.2.2.2.1.toNat
 ((0 : Int), (0 : Int))).2 =
 (x.1.getD g.2.2.2.1.toNat
 ((0 : Int), (0 : Int))).2 ∧
 True ∧
 (True ∧ True) ∧
 (True ∧ True) ∧
 (True ∧ True) ∧
 (True ∧ True) ∧
 (True ∧ True) ∧
 True ∧
 True ∧
 True ∧
 True ∧
 True ∧
 True ∧
 True ∧
 True ∧
 True ∧
 True ∧
 True ∧
 True ∧
 True ∧
 True ∧
 True ∧
 True ∧
 (True ∧ True) ∧
 ((x.1.getD
 g.2.2.2.1.toNat
 ((0 :
 Int),
 (0 :
 Int))).1 =
 (x.1.getD
 g.2.2.2.1.toNat
 ((0 :
 Int),
 (0 :
 Int))).1 ∧
 (x.1.getD
 g.2.2.2.1.toNat
 ((0 :
 Int),
 (0 :
 Int))).2 =
 (x.1.getD
 g.2.2.2.1.toNat
 ((0 :
 Int),
 (0 :
 Int))).2 ∧
 True) ∧
 True ∧
 (True ∧
 True) ∧
 (0 :
 Int) =
 (0 :
 Int) ∧
 decide
 ((0 :
 Int) ≤
 idx
 g.2.1.2.1
 (x.1.getD
 g.2.2.2.1.toNat
 ((0 :
 Int),
 (0 :
 Int))).2) =
 decide
 ((0 :
 Int) ≤
 idx
 g.2.1.2.1
 (x.1.getD
 g.2.2.2.1.toNat
 ((0 :
 Int),
 (0 :
 Int))).2) ∧
 false =
 false ∧
 (True ∧
 True) ∧
 (x.1.getD
 g.2.2.2.1.toNat
 ((0 :
 Int),
 (0 :
 Int))).1 =
 (x.1.getD
 g.2.2.2.1.toNat
 ((0 :
 Int),
 (0 :
 Int))).1 ∧
 decide
 ((x.1.getD
 g.2.2.2.1.toNat
 ((0 :
 Int),
 (0 :
 Int))).1 <
 (1 :
 Int)) =
 decide
 ((x.1.getD
 g.2.2.2.1.toNat
 ((0 :
 Int),
 (0 :
 Int))).1 <
 (1 :
 Int)) ∧
 decide
 ((x.1.getD
 g.2.2.2.1.toNat
 ((0 :
 Int),
 (0 :
 Int))).1 <
 (1 :
 Int)) =
 decide
 ((x.1.getD
 g.2.2.2.1.toNat
 ((0 :
 Int),
 (0 :
 Int))).1 <
 (1 :
 Int)) ∧
 True ∧
 True ∧
 True ∧
 (decide
 ((x.1.getD
 g.2.2.2.1.toNat
 ((0 :
 Int),
 (0 :
 Int))).1 <
 (1 :
 Int)) ||
 decide
 ((5 :
 Int) <
 (x.1.getD
 g.2.2.2.1.toNat
 ((0 :
 Int),
 (0 :
 Int))).1)) =
 (decide
 ((x.1.getD
 g.2.2.2.1.toNat
 ((0 :
 Int),
 (0 :
 Int))).1 <
 (1 :
 Int)) ||
 decide
 ((5 :
 Int) <
 (x.1.getD
 g.2.2.2.1.toNat
 ((0 :
 Int),
 (0 :
 Int))).1)) ∧
 false =
 false ∧
 (True ∧
 True) ∧
 (x.1.getD
 g.2.2.2.1.toNat
 ((0 :
 Int),
 (0 :
 Int))).2 =
 (x.1.getD
 g.2.2.2.1.toNat
 ((0 :
 Int),
 (0 :
 Int))).2 ∧
 decide
 ((x.1.getD
 g.2.2.2.1.toNat
 ((0 :
 Int),
 (0 :
 Int))).2 <
 (0 :
 Int)) =
 decide
 ((x.1.getD
 g.2.2.2.1.toNat
 ((0 :
 Int),
 (0 :
 Int))).2 <
 (0 :
 Int)) ∧
 decide
 ((x.1.getD
 g.2.2.2.1.toNat
 ((0 :
 Int),
 (0 :
 Int))).2 <
 (0 :
 Int)) =
 decide
 ((x.1.getD
 g.2.2.2.1.toNat
 ((0 :
 Int),
 (0 :
 Int))).2 <
 (0 :
 Int)) ∧
 True ∧
 True ∧
 True ∧
 (decide
 ((x.1.getD
 g.2.2.2.1.toNat
 ((0 :
 Int),
 (0 :
 Int))).2 <
 (0 :
 Int)) ||
 decide
 ((63 :
 Int) <
 (x.1.getD
 g.2.2.2.1.toNat
 ((0 :
 Int),
 (0 :
 Int))).2)) =
 (decide
 ((x.1.getD
 g.2.2.2.1.toNat
 ((0 :
 Int),
 (0 :
 Int))).2 <
 (0 :
 Int)) ||
 decide
 ((63 :
 Int) <
 (x.1.getD
 g.2.2.2.1.toNat
 ((0 :
 Int),
 (0 :
 Int))).2)) ∧
 (True ∧
 True) ∧
 (True ∧
 True) ∧
 (True ∧
 True) ∧
 True ∧
 (True ∧
 True) ∧
 (x.1.getD
 g.2.2.2.1.toNat
 ((0 :
 Int),
 (0 :
 Int))).2 =
 (x.1.getD
 g.2.2.2.1.toNat
 ((0 :
 Int),
 (0 :
 Int))).2 ∧
 decide
 ((0 :
 Int) ≤
 idx
 g.2.1.2.1
 (x.1.getD
 g.2.2.2.1.toNat
 ((0 :
 Int),
 (0 :
 Int))).2) =
 decide
 ((0 :
 Int) ≤
 idx
 g.2.1.2.1
 (x.1.getD
 g.2.2.2.1.toNat
 ((0 :
 Int),
 (0 :
 Int))).2) ∧
 (True ∧
 True) ∧
 (x.1.getD
 g.2.2.2.1.toNat
 ((0 :
 Int),
 (0 :
 Int))).1 =
 (x.1.getD
 g.2.2.2.1.toNat
 ((0 :
 Int),
 (0 :
 Int))).1 ∧
 false =
 false ∧
 ((x.1.getD
 g.2.2.2.1.toNat
 ((0 :
 Int),
 (0 :
 Int))).1 ==
 (1 :
 Int)) =
 ((x.1.getD
 g.2.2.2.1.toNat
 ((0 :
 Int),
 (0 :
 Int))).1 ==
 (1 :
 Int)) ∧
 True ∧
 True ∧
 True ∧
 True ∧
 True ∧
 True ∧
 True ∧
 True ∧
 True ∧
 True ∧
 True ∧
 True ∧
 True ∧
 True ∧
 True ∧
 True ∧
 True ∧
 True ∧
 True ∧
 True ∧
 True ∧
 True ∧
 True ∧
 True ∧
 True ∧
 True ∧
 True ∧
 True ∧
 true =
 true ∧
 ((x.1.getD
 g.2.2.2.1.toNat
 ((0 :
 Int),
 (0 :
 Int))).1 ==
 (2 :
 Int)) =
 ((x.1.getD
 g.2.2.2.1.toNat
 ((0 :
 Int),
 (0 :
 Int))).1 ==
 (2 :
 Int)) ∧
 false =
 false ∧
 (True ∧
 True) ∧
 (True ∧
 True) ∧
 (True ∧
 True) ∧
 True ∧
 (True ∧
 True) ∧
 (x.1.getD
 g.2.2.2.1.toNat
 ((0 :
 Int),
 (0 :
 Int))).2 =
 (x.1.getD
 g.2.2.2.1.toNat
 ((0 :
 Int),
 (0 :
 Int))).2 ∧
 mval
 Ty.bool
 g.2.1.2.2.2.1
 (x.1.getD
 g.2.2.2.1.toNat
 ((0 :
 Int),
 (0 :
 Int))).2 =
 mval
 Ty.bool
 g.2.1.2.2.2.1
 (x.1.getD
 g.2.2.2.1.toNat
 ((0 :
 Int),
 (0 :
 Int))).2 ∧
 false =
 false ∧
 decide
 ((0 :
 Int) ≤
 idx
 g.2.1.2.1
 (x.1.getD
 g.2.2.2.1.toNat
 ((0 :
 Int),
 (0 :
 Int))).2) =
 decide
 ((0 :
 Int) ≤
 idx
 g.2.1.2.1
 (x.1.getD
 g.2.2.2.1.toNat
 ((0 :
 Int),
 (0 :
 Int))).2) ∧
 (!decide
 ((0 :
 Int) ≤
 idx
 g.2.1.2.1
 (x.1.getD
 g.2.2.2.1.toNat
 ((0 :
 Int),
 (0 :
 Int))).2)) =
 !decide
 ((0 :
 Int) ≤
 idx
 g.2.1.2.1
 (x.1.getD
 g.2.2.2.1.toNat
 ((0 :
 Int),
 (0 :
 Int))).2) ∧
 false =
 false ∧
 (True ∧
 True) ∧
 (True ∧
 True) ∧
 (True ∧
 True) ∧
 g.2.1.1 =
 g.2.1.1 ∧
 (g.2.1.1 ==
 (0 :
 Int)) =
 (g.2.1.1 ==
 (0 :
 Int)) ∧
 (True ∧
 True) ∧
 (True ∧
 True) ∧
 (True ∧
 True) ∧
 g.2.1.1 =
 g.2.1.1 ∧
 g.2.1.1 -
 (1 :
 Int) =
 g.2.1.1 -
 (1 :
 Int) ∧
 (True ∧
 True) ∧
 (True ∧
 True) ∧
 (True ∧
 True) ∧
 (True ∧
 True) ∧
 (x.1.getD
 g.2.2.2.1.toNat
 ((0 :
 Int),
 (0 :
 Int))).2 =
 (x.1.getD
 g.2.2.2.1.toNat
 ((0 :
 Int),
 (0 :
 Int))).2 ∧
 True ∧
 True ∧
 True ∧
 True ∧
 True ∧
 True ∧
 True ∧
 True ∧
 True ∧
 True ∧
 True ∧
 True ∧
 True ∧
 True ∧
 True ∧
 True ∧
 True ∧
 True ∧
 True ∧
 True ∧
 True ∧
 True ∧
 True ∧
 True ∧
 True ∧
 True ∧
 True ∧
 True ∧
 True ∧
 True ∧
 True ∧
 True ∧
 True ∧
 True ∧
 True ∧
 True ∧
 True ∧
 True ∧
 True ∧
 True ∧
 True ∧
 True ∧
 True ∧
 True ∧
 True ∧
 True ∧
 True ∧
 True ∧
 True ∧
 True ∧
 True ∧
 True ∧
 True ∧
 True ∧
 True ∧
 True ∧
 True ∧
 True ∧
 True ∧
 True ∧
 True ∧
 True ∧
 True ∧
 True ∧
 True ∧
 True ∧
 True ∧
 True ∧
 True ∧
 True ∧
 True ∧
 True ∧
 True ∧
 True ∧
 True ∧
 True ∧
 True ∧
 True ∧
 True ∧
 True ∧
 (True ∧
 True) ∧
 True ∧
 True ∧
 (True ∧
 True) ∧
 True ∧
 True ∧
 True ∧
 True ∧
 (True ∧
 True) ∧
 x.1 =
 x.1 ∧
 (↑x.1.length :
 Int) =
 (↑x.1.length :
 Int) ∧
 g.2.2.2.1 =
 g.2.2.2.1 ∧
 true =
 true ∧
 True ∧
 ((x.1.getD
 g.2.2.2.1.toNat
 ((0 :
 Int),
 (0 :
 Int))).1 =
 (x.1.getD
 g.2.2.2.1.toNat
 ((0 :
 Int),
 (0 :
 Int))).1 ∧
 (x.1.getD
 g.2.2.2.1.toNat
 ((0 :
 Int),
 (0 :
 Int))).2 =
 (x.1.getD
 g.2.2.2.1.toNat
 ((0 :
 Int),
 (0 :
 Int))).2 ∧
 True) ∧
 True ∧
 (True ∧
 True) ∧
 ((x.1.getD
 g.2.2.2.1.toNat
 ((0 :
 Int),
 (0 :
 Int))).1 =
 (x.1.getD
 g.2.2.2.1.toNat
 ((0 :
 Int),
 (0 :
 Int))).1 ∧
 (x.1.getD
 g.2.2.2.1.toNat
 ((0 :
 Int),
 (0 :
 Int))).2 =
 (x.1.getD
 g.2.2.2.1.toNat
 ((0 :
 Int),
 (0 :
 Int))).2 ∧
 True) ∧
 True ∧
 True ∧
 True ∧
 True ∧
 True ∧
 True ∧
 True ∧
 True ∧
 True ∧
 True ∧
 True ∧
 True ∧
 True ∧
 True ∧
 True ∧
 True ∧
 True ∧
 True ∧
 True ∧
 True ∧
 True ∧
 True) ∧
 ∀ (g_2 : List Int × Int × Int × Unit),
 ((0 : Int) ≤ g_2.2.1 ∧
 g_2.2.1 ≤ g_2.2.2.1 ∧
 g_2.2.2.1 ≤ (↑g.2.1.2.1.length : Int)) ∧
 g_2.1.length = g.2.1.2.1.length ∧
 List.take g_2.2.1.toNat g_2.1 =
 List.filter
 (fun y ↦
 !capF
 (some
 (x.1.getD g.2.2.2.1.toNat
 ((0 : Int), (0 : Int))).2)
 ([] : List (Int × Bool)) y)
 (List.take g_2.2.2.1.toNat g.2.1.2.1) ∧
 List.drop g_2.2.2.1.toNat g_2.1 =
 List.drop g_2.2.2.1.toNat g.2.1.2.1 →
 (g_2.1.length ≤ (9223372036854775807 : Nat) ∧
 ∀ (x : Int),
 x ∈ g_2.1 →
 (-9223372036854775808 : Int) ≤ x ∧
 x ≤ (9223372036854775807 : Int)) ∧
 ((-9223372036854775808 : Int) ≤ g_2.2.1 ∧
 g_2.2.1 ≤ (9223372036854775807 : Int)) ∧
 ((-9223372036854775808 : Int) ≤ g_2.2.2.1 ∧
 g_2.2.2.1 ≤ (9223372036854775807 : Int)) ∧
 True →
 (decide (g_2.2.2.1 < (↑g_2.1.length : Int)) = true →
 ((0 : Int) ≤ g_2.2.2.1 ∧
 g_2.2.2.1 < (↑g_2.1.length : Int)) ∧
 ((!g_2.1.getD g_2.2.2.1.toNat (0 : Int) ==
 (x.1.getD g.2.2.2.1.toNat
 ((0 : Int), (0 : Int))).2) =
 true →
 ((0 : Int) ≤ g_2.2.1 ∧
 g_2.2.1 < (↑g_2.1.length : Int)) ∧
 ((-9223372036854775808 : Int) ≤
 g_2.2.1 + (1 : Int) ∧
 g_2.2.1 + (1 : Int) ≤
 (9223372036854775807 : Int)) ∧
 ((-9223372036854775808 : Int) ≤
 g_2.2.2.1 + (1 : Int) ∧
 g_2.2.2.1 + (1 : Int) ≤
 (9223372036854775807 : Int)) ∧
 ((((0 : Int) ≤ g_2.2.1 + (1 : Int) ∧
 g_2.2.1 + (1 : Int) ≤
 g_2.2.2.1 + (1 : Int) ∧
 g_2.2.2.1 + (1 : Int) ≤
 (↑g.2.1.2.1.length : Int)) ∧
 (g_2.1.set g_2.2.1.toNat
 (g_2.1.getD
 g_2.2.2.1.toNat
 (0 : Int))).length =
 g.2.1.2.1.length ∧
 List.take
 (g_2.2.1 + (1 : Int)).toNat
 (g_2.1.set g_2.2.1.toNat
 (g_2.1.getD
 g_2.2.2.1.toNat
 (0 : Int))) =
 List.filter
 (fun y ↦
 !capF
 (some
 (x.1.getD
 g.2.2.2.1.toNat
 ((0 : Int),
 (0 : Int))).2)
 ([] : List (Int × Bool)) y)
 (List.take
 (g_2.2.2.1 +
 (1 : Int)).toNat
 g.2.1.2.1) ∧
 List.drop
 (g_2.2.2.1 +
 (1 : Int)).toNat
 (g_2.1.set g_2.2.1.toNat
 (g_2.1.getD
 g_2.2.2.1.toNat
 (0 : Int))) =
 List.drop
 (g_2.2.2.1 +
 (1 : Int)).toNat
 g.2.1.2.1) ∧
 ((↑g.2.1.2.1.length : Int) -
 (g_2.2.2.1 + (1 : Int))).toNat <
 ((↑g.2.1.2.1.length : Int) -
 g_2.2.2.1).toNat) ∧
 (True ∧
 True ∧
 g_2.2.1 + (1 : Int) =
 g_2.2.1 + (1 : Int) ∧
 g_2.2.2.1 + (1 : Int) =
 g_2.2.2.1 + (1 : Int) ∧
 True) ∧
 (g_2.1.set g_2.2.1.toNat
 (g_2.1.getD g_2.2.2.1.toNat
 (0 : Int)) =
 g_2.1.set g_2.2.1.toNat
 (g_2.1.getD g_2.2.2.1.toNat
 (0 : Int)) ∧
 (g.2.1.1 - (1 : Int) =
 g.2.1.1 - (1 : Int) ∧
 True ∧ True ∧ True ∧ True ∧ True) ∧
 g.2.1.2.1 =
 g.2.1.2.1 ∧
 g.2.1.2.2.1 =
 g.2.1.2.2.1 ∧
 g.2.1.2.2.2.1 =
 g.2.1.2.2.2.1 ∧
 g.2.1.2.2.2.2 =
 g.2.1.2.2.2.2 ∧
 ((x.1.getD
 g.2.2.2.1.toNat
 ((0 : Int),
 (0 : Int))).2 =
 (x.1.getD
 g.2.2.2.1.toNat
 ((0 : Int),
 (0 : Int))).2 ∧
 True) ∧
 (True ∧
 (True ∧ True) ∧ True) ∧
 ((x.1.getD
 g.2.2.2.1.toNat
 ((0 : Int),
 (0 :
 Int))).1 =
 (x.1.getD
 g.2.2.2.1.toNat
 ((0 : Int),
 (0 :
 Int))).1 ∧
 (x.1.getD
 g.2.2.2.1.toNat
 ((0 : Int),
 (0 :
 Int))).2 =
 (x.1.getD
 g.2.2.2.1.toNat
 ((0 : Int),
 (0 :
 Int))).2 ∧
 True) ∧
 ((True ∧ True) ∧ True) ∧
 g.2.2.1 =
 g.2.2.1 ∧
 ((x.1.getD
 g.2.2.2.1.toNat
 ((0 :
 Int),
 (0 :
 Int))).1 =
 (x.1.getD
 g.2.2.2.1.toNat
 ((0 :
 Int),
 (0 :
 Int))).1 ∧
 (x.1.getD
 g.2.2.2.1.toNat
 ((0 :
 Int),
 (0 :
 Int))).2 =
 (x.1.getD
 g.2.2.2.1.toNat
 ((0 :
 Int),
 (0 :
 Int))).2 ∧
 True) ∧
 True) ∧
 (True ∧ True) ∧
 (x.1.getD g.2.2.2.1.toNat
 ((0 : Int), (0 : Int))).2 =
 (x.1.getD g.2.2.2.1.toNat
 ((0 : Int), (0 : Int))).2 ∧
 True ∧
 (True ∧ True) ∧
 (True ∧ True) ∧
 (True ∧ True) ∧
 (True ∧ True) ∧
 (True ∧ True) ∧
 True ∧
 True ∧
 True ∧
 True ∧
 True ∧
 True ∧
 True ∧
 True ∧
 True ∧
 True ∧
 True ∧
 True ∧
 True ∧
 True ∧
 True ∧
 True ∧
 (True ∧
 True) ∧
 ((x.1.getD
 g.2.2.2.1.toNat
 ((0 :
 Int),
 (0 :
 Int))).1 =
 (x.1.getD
 g.2.2.2.1.toNat
 ((0 :
 Int),
 (0 :
 Int))).1 ∧
 (x.1.getD
 g.2.2.2.1.toNat
 ((0 :
 Int),
 (0 :
 Int))).2 =
 (x.1.getD
 g.2.2.2.1.toNat
 ((0 :
 Int),
 (0 :
 Int))).2 ∧
 True) ∧
 True ∧
 (True ∧
 True) ∧
 (0 :
 Int) =
 (0 :
 Int) ∧
 decide
 ((0 :
 Int) ≤
 idx
 g.2.1.2.1
 (x.1.getD
 g.2.2.2.1.toNat
 ((0 :
 Int),
 (0 :
 Int))).2) =
 decide
 ((0 :
 Int) ≤
 idx
 g.2.1.2.1
 (x.1.getD
 g.2.2.2.1.toNat
 ((0 :
 Int),
 (0 :
 Int))).2) ∧
 false =
 false ∧
 (True ∧
 True) ∧
 (x.1.getD
 g.2.2.2.1.toNat
 ((0 :
 Int),
 (0 :
 Int))).1 =
 (x.1.getD
 g.2.2.2.1.toNat
 ((0 :
 Int),
 (0 :
 Int))).1 ∧
 decide
 ((x.1.getD
 g.2.2.2.1.toNat
 ((0 :
 Int),
 (0 :
 Int))).1 <
 (1 :
 Int)) =
 decide
 ((x.1.getD
 g.2.2.2.1.toNat
 ((0 :
 Int),
 (0 :
 Int))).1 <
 (1 :
 Int)) ∧
 decide
 ((x.1.getD
 g.2.2.2.1.toNat
 ((0 :
 Int),
 (0 :
 Int))).1 <
 (1 :
 Int)) =
 decide
 ((x.1.getD
 g.2.2.2.1.toNat
 ((0 :
 Int),
 (0 :
 Int))).1 <
 (1 :
 Int)) ∧
 True ∧
 True ∧
 True ∧
 (decide
 ((x.1.getD
 g.2.2.2.1.toNat
 ((0 :
 Int),
 (0 :
 Int))).1 <
 (1 :
 Int)) ||
 decide
 ((5 :
 Int) <
 (x.1.getD
 g.2.2.2.1.toNat
 ((0 :
 Int),
 (0 :
 Int))).1)) =
 (decide
 ((x.1.getD
 g.2.2.2.1.toNat
 ((0 :
 Int),
 (0 :
 Int))).1 <
 (1 :
 Int)) ||
 decide
 ((5 :
 Int) <
 (x.1.getD
 g.2.2.2.1.toNat
 ((0 :
 Int),
 (0 :
 Int))).1)) ∧
 false =
 false ∧
 (True ∧
 True) ∧
 (x.1.getD
 g.2.2.2.1.toNat
 ((0 :
 Int),
 (0 :
 Int))).2 =
 (x.1.getD
 g.2.2.2.1.toNat
 ((0 :
 Int),
 (0 :
 Int))).2 ∧
 decide
 ((x.1.getD
 g.2.2.2.1.toNat
 ((0 :
 Int),
 (0 :
 Int))).2 <
 (0 :
 Int)) =
 decide
 ((x.1.getD
 g.2.2.2.1.toNat
 ((0 :
 Int),
 (0 :
 Int))).2 <
 (0 :
 Int)) ∧
 decide
 ((x.1.getD
 g.2.2.2.1.toNat
 ((0 :
 Int),
 (0 :
 Int))).2 <
 (0 :
 Int)) =
 decide
 ((x.1.getD
 g.2.2.2.1.toNat
 ((0 :
 Int),
 (0 :
 Int))).2 <
 (0 :
 Int)) ∧
 True ∧
 True ∧
 True ∧
 (decide
 ((x.1.getD
 g.2.2.2.1.toNat
 ((0 :
 Int),
 (0 :
 Int))).2 <
 (0 :
 Int)) ||
 decide
 ((63 :
 Int) <
 (x.1.getD
 g.2.2.2.1.toNat
 ((0 :
 Int),
 (0 :
 Int))).2)) =
 (decide
 ((x.1.getD
 g.2.2.2.1.toNat
 ((0 :
 Int),
 (0 :
 Int))).2 <
 (0 :
 Int)) ||
 decide
 ((63 :
 Int) <
 (x.1.getD
 g.2.2.2.1.toNat
 ((0 :
 Int),
 (0 :
 Int))).2)) ∧
 (True ∧
 True) ∧
 (True ∧
 True) ∧
 (True ∧
 True) ∧
 True ∧
 (True ∧
 True) ∧
 (x.1.getD
 g.2.2.2.1.toNat
 ((0 :
 Int),
 (0 :
 Int))).2 =
 (x.1.getD
 g.2.2.2.1.toNat
 ((0 :
 Int),
 (0 :
 Int))).2 ∧
 decide
 ((0 :
 Int) ≤
 idx
 g.2.1.2.1
 (x.1.getD
 g.2.2.2.1.toNat
 ((0 :
 Int),
 (0 :
 Int))).2) =
 decide
 ((0 :
 Int) ≤
 idx
 g.2.1.2.1
 (x.1.getD
 g.2.2.2.1.toNat
 ((0 :
 Int),
 (0 :
 Int))).2) ∧
 (True ∧
 True) ∧
 (x.1.getD
 g.2.2.2.1.toNat
 ((0 :
 Int),
 (0 :
 Int))).1 =
 (x.1.getD
 g.2.2.2.1.toNat
 ((0 :
 Int),
 (0 :
 Int))).1 ∧
 false =
 false ∧
 ((x.1.getD
 g.2.2.2.1.toNat
 ((0 :
 Int),
 (0 :
 Int))).1 ==
 (1 :
 Int)) =
 ((x.1.getD
 g.2.2.2.1.toNat
 ((0 :
 Int),
 (0 :
 Int))).1 ==
 (1 :
 Int)) ∧
 True ∧
 True ∧
 True ∧
 True ∧
 True ∧
 True ∧
 True ∧
 True ∧
 True ∧
 True ∧
 True ∧
 True ∧
 True ∧
 True ∧
 True ∧
 True ∧
 True ∧
 True ∧
 True ∧
 True ∧
 True ∧
 True ∧
 True ∧
 True ∧
 True ∧
 True ∧
 True ∧
 True ∧
 true =
 true ∧
 ((x.1.getD
 g.2.2.2.1.toNat
 ((0 :
 Int),
 (0 :
 Int))).1 ==
 (2 :
 Int)) =
 ((x.1.getD
 g.2.2.2.1.toNat
 ((0 :
 Int),
 (0 :
 Int))).1 ==
 (2 :
 Int)) ∧
 false =
 false ∧
 (True ∧
 True) ∧
 (True ∧
 True) ∧
 (True ∧
 True) ∧
 True ∧
 (True ∧
 True) ∧
 (x.1.getD
 g.2.2.2.1.toNat
 ((0 :
 Int),
 (0 :
 Int))).2 =
 (x.1.getD
 g.2.2.2.1.toNat
 ((0 :
 Int),
 (0 :
 Int))).2 ∧
 mval
 Ty.bool
 g.2.1.2.2.2.1
 (x.1.getD
 g.2.2.2.1.toNat
 ((0 :
 Int),
 (0 :
 Int))).2 =
 mval
 Ty.bool
 g.2.1.2.2.2.1
 (x.1.getD
 g.2.2.2.1.toNat
 ((0 :
 Int),
 (0 :
 Int))).2 ∧
 false =
 false ∧
 decide
 ((0 :
 Int) ≤
 idx
 g.2.1.2.1
 (x.1.getD
 g.2.2.2.1.toNat
 ((0 :
 Int),
 (0 :
 Int))).2) =
 decide
 ((0 :
 Int) ≤
 idx
 g.2.1.2.1
 (x.1.getD
 g.2.2.2.1.toNat
 ((0 :
 Int),
 (0 :
 Int))).2) ∧
 (!decide
 ((0 :
 Int) ≤
 idx
 g.2.1.2.1
 (x.1.getD
 g.2.2.2.1.toNat
 ((0 :
 Int),
 (0 :
 Int))).2)) =
 !decide
 ((0 :
 Int) ≤
 idx
 g.2.1.2.1
 (x.1.getD
 g.2.2.2.1.toNat
 ((0 :
 Int),
 (0 :
 Int))).2) ∧
 false =
 false ∧
 (True ∧
 True) ∧
 (True ∧
 True) ∧
 (True ∧
 True) ∧
 g.2.1.1 =
 g.2.1.1 ∧
 (g.2.1.1 ==
 (0 :
 Int)) =
 (g.2.1.1 ==
 (0 :
 Int)) ∧
 (True ∧
 True) ∧
 (True ∧
 True) ∧
 (True ∧
 True) ∧
 g.2.1.1 =
 g.2.1.1 ∧
 g.2.1.1 -
 (1 :
 Int) =
 g.2.1.1 -
 (1 :
 Int) ∧
 (True ∧
 True) ∧
 (True ∧
 True) ∧
 (True ∧
 True) ∧
 (True ∧
 True) ∧
 (x.1.getD
 g.2.2.2.1.toNat
 ((0 :
 Int),
 (0 :
 Int))).2 =
 (x.1.getD
 g.2.2.2.1.toNat
 ((0 :
 Int),
 (0 :
 Int))).2 ∧
 True ∧
 True ∧
 True ∧
 True ∧
 True ∧
 True ∧
 True ∧
 True ∧
 True ∧
 True ∧
 True ∧
 True ∧
 True ∧
 True ∧
 True ∧
 True ∧
 True ∧
 True ∧
 True ∧
 True ∧
 True ∧
 True ∧
 True ∧
 True ∧
 True ∧
 True ∧
 True ∧
 True ∧
 True ∧
 True ∧
 True ∧
 True ∧
 True ∧
 True ∧
 True ∧
 True ∧
 True ∧
 True ∧
 True ∧
 True ∧
 True ∧
 True ∧
 True ∧
 True ∧
 True ∧
 True ∧
 True ∧
 True ∧
 True ∧
 True ∧
 True ∧
 True ∧
 True ∧
 True ∧
 True ∧
 True ∧
 True ∧
 True ∧
 True ∧
 True ∧
 True ∧
 True ∧
 True ∧
 True ∧
 True ∧
 True ∧
 True ∧
 True ∧
 True ∧
 True ∧
 True ∧
 True ∧
 True ∧
 True ∧
 True ∧
 True ∧
 True ∧
 True ∧
 True ∧
 True ∧
 (True ∧
 True) ∧
 True ∧
 True ∧
 (True ∧
 True) ∧
 True ∧
 True ∧
 True ∧
 True ∧
 (True ∧
 True) ∧
 x.1 =
 x.1 ∧
 (↑x.1.length :
 Int) =
 (↑x.1.length :
 Int) ∧
 g.2.2.2.1 =
 g.2.2.2.1 ∧
 true =
 true ∧
 True ∧
 ((x.1.getD
 g.2.2.2.1.toNat
 ((0 :
 Int),
 (0 :
 Int))).1 =
 (x.1.getD
 g.2.2.2.1.toNat
 ((0 :
 Int),
 (0 :
 Int))).1 ∧
 (x.1.getD
 g.2.2.2.1.toNat
 ((0 :
 Int),
 (0 :
 Int))).2 =
 (x.1.getD
 g.2.2.2.1.toNat
 ((0 :
 Int),
 (0 :
 Int))).2 ∧
 True) ∧
 True ∧
 (True ∧
 True) ∧
 ((x.1.getD
 g.2.2.2.1.toNat
 ((0 :
 Int),
 (0 :
 Int))).1 =
 (x.1.getD
 g.2.2.2.1.toNat
 ((0 :
 Int),
 (0 :
 Int))).1 ∧
 (x.1.getD
 g.2.2.2.1.toNat
 ((0 :
 Int),
 (0 :
 Int))).2 =
 (x.1.getD
 g.2.2.2.1.toNat
 ((0 :
 Int),
 (0 :
 Int))).2 ∧
 True) ∧
 True ∧
 True ∧
 True ∧
 True ∧
 True ∧
 True ∧
 True ∧
 True ∧
 True ∧
 True ∧
 True ∧
 True ∧
 True ∧
 True ∧
 True ∧
 True ∧
 True ∧
 True ∧
 True ∧
 True ∧
 True ∧
 True) ∧
 ((!g_2.1.getD g_2.2.2.1.toNat (0 : Int) ==
 (x.1.getD g.2.2.2.1.toNat
 ((0 : Int), (0 : Int))).2) =
 false →
 ((-9223372036854775808 : Int) ≤
 g_2.2.2.1 + (1 : Int) ∧
 g_2.2.2.1 + (1 : Int) ≤
 (9223372036854775807 : Int)) ∧
 ((((0 : Int) ≤ g_2.2.1 ∧
 g_2.2.1 ≤ g_2.2.2.1 + (1 : Int) ∧
 g_2.2.2.1 + (1 : Int) ≤
 (↑g.2.1.2.1.length : Int)) ∧
 g_2.1.length = g.2.1.2.1.length ∧
 List.take g_2.2.1.toNat g_2.1 =
 List.filter
 (fun y ↦
 !capF
 (some
 (x.1.getD
 g.2.2.2.1.toNat
 ((0 : Int),
 (0 : Int))).2)
 ([] : List (Int × Bool)) y)
 (List.take
 (g_2.2.2.1 + (1 : Int)).toNat
 g.2.1.2.1) ∧
 List.drop
 (g_2.2.2.1 + (1 : Int)).toNat
 g_2.1 =
 List.drop
 (g_2.2.2.1 + (1 : Int)).toNat
 g.2.1.2.1) ∧
 ((↑g.2.1.2.1.length : Int) -
 (g_2.2.2.1 + (1 : Int))).toNat <
 ((↑g.2.1.2.1.length : Int) -
 g_2.2.2.1).toNat) ∧
 (True ∧
 True ∧
 g_2.2.1 = g_2.2.1 ∧
 g_2.2.2.1 + (1 : Int) =
 g_2.2.2.1 + (1 : Int) ∧
 True) ∧
 (g_2.1 = g_2.1 ∧
 (g.2.1.1 - (1 : Int) =
 g.2.1.1 - (1 : Int) ∧
 True ∧ True ∧ True ∧ True ∧ True) ∧
 g.2.1.2.1 = g.2.1.2.1 ∧
 g.2.1.2.2.1 =
 g.2.1.2.2.1 ∧
 g.2.1.2.2.2.1 =
 g.2.1.2.2.2.1 ∧
 g.2.1.2.2.2.2 =
 g.2.1.2.2.2.2 ∧
 ((x.1.getD
 g.2.2.2.1.toNat
 ((0 : Int),
 (0 : Int))).2 =
 (x.1.getD
 g.2.2.2.1.toNat
 ((0 : Int),
 (0 : Int))).2 ∧
 True) ∧
 (True ∧ (True ∧ True) ∧ True) ∧
 ((x.1.getD
 g.2.2.2.1.toNat
 ((0 : Int),
 (0 : Int))).1 =
 (x.1.getD
 g.2.2.2.1.toNat
 ((0 : Int),
 (0 : Int))).1 ∧
 (x.1.getD
 g.2.2.2.1.toNat
 ((0 : Int),
 (0 :
 Int))).2 =
 (x.1.getD
 g.2.2.2.1.toNat
 ((0 : Int),
 (0 :
 Int))).2 ∧
 True) ∧
 ((True ∧ True) ∧ True) ∧
 g.2.2.1 =
 g.2.2.1 ∧
 ((x.1.getD
 g.2.2.2.1.toNat
 ((0 : Int),
 (0 :
 Int))).1 =
 (x.1.getD
 g.2.2.2.1.toNat
 ((0 : Int),
 (0 :
 Int))).1 ∧
 (x.1.getD
 g.2.2.2.1.toNat
 ((0 : Int),
 (0 :
 Int))).2 =
 (x.1.getD
 g.2.2.2.1.toNat
 ((0 : Int),
 (0 :
 Int))).2 ∧
 True) ∧
 True) ∧
 (True ∧ True) ∧
 (x.1.getD g.2.2.2.1.toNat
 ((0 : Int), (0 : Int))).2 =
 (x.1.getD g.2.2.2.1.toNat
 ((0 : Int), (0 : Int))).2 ∧
 True ∧
 (True ∧ True) ∧
 (True ∧ True) ∧
 (True ∧ True) ∧
 (True ∧ True) ∧
 (True ∧ True) ∧
 True ∧
 True ∧
 True ∧
 True ∧
 True ∧
 True ∧
 True ∧
 True ∧
 True ∧
 True ∧
 True ∧
 True ∧
 True ∧
 True ∧
 True ∧
 True ∧
 (True ∧
 True) ∧
 ((x.1.getD
 g.2.2.2.1.toNat
 ((0 :
 Int),
 (0 :
 Int))).1 =
 (x.1.getD
 g.2.2.2.1.toNat
 ((0 :
 Int),
 (0 :
 Int))).1 ∧
 (x.1.getD
 g.2.2.2.1.toNat
 ((0 :
 Int),
 (0 :
 Int))).2 =
 (x.1.getD
 g.2.2.2.1.toNat
 ((0 :
 Int),
 (0 :
 Int))).2 ∧
 True) ∧
 True ∧
 (True ∧
 True) ∧
 (0 :
 Int) =
 (0 :
 Int) ∧
 decide
 ((0 :
 Int) ≤
 idx
 g.2.1.2.1
 (x.1.getD
 g.2.2.2.1.toNat
 ((0 :
 Int),
 (0 :
 Int))).2) =
 decide
 ((0 :
 Int) ≤
 idx
 g.2.1.2.1
 (x.1.getD
 g.2.2.2.1.toNat
 ((0 :
 Int),
 (0 :
 Int))).2) ∧
 false =
 false ∧
 (True ∧
 True) ∧
 (x.1.getD
 g.2.2.2.1.toNat
 ((0 :
 Int),
 (0 :
 Int))).1 =
 (x.1.getD
 g.2.2.2.1.toNat
 ((0 :
 Int),
 (0 :
 Int))).1 ∧
 decide
 ((x.1.getD
 g.2.2.2.1.toNat
 ((0 :
 Int),
 (0 :
 Int))).1 <
 (1 :
 Int)) =
 decide
 ((x.1.getD
 g.2.2.2.1.toNat
 ((0 :
 Int),
 (0 :
 Int))).1 <
 (1 :
 Int)) ∧
 decide
 ((x.1.getD
 g.2.2.2.1.toNat
 ((0 :
 Int),
 (0 :
 Int))).1 <
 (1 :
 Int)) =
 decide
 ((x.1.getD
 g.2.2.2.1.toNat
 ((0 :
 Int),
 (0 :
 Int))).1 <
 (1 :
 Int)) ∧
 True ∧
 True ∧
 True ∧
 (decide
 ((x.1.getD
 g.2.2.2.1.toNat
 ((0 :
 Int),
 (0 :
 Int))).1 <
 (1 :
 Int)) ||
 decide
 ((5 :
 Int) <
 (x.1.getD
 g.2.2.2.1.toNat
 ((0 :
 Int),
 (0 :
 Int))).1)) =
 (decide
 ((x.1.getD
 g.2.2.2.1.toNat
 ((0 :
 Int),
 (0 :
 Int))).1 <
 (1 :
 Int)) ||
 decide
 ((5 :
 Int) <
 (x.1.getD
 g.2.2.2.1.toNat
 ((0 :
 Int),
 (0 :
 Int))).1)) ∧
 false =
 false ∧
 (True ∧
 True) ∧
 (x.1.getD
 g.2.2.2.1.toNat
 ((0 :
 Int),
 (0 :
 Int))).2 =
 (x.1.getD
 g.2.2.2.1.toNat
 ((0 :
 Int),
 (0 :
 Int))).2 ∧
 decide
 ((x.1.getD
 g.2.2.2.1.toNat
 ((0 :
 Int),
 (0 :
 Int))).2 <
 (0 :
 Int)) =
 decide
 ((x.1.getD
 g.2.2.2.1.toNat
 ((0 :
 Int),
 (0 :
 Int))).2 <
 (0 :
 Int)) ∧
 decide
 ((x.1.getD
 g.2.2.2.1.toNat
 ((0 :
 Int),
 (0 :
 Int))).2 <
 (0 :
 Int)) =
 decide
 ((x.1.getD
 g.2.2.2.1.toNat
 ((0 :
 Int),
 (0 :
 Int))).2 <
 (0 :
 Int)) ∧
 True ∧
 True ∧
 True ∧
 (decide
 ((x.1.getD
 g.2.2.2.1.toNat
 ((0 :
 Int),
 (0 :
 Int))).2 <
 (0 :
 Int)) ||
 decide
 ((63 :
 Int) <
 (x.1.getD
 g.2.2.2.1.toNat
 ((0 :
 Int),
 (0 :
 Int))).2)) =
 (decide
 ((x.1.getD
 g.2.2.2.1.toNat
 ((0 :
 Int),
 (0 :
 Int))).2 <
 (0 :
 Int)) ||
 decide
 ((63 :
 Int) <
 (x.1.getD
 g.2.2.2.1.toNat
 ((0 :
 Int),
 (0 :
 Int))).2)) ∧
 (True ∧
 True) ∧
 (True ∧
 True) ∧
 (True ∧
 True) ∧
 True ∧
 (True ∧
 True) ∧
 (x.1.getD
 g.2.2.2.1.toNat
 ((0 :
 Int),
 (0 :
 Int))).2 =
 (x.1.getD
 g.2.2.2.1.toNat
 ((0 :
 Int),
 (0 :
 Int))).2 ∧
 decide
 ((0 :
 Int) ≤
 idx
 g.2.1.2.1
 (x.1.getD
 g.2.2.2.1.toNat
 ((0 :
 Int),
 (0 :
 Int))).2) =
 decide
 ((0 :
 Int) ≤
 idx
 g.2.1.2.1
 (x.1.getD
 g.2.2.2.1.toNat
 ((0 :
 Int),
 (0 :
 Int))).2) ∧
 (True ∧
 True) ∧
 (x.1.getD
 g.2.2.2.1.toNat
 ((0 :
 Int),
 (0 :
 Int))).1 =
 (x.1.getD
 g.2.2.2.1.toNat
 ((0 :
 Int),
 (0 :
 Int))).1 ∧
 false =
 false ∧
 ((x.1.getD
 g.2.2.2.1.toNat
 ((0 :
 Int),
 (0 :
 Int))).1 ==
 (1 :
 Int)) =
 ((x.1.getD
 g.2.2.2.1.toNat
 ((0 :
 Int),
 (0 :
 Int))).1 ==
 (1 :
 Int)) ∧
 True ∧
 True ∧
 True ∧
 True ∧
 True ∧
 True ∧
 True ∧
 True ∧
 True ∧
 True ∧
 True ∧
 True ∧
 True ∧
 True ∧
 True ∧
 True ∧
 True ∧
 True ∧
 True ∧
 True ∧
 True ∧
 True ∧
 True ∧
 True ∧
 True ∧
 True ∧
 True ∧
 True ∧
 true =
 true ∧
 ((x.1.getD
 g.2.2.2.1.toNat
 ((0 :
 Int),
 (0 :
 Int))).1 ==
 (2 :
 Int)) =
 ((x.1.getD
 g.2.2.2.1.toNat
 ((0 :
 Int),
 (0 :
 Int))).1 ==
 (2 :
 Int)) ∧
 false =
 false ∧
 (True ∧
 True) ∧
 (True ∧
 True) ∧
 (True ∧
 True) ∧
 True ∧
 (True ∧
 True) ∧
 (x.1.getD
 g.2.2.2.1.toNat
 ((0 :
 Int),
 (0 :
 Int))).2 =
 (x.1.getD
 g.2.2.2.1.toNat
 ((0 :
 Int),
 (0 :
 Int))).2 ∧
 mval
 Ty.bool
 g.2.1.2.2.2.1
 (x.1.getD
 g.2.2.2.1.toNat
 ((0 :
 Int),
 (0 :
 Int))).2 =
 mval
 Ty.bool
 g.2.1.2.2.2.1
 (x.1.getD
 g.2.2.2.1.toNat
 ((0 :
 Int),
 (0 :
 Int))).2 ∧
 false =
 false ∧
 decide
 ((0 :
 Int) ≤
 idx
 g.2.1.2.1
 (x.1.getD
 g.2.2.2.1.toNat
 ((0 :
 Int),
 (0 :
 Int))).2) =
 decide
 ((0 :
 Int) ≤
 idx
 g.2.1.2.1
 (x.1.getD
 g.2.2.2.1.toNat
 ((0 :
 Int),
 (0 :
 Int))).2) ∧
 (!decide
 ((0 :
 Int) ≤
 idx
 g.2.1.2.1
 (x.1.getD
 g.2.2.2.1.toNat
 ((0 :
 Int),
 (0 :
 Int))).2)) =
 !decide
 ((0 :
 Int) ≤
 idx
 g.2.1.2.1
 (x.1.getD
 g.2.2.2.1.toNat
 ((0 :
 Int),
 (0 :
 Int))).2) ∧
 false =
 false ∧
 (True ∧
 True) ∧
 (True ∧
 True) ∧
 (True ∧
 True) ∧
 g.2.1.1 =
 g.2.1.1 ∧
 (g.2.1.1 ==
 (0 :
 Int)) =
 (g.2.1.1 ==
 (0 :
 Int)) ∧
 (True ∧
 True) ∧
 (True ∧
 True) ∧
 (True ∧
 True) ∧
 g.2.1.1 =
 g.2.1.1 ∧
 g.2.1.1 -
 (1 :
 Int) =
 g.2.1.1 -
 (1 :
 Int) ∧
 (True ∧
 True) ∧
 (True ∧
 True) ∧
 (True ∧
 True) ∧
 (True ∧
 True) ∧
 (x.1.getD
 g.2.2.2.1.toNat
 ((0 :
 Int),
 (0 :
 Int))).2 =
 (x.1.getD
 g.2.2.2.1.toNat
 ((0 :
 Int),
 (0 :
 Int))).2 ∧
 True ∧
 True ∧
 True ∧
 True ∧
 True ∧
 True ∧
 True ∧
 True ∧
 True ∧
 True ∧
 True ∧
 True ∧
 True ∧
 True ∧
 True ∧
 True ∧
 True ∧
 True ∧
 True ∧
 True ∧
 True ∧
 True ∧
 True ∧
 True ∧
 True ∧
 True ∧
 True ∧
 True ∧
 True ∧
 True ∧
 True ∧
 True ∧
 True ∧
 True ∧
 True ∧
 True ∧
 True ∧
 True ∧
 True ∧
 True ∧
 True ∧
 True ∧
 True ∧
 True ∧
 True ∧
 True ∧
 True ∧
 True ∧
 True ∧
 True ∧
 True ∧
 True ∧
 True ∧
 True ∧
 True ∧
 True ∧
 True ∧
 True ∧
 True ∧
 True ∧
 True ∧
 True ∧
 True ∧
 True ∧
 True ∧
 True ∧
 True ∧
 True ∧
 True ∧
 True ∧
 True ∧
 True ∧
 True ∧
 True ∧
 True ∧
 True ∧
 True ∧
 True ∧
 True ∧
 True ∧
 (True ∧
 True) ∧
 True ∧
 True ∧
 (True ∧
 True) ∧
 True ∧
 True ∧
 True ∧
 True ∧
 (True ∧
 True) ∧
 x.1 =
 x.1 ∧
 (↑x.1.length :
 Int) =
 (↑x.1.length :
 Int) ∧
 g.2.2.2.1 =
 g.2.2.2.1 ∧
 true =
 true ∧
 True ∧
 ((x.1.getD
 g.2.2.2.1.toNat
 ((0 :
 Int),
 (0 :
 Int))).1 =
 (x.1.getD
 g.2.2.2.1.toNat
 ((0 :
 Int),
 (0 :
 Int))).1 ∧
 (x.1.getD
 g.2.2.2.1.toNat
 ((0 :
 Int),
 (0 :
 Int))).2 =
 (x.1.getD
 g.2.2.2.1.toNat
 ((0 :
 Int),
 (0 :
 Int))).2 ∧
 True) ∧
 True ∧
 (True ∧
 True) ∧
 ((x.1.getD
 g.2.2.2.1.toNat
 ((0 :
 Int),
 (0 :
 Int))).1 =
 (x.1.getD
 g.2.2.2.1.toNat
 ((0 :
 Int),
 (0 :
 Int))).1 ∧
 (x.1.getD
 g.2.2.2.1.toNat
 ((0 :
 Int),
 (0 :
 Int))).2 =
 (x.1.getD
 g.2.2.2.1.toNat
 ((0 :
 Int),
 (0 :
 Int))).2 ∧
 True) ∧
 True ∧
 True ∧
 True ∧
 True ∧
 True ∧
 True ∧
 True ∧
 True ∧
 True ∧
 True ∧
 True ∧
 True ∧
 True ∧
 True ∧
 True ∧
 True ∧
 True ∧
 True ∧
 True ∧
 True ∧
 True ∧
 True)) ∧
 (decide (g_2.2.2.1 < (↑g_2.1.length : Int)) = false →
 (((0 : Int) ≤ g_2.2.1 ∧
 g_2.2.1 ≤ (↑g_2.1.length : Int)) ∧
 (↑g_2.1.length : Int) ≤ (↑g_2.1.length : Int)) ∧
 (((0 : Int) ≤ (0 : Int) ∧ (0 : Int) ≤ g_2.2.1) ∧
 g_2.2.1 ≤
 (↑(List.take g_2.2.1.toNat g_2.1 ++
 (List.replicate
 ((↑g_2.1.length : Int).toNat -
 g_2.2.1.toNat)
 (0 : Int) ++
 List.drop
 (g_2.2.1.toNat +
 ((↑g_2.1.length : Int).toNat -
 g_2.2.1.toNat))
 g_2.1)).length :
 Int)) ∧
 (g.2.1.2.2.2.2.length +
 (((0 : Int) :: ([] : List Int)).set (0 : Nat)
 (x.1.getD g.2.2.2.1.toNat
 ((0 : Int), (0 : Int))).2).length ≤
 (9223372036854775807 : Nat) ∧
 (g.2.1.2.2.2.2.length +
 (((0 : Int) :: ([] : List Int)).set
 (0 : Nat)
 (x.1.getD g.2.2.2.1.toNat
 ((0 : Int),
 (0 : Int))).2).length +
 (g.2.1.2.2.2.2.length +
 (((0 : Int) :: ([] : List Int)).set
 (0 : Nat)
 (x.1.getD g.2.2.2.1.toNat
 ((0 : Int),
 (0 : Int))).2).length) /
 (4 : Nat) +
 (192 : Nat)) *
 (8 : Nat) ≤
 (281474976710656 : Nat)) ∧
 (decide ((0 : Int) < g.2.1.1 - (1 : Int)) =
 true →
 ((((0 : Int) ≤ (0 : Int) ∧
 (0 : Int) ≤
 (↑(List.drop (nat_lit 0)
 (List.take g_2.2.1.toNat
 (List.take g_2.2.1.toNat
 g_2.1 ++
 (List.replicate
 ((↑g_2.1.length :
 Int).toNat -
 g_2.2.1.toNat)
 (0 : Int) ++
 List.drop
 (g_2.2.1.toNat +
 ((↑g_2.1.length :
 Int).toNat -
 g_2.2.1.toNat))
 g_2.1)))).length :
 Int) ∧
 ((List.take (Int.toNat (0 : Int))
 (List.drop (nat_lit 0)
 (List.take g_2.2.1.toNat
 (List.take g_2.2.1.toNat
 g_2.1 ++
 (List.replicate
 ((↑g_2.1.length :
 Int).toNat -
 g_2.2.1.toNat)
 (0 : Int) ++
 List.drop
 (g_2.2.1.toNat +
 ((↑g_2.1.length :
 Int).toNat -
 g_2.2.1.toNat))
 g_2.1))))).all
 fun y ↦
 mval Ty.bool
 (mdel Ty.bool
 g.2.1.2.2.1
 (x.1.getD
 g.2.2.2.1.toNat
 ((0 : Int), (0 : Int))).2)
 y) =
 true) ∧
 True) ∧
 ((True ∧ True) ∧
 True ∧
 (↑(List.drop (nat_lit 0)
 (List.take g_2.2.1.toNat
 (List.take
 g_2.2.1.toNat
 g_2.1 ++
 (List.replicate
 ((↑g_2.1.length :
 Int).toNat -
 g_2.2.1.toNat)
 (0 : Int) ++
 List.drop
 (g_2.2.1.toNat +
 ((↑g_2.1.length :
 Int).toNat -
 g_2.2.1.toNat))
 g_2.1)))).length :
 Int) =
 (↑(List.drop (nat_lit 0)
 (List.take g_2.2.1.toNat
 (List.take
 g_2.2.1.toNat
 g_2.1 ++
 (List.replicate
 ((↑g_2.1.length :
 Int).toNat -
 g_2.2.1.toNat)
 (0 : Int) ++
 List.drop
 (g_2.2.1.toNat +
 ((↑g_2.1.length :
 Int).toNat -
 g_2.2.1.toNat))
 g_2.1)))).length :
 Int) ∧
 (0 : Int) = (0 : Int) ∧ True) ∧
 ((g.2.1.1 - (1 : Int) =
 g.2.1.1 - (1 : Int) ∧
 True ∧ True ∧ True ∧ True ∧ True) ∧
 List.drop (nat_lit 0)
 (List.take g_2.2.1.toNat
 (List.take g_2.2.1.toNat
 g_2.1 ++
 (List.replicate
 ((↑g_2.1.length :
 Int).toNat -
 g_2.2.1.toNat)
 (0 : Int) ++
 List.drop
 (g_2.2.1.toNat +
 ((↑g_2.1.length :
 Int).toNat -
 g_2.2.1.toNat))
 g_2.1))) =
 List.drop (nat_lit 0)
 (List.take g_2.2.1.toNat
 (List.take g_2.2.1.toNat
 g_2.1 ++
 (List.replicate
 ((↑g_2.1.length :
 Int).toNat -
 g_2.2.1.toNat)
 (0 : Int) ++
 List.drop
 (g_2.2.1.toNat +
 ((↑g_2.1.length :
 Int).toNat -
 g_2.2.1.toNat))
 g_2.1))) ∧
 mdel Ty.bool g.2.1.2.2.1
 (x.1.getD
 g.2.2.2.1.toNat
 ((0 : Int),
 (0 : Int))).2 =
 mdel Ty.bool g.2.1.2.2.1
 (x.1.getD
 g.2.2.2.1.toNat
 ((0 : Int),
 (0 : Int))).2 ∧
 mdel Ty.bool
 g.2.1.2.2.2.1
 (x.1.getD
 g.2.2.2.1.toNat
 ((0 : Int),
 (0 : Int))).2 =
 mdel Ty.bool
 g.2.1.2.2.2.1
 (x.1.getD
 g.2.2.2.1.toNat
 ((0 : Int),
 (0 : Int))).2 ∧
 g.2.1.2.2.2.2 ++
 ((0 : Int) ::
 ([] : List Int)).set
 (0 : Nat)
 (x.1.getD
 g.2.2.2.1.toNat
 ((0 : Int),
 (0 : Int))).2 =
 g.2.1.2.2.2.2 ++
 ((0 : Int) ::
 ([] : List Int)).set
 (0 : Nat)
 (x.1.getD
 g.2.2.2.1.toNat
 ((0 : Int),
 (0 : Int))).2 ∧
 ((x.1.getD
 g.2.2.2.1.toNat
 ((0 : Int),
 (0 : Int))).1 =
 (x.1.getD
 g.2.2.2.1.toNat
 ((0 : Int),
 (0 : Int))).1 ∧
 (x.1.getD
 g.2.2.2.1.toNat
 ((0 : Int),
 (0 : Int))).2 =
 (x.1.getD
 g.2.2.2.1.toNat
 ((0 : Int),
 (0 : Int))).2 ∧
 True) ∧
 g.2.1.2.1 =
 g.2.1.2.1 ∧
 ((0 : Int) ::
 ([] :
 List Int)).set
 (0 : Nat)
 (x.1.getD
 g.2.2.2.1.toNat
 ((0 : Int),
 (0 :
 Int))).2 =
 ((0 : Int) ::
 ([] :
 List Int)).set
 (0 : Nat)
 (x.1.getD
 g.2.2.2.1.toNat
 ((0 : Int),
 (0 :
 Int))).2 ∧
 ((True ∧ True) ∧ True) ∧
 g.2.2.1 =
 g.2.2.1 ∧
 ((x.1.getD
 g.2.2.2.1.toNat
 ((0 : Int),
 (0 :
 Int))).1 =
 (x.1.getD
 g.2.2.2.1.toNat
 ((0 : Int),
 (0 :
 Int))).1 ∧
 (x.1.getD
 g.2.2.2.1.toNat
 ((0 :
 Int),
 (0 :
 Int))).2 =
 (x.1.getD
 g.2.2.2.1.toNat
 ((0 :
 Int),
 (0 :
 Int))).2 ∧
 True) ∧
 True) ∧
 (True ∧ True) ∧
 ((x.1.getD g.2.2.2.1.toNat
 ((0 : Int), (0 : Int))).1 =
 (x.1.getD
 g.2.2.2.1.toNat
 ((0 : Int), (0 : Int))).1 ∧
 (x.1.getD g.2.2.2.1.toNat
 ((0 : Int),
 (0 : Int))).2 =
 (x.1.getD
 g.2.2.2.1.toNat
 ((0 : Int),
 (0 : Int))).2 ∧
 True) ∧
 True ∧
 (True ∧ True) ∧
 (0 : Int) = (0 : Int) ∧
 decide
 ((0 : Int) ≤
 idx g.2.1.2.1
 (x.1.getD
 g.2.2.2.1.toNat
 ((0 : Int),
 (0 :
 Int))).2) =
 decide
 ((0 : Int) ≤
 idx g.2.1.2.1
 (x.1.getD
 g.2.2.2.1.toNat
 ((0 : Int),
 (0 :
 Int))).2) ∧
 false = false ∧
 (True ∧ True) ∧
 (x.1.getD
 g.2.2.2.1.toNat
 ((0 : Int),
 (0 :
 Int))).1 =
 (x.1.getD
 g.2.2.2.1.toNat
 ((0 : Int),
 (0 :
 Int))).1 ∧
 decide
 ((x.1.getD
 g.2.2.2.1.toNat
 ((0 : Int),
 (0 :
 Int))).1 <
 (1 : Int)) =
 decide
 ((x.1.getD
 g.2.2.2.1.toNat
 ((0 : Int),
 (0 :
 Int))).1 <
 (1 : Int)) ∧
 decide
 ((x.1.getD
 g.2.2.2.1.toNat
 ((0 :
 Int),
 (0 :
 Int))).1 <
 (1 : Int)) =
 decide
 ((x.1.getD
 g.2.2.2.1.toNat
 ((0 :
 Int),
 (0 :
 Int))).1 <
 (1 : Int)) ∧
 True ∧
 True ∧
 True ∧
 (decide
 ((x.1.getD
 g.2.2.2.1.toNat
 ((0 :
 Int),
 (0 :
 Int))).1 <
 (1 :
 Int)) ||
 decide
 ((5 :
 Int) <
 (x.1.getD
 g.2.2.2.1.toNat
 ((0 :
 Int),
 (0 :
 Int))).1)) =
 (decide
 ((x.1.getD
 g.2.2.2.1.toNat
 ((0 :
 Int),
 (0 :
 Int))).1 <
 (1 :
 Int)) ||
 decide
 ((5 :
 Int) <
 (x.1.getD
 g.2.2.2.1.toNat
 ((0 :
 Int),
 (0 :
 Int))).1)) ∧
 false =
 false ∧
 (True ∧
 True) ∧
 (x.1.getD
 g.2.2.2.1.toNat
 ((0 :
 Int),
 (0 :
 Int))).2 =
 (x.1.getD
 g.2.2.2.1.toNat
 ((0 :
 Int),
 (0 :
 Int))).2 ∧
 decide
 ((x.1.getD
 g.2.2.2.1.toNat
 ((0 :
 Int),
 (0 :
 Int))).2 <
 (0 :
 Int)) =
 decide
 ((x.1.getD
 g.2.2.2.1.toNat
 ((0 :
 Int),
 (0 :
 Int))).2 <
 (0 :
 Int)) ∧
 decide
 ((x.1.getD
 g.2.2.2.1.toNat
 ((0 :
 Int),
 (0 :
 Int))).2 <
 (0 :
 Int)) =
 decide
 ((x.1.getD
 g.2.2.2.1.toNat
 ((0 :
 Int),
 (0 :
 Int))).2 <
 (0 :
 Int)) ∧
 True ∧
 True ∧
 True ∧
 (decide
 ((x.1.getD
 g.2.2.2.1.toNat
 ((0 :
 Int),
 (0 :
 Int))).2 <
 (0 :
 Int)) ||
 decide
 ((63 :
 Int) <
 (x.1.getD
 g.2.2.2.1.toNat
 ((0 :
 Int),
 (0 :
 Int))).2)) =
 (decide
 ((x.1.getD
 g.2.2.2.1.toNat
 ((0 :
 Int),
 (0 :
 Int))).2 <
 (0 :
 Int)) ||
 decide
 ((63 :
 Int) <
 (x.1.getD
 g.2.2.2.1.toNat
 ((0 :
 Int),
 (0 :
 Int))).2)) ∧
 (True ∧
 True) ∧
 (True ∧
 True) ∧
 (True ∧
 True) ∧
 True ∧
 (True ∧
 True) ∧
 (x.1.getD
 g.2.2.2.1.toNat
 ((0 :
 Int),
 (0 :
 Int))).2 =
 (x.1.getD
 g.2.2.2.1.toNat
 ((0 :
 Int),
 (0 :
 Int))).2 ∧
 decide
 ((0 :
 Int) ≤
 idx
 g.2.1.2.1
 (x.1.getD
 g.2.2.2.1.toNat
 ((0 :
 Int),
 (0 :
 Int))).2) =
 decide
 ((0 :
 Int) ≤
 idx
 g.2.1.2.1
 (x.1.getD
 g.2.2.2.1.toNat
 ((0 :
 Int),
 (0 :
 Int))).2) ∧
 (True ∧
 True) ∧
 (x.1.getD
 g.2.2.2.1.toNat
 ((0 :
 Int),
 (0 :
 Int))).1 =
 (x.1.getD
 g.2.2.2.1.toNat
 ((0 :
 Int),
 (0 :
 Int))).1 ∧
 false =
 false ∧
 ((x.1.getD
 g.2.2.2.1.toNat
 ((0 :
 Int),
 (0 :
 Int))).1 ==
 (1 :
 Int)) =
 ((x.1.getD
 g.2.2.2.1.toNat
 ((0 :
 Int),
 (0 :
 Int))).1 ==
 (1 :
 Int)) ∧
 True ∧
 True ∧
 True ∧
 True ∧
 True ∧
 True ∧
 True ∧
 True ∧
 True ∧
 True ∧
 True ∧
 True ∧
 True ∧
 True ∧
 True ∧
 True ∧
 True ∧
 True ∧
 True ∧
 True ∧
 True ∧
 True ∧
 True ∧
 True ∧
 True ∧
 True ∧
 True ∧
 True ∧
 true =
 true ∧
 ((x.1.getD
 g.2.2.2.1.toNat
 ((0 :
 Int),
 (0 :
 Int))).1 ==
 (2 :
 Int)) =
 ((x.1.getD
 g.2.2.2.1.toNat
 ((0 :
 Int),
 (0 :
 Int))).1 ==
 (2 :
 Int)) ∧
 false =
 false ∧
 (True ∧
 True) ∧
 (True ∧
 True) ∧
 (True ∧
 True) ∧
 True ∧
 (True ∧
 True) ∧
 (x.1.getD
 g.2.2.2.1.toNat
 ((0 :
 Int),
 (0 :
 Int))).2 =
 (x.1.getD
 g.2.2.2.1.toNat
 ((0 :
 Int),
 (0 :
 Int))).2 ∧
 mval
 Ty.bool
 g.2.1.2.2.2.1
 (x.1.getD
 g.2.2.2.1.toNat
 ((0 :
 Int),
 (0 :
 Int))).2 =
 mval
 Ty.bool
 g.2.1.2.2.2.1
 (x.1.getD
 g.2.2.2.1.toNat
 ((0 :
 Int),
 (0 :
 Int))).2 ∧
 false =
 false ∧
 decide
 ((0 :
 Int) ≤
 idx
 g.2.1.2.1
 (x.1.getD
 g.2.2.2.1.toNat
 ((0 :
 Int),
 (0 :
 Int))).2) =
 decide
 ((0 :
 Int) ≤
 idx
 g.2.1.2.1
 (x.1.getD
 g.2.2.2.1.toNat
 ((0 :
 Int),
 (0 :
 Int))).2) ∧
 (!decide
 ((0 :
 Int) ≤
 idx
 g.2.1.2.1
 (x.1.getD
 g.2.2.2.1.toNat
 ((0 :
 Int),
 (0 :
 Int))).2)) =
 !decide
 ((0 :
 Int) ≤
 idx
 g.2.1.2.1
 (x.1.getD
 g.2.2.2.1.toNat
 ((0 :
 Int),
 (0 :
 Int))).2) ∧
 false =
 false ∧
 (True ∧
 True) ∧
 (True ∧
 True) ∧
 (True ∧
 True) ∧
 g.2.1.1 =
 g.2.1.1 ∧
 (g.2.1.1 ==
 (0 :
 Int)) =
 (g.2.1.1 ==
 (0 :
 Int)) ∧
 (True ∧
 True) ∧
 (True ∧
 True) ∧
 (True ∧
 True) ∧
 g.2.1.1 =
 g.2.1.1 ∧
 g.2.1.1 -
 (1 :
 Int) =
 g.2.1.1 -
 (1 :
 Int) ∧
 (True ∧
 True) ∧
 (True ∧
 True) ∧
 (True ∧
 True) ∧
 (True ∧
 True) ∧
 (x.1.getD
 g.2.2.2.1.toNat
 ((0 :
 Int),
 (0 :
 Int))).2 =
 (x.1.getD
 g.2.2.2.1.toNat
 ((0 :
 Int),
 (0 :
 Int))).2 ∧
 True ∧
 (True ∧
 True) ∧
 (True ∧
 True) ∧
 (True ∧
 True) ∧
 (True ∧
 True) ∧
 True ∧
 (True ∧
 True) ∧
 (x.1.getD
 g.2.2.2.1.toNat
 ((0 :
 Int),
 (0 :
 Int))).2 =
 (x.1.getD
 g.2.2.2.1.toNat
 ((0 :
 Int),
 (0 :
 Int))).2 ∧
 True ∧
 True ∧
 (True ∧
 True) ∧
 (True ∧
 True) ∧
 (True ∧
 True) ∧
 (True ∧
 True) ∧
 (True ∧
 True) ∧
 g.2.1.1 -
 (1 :
 Int) =
 g.2.1.1 -
 (1 :
 Int) ∧
 true =
 true ∧
 (True ∧
 True) ∧
 True ∧
 True ∧
 True ∧
 True ∧
 True ∧
 True ∧
 True ∧
 True ∧
 True ∧
 True ∧
 True ∧
 True ∧
 True ∧
 True ∧
 True ∧
 True ∧
 True ∧
 True ∧
 True ∧
 True ∧
 True ∧
 True ∧
 True ∧
 True ∧
 True ∧
 True ∧
 True ∧
 True ∧
 True ∧
 True ∧
 True ∧
 True ∧
 True ∧
 True ∧
 True ∧
 True ∧
 True ∧
 True ∧
 True ∧
 True ∧
 True ∧
 True ∧
 True ∧
 True ∧
 True ∧
 True ∧
 True ∧
 True ∧
 True ∧
 True ∧
 True ∧
 True ∧
 True ∧
 True ∧
 True ∧
 True ∧
 True ∧
 True ∧
 True ∧
 True ∧
 True ∧
 True ∧
 (True ∧
 True) ∧
 True ∧
 True ∧
 (True ∧
 True) ∧
 True ∧
 True ∧
 True ∧
 True ∧
 (True ∧
 True) ∧
 x.1 =
 x.1 ∧
 (↑x.1.length :
 Int) =
 (↑x.1.length :
 Int) ∧
 g.2.2.2.1 =
 g.2.2.2.1 ∧
 true =
 true ∧
 True ∧
 ((x.1.getD
 g.2.2.2.1.toNat
 ((0 :
 Int),
 (0 :
 Int))).1 =
 (x.1.getD
 g.2.2.2.1.toNat
 ((0 :
 Int),
 (0 :
 Int))).1 ∧
 (x.1.getD
 g.2.2.2.1.toNat
 ((0 :
 Int),
 (0 :
 Int))).2 =
 (x.1.getD
 g.2.2.2.1.toNat
 ((0 :
 Int),
 (0 :
 Int))).2 ∧
 True) ∧
 True ∧
 (True ∧
 True) ∧
 ((x.1.getD
 g.2.2.2.1.toNat
 ((0 :
 Int),
 (0 :
 Int))).1 =
 (x.1.getD
 g.2.2.2.1.toNat
 ((0 :
 Int),
 (0 :
 Int))).1 ∧
 (x.1.getD
 g.2.2.2.1.toNat
 ((0 :
 Int),
 (0 :
 Int))).2 =
 (x.1.getD
 g.2.2.2.1.toNat
 ((0 :
 Int),
 (0 :
 Int))).2 ∧
 True) ∧
 True ∧
 True ∧
 True ∧
 True ∧
 True ∧
 True ∧
 True ∧
 True ∧
 True ∧
 True ∧
 True ∧
 True ∧
 True ∧
 True ∧
 True ∧
 True ∧
 True ∧
 True ∧
 True ∧
 True ∧
 True ∧
 True) ∧
 ∀ (g_3 : Int × Unit),
 (0 : Int) ≤ g_3.1 ∧
 g_3.1 ≤
 (↑(List.drop (nat_lit 0)
 (List.take g_2.2.1.toNat
 (List.take g_2.2.1.toNat
 g_2.1 ++
 (List.replicate
 ((↑g_2.1.length :
 Int).toNat -
 g_2.2.1.toNat)
 (0 : Int) ++
 List.drop
 (g_2.2.1.toNat +
 ((↑g_2.1.length :
 Int).toNat -
 g_2.2.1.toNat))
 g_2.1)))).length :
 Int) ∧
 ((List.take g_3.1.toNat
 (List.drop (nat_lit 0)
 (List.take g_2.2.1.toNat
 (List.take g_2.2.1.toNat
 g_2.1 ++
 (List.replicate
 ((↑g_2.1.length :
 Int).toNat -
 g_2.2.1.toNat)
 (0 : Int) ++
 List.drop
 (g_2.2.1.toNat +
 ((↑g_2.1.length :
 Int).toNat -
 g_2.2.1.toNat))
 g_2.1))))).all
 fun y ↦
 mval Ty.bool
 (mdel Ty.bool
 g.2.1.2.2.1
 (x.1.getD
 g.2.2.2.1.toNat
 ((0 : Int), (0 : Int))).2)
 y) =
 true →
 ((-9223372036854775808 : Int) ≤ g_3.1 ∧
 g_3.1 ≤
 (9223372036854775807 : Int)) ∧
 True →
 (decide
 (g_3.1 <
 (↑(List.drop (nat_lit 0)
 (List.take
 g_2.2.1.toNat
 (List.take
 g_2.2.1.toNat
 g_2.1 ++
 (List.replicate
 ((↑g_2.1.length :
 Int).toNat -
 g_2.2.1.toNat)
 (0 : Int) ++
 List.drop
 (g_2.2.1.toNat +
 ((↑g_2.1.length :
 Int).toNat -
 g_2.2.1.toNat))
 g_2.1)))).length :
 Int)) =
 true →
 ((0 : Int) ≤ g_3.1 ∧
 g_3.1 <
 (↑(List.drop (nat_lit 0)
 (List.take
 g_2.2.1.toNat
 (List.take
 g_2.2.1.toNat
 g_2.1 ++
 (List.replicate
 ((↑g_2.1.length :
 Int).toNat -
 g_2.2.1.toNat)
 (0 : Int) ++
 List.drop
 (g_2.2.1.toNat +
 ((↑g_2.1.length :
 Int).toNat -
 g_2.2.1.toNat))
 g_2.1)))).length :
 Int)) ∧
 ((!mval Ty.bool
 (mdel Ty.bool
 g.2.1.2.2.1
 (x.1.getD
 g.2.2.2.1.toNat
 ((0 : Int),
 (0 : Int))).2)
 ((List.drop (nat_lit 0)
 (List.take
 g_2.2.1.toNat
 (List.take
 g_2.2.1.toNat
 g_2.1 ++
 (List.replicate
 ((↑g_2.1.length :
 Int).toNat -
 g_2.2.1.toNat)
 (0 : Int) ++
 List.drop
 (g_2.2.1.toNat +
 ((↑g_2.1.length :
 Int).toNat -
 g_2.2.1.toNat))
 g_2.1)))).getD
 g_3.1.toNat
 (0 : Int))) =
 true →
 (g.2.2.1.length +
 (((0 : Int) ::
 ([] :
 List Int)).set
 (0 : Nat)
 (0 : Int)).length ≤
 (9223372036854775807 :
 Nat) ∧
 (g.2.2.1.length +
 (((0 : Int) ::
 ([] :
 List
 Int)).set
 (0 : Nat)
 (0 :
 Int)).length +
 (g.2.2.1.length +
 (((0 : Int) ::
 ([] :
 List
 Int)).set
 (0 : Nat)
 (0 :
 Int)).length) /
 (4 : Nat) +
 (192 : Nat)) *
 (8 : Nat) ≤
 (281474976710656 : Nat)) ∧
 ((-9223372036854775808 :
 Int) ≤
 g.2.2.2.1 +
 (1 : Int) ∧
 g.2.2.2.1 +
 (1 : Int) ≤
 (9223372036854775807 :
 Int)) ∧
 (((0 : Int) ≤
 g.2.2.2.1 +
 (1 : Int) ∧
 g.2.2.2.1 +
 (1 : Int) ≤
 (↑x.1.length :
 Int) ∧
 (↑(g.2.2.1 ++
 ((0 :
 Int) ::
 ([] :
 List
 Int)).set
 (0 :
 Nat)
 (0 :
 Int)).length :
 Int) =
 g.2.2.2.1 +
 (1 : Int) ∧
 ∃ l,
 pl
 (List.take
 (g.2.2.2.1 +
 (1 :
 Int)).toNat
 x.1) =
 ((l,
 g.2.1.1 -
 (1 :
 Int),
 g.2.1.2.2.2.2 ++
 ((0 :
 Int) ::
 ([] :
 List
 Int)).set
 (0 :
 Nat)
 (x.1.getD
 g.2.2.2.1.toNat
 ((0 :
 Int),
 (0 :
 Int))).2),
 g.2.2.1 ++
 ((0 :
 Int) ::
 ([] :
 List
 Int)).set
 (0 :
 Nat)
 (0 :
 Int)) ∧
 MQ
 (List.drop
 (nat_lit
 0)
 (List.take
 g_2.2.1.toNat
 (List.take
 g_2.2.1.toNat
 g_2.1 ++
 (List.replicate
 ((↑g_2.1.length :
 Int).toNat -
 g_2.2.1.toNat)
 (0 :
 Int) ++
 List.drop
 (g_2.2.1.toNat +
 ((↑g_2.1.length :
 Int).toNat -
 g_2.2.1.toNat))
 g_2.1))))
 (mput
 Ty.bool
 (mdel
 Ty.bool
 g.2.1.2.2.1
 (x.1.getD
 g.2.2.2.1.toNat
 ((0 :
 Int),
 (0 :
 Int))).2)
 ((List.drop
 (nat_lit
 0)
 (List.take
 g_2.2.1.toNat
 (List.take
 g_2.2.1.toNat
 g_2.1 ++
 (List.replicate
 ((↑g_2.1.length :
 Int).toNat -
 g_2.2.1.toNat)
 (0 :
 Int) ++
 List.drop
 (g_2.2.1.toNat +
 ((↑g_2.1.length :
 Int).toNat -
 g_2.2.1.toNat))
 g_2.1)))).getD
 g_3.1.toNat
 (0 :
 Int))
 true)
 (mdel
 Ty.bool
 (mdel
 Ty.bool
 g.2.1.2.2.2.1
 (x.1.getD
 g.2.2.2.1.toNat
 ((0 :
 Int),
 (0 :
 Int))).2)
 ((List.drop
 (nat_lit
 0)
 (List.take
 g_2.2.1.toNat
 (List.take
 g_2.2.1.toNat
 g_2.1 ++
 (List.replicate
 ((↑g_2.1.length :
 Int).toNat -
 g_2.2.1.toNat)
 (0 :
 Int) ++
 List.drop
 (g_2.2.1.toNat +
 ((↑g_2.1.length :
 Int).toNat -
 g_2.2.1.toNat))
 g_2.1)))).getD
 g_3.1.toNat
 (0 :
 Int)))
 l ∧
 good
 (l,
 g.2.1.1 -
 (1 :
 Int),
 g.2.1.2.2.2.2 ++
 ((0 :
 Int) ::
 ([] :
 List
 Int)).set
 (0 :
 Nat)
 (x.1.getD
 g.2.2.2.1.toNat
 ((0 :
 Int),
 (0 :
 Int))).2)
 (g.2.2.2.1 +
 (1 :
 Int))) ∧
 ((↑x.1.length : Int) -
 (g.2.2.2.1 +
 (1 :
 Int))).toNat <
 ((↑x.1.length :
 Int) -
 g.2.2.2.1).toNat) ∧
 ((True ∧ True) ∧
 (True ∧ True) ∧
 True ∧
 x.1 = x.1 ∧
 (↑x.1.length :
 Int) =
 (↑x.1.length :
 Int) ∧
 g.2.2.2.1 +
 (1 :
 Int) =
 g.2.2.2.1 +
 (1 :
 Int) ∧
 True) ∧
 (((True ∧ True) ∧
 True) ∧
 (g.2.1.1 -
 (1 : Int) =
 g.2.1.1 -
 (1 : Int) ∧
 True ∧
 True ∧
 True ∧
 True ∧
 True) ∧
 List.drop
 (nat_lit 0)
 (List.take
 g_2.2.1.toNat
 (List.take
 g_2.2.1.toNat
 g_2.1 ++
 (List.replicate
 ((↑g_2.1.length :
 Int).toNat -
 g_2.2.1.toNat)
 (0 :
 Int) ++
 List.drop
 (g_2.2.1.toNat +
 ((↑g_2.1.length :
 Int).toNat -
 g_2.2.1.toNat))
 g_2.1))) =
 List.drop
 (nat_lit 0)
 (List.take
 g_2.2.1.toNat
 (List.take
 g_2.2.1.toNat
 g_2.1 ++
 (List.replicate
 ((↑g_2.1.length :
 Int).toNat -
 g_2.2.1.toNat)
 (0 :
 Int) ++
 List.drop
 (g_2.2.1.toNat +
 ((↑g_2.1.length :
 Int).toNat -
 g_2.2.1.toNat))
 g_2.1))) ∧
 mput Ty.bool
 (mdel
 Ty.bool
 g.2.1.2.2.1
 (x.1.getD
 g.2.2.2.1.toNat
 ((0 :
 Int),
 (0 :
 Int))).2)
 ((List.drop
 (nat_lit
 0)
 (List.take
 g_2.2.1.toNat
 (List.take
 g_2.2.1.toNat
 g_2.1 ++
 (List.replicate
 ((↑g_2.1.length :
 Int).toNat -
 g_2.2.1.toNat)
 (0 :
 Int) ++
 List.drop
 (g_2.2.1.toNat +
 ((↑g_2.1.length :
 Int).toNat -
 g_2.2.1.toNat))
 g_2.1)))).getD
 g_3.1.toNat
 (0 :
 Int))
 true =
 mput Ty.bool
 (mdel
 Ty.bool
 g.2.1.2.2.1
 (x.1.getD
 g.2.2.2.1.toNat
 ((0 :
 Int),
 (0 :
 Int))).2)
 ((List.drop
 (nat_lit
 0)
 (List.take
 g_2.2.1.toNat
 (List.take
 g_2.2.1.toNat
 g_2.1 ++
 (List.replicate
 ((↑g_2.1.length :
 Int).toNat -
 g_2.2.1.toNat)
 (0 :
 Int) ++
 List.drop
 (g_2.2.1.toNat +
 ((↑g_2.1.length :
 Int).toNat -
 g_2.2.1.toNat))
 g_2.1)))).getD
 g_3.1.toNat
 (0 :
 Int))
 true ∧
 mdel Ty.bool
 (mdel
 Ty.bool
 g.2.1.2.2.2.1
 (x.1.getD
 g.2.2.2.1.toNat
 ((0 :
 Int),
 (0 :
 Int))).2)
 ((List.drop
 (nat_lit
 0)
 (List.take
 g_2.2.1.toNat
 (List.take
 g_2.2.1.toNat
 g_2.1 ++
 (List.replicate
 ((↑g_2.1.length :
 Int).toNat -
 g_2.2.1.toNat)
 (0 :
 Int) ++
 List.drop
 (g_2.2.1.toNat +
 ((↑g_2.1.length :
 Int).toNat -
 g_2.2.1.toNat))
 g_2.1)))).getD
 g_3.1.toNat
 (0 :
 Int)) =
 mdel
 Ty.bool
 (mdel
 Ty.bool
 g.2.1.2.2.2.1
 (x.1.getD
 g.2.2.2.1.toNat
 ((0 :
 Int),
 (0 :
 Int))).2)
 ((List.drop
 (nat_lit
 0)
 (List.take
 g_2.2.1.toNat
 (List.take
 g_2.2.1.toNat
 g_2.1 ++
 (List.replicate
 ((↑g_2.1.length :
 Int).toNat -
 g_2.2.1.toNat)
 (0 :
 Int) ++
 List.drop
 (g_2.2.1.toNat +
 ((↑g_2.1.length :
 Int).toNat -
 g_2.2.1.toNat))
 g_2.1)))).getD
 g_3.1.toNat
 (0 :
 Int)) ∧
 g.2.1.2.2.2.2 ++
 ((0 :
 Int) ::
 ([] :
 List
 Int)).set
 (0 :
 Nat)
 (x.1.getD
 g.2.2.2.1.toNat
 ((0 :
 Int),
 (0 :
 Int))).2 =
 g.2.1.2.2.2.2 ++
 ((0 :
 Int) ::
 ([] :
 List
 Int)).set
 (0 :
 Nat)
 (x.1.getD
 g.2.2.2.1.toNat
 ((0 :
 Int),
 (0 :
 Int))).2 ∧
 g.2.2.1 ++
 ((0 :
 Int) ::
 ([] :
 List
 Int)).set
 (0 :
 Nat)
 (0 :
 Int) =
 g.2.2.1 ++
 ((0 :
 Int) ::
 ([] :
 List
 Int)).set
 (0 :
 Nat)
 (0 :
 Int) ∧
 True) ∧
 True) ∧
 ((!mval Ty.bool
 (mdel Ty.bool
 g.2.1.2.2.1
 (x.1.getD
 g.2.2.2.1.toNat
 ((0 : Int),
 (0 : Int))).2)
 ((List.drop (nat_lit 0)
 (List.take
 g_2.2.1.toNat
 (List.take
 g_2.2.1.toNat
 g_2.1 ++
 (List.replicate
 ((↑g_2.1.length :
 Int).toNat -
 g_2.2.1.toNat)
 (0 : Int) ++
 List.drop
 (g_2.2.1.toNat +
 ((↑g_2.1.length :
 Int).toNat -
 g_2.2.1.toNat))
 g_2.1)))).getD
 g_3.1.toNat
 (0 : Int))) =
 false →
 ((-9223372036854775808 : Int) ≤
 g_3.1 + (1 : Int) ∧
 g_3.1 + (1 : Int) ≤
 (9223372036854775807 :
 Int)) ∧
 (((0 : Int) ≤
 g_3.1 + (1 : Int) ∧
 g_3.1 + (1 : Int) ≤
 (↑(List.drop
 (nat_lit 0)
 (List.take
 g_2.2.1.toNat
 (List.take
 g_2.2.1.toNat
 g_2.1 ++
 (List.replicate
 ((↑g_2.1.length :
 Int).toNat -
 g_2.2.1.toNat)
 (0 :
 Int) ++
 List.drop
 (g_2.2.1.toNat +
 ((↑g_2.1.length :
 Int).toNat -
 g_2.2.1.toNat))
 g_2.1)))).length :
 Int) ∧
 ((List.take
 (g_3.1 +
 (1 :
 Int)).toNat
 (List.drop
 (nat_lit 0)
 (List.take
 g_2.2.1.toNat
 (List.take
 g_2.2.1.toNat
 g_2.1 ++
 (List.replicate
 ((↑g_2.1.length :
 Int).toNat -
 g_2.2.1.toNat)
 (0 :
 Int) ++
 List.drop
 (g_2.2.1.toNat +
 ((↑g_2.1.length :
 Int).toNat -
 g_2.2.1.toNat))
 g_2.1))))).all
 fun y ↦
 mval Ty.bool
 (mdel Ty.bool
 g.2.1.2.2.1
 (x.1.getD
 g.2.2.2.1.toNat
 ((0 :
 Int),
 (0 :
 Int))).2)
 y) =
 true) ∧
 ((↑(List.drop (nat_lit 0)
 (List.take
 g_2.2.1.toNat
 (List.take
 g_2.2.1.toNat
 g_2.1 ++
 (List.replicate
 ((↑g_2.1.length :
 Int).toNat -
 g_2.2.1.toNat)
 (0 :
 Int) ++
 List.drop
 (g_2.2.1.toNat +
 ((↑g_2.1.length :
 Int).toNat -
 g_2.2.1.toNat))
 g_2.1)))).length :
 Int) -
 (g_3.1 +
 (1 :
 Int))).toNat <
 ((↑(List.drop
 (nat_lit 0)
 (List.take
 g_2.2.1.toNat
 (List.take
 g_2.2.1.toNat
 g_2.1 ++
 (List.replicate
 ((↑g_2.1.length :
 Int).toNat -
 g_2.2.1.toNat)
 (0 :
 Int) ++
 List.drop
 (g_2.2.1.toNat +
 ((↑g_2.1.length :
 Int).toNat -
 g_2.2.1.toNat))
 g_2.1)))).length :
 Int) -
 g_3.1).toNat) ∧
 ((True ∧ True) ∧
 True ∧
 (↑(List.drop
 (nat_lit
 0)
 (List.take
 g_2.2.1.toNat
 (List.take
 g_2.2.1.toNat
 g_2.1 ++
 (List.replicate
 ((↑g_2.1.length :
 Int).toNat -
 g_2.2.1.toNat)
 (0 :
 Int) ++
 List.drop
 (g_2.2.1.toNat +
 ((↑g_2.1.length :
 Int).toNat -
 g_2.2.1.toNat))
 g_2.1)))).length :
 Int) =
 (↑(List.drop
 (nat_lit
 0)
 (List.take
 g_2.2.1.toNat
 (List.take
 g_2.2.1.toNat
 g_2.1 ++
 (List.replicate
 ((↑g_2.1.length :
 Int).toNat -
 g_2.2.1.toNat)
 (0 :
 Int) ++
 List.drop
 (g_2.2.1.toNat +
 ((↑g_2.1.length :
 Int).toNat -
 g_2.2.1.toNat))
 g_2.1)))).length :
 Int) ∧
 g_3.1 +
 (1 : Int) =
 g_3.1 +
 (1 : Int) ∧
 True) ∧
 ((g.2.1.1 -
 (1 : Int) =
 g.2.1.1 -
 (1 : Int) ∧
 True ∧
 True ∧
 True ∧
 True ∧ True) ∧
 List.drop (nat_lit 0)
 (List.take
 g_2.2.1.toNat
 (List.take
 g_2.2.1.toNat
 g_2.1 ++
 (List.replicate
 ((↑g_2.1.length :
 Int).toNat -
 g_2.2.1.toNat)
 (0 :
 Int) ++
 List.drop
 (g_2.2.1.toNat +
 ((↑g_2.1.length :
 Int).toNat -
 g_2.2.1.toNat))
 g_2.1))) =
 List.drop
 (nat_lit 0)
 (List.take
 g_2.2.1.toNat
 (List.take
 g_2.2.1.toNat
 g_2.1 ++
 (List.replicate
 ((↑g_2.1.length :
 Int).toNat -
 g_2.2.1.toNat)
 (0 :
 Int) ++
 List.drop
 (g_2.2.1.toNat +
 ((↑g_2.1.length :
 Int).toNat -
 g_2.2.1.toNat))
 g_2.1))) ∧
 mdel Ty.bool
 g.2.1.2.2.1
 (x.1.getD
 g.2.2.2.1.toNat
 ((0 :
 Int),
 (0 :
 Int))).2 =
 mdel Ty.bool
 g.2.1.2.2.1
 (x.1.getD
 g.2.2.2.1.toNat
 ((0 :
 Int),
 (0 :
 Int))).2 ∧
 mdel Ty.bool
 g.2.1.2.2.2.1
 (x.1.getD
 g.2.2.2.1.toNat
 ((0 :
 Int),
 (0 :
 Int))).2 =
 mdel Ty.bool
 g.2.1.2.2.2.1
 (x.1.getD
 g.2.2.2.1.toNat
 ((0 :
 Int),
 (0 :
 Int))).2 ∧
 g.2.1.2.2.2.2 ++
 ((0 :
 Int) ::
 ([] :
 List
 Int)).set
 (0 :
 Nat)
 (x.1.getD
 g.2.2.2.1.toNat
 ((0 :
 Int),
 (0 :
 Int))).2 =
 g.2.1.2.2.2.2 ++
 ((0 :
 Int) ::
 ([] :
 List
 Int)).set
 (0 :
 Nat)
 (x.1.getD
 g.2.2.2.1.toNat
 ((0 :
 Int),
 (0 :
 Int))).2 ∧
 ((x.1.getD
 g.2.2.2.1.toNat
 ((0 :
 Int),
 (0 :
 Int))).1 =
 (x.1.getD
 g.2.2.2.1.toNat
 ((0 :
 Int),
 (0 :
 Int))).1 ∧
 (x.1.getD
 g.2.2.2.1.toNat
 ((0 :
 Int),
 (0 :
 Int))).2 =
 (x.1.getD
 g.2.2.2.1.toNat
 ((0 :
 Int),
 (0 :
 Int))).2 ∧
 True) ∧
 g.2.1.2.1 =
 g.2.1.2.1 ∧
 ((0 :
 Int) ::
 ([] :
 List
 Int)).set
 (0 :
 Nat)
 (x.1.getD
 g.2.2.2.1.toNat
 ((0 :
 Int),
 (0 :
 Int))).2 =
 ((0 :
 Int) ::
 ([] :
 List
 Int)).set
 (0 :
 Nat)
 (x.1.getD
 g.2.2.2.1.toNat
 ((0 :
 Int),
 (0 :
 Int))).2 ∧
 ((True ∧
 True) ∧
 True) ∧
 g.2.2.1 =
 g.2.2.1 ∧
 ((x.1.getD
 g.2.2.2.1.toNat
 ((0 :
 Int),
 (0 :
 Int))).1 =
 (x.1.getD
 g.2.2.2.1.toNat
 ((0 :
 Int),
 (0 :
 Int))).1 ∧
 (x.1.getD
 g.2.2.2.1.toNat
 ((0 :
 Int),
 (0 :
 Int))).2 =
 (x.1.getD
 g.2.2.2.1.toNat
 ((0 :
 Int),
 (0 :
 Int))).2 ∧
 True) ∧
 True) ∧
 (True ∧ True) ∧
 ((x.1.getD
 g.2.2.2.1.toNat
 ((0 : Int),
 (0 :
 Int))).1 =
 (x.1.getD
 g.2.2.2.1.toNat
 ((0 : Int),
 (0 :
 Int))).1 ∧
 (x.1.getD
 g.2.2.2.1.toNat
 ((0 :
 Int),
 (0 :
 Int))).2 =
 (x.1.getD
 g.2.2.2.1.toNat
 ((0 :
 Int),
 (0 :
 Int))).2 ∧
 True) ∧
 True ∧
 (True ∧ True) ∧
 (0 : Int) =
 (0 : Int) ∧
 decide
 ((0 :
 Int) ≤
 idx
 g.2.1.2.1
 (x.1.getD
 g.2.2.2.1.toNat
 ((0 :
 Int),
 (0 :
 Int))).2) =
 decide
 ((0 :
 Int) ≤
 idx
 g.2.1.2.1
 (x.1.getD
 g.2.2.2.1.toNat
 ((0 :
 Int),
 (0 :
 Int))).2) ∧
 false =
 false ∧
 (True ∧
 True) ∧
 (x.1.getD
 g.2.2.2.1.toNat
 ((0 :
 Int),
 (0 :
 Int))).1 =
 (x.1.getD
 g.2.2.2.1.toNat
 ((0 :
 Int),
 (0 :
 Int))).1 ∧
 decide
 ((x.1.getD
 g.2.2.2.1.toNat
 ((0 :
 Int),
 (0 :
 Int))).1 <
 (1 :
 Int)) =
 decide
 ((x.1.getD
 g.2.2.2.1.toNat
 ((0 :
 Int),
 (0 :
 Int))).1 <
 (1 :
 Int)) ∧
 decide
 ((x.1.getD
 g.2.2.2.1.toNat
 ((0 :
 Int),
 (0 :
 Int))).1 <
 (1 :
 Int)) =
 decide
 ((x.1.getD
 g.2.2.2.1.toNat
 ((0 :
 Int),
 (0 :
 Int))).1 <
 (1 :
 Int)) ∧
 True ∧
 True ∧
 True ∧
 (decide
 ((x.1.getD
 g.2.2.2.1.toNat
 ((0 :
 Int),
 (0 :
 Int))).1 <
 (1 :
 Int)) ||
 decide
 ((5 :
 Int) <
 (x.1.getD
 g.2.2.2.1.toNat
 ((0 :
 Int),
 (0 :
 Int))).1)) =
 (decide
 ((x.1.getD
 g.2.2.2.1.toNat
 ((0 :
 Int),
 (0 :
 Int))).1 <
 (1 :
 Int)) ||
 decide
 ((5 :
 Int) <
 (x.1.getD
 g.2.2.2.1.toNat
 ((0 :
 Int),
 (0 :
 Int))).1)) ∧
 false =
 false ∧
 (True ∧
 True) ∧
 (x.1.getD
 g.2.2.2.1.toNat
 ((0 :
 Int),
 (0 :
 Int))).2 =
 (x.1.getD
 g.2.2.2.1.toNat
 ((0 :
 Int),
 (0 :
 Int))).2 ∧
 decide
 ((x.1.getD
 g.2.2.2.1.toNat
 ((0 :
 Int),
 (0 :
 Int))).2 <
 (0 :
 Int)) =
 decide
 ((x.1.getD
 g.2.2.2.1.toNat
 ((0 :
 Int),
 (0 :
 Int))).2 <
 (0 :
 Int)) ∧
 decide
 ((x.1.getD
 g.2.2.2.1.toNat
 ((0 :
 Int),
 (0 :
 Int))).2 <
 (0 :
 Int)) =
 decide
 ((x.1.getD
 g.2.2.2.1.toNat
 ((0 :
 Int),
 (0 :
 Int))).2 <
 (0 :
 Int)) ∧
 True ∧
 True ∧
 True ∧
 (decide
 ((x.1.getD
 g.2.2.2.1.toNat
 ((0 :
 Int),
 (0 :
 Int))).2 <
 (0 :
 Int)) ||
 decide
 ((63 :
 Int) <
 (x.1.getD
 g.2.2.2.1.toNat
 ((0 :
 Int),
 (0 :
 Int))).2)) =
 (decide
 ((x.1.getD
 g.2.2.2.1.toNat
 ((0 :
 Int),
 (0 :
 Int))).2 <
 (0 :
 Int)) ||
 decide
 ((63 :
 Int) <
 (x.1.getD
 g.2.2.2.1.toNat
 ((0 :
 Int),
 (0 :
 Int))).2)) ∧
 (True ∧
 True) ∧
 (True ∧
 True) ∧
 (True ∧
 True) ∧
 True ∧
 (True ∧
 True) ∧
 (x.1.getD
 g.2.2.2.1.toNat
 ((0 :
 Int),
 (0 :
 Int))).2 =
 (x.1.getD
 g.2.2.2.1.toNat
 ((0 :
 Int),
 (0 :
 Int))).2 ∧
 decide
 ((0 :
 Int) ≤
 idx
 g.2.1.2.1
 (x.1.getD
 g.2.2.2.1.toNat
 ((0 :
 Int),
 (0 :
 Int))).2) =
 decide
 ((0 :
 Int) ≤
 idx
 g.2.1.2.1
 (x.1.getD
 g.2.2.2.1.toNat
 ((0 :
 Int),
 (0 :
 Int))).2) ∧
 (True ∧
 True) ∧
 (x.1.getD
 g.2.2.2.1.toNat
 ((0 :
 Int),
 (0 :
 Int))).1 =
 (x.1.getD
 g.2.2.2.1.toNat
 ((0 :
 Int),
 (0 :
 Int))).1 ∧
 false =
 false ∧
 ((x.1.getD
 g.2.2.2.1.toNat
 ((0 :
 Int),
 (0 :
 Int))).1 ==
 (1 :
 Int)) =
 ((x.1.getD
 g.2.2.2.1.toNat
 ((0 :
 Int),
 (0 :
 Int))).1 ==
 (1 :
 Int)) ∧
 True ∧
 True ∧
 True ∧
 True ∧
 True ∧
 True ∧
 True ∧
 True ∧
 True ∧
 True ∧
 True ∧
 True ∧
 True ∧
 True ∧
 True ∧
 True ∧
 True ∧
 True ∧
 True ∧
 True ∧
 True ∧
 True ∧
 True ∧
 True ∧
 True ∧
 True ∧
 True ∧
 True ∧
 true =
 true ∧
 ((x.1.getD
 g.2.2.2.1.toNat
 ((0 :
 Int),
 (0 :
 Int))).1 ==
 (2 :
 Int)) =
 ((x.1.getD
 g.2.2.2.1.toNat
 ((0 :
 Int),
 (0 :
 Int))).1 ==
 (2 :
 Int)) ∧
 false =
 false ∧
 (True ∧
 True) ∧
 (True ∧
 True) ∧
 (True ∧
 True) ∧
 True ∧
 (True ∧
 True) ∧
 (x.1.getD
 g.2.2.2.1.toNat
 ((0 :
 Int),
 (0 :
 Int))).2 =
 (x.1.getD
 g.2.2.2.1.toNat
 ((0 :
 Int),
 (0 :
 Int))).2 ∧
 mval
 Ty.bool
 g.2.1.2.2.2.1
 (x.1.getD
 g.2.2.2.1.toNat
 ((0 :
 Int),
 (0 :
 Int))).2 =
 mval
 Ty.bool
 g.2.1.2.2.2.1
 (x.1.getD
 g.2.2.2.1.toNat
 ((0 :
 Int),
 (0 :
 Int))).2 ∧
 false =
 false ∧
 decide
 ((0 :
 Int) ≤
 idx
 g.2.1.2.1
 (x.1.getD
 g.2.2.2.1.toNat
 ((0 :
 Int),
 (0 :
 Int))).2) =
 decide
 ((0 :
 Int) ≤
 idx
 g.2.1.2.1
 (x.1.getD
 g.2.2.2.1.toNat
 ((0 :
 Int),
 (0 :
 Int))).2) ∧
 (!decide
 ((0 :
 Int) ≤
 idx
 g.2.1.2.1
 (x.1.getD
 g.2.2.2.1.toNat
 ((0 :
 Int),
 (0 :
 Int))).2)) =
 !decide
 ((0 :
 Int) ≤
 idx
 g.2.1.2.1
 (x.1.getD
 g.2.2.2.1.toNat
 ((0 :
 Int),
 (0 :
 Int))).2) ∧
 false =
 false ∧
 (True ∧
 True) ∧
 (True ∧
 True) ∧
 (True ∧
 True) ∧
 g.2.1.1 =
 g.2.1.1 ∧
 (g.2.1.1 ==
 (0 :
 Int)) =
 (g.2.1.1 ==
 (0 :
 Int)) ∧
 (True ∧
 True) ∧
 (True ∧
 True) ∧
 (True ∧
 True) ∧
 g.2.1.1 =
 g.2.1.1 ∧
 g.2.1.1 -
 (1 :
 Int) =
 g.2.1.1 -
 (1 :
 Int) ∧
 (True ∧
 True) ∧
 (True ∧
 True) ∧
 (True ∧
 True) ∧
 (True ∧
 True) ∧
 (x.1.getD
 g.2.2.2.1.toNat
 ((0 :
 Int),
 (0 :
 Int))).2 =
 (x.1.getD
 g.2.2.2.1.toNat
 ((0 :
 Int),
 (0 :
 Int))).2 ∧
 True ∧
 (True ∧
 True) ∧
 (True ∧
 True) ∧
 (True ∧
 True) ∧
 (True ∧
 True) ∧
 True ∧
 (True ∧
 True) ∧
 (x.1.getD
 g.2.2.2.1.toNat
 ((0 :
 Int),
 (0 :
 Int))).2 =
 (x.1.getD
 g.2.2.2.1.toNat
 ((0 :
 Int),
 (0 :
 Int))).2 ∧
 True ∧
 True ∧
 (True ∧
 True) ∧
 (True ∧
 True) ∧
 (True ∧
 True) ∧
 (True ∧
 True) ∧
 (True ∧
 True) ∧
 g.2.1.1 -
 (1 :
 Int) =
 g.2.1.1 -
 (1 :
 Int) ∧
 true =
 true ∧
 (True ∧
 True) ∧
 True ∧
 True ∧
 True ∧
 True ∧
 True ∧
 True ∧
 True ∧
 True ∧
 True ∧
 True ∧
 True ∧
 True ∧
 True ∧
 True ∧
 True ∧
 True ∧
 True ∧
 True ∧
 True ∧
 True ∧
 True ∧
 True ∧
 True ∧
 True ∧
 True ∧
 True ∧
 True ∧
 True ∧
 True ∧
 True ∧
 True ∧
 True ∧
 True ∧
 True ∧
 True ∧
 True ∧
 True ∧
 True ∧
 True ∧
 True ∧
 True ∧
 True ∧
 True ∧
 True ∧
 True ∧
 True ∧
 True ∧
 True ∧
 True ∧
 True ∧
 True ∧
 True ∧
 True ∧
 True ∧
 True ∧
 True ∧
 True ∧
 True ∧
 True ∧
 True ∧
 True ∧
 True ∧
 (True ∧
 True) ∧
 True ∧
 True ∧
 (True ∧
 True) ∧
 True ∧
 True ∧
 True ∧
 True ∧
 (True ∧
 True) ∧
 x.1 =
 x.1 ∧
 (↑x.1.length :
 Int) =
 (↑x.1.length :
 Int) ∧
 g.2.2.2.1 =
 g.2.2.2.1 ∧
 true =
 true ∧
 True ∧
 ((x.1.getD
 g.2.2.2.1.toNat
 ((0 :
 Int),
 (0 :
 Int))).1 =
 (x.1.getD
 g.2.2.2.1.toNat
 ((0 :
 Int),
 (0 :
 Int))).1 ∧
 (x.1.getD
 g.2.2.2.1.toNat
 ((0 :
 Int),
 (0 :
 Int))).2 =
 (x.1.getD
 g.2.2.2.1.toNat
 ((0 :
 Int),
 (0 :
 Int))).2 ∧
 True) ∧
 True ∧
 (True ∧
 True) ∧
 ((x.1.getD
 g.2.2.2.1.toNat
 ((0 :
 Int),
 (0 :
 Int))).1 =
 (x.1.getD
 g.2.2.2.1.toNat
 ((0 :
 Int),
 (0 :
 Int))).1 ∧
 (x.1.getD
 g.2.2.2.1.toNat
 ((0 :
 Int),
 (0 :
 Int))).2 =
 (x.1.getD
 g.2.2.2.1.toNat
 ((0 :
 Int),
 (0 :
 Int))).2 ∧
 True) ∧
 True ∧
 True ∧
 True ∧
 True ∧
 True ∧
 True ∧
 True ∧
 True ∧
 True ∧
 True ∧
 True ∧
 True ∧
 True ∧
 True ∧
 True ∧
 True ∧
 True ∧
 True ∧
 True ∧
 True ∧
 True ∧
 True)) ∧
 (decide
 (g_3.1 <
 (↑(List.drop (nat_lit 0)
 (List.take
 g_2.2.1.toNat
 (List.take
 g_2.2.1.toNat
 g_2.1 ++
 (List.replicate
 ((↑g_2.1.length :
 Int).toNat -
 g_2.2.1.toNat)
 (0 : Int) ++
 List.drop
 (g_2.2.1.toNat +
 ((↑g_2.1.length :
 Int).toNat -
 g_2.2.1.toNat))
 g_2.1)))).length :
 Int)) =
 false →
 (g.2.2.1.length +
 (((0 : Int) ::
 ([] : List Int)).set
 (0 : Nat)
 (0 : Int)).length ≤
 (9223372036854775807 : Nat) ∧
 (g.2.2.1.length +
 (((0 : Int) ::
 ([] :
 List Int)).set
 (0 : Nat)
 (0 : Int)).length +
 (g.2.2.1.length +
 (((0 : Int) ::
 ([] :
 List
 Int)).set
 (0 : Nat)
 (0 :
 Int)).length) /
 (4 : Nat) +
 (192 : Nat)) *
 (8 : Nat) ≤
 (281474976710656 : Nat)) ∧
 ((-9223372036854775808 : Int) ≤
 g.2.2.2.1 +
 (1 : Int) ∧
 g.2.2.2.1 + (1 : Int) ≤
 (9223372036854775807 : Int)) ∧
 (((0 : Int) ≤
 g.2.2.2.1 +
 (1 : Int) ∧
 g.2.2.2.1 +
 (1 : Int) ≤
 (↑x.1.length : Int) ∧
 (↑(g.2.2.1 ++
 ((0 : Int) ::
 ([] :
 List
 Int)).set
 (0 : Nat)
 (0 :
 Int)).length :
 Int) =
 g.2.2.2.1 +
 (1 : Int) ∧
 ∃ l,
 pl
 (List.take
 (g.2.2.2.1 +
 (1 :
 Int)).toNat
 x.1) =
 ((l,
 g.2.1.1 -
 (1 : Int),
 g.2.1.2.2.2.2 ++
 ((0 :
 Int) ::
 ([] :
 List
 Int)).set
 (0 : Nat)
 (x.1.getD
 g.2.2.2.1.toNat
 ((0 :
 Int),
 (0 :
 Int))).2),
 g.2.2.1 ++
 ((0 : Int) ::
 ([] :
 List
 Int)).set
 (0 : Nat)
 (0 : Int)) ∧
 MQ
 (List.drop
 (nat_lit 0)
 (List.take
 g_2.2.1.toNat
 (List.take
 g_2.2.1.toNat
 g_2.1 ++
 (List.replicate
 ((↑g_2.1.length :
 Int).toNat -
 g_2.2.1.toNat)
 (0 :
 Int) ++
 List.drop
 (g_2.2.1.toNat +
 ((↑g_2.1.length :
 Int).toNat -
 g_2.2.1.toNat))
 g_2.1))))
 (mdel Ty.bool
 g.2.1.2.2.1
 (x.1.getD
 g.2.2.2.1.toNat
 ((0 :
 Int),
 (0 :
 Int))).2)
 (mdel Ty.bool
 g.2.1.2.2.2.1
 (x.1.getD
 g.2.2.2.1.toNat
 ((0 :
 Int),
 (0 :
 Int))).2)
 l ∧
 good
 (l,
 g.2.1.1 -
 (1 : Int),
 g.2.1.2.2.2.2 ++
 ((0 :
 Int) ::
 ([] :
 List
 Int)).set
 (0 : Nat)
 (x.1.getD
 g.2.2.2.1.toNat
 ((0 :
 Int),
 (0 :
 Int))).2)
 (g.2.2.2.1 +
 (1 : Int))) ∧
 ((↑x.1.length : Int) -
 (g.2.2.2.1 +
 (1 : Int))).toNat <
 ((↑x.1.length : Int) -
 g.2.2.2.1).toNat) ∧
 ((True ∧ True) ∧
 (True ∧ True) ∧
 True ∧
 x.1 = x.1 ∧
 (↑x.1.length :
 Int) =
 (↑x.1.length :
 Int) ∧
 g.2.2.2.1 +
 (1 : Int) =
 g.2.2.2.1 +
 (1 : Int) ∧
 True) ∧
 (((True ∧ True) ∧ True) ∧
 (g.2.1.1 -
 (1 : Int) =
 g.2.1.1 -
 (1 : Int) ∧
 True ∧
 True ∧
 True ∧
 True ∧ True) ∧
 List.drop (nat_lit 0)
 (List.take
 g_2.2.1.toNat
 (List.take
 g_2.2.1.toNat
 g_2.1 ++
 (List.replicate
 ((↑g_2.1.length :
 Int).toNat -
 g_2.2.1.toNat)
 (0 :
 Int) ++
 List.drop
 (g_2.2.1.toNat +
 ((↑g_2.1.length :
 Int).toNat -
 g_2.2.1.toNat))
 g_2.1))) =
 List.drop
 (nat_lit 0)
 (List.take
 g_2.2.1.toNat
 (List.take
 g_2.2.1.toNat
 g_2.1 ++
 (List.replicate
 ((↑g_2.1.length :
 Int).toNat -
 g_2.2.1.toNat)
 (0 :
 Int) ++
 List.drop
 (g_2.2.1.toNat +
 ((↑g_2.1.length :
 Int).toNat -
 g_2.2.1.toNat))
 g_2.1))) ∧
 mdel Ty.bool
 g.2.1.2.2.1
 (x.1.getD
 g.2.2.2.1.toNat
 ((0 : Int),
 (0 :
 Int))).2 =
 mdel Ty.bool
 g.2.1.2.2.1
 (x.1.getD
 g.2.2.2.1.toNat
 ((0 : Int),
 (0 :
 Int))).2 ∧
 mdel Ty.bool
 g.2.1.2.2.2.1
 (x.1.getD
 g.2.2.2.1.toNat
 ((0 :
 Int),
 (0 :
 Int))).2 =
 mdel Ty.bool
 g.2.1.2.2.2.1
 (x.1.getD
 g.2.2.2.1.toNat
 ((0 :
 Int),
 (0 :
 Int))).2 ∧
 g.2.1.2.2.2.2 ++
 ((0 :
 Int) ::
 ([] :
 List
 Int)).set
 (0 : Nat)
 (x.1.getD
 g.2.2.2.1.toNat
 ((0 :
 Int),
 (0 :
 Int))).2 =
 g.2.1.2.2.2.2 ++
 ((0 :
 Int) ::
 ([] :
 List
 Int)).set
 (0 : Nat)
 (x.1.getD
 g.2.2.2.1.toNat
 ((0 :
 Int),
 (0 :
 Int))).2 ∧
 g.2.2.1 ++
 ((0 :
 Int) ::
 ([] :
 List
 Int)).set
 (0 :
 Nat)
 (0 :
 Int) =
 g.2.2.1 ++
 ((0 :
 Int) ::
 ([] :
 List
 Int)).set
 (0 :
 Nat)
 (0 :
 Int) ∧
 True) ∧
 True)) ∧
 (decide ((0 : Int) < g.2.1.1 - (1 : Int)) =
 false →
 (g.2.2.1.length +
 (((0 : Int) :: ([] : List Int)).set
 (0 : Nat) (0 : Int)).length ≤
 (9223372036854775807 : Nat) ∧
 (g.2.2.1.length +
 (((0 : Int) :: ([] : List Int)).set
 (0 : Nat) (0 : Int)).length +
 (g.2.2.1.length +
 (((0 : Int) ::
 ([] : List Int)).set
 (0 : Nat) (0 : Int)).length) /
 (4 : Nat) +
 (192 : Nat)) *
 (8 : Nat) ≤
 (281474976710656 : Nat)) ∧
 ((-9223372036854775808 : Int) ≤
 g.2.2.2.1 + (1 : Int) ∧
 g.2.2.2.1 + (1 : Int) ≤
 (9223372036854775807 : Int)) ∧
 (((0 : Int) ≤ g.2.2.2.1 + (1 : Int) ∧
 g.2.2.2.1 + (1 : Int) ≤
 (↑x.1.length : Int) ∧
 (↑(g.2.2.1 ++
 ((0 : Int) ::
 ([] : List Int)).set
 (0 : Nat)
 (0 : Int)).length :
 Int) =
 g.2.2.2.1 + (1 : Int) ∧
 ∃ l,
 pl
 (List.take
 (g.2.2.2.1 +
 (1 : Int)).toNat
 x.1) =
 ((l,
 g.2.1.1 - (1 : Int),
 g.2.1.2.2.2.2 ++
 ((0 : Int) ::
 ([] :
 List Int)).set
 (0 : Nat)
 (x.1.getD
 g.2.2.2.1.toNat
 ((0 : Int),
 (0 :
 Int))).2),
 g.2.2.1 ++
 ((0 : Int) ::
 ([] : List Int)).set
 (0 : Nat) (0 : Int)) ∧
 MQ
 (List.drop (nat_lit 0)
 (List.take
 g_2.2.1.toNat
 (List.take
 g_2.2.1.toNat
 g_2.1 ++
 (List.replicate
 ((↑g_2.1.length :
 Int).toNat -
 g_2.2.1.toNat)
 (0 : Int) ++
 List.drop
 (g_2.2.1.toNat +
 ((↑g_2.1.length :
 Int).toNat -
 g_2.2.1.toNat))
 g_2.1))))
 (mdel Ty.bool
 g.2.1.2.2.1
 (x.1.getD
 g.2.2.2.1.toNat
 ((0 : Int),
 (0 : Int))).2)
 (mdel Ty.bool
 g.2.1.2.2.2.1
 (x.1.getD
 g.2.2.2.1.toNat
 ((0 : Int),
 (0 : Int))).2)
 l ∧
 good
 (l,
 g.2.1.1 - (1 : Int),
 g.2.1.2.2.2.2 ++
 ((0 : Int) ::
 ([] :
 List Int)).set
 (0 : Nat)
 (x.1.getD
 g.2.2.2.1.toNat
 ((0 : Int),
 (0 : Int))).2)
 (g.2.2.2.1 +
 (1 : Int))) ∧
 ((↑x.1.length : Int) -
 (g.2.2.2.1 +
 (1 : Int))).toNat <
 ((↑x.1.length : Int) -
 g.2.2.2.1).toNat) ∧
 ((True ∧ True) ∧
 (True ∧ True) ∧
 True ∧
 x.1 = x.1 ∧
 (↑x.1.length : Int) =
 (↑x.1.length : Int) ∧
 g.2.2.2.1 + (1 : Int) =
 g.2.2.2.1 +
 (1 : Int) ∧
 True) ∧
 (((True ∧ True) ∧ True) ∧
 (g.2.1.1 - (1 : Int) =
 g.2.1.1 - (1 : Int) ∧
 True ∧
 True ∧ True ∧ True ∧ True) ∧
 List.drop (nat_lit 0)
 (List.take g_2.2.1.toNat
 (List.take g_2.2.1.toNat
 g_2.1 ++
 (List.replicate
 ((↑g_2.1.length :
 Int).toNat -
 g_2.2.1.toNat)
 (0 : Int) ++
 List.drop
 (g_2.2.1.toNat +
 ((↑g_2.1.length :
 Int).toNat -
 g_2.2.1.toNat))
 g_2.1))) =
 List.drop (nat_lit 0)
 (List.take g_2.2.1.toNat
 (List.take g_2.2.1.toNat
 g_2.1 ++
 (List.replicate
 ((↑g_2.1.length :
 Int).toNat -
 g_2.2.1.toNat)
 (0 : Int) ++
 List.drop
 (g_2.2.1.toNat +
 ((↑g_2.1.length :
 Int).toNat -
 g_2.2.1.toNat))
 g_2.1))) ∧
 mdel Ty.bool g.2.1.2.2.1
 (x.1.getD
 g.2.2.2.1.toNat
 ((0 : Int),
 (0 : Int))).2 =
 mdel Ty.bool
 g.2.1.2.2.1
 (x.1.getD
 g.2.2.2.1.toNat
 ((0 : Int),
 (0 : Int))).2 ∧
 mdel Ty.bool
 g.2.1.2.2.2.1
 (x.1.getD
 g.2.2.2.1.toNat
 ((0 : Int),
 (0 : Int))).2 =
 mdel Ty.bool
 g.2.1.2.2.2.1
 (x.1.getD
 g.2.2.2.1.toNat
 ((0 : Int),
 (0 : Int))).2 ∧
 g.2.1.2.2.2.2 ++
 ((0 : Int) ::
 ([] :
 List Int)).set
 (0 : Nat)
 (x.1.getD
 g.2.2.2.1.toNat
 ((0 : Int),
 (0 :
 Int))).2 =
 g.2.1.2.2.2.2 ++
 ((0 : Int) ::
 ([] :
 List Int)).set
 (0 : Nat)
 (x.1.getD
 g.2.2.2.1.toNat
 ((0 : Int),
 (0 :
 Int))).2 ∧
 g.2.2.1 ++
 ((0 : Int) ::
 ([] :
 List Int)).set
 (0 : Nat)
 (0 : Int) =
 g.2.2.1 ++
 ((0 : Int) ::
 ([] :
 List Int)).set
 (0 : Nat)
 (0 : Int) ∧
 True) ∧
 True)))))))) ∧
 (((x.1.getD g.2.2.2.1.toNat ((0 : Int), (0 : Int))).1 == (2 : Int)) = false →
 (((x.1.getD g.2.2.2.1.toNat ((0 : Int), (0 : Int))).1 == (3 : Int)) = true →
 (mval Ty.bool g.2.1.2.2.2.1
 (x.1.getD g.2.2.2.1.toNat ((0 : Int), (0 : Int))).2 =
 true →
 (g.2.2.1.length + (((0 : Int) :: ([] : List Int)).set (0 : Nat) (7 : Int)).length ≤
 (9223372036854775807 : Nat) ∧
 (g.2.2.1.length + (((0 : Int) :: ([] : List Int)).set (0 : Nat) (7 : Int)).length +
 (g.2.2.1.length +
 (((0 : Int) :: ([] : List Int)).set (0 : Nat) (7 : Int)).length) /
 (4 : Nat) +
 (192 : Nat)) *
 (8 : Nat) ≤
 (281474976710656 : Nat)) ∧
 ((-9223372036854775808 : Int) ≤ g.2.2.2.1 + (1 : Int) ∧
 g.2.2.2.1 + (1 : Int) ≤ (9223372036854775807 : Int)) ∧
 (((0 : Int) ≤ g.2.2.2.1 + (1 : Int) ∧
 g.2.2.2.1 + (1 : Int) ≤ (↑x.1.length : Int) ∧
 (↑(g.2.2.1 ++ ((0 : Int) :: ([] : List Int)).set (0 : Nat) (7 : Int)).length :
 Int) =
 g.2.2.2.1 + (1 : Int) ∧
 ∃ l,
 pl (List.take (g.2.2.2.1 + (1 : Int)).toNat x.1) =
 ((l, g.2.1.1, g.2.1.2.2.2.2),
 g.2.2.1 ++ ((0 : Int) :: ([] : List Int)).set (0 : Nat) (7 : Int)) ∧
 MQ g.2.1.2.1 g.2.1.2.2.1 g.2.1.2.2.2.1 l ∧
 good (l, g.2.1.1, g.2.1.2.2.2.2)
 (g.2.2.2.1 + (1 : Int))) ∧
 ((↑x.1.length : Int) - (g.2.2.2.1 + (1 : Int))).toNat <
 ((↑x.1.length : Int) - g.2.2.2.1).toNat) ∧
 ((True ∧ True) ∧
 (True ∧ True) ∧
 True ∧
 x.1 = x.1 ∧
 (↑x.1.length : Int) = (↑x.1.length : Int) ∧
 g.2.2.2.1 + (1 : Int) = g.2.2.2.1 + (1 : Int) ∧ True) ∧
 (((True ∧ True) ∧ True) ∧
 (g.2.1.1 = g.2.1.1 ∧ True ∧ True ∧ True ∧ True ∧ True) ∧
 g.2.1.2.1 = g.2.1.2.1 ∧
 g.2.1.2.2.1 = g.2.1.2.2.1 ∧
 g.2.1.2.2.2.1 = g.2.1.2.2.2.1 ∧
 g.2.1.2.2.2.2 = g.2.1.2.2.2.2 ∧
 g.2.2.1 ++ ((0 : Int) :: ([] : List Int)).set (0 : Nat) (7 : Int) =
 g.2.2.1 ++
 ((0 : Int) :: ([] : List Int)).set (0 : Nat) (7 : Int) ∧
 True) ∧
 True) ∧
 (mval Ty.bool g.2.1.2.2.2.1
 (x.1.getD g.2.2.2.1.toNat ((0 : Int), (0 : Int))).2 =
 false →
 ((!decide
 ((0 : Int) ≤
 idx g.2.1.2.1
 (x.1.getD g.2.2.2.1.toNat ((0 : Int), (0 : Int))).2)) =
 true →
 (g.2.2.1.length + (((0 : Int) :: ([] : List Int)).set (0 : Nat) (3 : Int)).length ≤
 (9223372036854775807 : Nat) ∧
 (g.2.2.1.length + (((0 : Int) :: ([] : List Int)).set (0 : Nat) (3 : Int)).length +
 (g.2.2.1.length +
 (((0 : Int) :: ([] : List Int)).set (0 : Nat) (3 : Int)).length) /
 (4 : Nat) +
 (192 : Nat)) *
 (8 : Nat) ≤
 (281474976710656 : Nat)) ∧
 ((-9223372036854775808 : Int) ≤ g.2.2.2.1 + (1 : Int) ∧
 g.2.2.2.1 + (1 : Int) ≤ (9223372036854775807 : Int)) ∧
 (((0 : Int) ≤ g.2.2.2.1 + (1 : Int) ∧
 g.2.2.2.1 + (1 : Int) ≤ (↑x.1.length : Int) ∧
 (↑(g.2.2.1 ++
 ((0 : Int) :: ([] : List Int)).set (0 : Nat) (3 : Int)).length :
 Int) =
 g.2.2.2.1 + (1 : Int) ∧
 ∃ l,
 pl (List.take (g.2.2.2.1 + (1 : Int)).toNat x.1) =
 ((l, g.2.1.1, g.2.1.2.2.2.2),
 g.2.2.1 ++
 ((0 : Int) :: ([] : List Int)).set (0 : Nat) (3 : Int)) ∧
 MQ g.2.1.2.1 g.2.1.2.2.1 g.2.1.2.2.2.1 l ∧
 good (l, g.2.1.1, g.2.1.2.2.2.2)
 (g.2.2.2.1 + (1 : Int))) ∧
 ((↑x.1.length : Int) - (g.2.2.2.1 + (1 : Int))).toNat <
 ((↑x.1.length : Int) - g.2.2.2.1).toNat) ∧
 ((True ∧ True) ∧
 (True ∧ True) ∧
 True ∧
 x.1 = x.1 ∧
 (↑x.1.length : Int) = (↑x.1.length : Int) ∧
 g.2.2.2.1 + (1 : Int) = g.2.2.2.1 + (1 : Int) ∧ True) ∧
 (((True ∧ True) ∧ True) ∧
 (g.2.1.1 = g.2.1.1 ∧ True ∧ True ∧ True ∧ True ∧ True) ∧
 g.2.1.2.1 = g.2.1.2.1 ∧
 g.2.1.2.2.1 = g.2.1.2.2.1 ∧
 g.2.1.2.2.2.1 = g.2.1.2.2.2.1 ∧
 g.2.1.2.2.2.2 = g.2.1.2.2.2.2 ∧
 g.2.2.1 ++
 ((0 : Int) :: ([] : List Int)).set (0 : Nat) (3 : Int) =
 g.2.2.1 ++
 ((0 : Int) :: ([] : List Int)).set (0 : Nat) (3 : Int) ∧
 True) ∧
 True) ∧
 ((!decide
 ((0 : Int) ≤
 idx g.2.1.2.1
 (x.1.getD g.2.2.2.1.toNat ((0 : Int), (0 : Int))).2)) =
 false →
 ((!mval Ty.bool g.2.1.2.2.1
 (x.1.getD g.2.2.2.1.toNat ((0 : Int), (0 : Int))).2) =
 true →
 ((g.2.1.1 == (0 : Int)) = true →
 (g.2.2.1.length +
 (((0 : Int) :: ([] : List Int)).set (0 : Nat) (0 : Int)).length ≤
 (9223372036854775807 : Nat) ∧
 (g.2.2.1.length +
 (((0 : Int) :: ([] : List Int)).set (0 : Nat) (0 : Int)).length +
 (g.2.2.1.length +
 (((0 : Int) :: ([] : List Int)).set (0 : Nat) (0 : Int)).length) /
 (4 : Nat) +
 (192 : Nat)) *
 (8 : Nat) ≤
 (281474976710656 : Nat)) ∧
 ((-9223372036854775808 : Int) ≤ g.2.2.2.1 + (1 : Int) ∧
 g.2.2.2.1 + (1 : Int) ≤ (9223372036854775807 : Int)) ∧
 (((0 : Int) ≤ g.2.2.2.1 + (1 : Int) ∧
 g.2.2.2.1 + (1 : Int) ≤ (↑x.1.length : Int) ∧
 (↑(g.2.2.1 ++
 ((0 : Int) :: ([] : List Int)).set (0 : Nat)
 (0 : Int)).length :
 Int) =
 g.2.2.2.1 + (1 : Int) ∧
 ∃ l,
 pl (List.take (g.2.2.2.1 + (1 : Int)).toNat x.1) =
 ((l, g.2.1.1, g.2.1.2.2.2.2),
 g.2.2.1 ++
 ((0 : Int) :: ([] : List Int)).set (0 : Nat) (0 : Int)) ∧
 MQ g.2.1.2.1 g.2.1.2.2.1
 (mput Ty.bool g.2.1.2.2.2.1
 (x.1.getD g.2.2.2.1.toNat
 ((0 : Int), (0 : Int))).2
 true)
 l ∧
 good (l, g.2.1.1, g.2.1.2.2.2.2)
 (g.2.2.2.1 + (1 : Int))) ∧
 ((↑x.1.length : Int) - (g.2.2.2.1 + (1 : Int))).toNat <
 ((↑x.1.length : Int) - g.2.2.2.1).toNat) ∧
 ((True ∧ True) ∧
 (True ∧ True) ∧
 True ∧
 x.1 = x.1 ∧
 (↑x.1.length : Int) = (↑x.1.length : Int) ∧
 g.2.2.2.1 + (1 : Int) = g.2.2.2.1 + (1 : Int) ∧
 True) ∧
 (((True ∧ True) ∧ True) ∧
 (g.2.1.1 = g.2.1.1 ∧ True ∧ True ∧ True ∧ True ∧ True) ∧
 g.2.1.2.1 = g.2.1.2.1 ∧
 g.2.1.2.2.1 = g.2.1.2.2.1 ∧
 mput Ty.bool g.2.1.2.2.2.1
 (x.1.getD g.2.2.2.1.toNat
 ((0 : Int), (0 : Int))).2
 true =
 mput Ty.bool g.2.1.2.2.2.1
 (x.1.getD g.2.2.2.1.toNat
 ((0 : Int), (0 : Int))).2
 true ∧
 g.2.1.2.2.2.2 = g.2.1.2.2.2.2 ∧
 g.2.2.1 ++
 ((0 : Int) :: ([] : List Int)).set (0 : Nat) (0 : Int) =
 g.2.2.1 ++
 ((0 : Int) :: ([] : List Int)).set (0 : Nat) (0 : Int) ∧
 True) ∧
 True) ∧
 ((g.2.1.1 == (0 : Int)) = false →
 (g.2.2.1.length +
 (((0 : Int) :: ([] : List Int)).set (0 : Nat) (0 : Int)).length ≤
 (9223372036854775807 : Nat) ∧
 (g.2.2.1.length +
 (((0 : Int) :: ([] : List Int)).set (0 : Nat) (0 : Int)).length +
 (g.2.2.1.length +
 (((0 : Int) :: ([] : List Int)).set (0 : Nat) (0 : Int)).length) /
 (4 : Nat) +
 (192 : Nat)) *
 (8 : Nat) ≤
 (281474976710656 : Nat)) ∧
 ((-9223372036854775808 : Int) ≤ g.2.2.2.1 + (1 : Int) ∧
 g.2.2.2.1 + (1 : Int) ≤ (9223372036854775807 : Int)) ∧
 (((0 : Int) ≤ g.2.2.2.1 + (1 : Int) ∧
 g.2.2.2.1 + (1 : Int) ≤ (↑x.1.length : Int) ∧
 (↑(g.2.2.1 ++
 ((0 : Int) :: ([] : List Int)).set (0 : Nat)
 (0 : Int)).length :
 Int) =
 g.2.2.2.1 + (1 : Int) ∧
 ∃ l,
 pl (List.take (g.2.2.2.1 + (1 : Int)).toNat x.1) =
 ((l, g.2.1.1, g.2.1.2.2.2.2),
 g.2.2.1 ++
 ((0 : Int) :: ([] : List Int)).set (0 : Nat) (0 : Int)) ∧
 MQ g.2.1.2.1 g.2.1.2.2.1 g.2.1.2.2.2.1
 l ∧
 good (l, g.2.1.1, g.2.1.2.2.2.2)
 (g.2.2.2.1 + (1 : Int))) ∧
 ((↑x.1.length : Int) - (g.2.2.2.1 + (1 : Int))).toNat <
 ((↑x.1.length : Int) - g.2.2.2.1).toNat) ∧
 ((True ∧ True) ∧
 (True ∧ True) ∧
 True ∧
 x.1 = x.1 ∧
 (↑x.1.length : Int) = (↑x.1.length : Int) ∧
 g.2.2.2.1 + (1 : Int) = g.2.2.2.1 + (1 : Int) ∧
 True) ∧
 (((True ∧ True) ∧ True) ∧
 (g.2.1.1 = g.2.1.1 ∧ True ∧ True ∧ True ∧ True ∧ True) ∧
 g.2.1.2.1 = g.2.1.2.1 ∧
 g.2.1.2.2.1 = g.2.1.2.2.1 ∧
 g.2.1.2.2.2.1 = g.2.1.2.2.2.1 ∧
 g.2.1.2.2.2.2 = g.2.1.2.2.2.2 ∧
 g.2.2.1 ++
 ((0 : Int) :: ([] : List Int)).set (0 : Nat) (0 : Int) =
 g.2.2.1 ++
 ((0 : Int) :: ([] : List Int)).set (0 : Nat) (0 : Int) ∧
 True) ∧
 True)) ∧
 ((!mval Ty.bool g.2.1.2.2.1
 (x.1.getD g.2.2.2.1.toNat ((0 : Int), (0 : Int))).2) =
 !true →
 (g.2.2.1.length + (((0 : Int) :: ([] : List Int)).set (0 : Nat) (0 : Int)).length ≤
 (9223372036854775807 : Nat) ∧
 (g.2.2.1.length +
 (((0 : Int) :: ([] : List Int)).set (0 : Nat) (0 : Int)).length +
 (g.2.2.1.length +
 (((0 : Int) :: ([] : List Int)).set (0 : Nat) (0 : Int)).length) /
 (4 : Nat) +
 (192 : Nat)) *
 (8 : Nat) ≤
 (281474976710656 : Nat)) ∧
 ((-9223372036854775808 : Int) ≤ g.2.2.2.1 + (1 : Int) ∧
 g.2.2.2.1 + (1 : Int) ≤ (9223372036854775807 : Int)) ∧
 (((0 : Int) ≤ g.2.2.2.1 + (1 : Int) ∧
 g.2.2.2.1 + (1 : Int) ≤ (↑x.1.length : Int) ∧
 (↑(g.2.2.1 ++
 ((0 : Int) :: ([] : List Int)).set (0 : Nat) (0 : Int)).length :
 Int) =
 g.2.2.2.1 + (1 : Int) ∧
 ∃ l,
 pl (List.take (g.2.2.2.1 + (1 : Int)).toNat x.1) =
 ((l, g.2.1.1, g.2.1.2.2.2.2),
 g.2.2.1 ++
 ((0 : Int) :: ([] : List Int)).set (0 : Nat) (0 : Int)) ∧
 MQ g.2.1.2.1 g.2.1.2.2.1 g.2.1.2.2.2.1 l ∧
 good (l, g.2.1.1, g.2.1.2.2.2.2)
 (g.2.2.2.1 + (1 : Int))) ∧
 ((↑x.1.length : Int) - (g.2.2.2.1 + (1 : Int))).toNat <
 ((↑x.1.length : Int) - g.2.2.2.1).toNat) ∧
 ((True ∧ True) ∧
 (True ∧ True) ∧
 True ∧
 x.1 = x.1 ∧
 (↑x.1.length : Int) = (↑x.1.length : Int) ∧
 g.2.2.2.1 + (1 : Int) = g.2.2.2.1 + (1 : Int) ∧ True) ∧
 (((True ∧ True) ∧ True) ∧
 (g.2.1.1 = g.2.1.1 ∧ True ∧ True ∧ True ∧ True ∧ True) ∧
 g.2.1.2.1 = g.2.1.2.1 ∧
 g.2.1.2.2.1 = g.2.1.2.2.1 ∧
 g.2.1.2.2.2.1 = g.2.1.2.2.2.1 ∧
 g.2.1.2.2.2.2 = g.2.1.2.2.2.2 ∧
 g.2.2.1 ++
 ((0 : Int) :: ([] : List Int)).set (0 : Nat) (0 : Int) =
 g.2.2.1 ++
 ((0 : Int) :: ([] : List Int)).set (0 : Nat) (0 : Int) ∧
 True) ∧
 True)))) ∧
 (((x.1.getD g.2.2.2.1.toNat ((0 : Int), (0 : Int))).1 == (3 : Int)) = false →
 (((x.1.getD g.2.2.2.1.toNat ((0 : Int), (0 : Int))).1 == (4 : Int)) = true →
 ((g.2.1.1 == (400 : Int)) = true →
 (g.2.2.1.length + (((0 : Int) :: ([] : List Int)).set (0 : Nat) (4 : Int)).length ≤
 (9223372036854775807 : Nat) ∧
 (g.2.2.1.length + (((0 : Int) :: ([] : List Int)).set (0 : Nat) (4 : Int)).length +
 (g.2.2.1.length +
 (((0 : Int) :: ([] : List Int)).set (0 : Nat) (4 : Int)).length) /
 (4 : Nat) +
 (192 : Nat)) *
 (8 : Nat) ≤
 (281474976710656 : Nat)) ∧
 ((-9223372036854775808 : Int) ≤ g.2.2.2.1 + (1 : Int) ∧
 g.2.2.2.1 + (1 : Int) ≤ (9223372036854775807 : Int)) ∧
 (((0 : Int) ≤ g.2.2.2.1 + (1 : Int) ∧
 g.2.2.2.1 + (1 : Int) ≤ (↑x.1.length : Int) ∧
 (↑(g.2.2.1 ++
 ((0 : Int) :: ([] : List Int)).set (0 : Nat) (4 : Int)).length :
 Int) =
 g.2.2.2.1 + (1 : Int) ∧
 ∃ l,
 pl (List.take (g.2.2.2.1 + (1 : Int)).toNat x.1) =
 ((l, g.2.1.1, g.2.1.2.2.2.2),
 g.2.2.1 ++
 ((0 : Int) :: ([] : List Int)).set (0 : Nat) (4 : Int)) ∧
 MQ g.2.1.2.1 g.2.1.2.2.1 g.2.1.2.2.2.1 l ∧
 good (l, g.2.1.1, g.2.1.2.2.2.2)
 (g.2.2.2.1 + (1 : Int))) ∧
 ((↑x.1.length : Int) - (g.2.2.2.1 + (1 : Int))).toNat <
 ((↑x.1.length : Int) - g.2.2.2.1).toNat) ∧
 ((True ∧ True) ∧
 (True ∧ True) ∧
 True ∧
 x.1 = x.1 ∧
 (↑x.1.length : Int) = (↑x.1.length : Int) ∧
 g.2.2.2.1 + (1 : Int) = g.2.2.2.1 + (1 : Int) ∧ True) ∧
 (((True ∧ True) ∧ True) ∧
 (g.2.1.1 = g.2.1.1 ∧ True ∧ True ∧ True ∧ True ∧ True) ∧
 g.2.1.2.1 = g.2.1.2.1 ∧
 g.2.1.2.2.1 = g.2.1.2.2.1 ∧
 g.2.1.2.2.2.1 = g.2.1.2.2.2.1 ∧
 g.2.1.2.2.2.2 = g.2.1.2.2.2.2 ∧
 g.2.2.1 ++
 ((0 : Int) :: ([] : List Int)).set (0 : Nat) (4 : Int) =
 g.2.2.1 ++
 ((0 : Int) :: ([] : List Int)).set (0 : Nat) (4 : Int) ∧
 True) ∧
 True) ∧
 ((g.2.1.1 == (400 : Int)) = false →
 ((-9223372036854775808 : Int) ≤ g.2.1.1 + (1 : Int) ∧
 g.2.1.1 + (1 : Int) ≤ (9223372036854775807 : Int)) ∧
 ((((0 : Int) ≤ (0 : Int) ∧
 (0 : Int) ≤ (↑g.2.1.2.1.length : Int) ∧
 ((List.take (Int.toNat (0 : Int)) g.2.1.2.1).all fun y ↦
 mval Ty.bool g.2.1.2.2.1 y) =
 true) ∧
 True) ∧
 ((True ∧ True) ∧
 True ∧
 (↑g.2.1.2.1.length : Int) = (↑g.2.1.2.1.length : Int) ∧
 (0 : Int) = (0 : Int) ∧ True) ∧
 ((g.2.1.1 + (1 : Int) = g.2.1.1 + (1 : Int) ∧
 True ∧ True ∧ True ∧ True ∧ True) ∧
 g.2.1.2.1 = g.2.1.2.1 ∧
 g.2.1.2.2.1 = g.2.1.2.2.1 ∧
 g.2.1.2.2.2.1 = g.2.1.2.2.2.1 ∧
 g.2.1.2.2.2.2 = g.2.1.2.2.2.2 ∧
 ((x.1.getD g.2.2.2.1.toNat ((0 : Int), (0 : Int))).1 =
 (x.1.getD g.2.2.2.1.toNat ((0 : Int), (0 : Int))).1 ∧
 (x.1.getD g.2.2.2.1.toNat ((0 : Int), (0 : Int))).2 =
 (x.1.getD g.2.2.2.1.toNat ((0 : Int), (0 : Int))).2 ∧
 True) ∧
 ((True ∧ True) ∧ True) ∧
 g.2.2.1 = g.2.2.1 ∧
 ((x.1.getD g.2.2.2.1.toNat ((0 : Int), (0 : Int))).1 =
 (x.1.getD g.2.2.2.1.toNat
 ((0 : Int), (0 : Int))).1 ∧
 (x.1.getD g.2.2.2.1.toNat
 ((0 : Int), (0 : Int))).2 =
 (x.1.getD g.2.2.2.1.toNat
 ((0 : Int), (0 : Int))).2 ∧
 True) ∧
 True) ∧
 (True ∧ True) ∧
 ((x.1.getD g.2.2.2.1.toNat ((0 : Int), (0 : Int))).1 =
 (x.1.getD g.2.2.2.1.toNat ((0 : Int), (0 : Int))).1 ∧
 (x.1.getD g.2.2.2.1.toNat ((0 : Int), (0 : Int))).2 =
 (x.1.getD g.2.2.2.1.toNat ((0 : Int), (0 : Int))).2 ∧
 True) ∧
 True ∧
 (True ∧ True) ∧
 (0 : Int) = (0 : Int) ∧
 decide
 ((0 : Int) ≤
 idx g.2.1.2.1
 (x.1.getD g.2.2.2.1.toNat
 ((0 : Int), (0 : Int))).2) =
 decide
 ((0 : Int) ≤
 idx g.2.1.2.1
 (x.1.getD g.2.2.2.1.toNat
 ((0 : Int), (0 : Int))).2) ∧
 false = false ∧
 (True ∧ True) ∧
 (x.1.getD g.2.2.2.1.toNat ((0 : Int), (0 : Int))).1 =
 (x.1.getD g.2.2.2.1.toNat
 ((0 : Int), (0 : Int))).1 ∧
 decide
 ((x.1.getD g.2.2.2.1.toNat
 ((0 : Int), (0 : Int))).1 <
 (1 : Int)) =
 decide
 ((x.1.getD g.2.2.2.1.toNat
 ((0 : Int), (0 : Int))).1 <
 (1 : Int)) ∧
 decide
 ((x.1.getD g.2.2.2.1.toNat
 ((0 : Int), (0 : Int))).1 <
 (1 : Int)) =
 decide
 ((x.1.getD g.2.2.2.1.toNat
 ((0 : Int), (0 : Int))).1 <
 (1 : Int)) ∧
 True ∧
 True ∧
 True ∧
 (decide
 ((x.1.getD g.2.2.2.1.toNat
 ((0 : Int), (0 : Int))).1 <
 (1 : Int)) ||
 decide
 ((5 : Int) <
 (x.1.getD g.2.2.2.1.toNat
 ((0 : Int), (0 : Int))).1)) =
 (decide
 ((x.1.getD g.2.2.2.1.toNat
 ((0 : Int), (0 : Int))).1 <
 (1 : Int)) ||
 decide
 ((5 : Int) <
 (x.1.getD g.2.2.2.1.toNat
 ((0 : Int), (0 : Int))).1)) ∧
 false = false ∧
 (True ∧ True) ∧
 (x.1.getD g.2.2.2.1.toNat
 ((0 : Int), (0 : Int))).2 =
 (x.1.getD g.2.2.2.1.toNat
 ((0 : Int), (0 : Int))).2 ∧
 decide
 ((x.1.getD g.2.2.2.1.toNat
 ((0 : Int), (0 : Int))).2 <
 (0 : Int)) =
 decide
 ((x.1.getD g.2.2.2.1.toNat
 ((0 : Int), (0 : Int))).2 <
 (0 : Int)) ∧
 decide
 ((x.1.getD g.2.2.2.1.toNat
 ((0 : Int), (0 : Int))).2 <
 (0 : Int)) =
 decide
 ((x.1.getD g.2.2.2.1.toNat
 ((0 : Int), (0 : Int))).2 <
 (0 : Int)) ∧
 True ∧
 True ∧
 True ∧
 (decide
 ((x.1.getD
 g.2.2.2.1.toNat
 ((0 : Int),
 (0 : Int))).2 <
 (0 : Int)) ||
 decide
 ((63 : Int) <
 (x.1.getD
 g.2.2.2.1.toNat
 ((0 : Int),
 (0 : Int))).2)) =
 (decide
 ((x.1.getD
 g.2.2.2.1.toNat
 ((0 : Int),
 (0 : Int))).2 <
 (0 : Int)) ||
 decide
 ((63 : Int) <
 (x.1.getD
 g.2.2.2.1.toNat
 ((0 : Int),
 (0 : Int))).2)) ∧
 (True ∧ True) ∧
 (True ∧ True) ∧
 (True ∧ True) ∧
 True ∧
 (True ∧ True) ∧
 (x.1.getD
 g.2.2.2.1.toNat
 ((0 : Int),
 (0 :
 Int))).2 =
 (x.1.getD
 g.2.2.2.1.toNat
 ((0 : Int),
 (0 :
 Int))).2 ∧
 decide
 ((0 : Int) ≤
 idx
 g.2.1.2.1
 (x.1.getD
 g.2.2.2.1.toNat
 ((0 :
 Int),
 (0 :
 Int))).2) =
 decide
 ((0 : Int) ≤
 idx
 g.2.1.2.1
 (x.1.getD
 g.2.2.2.1.toNat
 ((0 :
 Int),
 (0 :
 Int))).2) ∧
 (True ∧ True) ∧
 (x.1.getD
 g.2.2.2.1.toNat
 ((0 : Int),
 (0 :
 Int))).1 =
 (x.1.getD
 g.2.2.2.1.toNat
 ((0 : Int),
 (0 :
 Int))).1 ∧
 false = false ∧
 ((x.1.getD
 g.2.2.2.1.toNat
 ((0 :
 Int),
 (0 :
 Int))).1 ==
 (1 :
 Int)) =
 ((x.1.getD
 g.2.2.2.1.toNat
 ((0 :
 Int),
 (0 :
 Int))).1 ==
 (1 :
 Int)) ∧
 True ∧
 True ∧
 True ∧
 True ∧
 True ∧
 True ∧
 True ∧
 True ∧
 True ∧
 True ∧
 True ∧
 True ∧
 True ∧
 True ∧
 True ∧
 True ∧
 True ∧
 True ∧
 True ∧
 True ∧
 True ∧
 True ∧
 True ∧
 True ∧
 True ∧
 True ∧
 True ∧
 True ∧
 false =
 false ∧
 ((x.1.getD
 g.2.2.2.1.toNat
 ((0 :
 Int),
 (0 :
 Int))).1 ==
 (2 :
 Int)) =
 ((x.1.getD
 g.2.2.2.1.toNat
 ((0 :
 Int),
 (0 :
 Int))).1 ==
 (2 :
 Int)) ∧
 True ∧
 True ∧
 True ∧
 True ∧
 True ∧
 True ∧
 True ∧
 True ∧
 True ∧
 True ∧
 True ∧
 True ∧
 True ∧
 True ∧
 True ∧
 True ∧
 True ∧
 True ∧
 True ∧
 True ∧
 True ∧
 True ∧
 True ∧
 True ∧
 True ∧
 True ∧
 True ∧
 True ∧
 True ∧
 True ∧
 True ∧
 True ∧
 True ∧
 True ∧
 True ∧
 True ∧
 True ∧
 True ∧
 True ∧
 True ∧
 True ∧
 True ∧
 True ∧
 True ∧
 True ∧
 True ∧
 false =
 false ∧
 ((x.1.getD
 g.2.2.2.1.toNat
 ((0 :
 Int),
 (0 :
 Int))).1 ==
 (3 :
 Int)) =
 ((x.1.getD
 g.2.2.2.1.toNat
 ((0 :
 Int),
 (0 :
 Int))).1 ==
 (3 :
 Int)) ∧
 True ∧
 True ∧
 True ∧
 True ∧
 True ∧
 True ∧
 True ∧
 True ∧
 True ∧
 True ∧
 True ∧
 True ∧
 True ∧
 True ∧
 True ∧
 True ∧
 True ∧
 True ∧
 True ∧
 True ∧
 True ∧
 True ∧
 True ∧
 True ∧
 True ∧
 True ∧
 True ∧
 True ∧
 True ∧
 True ∧
 True ∧
 True ∧
 True ∧
 true =
 true ∧
 ((x.1.getD
 g.2.2.2.1.toNat
 ((0 :
 Int),
 (0 :
 Int))).1 ==
 (4 :
 Int)) =
 ((x.1.getD
 g.2.2.2.1.toNat
 ((0 :
 Int),
 (0 :
 Int))).1 ==
 (4 :
 Int)) ∧
 (True ∧
 True) ∧
 (True ∧
 True) ∧
 (True ∧
 True) ∧
 g.2.1.1 =
 g.2.1.1 ∧
 false =
 false ∧
 (True ∧
 True) ∧
 (True ∧
 True) ∧
 (True ∧
 True) ∧
 g.2.1.1 =
 g.2.1.1 ∧
 g.2.1.1 +
 (1 :
 Int) =
 g.2.1.1 +
 (1 :
 Int) ∧
 (True ∧
 True) ∧
 (True ∧
 True) ∧
 (True ∧
 True) ∧
 True ∧
 True ∧
 True ∧
 True ∧
 True ∧
 True ∧
 True ∧
 True ∧
 True ∧
 True ∧
 True ∧
 (True ∧
 True) ∧
 True ∧
 True ∧
 (True ∧
 True) ∧
 True ∧
 True ∧
 True ∧
 True ∧
 (True ∧
 True) ∧
 x.1 =
 x.1 ∧
 (↑x.1.length :
 Int) =
 (↑x.1.length :
 Int) ∧
 g.2.2.2.1 =
 g.2.2.2.1 ∧
 true =
 true ∧
 True ∧
 ((x.1.getD
 g.2.2.2.1.toNat
 ((0 :
 Int),
 (0 :
 Int))).1 =
 (x.1.getD
 g.2.2.2.1.toNat
 ((0 :
 Int),
 (0 :
 Int))).1 ∧
 (x.1.getD
 g.2.2.2.1.toNat
 ((0 :
 Int),
 (0 :
 Int))).2 =
 (x.1.getD
 g.2.2.2.1.toNat
 ((0 :
 Int),
 (0 :
 Int))).2 ∧
 True) ∧
 True ∧
 (True ∧
 True) ∧
 ((x.1.getD
 g.2.2.2.1.toNat
 ((0 :
 Int),
 (0 :
 Int))).1 =
 (x.1.getD
 g.2.2.2.1.toNat
 ((0 :
 Int),
 (0 :
 Int))).1 ∧
 (x.1.getD
 g.2.2.2.1.toNat
 ((0 :
 Int),
 (0 :
 Int))).2 =
 (x.1.getD
 g.2.2.2.1.toNat
 ((0 :
 Int),
 (0 :
 Int))).2 ∧
 True) ∧
 True ∧
 True ∧
 True ∧
 True ∧
 True ∧
 True ∧
 True ∧
 True ∧
 True ∧
 True ∧
 True ∧
 True ∧
 True ∧
 True ∧
 True ∧
 True ∧
 True ∧
 True ∧
 True ∧
 True ∧
 True ∧
 True) ∧
 ∀ (g_1 : Int × Unit),
 (0 : Int) ≤ g_1.1 ∧
 g_1.1 ≤ (↑g.2.1.2.1.length : Int) ∧
 ((List.take g_1.1.toNat g.2.1.2.1).all fun y ↦
 mval Ty.bool g.2.1.2.2.1 y) =
 true →
 ((-9223372036854775808 : Int) ≤ g_1.1 ∧ g_1.1 ≤ (9223372036854775807 : Int)) ∧
 True →
 (decide (g_1.1 < (↑g.2.1.2.1.length : Int)) = true →
 ((0 : Int) ≤ g_1.1 ∧ g_1.1 < (↑g.2.1.2.1.length : Int)) ∧
 ((!mval Ty.bool g.2.1.2.2.1
 (g.2.1.2.1.getD g_1.1.toNat (0 : Int))) =
 true →
 (g.2.2.1.length +
 (((0 : Int) :: ([] : List Int)).set (0 : Nat) (0 : Int)).length ≤
 (9223372036854775807 : Nat) ∧
 (g.2.2.1.length +
 (((0 : Int) :: ([] : List Int)).set (0 : Nat)
 (0 : Int)).length +
 (g.2.2.1.length +
 (((0 : Int) :: ([] : List Int)).set (0 : Nat)
 (0 : Int)).length) /
 (4 : Nat) +
 (192 : Nat)) *
 (8 : Nat) ≤
 (281474976710656 : Nat)) ∧
 ((-9223372036854775808 : Int) ≤ g.2.2.2.1 + (1 : Int) ∧
 g.2.2.2.1 + (1 : Int) ≤ (9223372036854775807 : Int)) ∧
 (((0 : Int) ≤ g.2.2.2.1 + (1 : Int) ∧
 g.2.2.2.1 + (1 : Int) ≤ (↑x.1.length : Int) ∧
 (↑(g.2.2.1 ++
 ((0 : Int) :: ([] : List Int)).set (0 : Nat)
 (0 : Int)).length :
 Int) =
 g.2.2.2.1 + (1 : Int) ∧
 ∃ l,
 pl
 (List.take (g.2.2.2.1 + (1 : Int)).toNat
 x.1) =
 ((l, g.2.1.1 + (1 : Int),
 g.2.1.2.2.2.2),
 g.2.2.1 ++
 ((0 : Int) :: ([] : List Int)).set (0 : Nat)
 (0 : Int)) ∧
 MQ g.2.1.2.1
 (mput Ty.bool g.2.1.2.2.1
 (g.2.1.2.1.getD g_1.1.toNat (0 : Int))
 true)
 (mdel Ty.bool g.2.1.2.2.2.1
 (g.2.1.2.1.getD g_1.1.toNat (0 : Int)))
 l ∧
 good
 (l, g.2.1.1 + (1 : Int),
 g.2.1.2.2.2.2)
 (g.2.2.2.1 + (1 : Int))) ∧
 ((↑x.1.length : Int) - (g.2.2.2.1 + (1 : Int))).toNat <
 ((↑x.1.length : Int) - g.2.2.2.1).toNat) ∧
 ((True ∧ True) ∧
 (True ∧ True) ∧
 True ∧
 x.1 = x.1 ∧
 (↑x.1.length : Int) = (↑x.1.length : Int) ∧
 g.2.2.2.1 + (1 : Int) =
 g.2.2.2.1 + (1 : Int) ∧
 True) ∧
 (((True ∧ True) ∧ True) ∧
 (g.2.1.1 + (1 : Int) = g.2.1.1 + (1 : Int) ∧
 True ∧ True ∧ True ∧ True ∧ True) ∧
 g.2.1.2.1 = g.2.1.2.1 ∧
 mput Ty.bool g.2.1.2.2.1
 (g.2.1.2.1.getD g_1.1.toNat (0 : Int))
 true =
 mput Ty.bool g.2.1.2.2.1
 (g.2.1.2.1.getD g_1.1.toNat (0 : Int))
 true ∧
 mdel Ty.bool g.2.1.2.2.2.1
 (g.2.1.2.1.getD g_1.1.toNat (0 : Int)) =
 mdel Ty.bool g.2.1.2.2.2.1
 (g.2.1.2.1.getD g_1.1.toNat (0 : Int)) ∧
 g.2.1.2.2.2.2 =
 g.2.1.2.2.2.2 ∧
 g.2.2.1 ++
 ((0 : Int) :: ([] : List Int)).set (0 : Nat)
 (0 : Int) =
 g.2.2.1 ++
 ((0 : Int) :: ([] : List Int)).set (0 : Nat)
 (0 : Int) ∧
 True) ∧
 True) ∧
 ((!mval Ty.bool g.2.1.2.2.1
 (g.2.1.2.1.getD g_1.1.toNat (0 : Int))) =
 false →
 ((-9223372036854775808 : Int) ≤ g_1.1 + (1 : Int) ∧
 g_1.1 + (1 : Int) ≤ (9223372036854775807 : Int)) ∧
 (((0 : Int) ≤ g_1.1 + (1 : Int) ∧
 g_1.1 + (1 : Int) ≤ (↑g.2.1.2.1.length : Int) ∧
 ((List.take (g_1.1 + (1 : Int)).toNat g.2.1.2.1).all
 fun y ↦ mval Ty.bool g.2.1.2.2.1 y) =
 true) ∧
 ((↑g.2.1.2.1.length : Int) - (g_1.1 + (1 : Int))).toNat <
 ((↑g.2.1.2.1.length : Int) - g_1.1).toNat) ∧
 ((True ∧ True) ∧
 True ∧
 (↑g.2.1.2.1.length : Int) =
 (↑g.2.1.2.1.length : Int) ∧
 g_1.1 + (1 : Int) = g_1.1 + (1 : Int) ∧ True) ∧
 ((g.2.1.1 + (1 : Int) = g.2.1.1 + (1 : Int) ∧
 True ∧ True ∧ True ∧ True ∧ True) ∧
 g.2.1.2.1 = g.2.1.2.1 ∧
 g.2.1.2.2.1 = g.2.1.2.2.1 ∧
 g.2.1.2.2.2.1 = g.2.1.2.2.2.1 ∧
 g.2.1.2.2.2.2 = g.2.1.2.2.2.2 ∧
 ((x.1.getD g.2.2.2.1.toNat
 ((0 : Int), (0 : Int))).1 =
 (x.1.getD g.2.2.2.1.toNat
 ((0 : Int), (0 : Int))).1 ∧
 (x.1.getD g.2.2.2.1.toNat
 ((0 : Int), (0 : Int))).2 =
 (x.1.getD g.2.2.2.1.toNat
 ((0 : Int), (0 : Int))).2 ∧
 True) ∧
 ((True ∧ True) ∧ True) ∧
 g.2.2.1 = g.2.2.1 ∧
 ((x.1.getD g.2.2.2.1.toNat
 ((0 : Int), (0 : Int))).1 =
 (x.1.getD g.2.2.2.1.toNat
 ((0 : Int), (0 : Int))).1 ∧
 (x.1.getD g.2.2.2.1.toNat
 ((0 : Int), (0 : Int))).2 =
 (x.1.getD g.2.2.2.1.toNat
 ((0 : Int), (0 : Int))).2 ∧
 True) ∧
 True) ∧
 (True ∧ True) ∧
 ((x.1.getD g.2.2.2.1.toNat
 ((0 : Int), (0 : Int))).1 =
 (x.1.getD g.2.2.2.1.toNat
 ((0 : Int), (0 : Int))).1 ∧
 (x.1.getD g.2.2.2.1.toNat
 ((0 : Int), (0 : Int))).2 =
 (x.1.getD g.2.2.2.1.toNat
 ((0 : Int), (0 : Int))).2 ∧
 True) ∧
 True ∧
 (True ∧ True) ∧
 (0 : Int) = (0 : Int) ∧
 decide
 ((0 : Int) ≤
 idx g.2.1.2.1
 (x.1.getD g.2.2.2.1.toNat
 ((0 : Int), (0 : Int))).2) =
 decide
 ((0 : Int) ≤
 idx g.2.1.2.1
 (x.1.getD g.2.2.2.1.toNat
 ((0 : Int), (0 : Int))).2) ∧
 false = false ∧
 (True ∧ True) ∧
 (x.1.getD g.2.2.2.1.toNat
 ((0 : Int), (0 : Int))).1 =
 (x.1.getD g.2.2.2.1.toNat
 ((0 : Int), (0 : Int))).1 ∧
 decide
 ((x.1.getD g.2.2.2.1.toNat
 ((0 : Int), (0 : Int))).1 <
 (1 : Int)) =
 decide
 ((x.1.getD g.2.2.2.1.toNat
 ((0 : Int), (0 : Int))).1 <
 (1 : Int)) ∧
 decide
 ((x.1.getD g.2.2.2.1.toNat
 ((0 : Int), (0 : Int))).1 <
 (1 : Int)) =
 decide
 ((x.1.getD g.2.2.2.1.toNat
 ((0 : Int), (0 : Int))).1 <
 (1 : Int)) ∧
 True ∧
 True ∧
 True ∧
 (decide
 ((x.1.getD
 g.2.2.2.1.toNat
 ((0 : Int),
 (0 : Int))).1 <
 (1 : Int)) ||
 decide
 ((5 : Int) <
 (x.1.getD
 g.2.2.2.1.toNat
 ((0 : Int),
 (0 : Int))).1)) =
 (decide
 ((x.1.getD
 g.2.2.2.1.toNat
 ((0 : Int),
 (0 : Int))).1 <
 (1 : Int)) ||
 decide
 ((5 : Int) <
 (x.1.getD
 g.2.2.2.1.toNat
 ((0 : Int),
 (0 : Int))).1)) ∧
 false = false ∧
 (True ∧ True) ∧
 (x.1.getD
 g.2.2.2.1.toNat
 ((0 : Int),
 (0 : Int))).2 =
 (x.1.getD
 g.2.2.2.1.toNat
 ((0 : Int),
 (0 : Int))).2 ∧
 decide
 ((x.1.getD
 g.2.2.2.1.toNat
 ((0 : Int),
 (0 :
 Int))).2 <
 (0 : Int)) =
 decide
 ((x.1.getD
 g.2.2.2.1.toNat
 ((0 : Int),
 (0 :
 Int))).2 <
 (0 : Int)) ∧
 decide
 ((x.1.getD
 g.2.2.2.1.toNat
 ((0 : Int),
 (0 :
 Int))).2 <
 (0 : Int)) =
 decide
 ((x.1.getD
 g.2.2.2.1.toNat
 ((0 : Int),
 (0 :
 Int))).2 <
 (0 : Int)) ∧
 True ∧
 True ∧
 True ∧
 (decide
 ((x.1.getD
 g.2.2.2.1.toNat
 ((0 :
 Int),
 (0 :
 Int))).2 <
 (0 :
 Int)) ||
 decide
 ((63 :
 Int) <
 (x.1.getD
 g.2.2.2.1.toNat
 ((0 :
 Int),
 (0 :
 Int))).2)) =
 (decide
 ((x.1.getD
 g.2.2.2.1.toNat
 ((0 :
 Int),
 (0 :
 Int))).2 <
 (0 :
 Int)) ||
 decide
 ((63 :
 Int) <
 (x.1.getD
 g.2.2.2.1.toNat
 ((0 :
 Int),
 (0 :
 Int))).2)) ∧
 (True ∧ True) ∧
 (True ∧ True) ∧
 (True ∧
 True) ∧
 True ∧
 (True ∧
 True) ∧
 (x.1.getD
 g.2.2.2.1.toNat
 ((0 :
 Int),
 (0 :
 Int))).2 =
 (x.1.getD
 g.2.2.2.1.toNat
 ((0 :
 Int),
 (0 :
 Int))).2 ∧
 decide
 ((0 :
 Int) ≤
 idx
 g.2.1.2.1
 (x.1.getD
 g.2.2.2.1.toNat
 ((0 :
 Int),
 (0 :
 Int))).2) =
 decide
 ((0 :
 Int) ≤
 idx
 g.2.1.2.1
 (x.1.getD
 g.2.2.2.1.toNat
 ((0 :
 Int),
 (0 :
 Int))).2) ∧
 (True ∧
 True) ∧
 (x.1.getD
 g.2.2.2.1.toNat
 ((0 :
 Int),
 (0 :
 Int))).1 =
 (x.1.getD
 g.2.2.2.1.toNat
 ((0 :
 Int),
 (0 :
 Int))).1 ∧
 false =
 false ∧
 ((x.1.getD
 g.2.2.2.1.toNat
 ((0 :
 Int),
 (0 :
 Int))).1 ==
 (1 :
 Int)) =
 ((x.1.getD
 g.2.2.2.1.toNat
 ((0 :
 Int),
 (0 :
 Int))).1 ==
 (1 :
 Int)) ∧
 True ∧
 True ∧
 True ∧
 True ∧
 True ∧
 True ∧
 True ∧
 True ∧
 True ∧
 True ∧
 True ∧
 True ∧
 True ∧
 True ∧
 True ∧
 True ∧
 True ∧
 True ∧
 True ∧
 True ∧
 True ∧
 True ∧
 True ∧
 True ∧
 True ∧
 True ∧
 True ∧
 True ∧
 false =
 false ∧
 ((x.1.getD
 g.2.2.2.1.toNat
 ((0 :
 Int),
 (0 :
 Int))).1 ==
 (2 :
 Int)) =
 ((x.1.getD
 g.2.2.2.1.toNat
 ((0 :
 Int),
 (0 :
 Int))).1 ==
 (2 :
 Int)) ∧
 True ∧
 True ∧
 True ∧
 True ∧
 True ∧
 True ∧
 True ∧
 True ∧
 True ∧
 True ∧
 True ∧
 True ∧
 True ∧
 True ∧
 True ∧
 True ∧
 True ∧
 True ∧
 True ∧
 True ∧
 True ∧
 True ∧
 True ∧
 True ∧
 True ∧
 True ∧
 True ∧
 True ∧
 True ∧
 True ∧
 True ∧
 True ∧
 True ∧
 True ∧
 True ∧
 True ∧
 True ∧
 True ∧
 True ∧
 True ∧
 True ∧
 True ∧
 True ∧
 True ∧
 True ∧
 True ∧
 false =
 false ∧
 ((x.1.getD
 g.2.2.2.1.toNat
 ((0 :
 Int),
 (0 :
 Int))).1 ==
 (3 :
 Int)) =
 ((x.1.getD
 g.2.2.2.1.toNat
 ((0 :
 Int),
 (0 :
 Int))).1 ==
 (3 :
 Int)) ∧
 True ∧
 True ∧
 True ∧
 True ∧
 True ∧
 True ∧
 True ∧
 True ∧
 True ∧
 True ∧
 True ∧
 True ∧
 True ∧
 True ∧
 True ∧
 True ∧
 True ∧
 True ∧
 True ∧
 True ∧
 True ∧
 True ∧
 True ∧
 True ∧
 True ∧
 True ∧
 True ∧
 True ∧
 True ∧
 True ∧
 True ∧
 True ∧
 True ∧
 true =
 true ∧
 ((x.1.getD
 g.2.2.2.1.toNat
 ((0 :
 Int),
 (0 :
 Int))).1 ==
 (4 :
 Int)) =
 ((x.1.getD
 g.2.2.2.1.toNat
 ((0 :
 Int),
 (0 :
 Int))).1 ==
 (4 :
 Int)) ∧
 (True ∧
 True) ∧
 (True ∧
 True) ∧
 (True ∧
 True) ∧
 g.2.1.1 =
 g.2.1.1 ∧
 false =
 false ∧
 (True ∧
 True) ∧
 (True ∧
 True) ∧
 (True ∧
 True) ∧
 g.2.1.1 =
 g.2.1.1 ∧
 g.2.1.1 +
 (1 :
 Int) =
 g.2.1.1 +
 (1 :
 Int) ∧
 (True ∧
 True) ∧
 (True ∧
 True) ∧
 (True ∧
 True) ∧
 True ∧
 True ∧
 True ∧
 True ∧
 True ∧
 True ∧
 True ∧
 True ∧
 True ∧
 True ∧
 True ∧
 (True ∧
 True) ∧
 True ∧
 True ∧
 (True ∧
 True) ∧
 True ∧
 True ∧
 True ∧
 True ∧
 (True ∧
 True) ∧
 x.1 =
 x.1 ∧
 (↑x.1.length :
 Int) =
 (↑x.1.length :
 Int) ∧
 g.2.2.2.1 =
 g.2.2.2.1 ∧
 true =
 true ∧
 True ∧
 ((x.1.getD
 g.2.2.2.1.toNat
 ((0 :
 Int),
 (0 :
 Int))).1 =
 (x.1.getD
 g.2.2.2.1.toNat
 ((0 :
 Int),
 (0 :
 Int))).1 ∧
 (x.1.getD
 g.2.2.2.1.toNat
 ((0 :
 Int),
 (0 :
 Int))).2 =
 (x.1.getD
 g.2.2.2.1.toNat
 ((0 :
 Int),
 (0 :
 Int))).2 ∧
 True) ∧
 True ∧
 (True ∧
 True) ∧
 ((x.1.getD
 g.2.2.2.1.toNat
 ((0 :
 Int),
 (0 :
 Int))).1 =
 (x.1.getD
 g.2.2.2.1.toNat
 ((0 :
 Int),
 (0 :
 Int))).1 ∧
 (x.1.getD
 g.2.2.2.1.toNat
 ((0 :
 Int),
 (0 :
 Int))).2 =
 (x.1.getD
 g.2.2.2.1.toNat
 ((0 :
 Int),
 (0 :
 Int))).2 ∧
 True) ∧
 True ∧
 True ∧
 True ∧
 True ∧
 True ∧
 True ∧
 True ∧
 True ∧
 True ∧
 True ∧
 True ∧
 True ∧
 True ∧
 True ∧
 True ∧
 True ∧
 True ∧
 True ∧
 True ∧
 True ∧
 True ∧
 True)) ∧
 (decide (g_1.1 < (↑g.2.1.2.1.length : Int)) = false →
 (g.2.2.1.length +
 (((0 : Int) :: ([] : List Int)).set (0 : Nat) (0 : Int)).length ≤
 (9223372036854775807 : Nat) ∧
 (g.2.2.1.length +
 (((0 : Int) :: ([] : List Int)).set (0 : Nat) (0 : Int)).length +
 (g.2.2.1.length +
 (((0 : Int) :: ([] : List Int)).set (0 : Nat)
 (0 : Int)).length) /
 (4 : Nat) +
 (192 : Nat)) *
 (8 : Nat) ≤
 (281474976710656 : Nat)) ∧
 ((-9223372036854775808 : Int) ≤ g.2.2.2.1 + (1 : Int) ∧
 g.2.2.2.1 + (1 : Int) ≤ (9223372036854775807 : Int)) ∧
 (((0 : Int) ≤ g.2.2.2.1 + (1 : Int) ∧
 g.2.2.2.1 + (1 : Int) ≤ (↑x.1.length : Int) ∧
 (↑(g.2.2.1 ++
 ((0 : Int) :: ([] : List Int)).set (0 : Nat)
 (0 : Int)).length :
 Int) =
 g.2.2.2.1 + (1 : Int) ∧
 ∃ l,
 pl (List.take (g.2.2.2.1 + (1 : Int)).toNat x.1) =
 ((l, g.2.1.1 + (1 : Int), g.2.1.2.2.2.2),
 g.2.2.1 ++
 ((0 : Int) :: ([] : List Int)).set (0 : Nat)
 (0 : Int)) ∧
 MQ g.2.1.2.1 g.2.1.2.2.1
 g.2.1.2.2.2.1 l ∧
 good
 (l, g.2.1.1 + (1 : Int), g.2.1.2.2.2.2)
 (g.2.2.2.1 + (1 : Int))) ∧
 ((↑x.1.length : Int) - (g.2.2.2.1 + (1 : Int))).toNat <
 ((↑x.1.length : Int) - g.2.2.2.1).toNat) ∧
 ((True ∧ True) ∧
 (True ∧ True) ∧
 True ∧
 x.1 = x.1 ∧
 (↑x.1.length : Int) = (↑x.1.length : Int) ∧
 g.2.2.2.1 + (1 : Int) =
 g.2.2.2.1 + (1 : Int) ∧
 True) ∧
 (((True ∧ True) ∧ True) ∧
 (g.2.1.1 + (1 : Int) = g.2.1.1 + (1 : Int) ∧
 True ∧ True ∧ True ∧ True ∧ True) ∧
 g.2.1.2.1 = g.2.1.2.1 ∧
 g.2.1.2.2.1 = g.2.1.2.2.1 ∧
 g.2.1.2.2.2.1 = g.2.1.2.2.2.1 ∧
 g.2.1.2.2.2.2 = g.2.1.2.2.2.2 ∧
 g.2.2.1 ++
 ((0 : Int) :: ([] : List Int)).set (0 : Nat)
 (0 : Int) =
 g.2.2.1 ++
 ((0 : Int) :: ([] : List Int)).set (0 : Nat)
 (0 : Int) ∧
 True) ∧
 True))) ∧
 (((x.1.getD g.2.2.2.1.toNat ((0 : Int), (0 : Int))).1 == (4 : Int)) = false →
 (((x.1.getD g.2.2.2.1.toNat ((0 : Int), (0 : Int))).1 == (5 : Int)) = true →
 (((∀ (l : OL),
 MQ g.2.1.2.1 g.2.1.2.2.1 g.2.1.2.2.2.1 l →
 ∃ l',
 MQ g.2.1.2.1 g.2.1.2.2.1 g.2.1.2.2.2.1 l' ∧
 wakeAll l' = wakeAll l) ∧
 True) ∧
 ((True ∧ True) ∧ True) ∧
 ((g.2.1.1 = g.2.1.1 ∧ True ∧ True ∧ True ∧ True ∧ True) ∧
 g.2.1.2.2.1 = g.2.1.2.2.1 ∧
 g.2.1.2.2.2.1 = g.2.1.2.2.2.1 ∧
 ((True ∧ True) ∧ True) ∧
 g.2.2.1 = g.2.2.1 ∧
 ((x.1.getD g.2.2.2.1.toNat ((0 : Int), (0 : Int))).1 =
 (x.1.getD g.2.2.2.1.toNat ((0 : Int), (0 : Int))).1 ∧
 (x.1.getD g.2.2.2.1.toNat ((0 : Int), (0 : Int))).2 =
 (x.1.getD g.2.2.2.1.toNat ((0 : Int), (0 : Int))).2 ∧
 True) ∧
 g.2.1.2.1 = g.2.1.2.1 ∧
 g.2.1.2.2.2.2 = g.2.1.2.2.2.2 ∧ True) ∧
 True ∧
 True ∧
 True ∧
 True ∧
 True ∧
 True ∧
 (True ∧ True) ∧
 True ∧
 True ∧
 (True ∧ True) ∧
 True ∧
 True ∧
 True ∧
 True ∧
 (True ∧ True) ∧
 x.1 = x.1 ∧
 (↑x.1.length : Int) = (↑x.1.length : Int) ∧
 g.2.2.2.1 = g.2.2.2.1 ∧
 true = true ∧
 True ∧
 ((x.1.getD g.2.2.2.1.toNat
 ((0 : Int), (0 : Int))).1 =
 (x.1.getD g.2.2.2.1.toNat
 ((0 : Int), (0 : Int))).1 ∧
 (x.1.getD g.2.2.2.1.toNat
 ((0 : Int), (0 : Int))).2 =
 (x.1.getD g.2.2.2.1.toNat
 ((0 : Int), (0 : Int))).2 ∧
 True) ∧
 True ∧
 (True ∧ True) ∧
 ((x.1.getD g.2.2.2.1.toNat
 ((0 : Int), (0 : Int))).1 =
 (x.1.getD
 g.2.2.2.1.toNat
 ((0 : Int), (0 : Int))).1 ∧
 (x.1.getD g.2.2.2.1.toNat
 ((0 : Int),
 (0 : Int))).2 =
 (x.1.getD
 g.2.2.2.1.toNat
 ((0 : Int),
 (0 : Int))).2 ∧
 True) ∧
 True ∧
 True ∧
 True ∧
 True ∧
 True ∧
 True ∧
 True ∧
 True ∧
 True ∧
 True ∧
 True ∧
 True ∧
 True ∧
 True ∧
 True ∧
 True ∧
 True ∧
 True ∧
 True ∧
 True ∧
 True ∧
 True) ∧
 ∀ (g_1 : (Unit × Unit × List (Int × Bool) × List (Int × Bool) × Unit) × Unit),
 (∀ (l : OL),
 MQ g.2.1.2.1 g.2.1.2.2.1 g.2.1.2.2.2.1 l →
 ∃ l',
 MQ g.2.1.2.1 g_1.1.2.2.1 g_1.1.2.2.2.1 l' ∧
 wakeAll l' = wakeAll l) →
 (True ∧
 True ∧
 (∀ (e : Int × Bool),
 e ∈ g_1.1.2.2.1 →
 ((-9223372036854775808 : Int) ≤ e.1 ∧
 e.1 ≤ (9223372036854775807 : Int)) ∧
 True) ∧
 (∀ (e : Int × Bool),
 e ∈ g_1.1.2.2.2.1 →
 ((-9223372036854775808 : Int) ≤ e.1 ∧
 e.1 ≤ (9223372036854775807 : Int)) ∧
 True) ∧
 True) ∧
 True →
 ((((0 : Int) ≤ (0 : Int) ∧
 (0 : Int) ≤ (↑g.2.1.2.1.length : Int) ∧
 ((List.take (Int.toNat (0 : Int)) g.2.1.2.1).all fun y ↦
 mval Ty.bool g_1.1.2.2.1 y) =
 true) ∧
 True) ∧
 ((True ∧ True) ∧
 True ∧
 (↑g.2.1.2.1.length : Int) = (↑g.2.1.2.1.length : Int) ∧
 (0 : Int) = (0 : Int) ∧ True) ∧
 ((g.2.1.1 = g.2.1.1 ∧ True ∧ True ∧ True ∧ True ∧ True) ∧
 g.2.1.2.1 = g.2.1.2.1 ∧
 g_1.1.2.2.1 = g_1.1.2.2.1 ∧
 g_1.1.2.2.2.1 = g_1.1.2.2.2.1 ∧
 g.2.1.2.2.2.2 = g.2.1.2.2.2.2 ∧
 ((True ∧ True) ∧ True) ∧
 g.2.2.1 = g.2.2.1 ∧
 ((x.1.getD g.2.2.2.1.toNat
 ((0 : Int), (0 : Int))).1 =
 (x.1.getD g.2.2.2.1.toNat
 ((0 : Int), (0 : Int))).1 ∧
 (x.1.getD g.2.2.2.1.toNat
 ((0 : Int), (0 : Int))).2 =
 (x.1.getD g.2.2.2.1.toNat
 ((0 : Int), (0 : Int))).2 ∧
 True) ∧
 True) ∧
 (True ∧ True) ∧
 True ∧
 True ∧
 True ∧
 True ∧
 True ∧
 True ∧
 True ∧
 True ∧
 True ∧
 True ∧
 True ∧
 True ∧
 True ∧
 True ∧
 True ∧
 True ∧
 True ∧
 True ∧
 True ∧
 True ∧
 True ∧
 True ∧
 True ∧
 True ∧
 True ∧
 True ∧
 True ∧
 True ∧
 True ∧
 True ∧
 True ∧
 True ∧
 True ∧
 True ∧
 True ∧
 True ∧
 True ∧
 True ∧
 True ∧
 True ∧
 True ∧
 True ∧
 True ∧
 True ∧
 True ∧
 True ∧
 True ∧
 True ∧
 True ∧
 True ∧
 True ∧
 True ∧
 True ∧
 True ∧
 True ∧
 True ∧
 True ∧
 True ∧
 True ∧
 True ∧
 True ∧
 True ∧
 True ∧
 True ∧
 True ∧
 True ∧
 True ∧
 True ∧
 True ∧
 True ∧
 True ∧
 True ∧
 True ∧
 True ∧
 True ∧
 True ∧
 True ∧
 True ∧
 True ∧
 True ∧
 True ∧
 True ∧
 True ∧
 True ∧
 True ∧
 True ∧
 True ∧
 True ∧
 True ∧
 True ∧
 True ∧
 True ∧
 True ∧
 True ∧
 True ∧
 True ∧
 True ∧
 True ∧
 True ∧
 True ∧
 True ∧
 True ∧
 True ∧
 True ∧
 True ∧
 True ∧
 True ∧
 True ∧
 True ∧
 True ∧
 True ∧
 True ∧
 True ∧
 True ∧
 True ∧
 True ∧
 True ∧
 True ∧
 True ∧
 True ∧
 True ∧
 True ∧
 True ∧
 True ∧
 True ∧
 True ∧
 True ∧
 True ∧
 True ∧
 True ∧
 True ∧
 True ∧
 True ∧
 True ∧
 True ∧
 True ∧
 True ∧
 True ∧
 True ∧
 True ∧
 True ∧
 True ∧
 True ∧
 True ∧
 True ∧
 True ∧
 True ∧
 True ∧
 True ∧
 True ∧
 True ∧
 True ∧
 True ∧
 True ∧
 True ∧
 True ∧
 True ∧
 True ∧
 True ∧
 True ∧
 True ∧
 True ∧
 True ∧
 (True ∧
 True) ∧
 True ∧
 True ∧
 True ∧
 True ∧
 True ∧
 True ∧
 True ∧
 (True ∧
 True) ∧
 True ∧
 True ∧
 (True ∧
 True) ∧
 True ∧
 True ∧
 True ∧
 True ∧
 (True ∧
 True) ∧
 x.1 =
 x.1 ∧
 (↑x.1.length :
 Int) =
 (↑x.1.length :
 Int) ∧
 g.2.2.2.1 =
 g.2.2.2.1 ∧
 true =
 true ∧
 True ∧
 ((x.1.getD
 g.2.2.2.1.toNat
 ((0 :
 Int),
 (0 :
 Int))).1 =
 (x.1.getD
 g.2.2.2.1.toNat
 ((0 :
 Int),
 (0 :
 Int))).1 ∧
 (x.1.getD
 g.2.2.2.1.toNat
 ((0 :
 Int),
 (0 :
 Int))).2 =
 (x.1.getD
 g.2.2.2.1.toNat
 ((0 :
 Int),
 (0 :
 Int))).2 ∧
 True) ∧
 True ∧
 (True ∧
 True) ∧
 ((x.1.getD
 g.2.2.2.1.toNat
 ((0 :
 Int),
 (0 :
 Int))).1 =
 (x.1.getD
 g.2.2.2.1.toNat
 ((0 :
 Int),
 (0 :
 Int))).1 ∧
 (x.1.getD
 g.2.2.2.1.toNat
 ((0 :
 Int),
 (0 :
 Int))).2 =
 (x.1.getD
 g.2.2.2.1.toNat
 ((0 :
 Int),
 (0 :
 Int))).2 ∧
 True) ∧
 True ∧
 True ∧
 True ∧
 True ∧
 True ∧
 True ∧
 True ∧
 True ∧
 True ∧
 True ∧
 True ∧
 True ∧
 True ∧
 True ∧
 True ∧
 True ∧
 True ∧
 True ∧
 True ∧
 True ∧
 True ∧
 True) ∧
 ∀ (g_2 : Int × Unit),
 (0 : Int) ≤ g_2.1 ∧
 g_2.1 ≤ (↑g.2.1.2.1.length : Int) ∧
 ((List.take g_2.1.toNat g.2.1.2.1).all fun y ↦
 mval Ty.bool g_1.1.2.2.1 y) =
 true →
 ((-9223372036854775808 : Int) ≤ g_2.1 ∧
 g_2.1 ≤ (9223372036854775807 : Int)) ∧
 True →
 (decide (g_2.1 < (↑g.2.1.2.1.length : Int)) = true →
 ((0 : Int) ≤ g_2.1 ∧ g_2.1 < (↑g.2.1.2.1.length : Int)) ∧
 ((!mval Ty.bool g_1.1.2.2.1
 (g.2.1.2.1.getD g_2.1.toNat (0 : Int))) =
 true →
 ((∀ (l : OL),
 MQ g.2.1.2.1 g.2.1.2.2.1
 g.2.1.2.2.2.1 l →
 ∃ l',
 MQ g.2.1.2.1
 (mput Ty.bool g_1.1.2.2.1
 (g.2.1.2.1.getD g_2.1.toNat (0 : Int))
 true)
 (mdel Ty.bool g_1.1.2.2.2.1
 (g.2.1.2.1.getD g_2.1.toNat (0 : Int)))
 l' ∧
 wakeAll l' = wakeAll l) ∧
 (List.filter
 (fun y ↦
 !mval Ty.bool
 (mput Ty.bool g_1.1.2.2.1
 (g.2.1.2.1.getD g_2.1.toNat (0 : Int))
 true)
 y)
 g.2.1.2.1).length <
 (List.filter (fun y ↦ !mval Ty.bool g_1.1.2.2.1 y)
 g.2.1.2.1).length) ∧
 ((True ∧ True) ∧ True) ∧
 ((g.2.1.1 = g.2.1.1 ∧
 True ∧ True ∧ True ∧ True ∧ True) ∧
 mput Ty.bool g_1.1.2.2.1
 (g.2.1.2.1.getD g_2.1.toNat (0 : Int))
 true =
 mput Ty.bool g_1.1.2.2.1
 (g.2.1.2.1.getD g_2.1.toNat (0 : Int))
 true ∧
 mdel Ty.bool g_1.1.2.2.2.1
 (g.2.1.2.1.getD g_2.1.toNat (0 : Int)) =
 mdel Ty.bool g_1.1.2.2.2.1
 (g.2.1.2.1.getD g_2.1.toNat (0 : Int)) ∧
 ((True ∧ True) ∧ True) ∧
 g.2.2.1 = g.2.2.1 ∧
 ((x.1.getD g.2.2.2.1.toNat
 ((0 : Int), (0 : Int))).1 =
 (x.1.getD g.2.2.2.1.toNat
 ((0 : Int), (0 : Int))).1 ∧
 (x.1.getD g.2.2.2.1.toNat
 ((0 : Int), (0 : Int))).2 =
 (x.1.getD g.2.2.2.1.toNat
 ((0 : Int), (0 : Int))).2 ∧
 True) ∧
 g.2.1.2.1 = g.2.1.2.1 ∧
 g.2.1.2.2.2.2 =
 g.2.1.2.2.2.2 ∧
 True) ∧
 True ∧
 True ∧
 True ∧
 True ∧
 True ∧
 True ∧
 (True ∧ True) ∧
 True ∧
 True ∧
 (True ∧ True) ∧
 True ∧
 True ∧
 True ∧
 True ∧
 (True ∧ True) ∧
 x.1 = x.1 ∧
 (↑x.1.length : Int) =
 (↑x.1.length : Int) ∧
 g.2.2.2.1 =
 g.2.2.2.1 ∧
 true = true ∧
 True ∧
 ((x.1.getD
 g.2.2.2.1.toNat
 ((0 : Int),
 (0 :
 Int))).1 =
 (x.1.getD
 g.2.2.2.1.toNat
 ((0 : Int),
 (0 :
 Int))).1 ∧
 (x.1.getD
 g.2.2.2.1.toNat
 ((0 :
 Int),
 (0 :
 Int))).2 =
 (x.1.getD
 g.2.2.2.1.toNat
 ((0 :
 Int),
 (0 :
 Int))).2 ∧
 True) ∧
 True ∧
 (True ∧ True) ∧
 ((x.1.getD
 g.2.2.2.1.toNat
 ((0 :
 Int),
 (0 :
 Int))).1 =
 (x.1.getD
 g.2.2.2.1.toNat
 ((0 :
 Int),
 (0 :
 Int))).1 ∧
 (x.1.getD
 g.2.2.2.1.toNat
 ((0 :
 Int),
 (0 :
 Int))).2 =
 (x.1.getD
 g.2.2.2.1.toNat
 ((0 :
 Int),
 (0 :
 Int))).2 ∧
 True) ∧
 True ∧
 True ∧
 True ∧
 True ∧
 True ∧
 True ∧
 True ∧
 True ∧
 True ∧
 True ∧
 True ∧
 True ∧
 True ∧
 True ∧
 True ∧
 True ∧
 True ∧
 True ∧
 True ∧
 True ∧
 True ∧
 True) ∧
 ((!mval Ty.bool g_1.1.2.2.1
 (g.2.1.2.1.getD g_2.1.toNat (0 : Int))) =
 false →
 ((-9223372036854775808 : Int) ≤ g_2.1 + (1 : Int) ∧
 g_2.1 + (1 : Int) ≤ (9223372036854775807 : Int)) ∧
 (((0 : Int) ≤ g_2.1 + (1 : Int) ∧
 g_2.1 + (1 : Int) ≤ (↑g.2.1.2.1.length : Int) ∧
 ((List.take (g_2.1 + (1 : Int)).toNat
 g.2.1.2.1).all
 fun y ↦ mval Ty.bool g_1.1.2.2.1 y) =
 true) ∧
 ((↑g.2.1.2.1.length : Int) -
 (g_2.1 + (1 : Int))).toNat <
 ((↑g.2.1.2.1.length : Int) - g_2.1).toNat) ∧
 ((True ∧ True) ∧
 True ∧
 (↑g.2.1.2.1.length : Int) =
 (↑g.2.1.2.1.length : Int) ∧
 g_2.1 + (1 : Int) = g_2.1 + (1 : Int) ∧ True) ∧
 ((g.2.1.1 = g.2.1.1 ∧
 True ∧ True ∧ True ∧ True ∧ True) ∧
 g.2.1.2.1 = g.2.1.2.1 ∧
 g_1.1.2.2.1 = g_1.1.2.2.1 ∧
 g_1.1.2.2.2.1 = g_1.1.2.2.2.1 ∧
 g.2.1.2.2.2.2 =
 g.2.1.2.2.2.2 ∧
 ((True ∧ True) ∧ True) ∧
 g.2.2.1 = g.2.2.1 ∧
 ((x.1.getD g.2.2.2.1.toNat
 ((0 : Int), (0 : Int))).1 =
 (x.1.getD g.2.2.2.1.toNat
 ((0 : Int), (0 : Int))).1 ∧
 (x.1.getD g.2.2.2.1.toNat
 ((0 : Int), (0 : Int))).2 =
 (x.1.getD g.2.2.2.1.toNat
 ((0 : Int), (0 : Int))).2 ∧
 True) ∧
 True) ∧
 (True ∧ True) ∧
 True ∧
 True ∧
 True ∧
 True ∧
 True ∧
 True ∧
 True ∧
 True ∧
 True ∧
 True ∧
 True ∧
 True ∧
 True ∧
 True ∧
 True ∧
 True ∧
 True ∧
 True ∧
 True ∧
 True ∧
 True ∧
 True ∧
 True ∧
 True ∧
 True ∧
 True ∧
 True ∧
 True ∧
 True ∧
 True ∧
 True ∧
 True ∧
 True ∧
 True ∧
 True ∧
 True ∧
 True ∧
 True ∧
 True ∧
 True ∧
 True ∧
 True ∧
 True ∧
 True ∧
 True ∧
 True ∧
 True ∧
 True ∧
 True ∧
 True ∧
 True ∧
 True ∧
 True ∧
 True ∧
 True ∧
 True ∧
 True ∧
 True ∧
 True ∧
 True ∧
 True ∧
 True ∧
 True ∧
 True ∧
 True ∧
 True ∧
 True ∧
 True ∧
 True ∧
 True ∧
 True ∧
 True ∧
 True ∧
 True ∧
 True ∧
 True ∧
 True ∧
 True ∧
 True ∧
 True ∧
 True ∧
 True ∧
 True ∧
 True ∧
 True ∧
 True ∧
 True ∧
 True ∧
 True ∧
 True ∧
 True ∧
 True ∧
 True ∧
 True ∧
 True ∧
 True ∧
 True ∧
 True ∧
 True ∧
 True ∧
 True ∧
 True ∧
 True ∧
 True ∧
 True ∧
 True ∧
 True ∧
 True ∧
 True ∧
 True ∧
 True ∧
 True ∧
 True ∧
 True ∧
 True ∧
 True ∧
 True ∧
 True ∧
 True ∧
 True ∧
 True ∧
 True ∧
 True ∧
 True ∧
 True ∧
 True ∧
 True ∧
 True ∧
 True ∧
 True ∧
 True ∧
 True ∧
 True ∧
 True ∧
 True ∧
 True ∧
 True ∧
 True ∧
 True ∧
 True ∧
 True ∧
 True ∧
 True ∧
 True ∧
 True ∧
 True ∧
 True ∧
 True ∧
 True ∧
 True ∧
 True ∧
 True ∧
 True ∧
 True ∧
 True ∧
 True ∧
 True ∧
 True ∧
 True ∧
 True ∧
 True ∧
 True ∧
 True ∧
 (True ∧
 True) ∧
 True ∧
 True ∧
 True ∧
 True ∧
 True ∧
 True ∧
 True ∧
 (True ∧
 True) ∧
 True ∧
 True ∧
 (True ∧
 True) ∧
 True ∧
 True ∧
 True ∧
 True ∧
 (True ∧
 True) ∧
 x.1 =
 x.1 ∧
 (↑x.1.length :
 Int) =
 (↑x.1.length :
 Int) ∧
 g.2.2.2.1 =
 g.2.2.2.1 ∧
 true =
 true ∧
 True ∧
 ((x.1.getD
 g.2.2.2.1.toNat
 ((0 :
 Int),
 (0 :
 Int))).1 =
 (x.1.getD
 g.2.2.2.1.toNat
 ((0 :
 Int),
 (0 :
 Int))).1 ∧
 (x.1.getD
 g.2.2.2.1.toNat
 ((0 :
 Int),
 (0 :
 Int))).2 =
 (x.1.getD
 g.2.2.2.1.toNat
 ((0 :
 Int),
 (0 :
 Int))).2 ∧
 True) ∧
 True ∧
 (True ∧
 True) ∧
 ((x.1.getD
 g.2.2.2.1.toNat
 ((0 :
 Int),
 (0 :
 Int))).1 =
 (x.1.getD
 g.2.2.2.1.toNat
 ((0 :
 Int),
 (0 :
 Int))).1 ∧
 (x.1.getD
 g.2.2.2.1.toNat
 ((0 :
 Int),
 (0 :
 Int))).2 =
 (x.1.getD
 g.2.2.2.1.toNat
 ((0 :
 Int),
 (0 :
 Int))).2 ∧
 True) ∧
 True ∧
 True ∧
 True ∧
 True ∧
 True ∧
 True ∧
 True ∧
 True ∧
 True ∧
 True ∧
 True ∧
 True ∧
 True ∧
 True ∧
 True ∧
 True ∧
 True ∧
 True ∧
 True ∧
 True ∧
 True ∧
 True)) ∧
 (decide (g_2.1 < (↑g.2.1.2.1.length : Int)) = false →
 (g.2.2.1.length +
 (((0 : Int) :: ([] : List Int)).set (0 : Nat) (0 : Int)).length ≤
 (9223372036854775807 : Nat) ∧
 (g.2.2.1.length +
 (((0 : Int) :: ([] : List Int)).set (0 : Nat)
 (0 : Int)).length +
 (g.2.2.1.length +
 (((0 : Int) :: ([] : List Int)).set (0 : Nat)
 (0 : Int)).length) /
 (4 : Nat) +
 (192 : Nat)) *
 (8 : Nat) ≤
 (281474976710656 : Nat)) ∧
 ((-9223372036854775808 : Int) ≤ g.2.2.2.1 + (1 : Int) ∧
 g.2.2.2.1 + (1 : Int) ≤ (9223372036854775807 : Int)) ∧
 (((0 : Int) ≤ g.2.2.2.1 + (1 : Int) ∧
 g.2.2.2.1 + (1 : Int) ≤ (↑x.1.length : Int) ∧
 (↑(g.2.2.1 ++
 ((0 : Int) :: ([] : List Int)).set (0 : Nat)
 (0 : Int)).length :
 Int) =
 g.2.2.2.1 + (1 : Int) ∧
 ∃ l,
 pl
 (List.take (g.2.2.2.1 + (1 : Int)).toNat
 x.1) =
 ((l, g.2.1.1, g.2.1.2.2.2.2),
 g.2.2.1 ++
 ((0 : Int) :: ([] : List Int)).set (0 : Nat)
 (0 : Int)) ∧
 MQ g.2.1.2.1 g_1.1.2.2.1
 g_1.1.2.2.2.1 l ∧
 good (l, g.2.1.1, g.2.1.2.2.2.2)
 (g.2.2.2.1 + (1 : Int))) ∧
 ((↑x.1.length : Int) - (g.2.2.2.1 + (1 : Int))).toNat <
 ((↑x.1.length : Int) - g.2.2.2.1).toNat) ∧
 ((True ∧ True) ∧
 (True ∧ True) ∧
 True ∧
 x.1 = x.1 ∧
 (↑x.1.length : Int) = (↑x.1.length : Int) ∧
 g.2.2.2.1 + (1 : Int) =
 g.2.2.2.1 + (1 : Int) ∧
 True) ∧
 (((True ∧ True) ∧ True) ∧
 (g.2.1.1 = g.2.1.1 ∧
 True ∧ True ∧ True ∧ True ∧ True) ∧
 g.2.1.2.1 = g.2.1.2.1 ∧
 g_1.1.2.2.1 = g_1.1.2.2.1 ∧
 g_1.1.2.2.2.1 = g_1.1.2.2.2.1 ∧
 g.2.1.2.2.2.2 =
 g.2.1.2.2.2.2 ∧
 g.2.2.1 ++
 ((0 : Int) :: ([] : List Int)).set (0 : Nat)
 (0 : Int) =
 g.2.2.1 ++
 ((0 : Int) :: ([] : List Int)).set (0 : Nat)
 (0 : Int) ∧
 True) ∧
 True)) ∧
 (((x.1.getD g.2.2.2.1.toNat ((0 : Int), (0 : Int))).1 == (5 : Int)) = false →
 (g.2.2.1.length + (((0 : Int) :: ([] : List Int)).set (0 : Nat) (0 : Int)).length ≤
 (9223372036854775807 : Nat) ∧
 (g.2.2.1.length + (((0 : Int) :: ([] : List Int)).set (0 : Nat) (0 : Int)).length +
 (g.2.2.1.length +
 (((0 : Int) :: ([] : List Int)).set (0 : Nat) (0 : Int)).length) /
 (4 : Nat) +
 (192 : Nat)) *
 (8 : Nat) ≤
 (281474976710656 : Nat)) ∧
 ((-9223372036854775808 : Int) ≤ g.2.2.2.1 + (1 : Int) ∧
 g.2.2.2.1 + (1 : Int) ≤ (9223372036854775807 : Int)) ∧
 (((0 : Int) ≤ g.2.2.2.1 + (1 : Int) ∧
 g.2.2.2.1 + (1 : Int) ≤ (↑x.1.length : Int) ∧
 (↑(g.2.2.1 ++
 ((0 : Int) :: ([] : List Int)).set (0 : Nat) (0 : Int)).length :
 Int) =
 g.2.2.2.1 + (1 : Int) ∧
 ∃ l,
 pl (List.take (g.2.2.2.1 + (1 : Int)).toNat x.1) =
 ((l, g.2.1.1, g.2.1.2.2.2.2),
 g.2.2.1 ++
 ((0 : Int) :: ([] : List Int)).set (0 : Nat) (0 : Int)) ∧
 MQ g.2.1.2.1 g.2.1.2.2.1 g.2.1.2.2.2.1 l ∧
 good (l, g.2.1.1, g.2.1.2.2.2.2)
 (g.2.2.2.1 + (1 : Int))) ∧
 ((↑x.1.length : Int) - (g.2.2.2.1 + (1 : Int))).toNat <
 ((↑x.1.length : Int) - g.2.2.2.1).toNat) ∧
 ((True ∧ True) ∧
 (True ∧ True) ∧
 True ∧
 x.1 = x.1 ∧
 (↑x.1.length : Int) = (↑x.1.length : Int) ∧
 g.2.2.2.1 + (1 : Int) = g.2.2.2.1 + (1 : Int) ∧ True) ∧
 (((True ∧ True) ∧ True) ∧
 (g.2.1.1 = g.2.1.1 ∧ True ∧ True ∧ True ∧ True ∧ True) ∧
 g.2.1.2.1 = g.2.1.2.1 ∧
 g.2.1.2.2.1 = g.2.1.2.2.1 ∧
 g.2.1.2.2.2.1 = g.2.1.2.2.2.1 ∧
 g.2.1.2.2.2.2 = g.2.1.2.2.2.2 ∧
 g.2.2.1 ++
 ((0 : Int) :: ([] : List Int)).set (0 : Nat) (0 : Int) =
 g.2.2.1 ++
 ((0 : Int) :: ([] : List Int)).set (0 : Nat) (0 : Int) ∧
 True) ∧
 True)))))))) ∧
 (decide (g.2.2.2.1 < (↑x.1.length : Int)) = false →
 Holds (g.2.1.2.1.length * (8 : Nat) ≤ (140737488355328 : Nat)) ∧
 ((((0 : Int) ≤ (0 : Int) ∧
 (0 : Int) ≤ (↑g.2.1.2.1.length : Int) ∧
 ((List.take (Int.toNat (0 : Int)) g.2.1.2.1).any fun y ↦ capF none g.2.1.2.2.2.1 y) = false) ∧
 True) ∧
 (True ∧ True ∧ (↑g.2.1.2.1.length : Int) = (↑g.2.1.2.1.length : Int) ∧ (0 : Int) = (0 : Int) ∧ True) ∧
 (g.2.1.2.1 = g.2.1.2.1 ∧
 (True ∧ (True ∧ True) ∧ True) ∧
 ((True ∧ True) ∧ True) ∧
 (g.2.1.1 = g.2.1.1 ∧ True ∧ True ∧ True ∧ True ∧ True) ∧
 g.2.1.2.1 = g.2.1.2.1 ∧
 g.2.1.2.2.1 = g.2.1.2.2.1 ∧
 g.2.1.2.2.2.1 = g.2.1.2.2.2.1 ∧
 g.2.1.2.2.2.2 = g.2.1.2.2.2.2 ∧ g.2.2.1 = g.2.2.1 ∧ True) ∧
 True ∧
 True ∧
 True ∧
 True ∧
 Value.slice none (0 : Nat) (0 : Nat) = Value.slice none (0 : Nat) (0 : Nat) ∧
 True ∧
 True ∧
 True ∧
 True ∧
 True ∧
 True ∧
 True ∧
 True ∧
 True ∧
 True ∧
 True ∧
 True ∧
 True ∧
 True ∧
 True ∧
 True ∧
 True ∧
 True ∧
 True ∧
 True ∧
 True ∧
 True ∧
 True ∧
 True ∧
 True ∧
 True ∧
 True ∧
 True ∧
 True ∧
 True ∧
 True ∧
 True ∧
 True ∧
 True ∧
 True ∧
 True ∧
 True ∧
 True ∧
 True ∧
 True ∧
 True ∧
 True ∧
 True ∧
 (True ∧ True) ∧
 True ∧
 True ∧
 True ∧
 True ∧
 True ∧
 True ∧
 True ∧
 (True ∧ True) ∧
 x.1 =
 x.1 ∧
 (↑x.1.length :
 Int) =
 (↑x.1.length :
 Int) ∧
 g.2.2.2.1 =
 g.2.2.2.1 ∧
 false =
 false ∧
 True ∧
 True ∧
 True ∧
 True ∧
 True ∧
 True ∧
 True ∧
 True ∧
 True ∧
 (True ∧
 True) ∧
 (True ∧
 True) ∧
 (True ∧
 True) ∧
 True ∧
 True ∧
 True ∧
 True ∧
 True ∧
 True ∧
 True ∧
 True ∧
 True ∧
 True ∧
 True ∧
 True ∧
 True ∧
 True ∧
 True) ∧
 ∀ (g_1 : Int × Unit),
 (0 : Int) ≤ g_1.1 ∧
 g_1.1 ≤ (↑g.2.1.2.1.length : Int) ∧
 ((List.take g_1.1.toNat g.2.1.2.1).any fun y ↦ capF none g.2.1.2.2.2.1 y) = false →
 ((-9223372036854775808 : Int) ≤ g_1.1 ∧ g_1.1 ≤ (9223372036854775807 : Int)) ∧ True →
 (decide (g_1.1 < (↑g.2.1.2.1.length : Int)) = true →
 ((0 : Int) ≤ g_1.1 ∧ g_1.1 < (↑g.2.1.2.1.length : Int)) ∧
 ((!mval Ty.bool g.2.1.2.2.2.1 (g.2.1.2.1.getD g_1.1.toNat (0 : Int))) = true →
 ((g_1.1 == (-1 : Int)) = true →
 g.2.2.1 = (play x.1).1 ∧
 g.2.1.2.2.2.2 = (play x.1).2.1 ∧
 g.2.1.2.1 = (play x.1).2.2.1 ∧ g.2.1.1 = (play x.1).2.2.2.1) ∧
 ((g_1.1 == (-1 : Int)) = false →
 ((-9223372036854775808 : Int) ≤ g_1.1 + (1 : Int) ∧ g_1.1 + (1 : Int) ≤ (9223372036854775807 : Int)) ∧
 (((((0 : Int) ≤ g_1.1 ∧
 g_1.1 ≤ g_1.1 + (1 : Int) ∧ g_1.1 + (1 : Int) ≤ (↑g.2.1.2.1.length : Int)) ∧
 g.2.1.2.1.length = g.2.1.2.1.length ∧
 List.take g_1.1.toNat g.2.1.2.1 =
 List.filter (fun y ↦ !capF none g.2.1.2.2.2.1 y)
 (List.take (g_1.1 + (1 : Int)).toNat g.2.1.2.1) ∧
 List.drop (g_1.1 + (1 : Int)).toNat g.2.1.2.1 =
 List.drop (g_1.1 + (1 : Int)).toNat g.2.1.2.1) ∧
 True) ∧
 (True ∧ True ∧ g_1.1 = g_1.1 ∧ g_1.1 + (1 : Int) = g_1.1 + (1 : Int) ∧ True) ∧
 (g.2.1.2.1 = g.2.1.2.1 ∧
 ((True ∧ True) ∧ True) ∧
 (g.2.1.1 = g.2.1.1 ∧ True ∧ True ∧ True ∧ True ∧ True) ∧
 g.2.1.2.1 = g.2.1.2.1 ∧
 g.2.1.2.2.1 = g.2.1.2.2.1 ∧
 g.2.1.2.2.2.1 = g.2.1.2.2.2.1 ∧
 g.2.1.2.2.2.2 = g.2.1.2.2.2.2 ∧
 g.2.2.1 = g.2.2.1 ∧ (True ∧ (True ∧ True) ∧ True) ∧ True) ∧
 True ∧
 True ∧
 True ∧
 True ∧
 True ∧
 True ∧
 (True ∧ True) ∧
 True ∧
 True ∧
 True ∧
 True ∧
 True ∧
 True ∧
 True ∧
 (True ∧ True) ∧
 x.1 = x.1 ∧
 (↑x.1.length : Int) = (↑x.1.length : Int) ∧
 g.2.2.2.1 = g.2.2.2.1 ∧
 false = false ∧
 True ∧
 True ∧
 True ∧
 True ∧
 True ∧
 True ∧
 True ∧
 True ∧
 True ∧
 (True ∧ True) ∧
 (True ∧ True) ∧
 (True ∧ True) ∧
 True ∧
 True ∧
 True ∧
 True ∧
 True ∧
 True ∧
 True ∧
 True ∧
 True ∧
 True ∧
 True ∧
 True ∧
 True ∧
 True ∧ True) ∧
 ∀ (g_2 : List Int × Int × Int × Unit),
 ((0 : Int) ≤ g_2.2.1 ∧
 g_2.2.1 ≤ g_2.2.2.1 ∧ g_2.2.2.1 ≤ (↑g.2.1.2.1.length : Int)) ∧
 g_2.1.length = g.2.1.2.1.length ∧
 List.take g_2.2.1.toNat g_2.1 =
 List.filter (fun y ↦ !capF none g.2.1.2.2.2.1 y)
 (List.take g_2.2.2.1.toNat g.2.1.2.1) ∧
 List.drop g_2.2.2.1.toNat g_2.1 = List.drop g_2.2.2.1.toNat g.2.1.2.1 →
 (g_2.1.length ≤ (9223372036854775807 : Nat) ∧
 ∀ (x : Int), x ∈ g_2.1 → (-9223372036854775808 : Int) ≤ x ∧ x ≤ (9223372036854775807 : Int)) ∧
 ((-9223372036854775808 : Int) ≤ g_2.2.1 ∧ g_2.2.1 ≤ (9223372036854775807 : Int)) ∧
 ((-9223372036854775808 : Int) ≤ g_2.2.2.1 ∧ g_2.2.2.1 ≤ (9223372036854775807 : Int)) ∧
 True →
 (decide (g_2.2.2.1 < (↑g_2.1.length : Int)) = true →
 ((0 : Int) ≤ g_2.2.2.1 ∧ g_2.2.2.1 < (↑g_2.1.length : Int)) ∧
 ((!!mval Ty.bool g.2.1.2.2.2.1 (g_2.1.getD g_2.2.2.1.toNat (0 : Int))) =
 true →
 ((0 : Int) ≤ g_2.2.1 ∧ g_2.2.1 < (↑g_2.1.length : Int)) ∧
 ((-9223372036854775808 : Int) ≤ g_2.2.1 + (1 : Int) ∧
 g_2.2.1 + (1 : Int) ≤ (9223372036854775807 : Int)) ∧
 ((-9223372036854775808 : Int) ≤ g_2.2.2.1 + (1 : Int) ∧
 g_2.2.2.1 + (1 : Int) ≤ (9223372036854775807 : Int)) ∧
 ((((0 : Int) ≤ g_2.2.1 + (1 : Int) ∧
 g_2.2.1 + (1 : Int) ≤ g_2.2.2.1 + (1 : Int) ∧
 g_2.2.2.1 + (1 : Int) ≤ (↑g.2.1.2.1.length : Int)) ∧
 (g_2.1.set g_2.2.1.toNat
 (g_2.1.getD g_2.2.2.1.toNat (0 : Int))).length =
 g.2.1.2.1.length ∧
 List.take (g_2.2.1 + (1 : Int)).toNat
 (g_2.1.set g_2.2.1.toNat
 (g_2.1.getD g_2.2.2.1.toNat (0 : Int))) =
 List.filter (fun y ↦ !capF none g.2.1.2.2.2.1 y)
 (List.take (g_2.2.2.1 + (1 : Int)).toNat g.2.1.2.1) ∧
 List.drop (g_2.2.2.1 + (1 : Int)).toNat
 (g_2.1.set g_2.2.1.toNat
 (g_2.1.getD g_2.2.2.1.toNat (0 : Int))) =
 List.drop (g_2.2.2.1 + (1 : Int)).toNat g.2.1.2.1) ∧
 ((↑g.2.1.2.1.length : Int) - (g_2.2.2.1 + (1 : Int))).toNat <
 ((↑g.2.1.2.1.length : Int) - g_2.2.2.1).toNat) ∧
 (True ∧
 True ∧
 g_2.2.1 + (1 : Int) = g_2.2.1 + (1 : Int) ∧
 g_2.2.2.1 + (1 : Int) = g_2.2.2.1 + (1 : Int) ∧ True) ∧
 (g_2.1.set g_2.2.1.toNat (g_2.1.getD g_2.2.2.1.toNat (0 : Int)) =
 g_2.1.set g_2.2.1.toNat (g_2.1.getD g_2.2.2.1.toNat (0 : Int)) ∧
 ((True ∧ True) ∧ True) ∧
 (g.2.1.1 = g.2.1.1 ∧ True ∧ True ∧ True ∧ True ∧ True) ∧
 g.2.1.2.1 = g.2.1.2.1 ∧
 g.2.1.2.2.1 = g.2.1.2.2.1 ∧
 g.2.1.2.2.2.1 = g.2.1.2.2.2.1 ∧
 g.2.1.2.2.2.2 = g.2.1.2.2.2.2 ∧
 g.2.2.1 = g.2.2.1 ∧
 (True ∧ (True ∧ True) ∧ True) ∧ True) ∧
 True ∧
 True ∧
 True ∧
 True ∧
 True ∧
 True ∧
 (True ∧ True) ∧
 True ∧
 True ∧
 True ∧
 True ∧
 True ∧
 True ∧
 True ∧
 (True ∧ True) ∧
 x.1 = x.1 ∧
 (↑x.1.length : Int) = (↑x.1.length : Int) ∧
 g.2.2.2.1 = g.2.2.2.1 ∧
 false = false ∧
 True ∧
 True ∧
 True ∧
 True ∧
 True ∧
 True ∧
 True ∧
 True ∧
 True ∧
 (True ∧ True) ∧
 (True ∧ True) ∧
 (True ∧ True) ∧
 True ∧
 True ∧
 True ∧
 True ∧
 True ∧
 True ∧
 True ∧
 True ∧
 True ∧
 True ∧
 True ∧
 True ∧
 True ∧
 True ∧
 True) ∧
 ((!!mval Ty.bool g.2.1.2.2.2.1 (g_2.1.getD g_2.2.2.1.toNat (0 : Int))) =
 false →
 ((-9223372036854775808 : Int) ≤ g_2.2.2.1 + (1 : Int) ∧
 g_2.2.2.1 + (1 : Int) ≤ (9223372036854775807 : Int)) ∧
 ((((0 : Int) ≤ g_2.2.1 ∧
 g_2.2.1 ≤ g_2.2.2.1 + (1 : Int) ∧
 g_2.2.2.1 + (1 : Int) ≤ (↑g.2.1.2.1.length : Int)) ∧
 g_2.1.length = g.2.1.2.1.length ∧
 List.take g_2.2.1.toNat g_2.1 =
 List.filter (fun y ↦ !capF none g.2.1.2.2.2.1 y)
 (List.take (g_2.2.2.1 + (1 : Int)).toNat g.2.1.2.1) ∧
 List.drop (g_2.2.2.1 + (1 : Int)).toNat g_2.1 =
 List.drop (g_2.2.2.1 + (1 : Int)).toNat g.2.1.2.1) ∧
 ((↑g.2.1.2.1.length : Int) - (g_2.2.2.1 + (1 : Int))).toNat <
 ((↑g.2.1.2.1.length : Int) - g_2.2.2.1).toNat) ∧
 (True ∧
 True ∧
 g_2.2.1 = g_2.2.1 ∧
 g_2.2.2.1 + (1 : Int) = g_2.2.2.1 + (1 : Int) ∧ True) ∧
 (g_2.1 = g_2.1 ∧
 ((True ∧ True) ∧ True) ∧
 (g.2.1.1 = g.2.1.1 ∧ True ∧ True ∧ True ∧ True ∧ True) ∧
 g.2.1.2.1 = g.2.1.2.1 ∧
 g.2.1.2.2.1 = g.2.1.2.2.1 ∧
 g.2.1.2.2.2.1 = g.2.1.2.2.2.1 ∧
 g.2.1.2.2.2.2 = g.2.1.2.2.2.2 ∧
 g.2.2.1 = g.2.2.1 ∧ (True ∧ (True ∧ True) ∧ True) ∧ True) ∧
 True ∧
 True ∧
 True ∧
 True ∧
 True ∧
 True ∧
 (True ∧ True) ∧
 True ∧
 True ∧
 True ∧
 True ∧
 True ∧
 True ∧
 True ∧
 (True ∧ True) ∧
 x.1 = x.1 ∧
 (↑x.1.length : Int) = (↑x.1.length : Int) ∧
 g.2.2.2.1 = g.2.2.2.1 ∧
 false = false ∧
 True ∧
 True ∧
 True ∧
 True ∧
 True ∧
 True ∧
 True ∧
 True ∧
 True ∧
 (True ∧ True) ∧
 (True ∧ True) ∧
 (True ∧ True) ∧
 True ∧
 True ∧
 True ∧
 True ∧
 True ∧
 True ∧
 True ∧
 True ∧
 True ∧
 True ∧
 True ∧
 True ∧
 True ∧
 True ∧
 True)) ∧
 (decide (g_2.2.2.1 < (↑g_2.1.length : Int)) = false →
 (((0 : Int) ≤ g_2.2.1 ∧ g_2.2.1 ≤ (↑g_2.1.length : Int)) ∧
 (↑g_2.1.length : Int) ≤ (↑g_2.1.length : Int)) ∧
 (((0 : Int) ≤ (0 : Int) ∧ (0 : Int) ≤ g_2.2.1) ∧
 g_2.2.1 ≤
 (↑(List.take g_2.2.1.toNat g_2.1 ++
 (List.replicate ((↑g_2.1.length : Int).toNat - g_2.2.1.toNat) (0 : Int) ++
 List.drop
 (g_2.2.1.toNat + ((↑g_2.1.length : Int).toNat - g_2.2.1.toNat))
 g_2.1)).length :
 Int)) ∧
 g.2.2.1 = (play x.1).1 ∧
 g.2.1.2.2.2.2 = (play x.1).2.1 ∧
 List.drop (nat_lit 0)
 (List.take g_2.2.1.toNat
 (List.take g_2.2.1.toNat g_2.1 ++
 (List.replicate ((↑g_2.1.length : Int).toNat - g_2.2.1.toNat) (0 : Int) ++
 List.drop
 (g_2.2.1.toNat + ((↑g_2.1.length : Int).toNat - g_2.2.1.toNat))
 g_2.1))) =
 (play x.1).2.2.1 ∧
 g.2.1.1 = (play x.1).2.2.2.1))) ∧
 ((!mval Ty.bool g.2.1.2.2.2.1 (g.2.1.2.1.getD g_1.1.toNat (0 : Int))) = false →
 ((-9223372036854775808 : Int) ≤ g_1.1 + (1 : Int) ∧ g_1.1 + (1 : Int) ≤ (9223372036854775807 : Int)) ∧
 (((0 : Int) ≤ g_1.1 + (1 : Int) ∧
 g_1.1 + (1 : Int) ≤ (↑g.2.1.2.1.length : Int) ∧
 ((List.take (g_1.1 + (1 : Int)).toNat g.2.1.2.1).any fun y ↦
 capF none g.2.1.2.2.2.1 y) =
 false) ∧
 ((↑g.2.1.2.1.length : Int) - (g_1.1 + (1 : Int))).toNat <
 ((↑g.2.1.2.1.length : Int) - g_1.1).toNat) ∧
 (True ∧
 True ∧
 (↑g.2.1.2.1.length : Int) = (↑g.2.1.2.1.length : Int) ∧
 g_1.1 + (1 : Int) = g_1.1 + (1 : Int) ∧ True) ∧
 (g.2.1.2.1 = g.2.1.2.1 ∧
 (True ∧ (True ∧ True) ∧ True) ∧
 ((True ∧ True) ∧ True) ∧
 (g.2.1.1 = g.2.1.1 ∧ True ∧ True ∧ True ∧ True ∧ True) ∧
 g.2.1.2.1 = g.2.1.2.1 ∧
 g.2.1.2.2.1 = g.2.1.2.2.1 ∧
 g.2.1.2.2.2.1 = g.2.1.2.2.2.1 ∧
 g.2.1.2.2.2.2 = g.2.1.2.2.2.2 ∧ g.2.2.1 = g.2.2.1 ∧ True) ∧
 True ∧
 True ∧
 True ∧
 True ∧
 Value.slice none (0 : Nat) (0 : Nat) = Value.slice none (0 : Nat) (0 : Nat) ∧
 True ∧
 True ∧
 True ∧
 True ∧
 True ∧
 True ∧
 True ∧
 True ∧
 True ∧
 True ∧
 True ∧
 True ∧
 True ∧
 True ∧
 True ∧
 True ∧
 True ∧
 True ∧
 True ∧
 True ∧
 True ∧
 True ∧
 True ∧
 True ∧
 True ∧
 True ∧
 True ∧
 True ∧
 True ∧
 True ∧
 True ∧
 True ∧
 True ∧
 True ∧
 True ∧
 True ∧
 True ∧
 True ∧
 True ∧
 True ∧
 True ∧
 True ∧
 True ∧
 (True ∧
 True) ∧
 True ∧
 True ∧
 True ∧
 True ∧
 True ∧
 True ∧
 True ∧
 (True ∧
 True) ∧
 x.1 =
 x.1 ∧
 (↑x.1.length :
 Int) =
 (↑x.1.length :
 Int) ∧
 g.2.2.2.1 =
 g.2.2.2.1 ∧
 false =
 false ∧
 True ∧
 True ∧
 True ∧
 True ∧
 True ∧
 True ∧
 True ∧
 True ∧
 True ∧
 (True ∧
 True) ∧
 (True ∧
 True) ∧
 (True ∧
 True) ∧
 True ∧
 True ∧
 True ∧
 True ∧
 True ∧
 True ∧
 True ∧
 True ∧
 True ∧
 True ∧
 True ∧
 True ∧
 True ∧
 True ∧
 True)) ∧
 (decide (g_1.1 < (↑g.2.1.2.1.length : Int)) = false →
 (((-1 : Int) == (-1 : Int)) = true →
 g.2.2.1 = (play x.1).1 ∧
 g.2.1.2.2.2.2 = (play x.1).2.1 ∧
 g.2.1.2.1 = (play x.1).2.2.1 ∧ g.2.1.1 = (play x.1).2.2.2.1) ∧
 (((-1 : Int) == (-1 : Int)) = false →
 ((-9223372036854775808 : Int) ≤ (-1 : Int) + (1 : Int) ∧ (-1 : Int) + (1 : Int) ≤ (9223372036854775807 : Int)) ∧
 (((((0 : Int) ≤ (-1 : Int) ∧
 (-1 : Int) ≤ (-1 : Int) + (1 : Int) ∧ (-1 : Int) + (1 : Int) ≤ (↑g.2.1.2.1.length : Int)) ∧
 g.2.1.2.1.length = g.2.1.2.1.length ∧
 List.take (-1 : Int).toNat g.2.1.2.1 =
 List.filter (fun y ↦ !capF none g.2.1.2.2.2.1 y)
 (List.take ((-1 : Int) + (1 : Int)).toNat g.2.1.2.1) ∧
 List.drop ((-1 : Int) + (1 : Int)).toNat g.2.1.2.1 =
 List.drop ((-1 : Int) + (1 : Int)).toNat g.2.1.2.1) ∧
 True) ∧
 (True ∧ True ∧ (-1 : Int) = (-1 : Int) ∧ (-1 : Int) + (1 : Int) = (-1 : Int) + (1 : Int) ∧ True) ∧
 (g.2.1.2.1 = g.2.1.2.1 ∧
 ((True ∧ True) ∧ True) ∧
 (g.2.1.1 = g.2.1.1 ∧ True ∧ True ∧ True ∧ True ∧ True) ∧
 g.2.1.2.1 = g.2.1.2.1 ∧
 g.2.1.2.2.1 = g.2.1.2.2.1 ∧
 g.2.1.2.2.2.1 = g.2.1.2.2.2.1 ∧
 g.2.1.2.2.2.2 = g.2.1.2.2.2.2 ∧
 g.2.2.1 = g.2.2.1 ∧ (True ∧ (True ∧ True) ∧ True) ∧ True) ∧
 True ∧
 True ∧
 True ∧
 True ∧
 True ∧
 True ∧
 (True ∧ True) ∧
 True ∧
 True ∧
 True ∧
 True ∧
 True ∧
 True ∧
 True ∧
 (True ∧ True) ∧
 x.1 = x.1 ∧
 (↑x.1.length : Int) = (↑x.1.length : Int) ∧
 g.2.2.2.1 = g.2.2.2.1 ∧
 false = false ∧
 True ∧
 True ∧
 True ∧
 True ∧
 True ∧
 True ∧
 True ∧
 True ∧
 True ∧
 (True ∧ True) ∧
 (True ∧ True) ∧
 (True ∧ True) ∧
 True ∧
 True ∧
 True ∧
 True ∧
 True ∧
 True ∧
 True ∧
 True ∧
 True ∧
 True ∧
 True ∧
 True ∧
 True ∧ True ∧ True) ∧
 ∀ (g_2 : List Int × Int × Int × Unit),
 ((0 : Int) ≤ g_2.2.1 ∧ g_2.2.1 ≤ g_2.2.2.1 ∧ g_2.2.2.1 ≤ (↑g.2.1.2.1.length : Int)) ∧
 g_2.1.length = g.2.1.2.1.length ∧
 List.take g_2.2.1.toNat g_2.1 =
 List.filter (fun y ↦ !capF none g.2.1.2.2.2.1 y)
 (List.take g_2.2.2.1.toNat g.2.1.2.1) ∧
 List.drop g_2.2.2.1.toNat g_2.1 = List.drop g_2.2.2.1.toNat g.2.1.2.1 →
 (g_2.1.length ≤ (9223372036854775807 : Nat) ∧
 ∀ (x : Int), x ∈ g_2.1 → (-9223372036854775808 : Int) ≤ x ∧ x ≤ (9223372036854775807 : Int)) ∧
 ((-9223372036854775808 : Int) ≤ g_2.2.1 ∧ g_2.2.1 ≤ (9223372036854775807 : Int)) ∧
 ((-9223372036854775808 : Int) ≤ g_2.2.2.1 ∧ g_2.2.2.1 ≤ (9223372036854775807 : Int)) ∧ True →
 (decide (g_2.2.2.1 < (↑g_2.1.length : Int)) = true →
 ((0 : Int) ≤ g_2.2.2.1 ∧ g_2.2.2.1 < (↑g_2.1.length : Int)) ∧
 ((!!mval Ty.bool g.2.1.2.2.2.1 (g_2.1.getD g_2.2.2.1.toNat (0 : Int))) = true →
 ((0 : Int) ≤ g_2.2.1 ∧ g_2.2.1 < (↑g_2.1.length : Int)) ∧
 ((-9223372036854775808 : Int) ≤ g_2.2.1 + (1 : Int) ∧
 g_2.2.1 + (1 : Int) ≤ (9223372036854775807 : Int)) ∧
 ((-9223372036854775808 : Int) ≤ g_2.2.2.1 + (1 : Int) ∧
 g_2.2.2.1 + (1 : Int) ≤ (9223372036854775807 : Int)) ∧
 ((((0 : Int) ≤ g_2.2.1 + (1 : Int) ∧
 g_2.2.1 + (1 : Int) ≤ g_2.2.2.1 + (1 : Int) ∧
 g_2.2.2.1 + (1 : Int) ≤ (↑g.2.1.2.1.length : Int)) ∧
 (g_2.1.set g_2.2.1.toNat (g_2.1.getD g_2.2.2.1.toNat (0 : Int))).length =
 g.2.1.2.1.length ∧
 List.take (g_2.2.1 + (1 : Int)).toNat
 (g_2.1.set g_2.2.1.toNat (g_2.1.getD g_2.2.2.1.toNat (0 : Int))) =
 List.filter (fun y ↦ !capF none g.2.1.2.2.2.1 y)
 (List.take (g_2.2.2.1 + (1 : Int)).toNat g.2.1.2.1) ∧
 List.drop (g_2.2.2.1 + (1 : Int)).toNat
 (g_2.1.set g_2.2.1.toNat (g_2.1.getD g_2.2.2.1.toNat (0 : Int))) =
 List.drop (g_2.2.2.1 + (1 : Int)).toNat g.2.1.2.1) ∧
 ((↑g.2.1.2.1.length : Int) - (g_2.2.2.1 + (1 : Int))).toNat <
 ((↑g.2.1.2.1.length : Int) - g_2.2.2.1).toNat) ∧
 (True ∧
 True ∧
 g_2.2.1 + (1 : Int) = g_2.2.1 + (1 : Int) ∧
 g_2.2.2.1 + (1 : Int) = g_2.2.2.1 + (1 : Int) ∧ True) ∧
 (g_2.1.set g_2.2.1.toNat (g_2.1.getD g_2.2.2.1.toNat (0 : Int)) =
 g_2.1.set g_2.2.1.toNat (g_2.1.getD g_2.2.2.1.toNat (0 : Int)) ∧
 ((True ∧ True) ∧ True) ∧
 (g.2.1.1 = g.2.1.1 ∧ True ∧ True ∧ True ∧ True ∧ True) ∧
 g.2.1.2.1 = g.2.1.2.1 ∧
 g.2.1.2.2.1 = g.2.1.2.2.1 ∧
 g.2.1.2.2.2.1 = g.2.1.2.2.2.1 ∧
 g.2.1.2.2.2.2 = g.2.1.2.2.2.2 ∧
 g.2.2.1 = g.2.2.1 ∧ (True ∧ (True ∧ True) ∧ True) ∧ True) ∧
 True ∧
 True ∧
 True ∧
 True ∧
 True ∧
 True ∧
 (True ∧ True) ∧
 True ∧
 True ∧
 True ∧
 True ∧
 True ∧
 True ∧
 True ∧
 (True ∧ True) ∧
 x.1 = x.1 ∧
 (↑x.1.length : Int) = (↑x.1.length : Int) ∧
 g.2.2.2.1 = g.2.2.2.1 ∧
 false = false ∧
 True ∧
 True ∧
 True ∧
 True ∧
 True ∧
 True ∧
 True ∧
 True ∧
 True ∧
 (True ∧ True) ∧
 (True ∧ True) ∧
 (True ∧ True) ∧
 True ∧
 True ∧
 True ∧
 True ∧
 True ∧
 True ∧
 True ∧
 True ∧
 True ∧
 True ∧
 True ∧
 True ∧
 True ∧
 True ∧
 True) ∧
 ((!!mval Ty.bool g.2.1.2.2.2.1 (g_2.1.getD g_2.2.2.1.toNat (0 : Int))) = false →
 ((-9223372036854775808 : Int) ≤ g_2.2.2.1 + (1 : Int) ∧
 g_2.2.2.1 + (1 : Int) ≤ (9223372036854775807 : Int)) ∧
 ((((0 : Int) ≤ g_2.2.1 ∧
 g_2.2.1 ≤ g_2.2.2.1 + (1 : Int) ∧
 g_2.2.2.1 + (1 : Int) ≤ (↑g.2.1.2.1.length : Int)) ∧
 g_2.1.length = g.2.1.2.1.length ∧
 List.take g_2.2.1.toNat g_2.1 =
 List.filter (fun y ↦ !capF none g.2.1.2.2.2.1 y)
 (List.take (g_2.2.2.1 + (1 : Int)).toNat g.2.1.2.1) ∧
 List.drop (g_2.2.2.1 + (1 : Int)).toNat g_2.1 =
 List.drop (g_2.2.2.1 + (1 : Int)).toNat g.2.1.2.1) ∧
 ((↑g.2.1.2.1.length : Int) - (g_2.2.2.1 + (1 : Int))).toNat <
 ((↑g.2.1.2.1.length : Int) - g_2.2.2.1).toNat) ∧
 (True ∧
 True ∧
 g_2.2.1 = g_2.2.1 ∧
 g_2.2.2.1 + (1 : Int) = g_2.2.2.1 + (1 : Int) ∧ True) ∧
 (g_2.1 = g_2.1 ∧
 ((True ∧ True) ∧ True) ∧
 (g.2.1.1 = g.2.1.1 ∧ True ∧ True ∧ True ∧ True ∧ True) ∧
 g.2.1.2.1 = g.2.1.2.1 ∧
 g.2.1.2.2.1 = g.2.1.2.2.1 ∧
 g.2.1.2.2.2.1 = g.2.1.2.2.2.1 ∧
 g.2.1.2.2.2.2 = g.2.1.2.2.2.2 ∧
 g.2.2.1 = g.2.2.1 ∧ (True ∧ (True ∧ True) ∧ True) ∧ True) ∧
 True ∧
 True ∧
 True ∧
 True ∧
 True ∧
 True ∧
 (True ∧ True) ∧
 True ∧
 True ∧
 True ∧
 True ∧
 True ∧
 True ∧
 True ∧
 (True ∧ True) ∧
 x.1 = x.1 ∧
 (↑x.1.length : Int) = (↑x.1.length : Int) ∧
 g.2.2.2.1 = g.2.2.2.1 ∧
 false = false ∧
 True ∧
 True ∧
 True ∧
 True ∧
 True ∧
 True ∧
 True ∧
 True ∧
 True ∧
 (True ∧ True) ∧
 (True ∧ True) ∧
 (True ∧ True) ∧
 True ∧
 True ∧
 True ∧
 True ∧
 True ∧
 True ∧
 True ∧
 True ∧
 True ∧
 True ∧
 True ∧
 True ∧
 True ∧
 True ∧
 True)) ∧
 (decide (g_2.2.2.1 < (↑g_2.1.length : Int)) = false →
 (((0 : Int) ≤ g_2.2.1 ∧ g_2.2.1 ≤ (↑g_2.1.length : Int)) ∧
 (↑g_2.1.length : Int) ≤ (↑g_2.1.length : Int)) ∧
 (((0 : Int) ≤ (0 : Int) ∧ (0 : Int) ≤ g_2.2.1) ∧
 g_2.2.1 ≤
 (↑(List.take g_2.2.1.toNat g_2.1 ++
 (List.replicate ((↑g_2.1.length : Int).toNat - g_2.2.1.toNat) (0 : Int) ++
 List.drop (g_2.2.1.toNat + ((↑g_2.1.length : Int).toNat - g_2.2.1.toNat))
 g_2.1)).length :
 Int)) ∧
 g.2.2.1 = (play x.1).1 ∧
 g.2.1.2.2.2.2 = (play x.1).2.1 ∧
 List.drop (nat_lit 0)
 (List.take g_2.2.1.toNat
 (List.take g_2.2.1.toNat g_2.1 ++
 (List.replicate ((↑g_2.1.length : Int).toNat - g_2.2.1.toNat) (0 : Int) ++
 List.drop (g_2.2.1.toNat + ((↑g_2.1.length : Int).toNat - g_2.2.1.toNat))
 g_2.1))) =
 (play x.1).2.2.1 ∧
 g.2.1.1 = (play x.1).2.2.2.1))))

theorem E_play_eq (x : HL (cPlay : Ctr).as) : vc (fx_play x) 6 30 Try.f30 (cPlay) x = E_play x := by kernel_rfl

end Go.Proofs.Ytlkhpbjjimjhbaa.Waitp
