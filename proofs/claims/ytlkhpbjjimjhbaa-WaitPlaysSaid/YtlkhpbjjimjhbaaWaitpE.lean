/-
  The conditions that the executor comes to, written out (by a tool of ours), and that they are the conditions (by the kernel).
-/
import Derived.Test.YtlkhpbjjimjhbaaWaitpE1
namespace Go.Proofs.Ytlkhpbjjimjhbaa.Waitp
open Go.Sx
set_option maxRecDepth 100000

def E_oplay (x : List (Int × Int) × Unit) : Prop :=
 ((((0 : Int) ≤ (0 : Int) ∧
 (0 : Int) ≤ (↑x.fst.length : Int) ∧
 (↑([] : List Int).length : Int) = (0 : Int) ∧
 pl (List.take (Int.toNat (0 : Int)) x.fst) = ((([] : List (Int × Int)), (0 : Int), ([] : List Int)), ([] : List Int)) ∧
 good (([] : List (Int × Int)), (0 : Int), ([] : List Int)) (0 : Int)) ∧
 True) ∧
 ((True ∧ True) ∧
 True ∧
 True ∧
 Value.slice none (0 : Nat) (0 : Nat) = Value.slice none (0 : Nat) (0 : Nat) ∧
 (0 : Int) = (0 : Int) ∧ True ∧ x.fst = x.fst ∧ (↑x.fst.length : Int) = (↑x.fst.length : Int) ∧ (0 : Int) = (0 : Int) ∧ True) ∧
 ((True ∧ True) ∧
 ([] : List (Int × Int)) = ([] : List (Int × Int)) ∧
 ([] : List Int) = ([] : List Int) ∧ ([] : List Int) = ([] : List Int) ∧ (True ∧ (True ∧ True) ∧ True) ∧ True) ∧
 True) ∧
 ∀ (g : List (Int × Int) × List Int × List Int × Int × Int × Unit),
 (0 : Int) ≤ g.snd.snd.snd.snd.fst ∧
 g.snd.snd.snd.snd.fst ≤ (↑x.fst.length : Int) ∧
 (↑g.snd.fst.length : Int) = g.snd.snd.snd.snd.fst ∧
 pl (List.take g.snd.snd.snd.snd.fst.toNat x.fst) = ((g.fst, g.snd.snd.snd.fst, g.snd.snd.fst), g.snd.fst) ∧
 good (g.fst, g.snd.snd.snd.fst, g.snd.snd.fst) g.snd.snd.snd.snd.fst →
 (g.fst.length ≤ (9223372036854775807 : Nat) ∧
 ∀ (x : Int × Int),
 x ∈ g.fst →
 ((-9223372036854775808 : Int) ≤ x.fst ∧ x.fst ≤ (9223372036854775807 : Int)) ∧
 (-9223372036854775808 : Int) ≤ x.snd ∧ x.snd ≤ (9223372036854775807 : Int)) ∧
 (g.snd.fst.length ≤ (9223372036854775807 : Nat) ∧
 ∀ (x : Int), x ∈ g.snd.fst → (-9223372036854775808 : Int) ≤ x ∧ x ≤ (9223372036854775807 : Int)) ∧
 (g.snd.snd.fst.length ≤ (9223372036854775807 : Nat) ∧
 ∀ (x : Int), x ∈ g.snd.snd.fst → (-9223372036854775808 : Int) ≤ x ∧ x ≤ (9223372036854775807 : Int)) ∧
 ((-9223372036854775808 : Int) ≤ g.snd.snd.snd.fst ∧ g.snd.snd.snd.fst ≤ (9223372036854775807 : Int)) ∧
 ((-9223372036854775808 : Int) ≤ g.snd.snd.snd.snd.fst ∧ g.snd.snd.snd.snd.fst ≤ (9223372036854775807 : Int)) ∧ True →
 (decide (g.snd.snd.snd.snd.fst < (↑x.fst.length : Int)) = true →
 ((0 : Int) ≤ g.snd.snd.snd.snd.fst ∧ g.snd.snd.snd.snd.fst < (↑x.fst.length : Int)) ∧
 ((((0 : Int) ≤ (0 : Int) ∧
 (0 : Int) ≤ (↑g.fst.length : Int) ∧
 (-1 : Int) =
 if pos g.fst (x.fst.getD g.snd.snd.snd.snd.fst.toNat ((0 : Int), (0 : Int))).snd < (0 : Int) then
 pos g.fst (x.fst.getD g.snd.snd.snd.snd.fst.toNat ((0 : Int), (0 : Int))).snd
 else (-1 : Int)) ∧
 True) ∧
 ((True ∧ True) ∧
 True ∧
 True ∧
 Value.slice none (0 : Nat) (0 : Nat) = Value.slice none (0 : Nat) (0 : Nat) ∧
 g.snd.snd.snd.fst = g.snd.snd.snd.fst ∧
 True ∧
 (True ∧ True) ∧
 (-1 : Int) = (-1 : Int) ∧
 (0 : Int) = (0 : Int) ∧
 x.fst = x.fst ∧
 (↑x.fst.length : Int) = (↑x.fst.length : Int) ∧
 g.snd.snd.snd.snd.fst = g.snd.snd.snd.snd.fst ∧
 True ∧ (↑g.fst.length : Int) = (↑g.fst.length : Int) ∧ (0 : Int) = (0 : Int) ∧ True) ∧
 ((True ∧ True) ∧
 g.fst = g.fst ∧
 g.snd.fst = g.snd.fst ∧
 g.snd.snd.fst = g.snd.snd.fst ∧
 (True ∧ (True ∧ True) ∧ True) ∧
 ((x.fst.getD g.snd.snd.snd.snd.fst.toNat ((0 : Int), (0 : Int))).fst =
 (x.fst.getD g.snd.snd.snd.snd.fst.toNat ((0 : Int), (0 : Int))).fst ∧
 (x.fst.getD g.snd.snd.snd.snd.fst.toNat ((0 : Int), (0 : Int))).snd =
 (x.fst.getD g.snd.snd.snd.snd.fst.toNat ((0 : Int), (0 : Int))).snd ∧
 True) ∧
 True) ∧
 True) ∧
 ∀ (g_1 : Int × Int × Unit),
 ((0 : Int) ≤ g_1.snd.fst ∧
 g_1.snd.fst ≤ (↑g.fst.length : Int) ∧
 g_1.fst =
 if pos g.fst (x.fst.getD g.snd.snd.snd.snd.fst.toNat ((0 : Int), (0 : Int))).snd < g_1.snd.fst then
 pos g.fst (x.fst.getD g.snd.snd.snd.snd.fst.toNat ((0 : Int), (0 : Int))).snd
 else (-1 : Int)) →
 ((-9223372036854775808 : Int) ≤ g_1.fst ∧ g_1.fst ≤ (9223372036854775807 : Int)) ∧
 ((-9223372036854775808 : Int) ≤ g_1.snd.fst ∧ g_1.snd.fst ≤ (9223372036854775807 : Int)) ∧ True →
 (decide (g_1.snd.fst < (↑g.fst.length : Int)) = true →
 ((0 : Int) ≤ g_1.snd.fst ∧ g_1.snd.fst < (↑g.fst.length : Int)) ∧
 (((g.fst.getD g_1.snd.fst.toNat ((0 : Int), (0 : Int))).fst ==
 (x.fst.getD g.snd.snd.snd.snd.fst.toNat ((0 : Int), (0 : Int))).snd) =
 true →
 ((-9223372036854775808 : Int) ≤ g_1.snd.fst + (1 : Int) ∧ g_1.snd.fst + (1 : Int) ≤ (9223372036854775807 : Int)) ∧
 (((0 : Int) ≤ g_1.snd.fst + (1 : Int) ∧
 g_1.snd.fst + (1 : Int) ≤ (↑g.fst.length : Int) ∧
 g_1.snd.fst =
 if
 pos g.fst (x.fst.getD g.snd.snd.snd.snd.fst.toNat ((0 : Int), (0 : Int))).snd <
 g_1.snd.fst + (1 : Int) then
 pos g.fst (x.fst.getD g.snd.snd.snd.snd.fst.toNat ((0 : Int), (0 : Int))).snd
 else (-1 : Int)) ∧
 ((↑g.fst.length : Int) - (g_1.snd.fst + (1 : Int))).toNat < ((↑g.fst.length : Int) - g_1.snd.fst).toNat) ∧
 ((True ∧ True) ∧
 True ∧
 True ∧
 Value.slice none (0 : Nat) (0 : Nat) = Value.slice none (0 : Nat) (0 : Nat) ∧
 g.snd.snd.snd.fst = g.snd.snd.snd.fst ∧
 True ∧
 (True ∧ True) ∧
 g_1.snd.fst = g_1.snd.fst ∧
 (0 : Int) = (0 : Int) ∧
 x.fst = x.fst ∧
 (↑x.fst.length : Int) = (↑x.fst.length : Int) ∧
 g.snd.snd.snd.snd.fst = g.snd.snd.snd.snd.fst ∧
 True ∧
 (↑g.fst.length : Int) = (↑g.fst.length : Int) ∧
 g_1.snd.fst + (1 : Int) = g_1.snd.fst + (1 : Int) ∧ True) ∧
 ((True ∧ True) ∧
 g.fst = g.fst ∧
 g.snd.fst = g.snd.fst ∧
 g.snd.snd.fst = g.snd.snd.fst ∧
 (True ∧ (True ∧ True) ∧ True) ∧
 ((x.fst.getD g.snd.snd.snd.snd.fst.toNat ((0 : Int), (0 : Int))).fst =
 (x.fst.getD g.snd.snd.snd.snd.fst.toNat ((0 : Int), (0 : Int))).fst ∧
 (x.fst.getD g.snd.snd.snd.snd.fst.toNat ((0 : Int), (0 : Int))).snd =
 (x.fst.getD g.snd.snd.snd.snd.fst.toNat ((0 : Int), (0 : Int))).snd ∧
 True) ∧
 True) ∧
 True) ∧
 (((g.fst.getD g_1.snd.fst.toNat ((0 : Int), (0 : Int))).fst ==
 (x.fst.getD g.snd.snd.snd.snd.fst.toNat ((0 : Int), (0 : Int))).snd) =
 false →
 ((-9223372036854775808 : Int) ≤ g_1.snd.fst + (1 : Int) ∧ g_1.snd.fst + (1 : Int) ≤ (9223372036854775807 : Int)) ∧
 (((0 : Int) ≤ g_1.snd.fst + (1 : Int) ∧
 g_1.snd.fst + (1 : Int) ≤ (↑g.fst.length : Int) ∧
 g_1.fst =
 if
 pos g.fst (x.fst.getD g.snd.snd.snd.snd.fst.toNat ((0 : Int), (0 : Int))).snd <
 g_1.snd.fst + (1 : Int) then
 pos g.fst (x.fst.getD g.snd.snd.snd.snd.fst.toNat ((0 : Int), (0 : Int))).snd
 else (-1 : Int)) ∧
 ((↑g.fst.length : Int) - (g_1.snd.fst + (1 : Int))).toNat < ((↑g.fst.length : Int) - g_1.snd.fst).toNat) ∧
 ((True ∧ True) ∧
 True ∧
 True ∧
 Value.slice none (0 : Nat) (0 : Nat) = Value.slice none (0 : Nat) (0 : Nat) ∧
 g.snd.snd.snd.fst = g.snd.snd.snd.fst ∧
 True ∧
 (True ∧ True) ∧
 g_1.fst = g_1.fst ∧
 (0 : Int) = (0 : Int) ∧
 x.fst = x.fst ∧
 (↑x.fst.length : Int) = (↑x.fst.length : Int) ∧
 g.snd.snd.snd.snd.fst = g.snd.snd.snd.snd.fst ∧
 True ∧
 (↑g.fst.length : Int) = (↑g.fst.length : Int) ∧
 g_1.snd.fst + (1 : Int) = g_1.snd.fst + (1 : Int) ∧ True) ∧
 ((True ∧ True) ∧
 g.fst = g.fst ∧
 g.snd.fst = g.snd.fst ∧
 g.snd.snd.fst = g.snd.snd.fst ∧
 (True ∧ (True ∧ True) ∧ True) ∧
 ((x.fst.getD g.snd.snd.snd.snd.fst.toNat ((0 : Int), (0 : Int))).fst =
 (x.fst.getD g.snd.snd.snd.snd.fst.toNat ((0 : Int), (0 : Int))).fst ∧
 (x.fst.getD g.snd.snd.snd.snd.fst.toNat ((0 : Int), (0 : Int))).snd =
 (x.fst.getD g.snd.snd.snd.snd.fst.toNat ((0 : Int), (0 : Int))).snd ∧
 True) ∧
 True) ∧
 True)) ∧
 (decide (g_1.snd.fst < (↑g.fst.length : Int)) = false →
 ((!(x.fst.getD g.snd.snd.snd.snd.fst.toNat ((0 : Int), (0 : Int))).fst == (1 : Int)) = true →
 (!(x.fst.getD g.snd.snd.snd.snd.fst.toNat ((0 : Int), (0 : Int))).fst == (1 : Int)) = true) ∧
 ((!(x.fst.getD g.snd.snd.snd.snd.fst.toNat ((0 : Int), (0 : Int))).fst == (1 : Int)) = true →
 (!(x.fst.getD g.snd.snd.snd.snd.fst.toNat ((0 : Int), (0 : Int))).fst == (1 : Int)) = true) ∧
 (((x.fst.getD g.snd.snd.snd.snd.fst.toNat ((0 : Int), (0 : Int))).fst == (1 : Int)) = false →
 (!(x.fst.getD g.snd.snd.snd.snd.fst.toNat ((0 : Int), (0 : Int))).fst == (1 : Int)) = true) ∧
 ((!((x.fst.getD g.snd.snd.snd.snd.fst.toNat ((0 : Int), (0 : Int))).fst == (1 : Int) ||
 (x.fst.getD g.snd.snd.snd.snd.fst.toNat ((0 : Int), (0 : Int))).fst == (2 : Int))) =
 true →
 (!((x.fst.getD g.snd.snd.snd.snd.fst.toNat ((0 : Int), (0 : Int))).fst == (1 : Int) ||
 (x.fst.getD g.snd.snd.snd.snd.fst.toNat ((0 : Int), (0 : Int))).fst == (2 : Int))) =
 true) ∧
 ((!((x.fst.getD g.snd.snd.snd.snd.fst.toNat ((0 : Int), (0 : Int))).fst == (1 : Int) ||
 (x.fst.getD g.snd.snd.snd.snd.fst.toNat ((0 : Int), (0 : Int))).fst == (2 : Int))) =
 true →
 (!((x.fst.getD g.snd.snd.snd.snd.fst.toNat ((0 : Int), (0 : Int))).fst == (1 : Int) ||
 (x.fst.getD g.snd.snd.snd.snd.fst.toNat ((0 : Int), (0 : Int))).fst == (2 : Int))) =
 true) ∧
 (((x.fst.getD g.snd.snd.snd.snd.fst.toNat ((0 : Int), (0 : Int))).fst == (1 : Int) ||
 (x.fst.getD g.snd.snd.snd.snd.fst.toNat ((0 : Int), (0 : Int))).fst == (2 : Int)) =
 false →
 (!((x.fst.getD g.snd.snd.snd.snd.fst.toNat ((0 : Int), (0 : Int))).fst == (1 : Int) ||
 (x.fst.getD g.snd.snd.snd.snd.fst.toNat ((0 : Int), (0 : Int))).fst == (2 : Int))) =
 true) ∧
 ((!decide ((x.fst.getD g.snd.snd.snd.snd.fst.toNat ((0 : Int), (0 : Int))).fst < (1 : Int))) = true →
 (!decide ((x.fst.getD g.snd.snd.snd.snd.fst.toNat ((0 : Int), (0 : Int))).fst < (1 : Int))) = true) ∧
 ((!decide ((x.fst.getD g.snd.snd.snd.snd.fst.toNat ((0 : Int), (0 : Int))).fst < (1 : Int))) = true →
 (!decide ((x.fst.getD g.snd.snd.snd.snd.fst.toNat ((0 : Int), (0 : Int))).fst < (1 : Int))) = true) ∧
 (decide ((x.fst.getD g.snd.snd.snd.snd.fst.toNat ((0 : Int), (0 : Int))).fst < (1 : Int)) = false →
 (!decide ((x.fst.getD g.snd.snd.snd.snd.fst.toNat ((0 : Int), (0 : Int))).fst < (1 : Int))) = true) ∧
 ((decide ((x.fst.getD g.snd.snd.snd.snd.fst.toNat ((0 : Int), (0 : Int))).fst < (1 : Int)) ||
 decide ((5 : Int) < (x.fst.getD g.snd.snd.snd.snd.fst.toNat ((0 : Int), (0 : Int))).fst)) =
 true →
 (g.snd.fst.length + (((0 : Int) :: ([] : List Int)).set (0 : Nat) (5 : Int)).length ≤
 (9223372036854775807 : Nat) ∧
 (g.snd.fst.length + (((0 : Int) :: ([] : List Int)).set (0 : Nat) (5 : Int)).length +
 (g.snd.fst.length + (((0 : Int) :: ([] : List Int)).set (0 : Nat) (5 : Int)).length) /
 (4 : Nat) +
 (192 : Nat)) *
 (8 : Nat) ≤
 (281474976710656 : Nat)) ∧
 ((-9223372036854775808 : Int) ≤ g.snd.snd.snd.snd.fst + (1 : Int) ∧
 g.snd.snd.snd.snd.fst + (1 : Int) ≤ (9223372036854775807 : Int)) ∧
 (((0 : Int) ≤ g.snd.snd.snd.snd.fst + (1 : Int) ∧
 g.snd.snd.snd.snd.fst + (1 : Int) ≤ (↑x.fst.length : Int) ∧
 (↑(g.snd.fst ++ ((0 : Int) :: ([] : List Int)).set (0 : Nat) (5 : Int)).length : Int) =
 g.snd.snd.snd.snd.fst + (1 : Int) ∧
 pl (List.take (g.snd.snd.snd.snd.fst + (1 : Int)).toNat x.fst) =
 ((g.fst, g.snd.snd.snd.fst, g.snd.snd.fst),
 g.snd.fst ++ ((0 : Int) :: ([] : List Int)).set (0 : Nat) (5 : Int)) ∧
 good (g.fst, g.snd.snd.snd.fst, g.snd.snd.fst) (g.snd.snd.snd.snd.fst + (1 : Int))) ∧
 ((↑x.fst.length : Int) - (g.snd.snd.snd.snd.fst + (1 : Int))).toNat <
 ((↑x.fst.length : Int) - g.snd.snd.snd.snd.fst).toNat) ∧
 ((True ∧ True) ∧
 True ∧
 True ∧
 Value.slice none (0 : Nat) (0 : Nat) = Value.slice none (0 : Nat) (0 : Nat) ∧
 g.snd.snd.snd.fst = g.snd.snd.snd.fst ∧
 True ∧
 x.fst = x.fst ∧
 (↑x.fst.length : Int) = (↑x.fst.length : Int) ∧
 g.snd.snd.snd.snd.fst + (1 : Int) = g.snd.snd.snd.snd.fst + (1 : Int) ∧
 True) ∧
 ((True ∧ True) ∧
 g.fst = g.fst ∧
 g.snd.fst ++ ((0 : Int) :: ([] : List Int)).set (0 : Nat) (5 : Int) =
 g.snd.fst ++ ((0 : Int) :: ([] : List Int)).set (0 : Nat) (5 : Int) ∧
 g.snd.snd.fst = g.snd.snd.fst ∧ (True ∧ (True ∧ True) ∧ True) ∧ True) ∧
 True) ∧
 ((decide ((x.fst.getD g.snd.snd.snd.snd.fst.toNat ((0 : Int), (0 : Int))).fst < (1 : Int)) ||
 decide ((5 : Int) < (x.fst.getD g.snd.snd.snd.snd.fst.toNat ((0 : Int), (0 : Int))).fst)) =
 false →
 ((!decide ((x.fst.getD g.snd.snd.snd.snd.fst.toNat ((0 : Int), (0 : Int))).snd < (0 : Int))) = true →
 (!decide ((x.fst.getD g.snd.snd.snd.snd.fst.toNat ((0 : Int), (0 : Int))).snd < (0 : Int))) =
 true) ∧
 ((!decide ((x.fst.getD g.snd.snd.snd.snd.fst.toNat ((0 : Int), (0 : Int))).snd < (0 : Int))) =
 true →
 (!decide ((x.fst.getD g.snd.snd.snd.snd.fst.toNat ((0 : Int), (0 : Int))).snd < (0 : Int))) =
 true) ∧
 (decide ((x.fst.getD g.snd.snd.snd.snd.fst.toNat ((0 : Int), (0 : Int))).snd < (0 : Int)) =
 false →
 (!decide ((x.fst.getD g.snd.snd.snd.snd.fst.toNat ((0 : Int), (0 : Int))).snd < (0 : Int))) =
 true) ∧
 ((decide ((x.fst.getD g.snd.snd.snd.snd.fst.toNat ((0 : Int), (0 : Int))).snd < (0 : Int)) ||
 decide
 ((63 : Int) < (x.fst.getD g.snd.snd.snd.snd.fst.toNat ((0 : Int), (0 : Int))).snd)) =
 true →
 (g.snd.fst.length + (((0 : Int) :: ([] : List Int)).set (0 : Nat) (2 : Int)).length ≤
 (9223372036854775807 : Nat) ∧
 (g.snd.fst.length + (((0 : Int) :: ([] : List Int)).set (0 : Nat) (2 : Int)).length +
 (g.snd.fst.length +
 (((0 : Int) :: ([] : List Int)).set (0 : Nat) (2 : Int)).length) /
 (4 : Nat) +
 (192 : Nat)) *
 (8 : Nat) ≤
 (281474976710656 : Nat)) ∧
 ((-9223372036854775808 : Int) ≤ g.snd.snd.snd.snd.fst + (1 : Int) ∧
 g.snd.snd.snd.snd.fst + (1 : Int) ≤ (9223372036854775807 : Int)) ∧
 (((0 : Int) ≤ g.snd.snd.snd.snd.fst + (1 : Int) ∧
 g.snd.snd.snd.snd.fst + (1 : Int) ≤ (↑x.fst.length : Int) ∧
 (↑(g.snd.fst ++ ((0 : Int) :: ([] : List Int)).set (0 : Nat) (2 : Int)).length :
 Int) =
 g.snd.snd.snd.snd.fst + (1 : Int) ∧
 pl (List.take (g.snd.snd.snd.snd.fst + (1 : Int)).toNat x.fst) =
 ((g.fst, g.snd.snd.snd.fst, g.snd.snd.fst),
 g.snd.fst ++ ((0 : Int) :: ([] : List Int)).set (0 : Nat) (2 : Int)) ∧
 good (g.fst, g.snd.snd.snd.fst, g.snd.snd.fst)
 (g.snd.snd.snd.snd.fst + (1 : Int))) ∧
 ((↑x.fst.length : Int) - (g.snd.snd.snd.snd.fst + (1 : Int))).toNat <
 ((↑x.fst.length : Int) - g.snd.snd.snd.snd.fst).toNat) ∧
 ((True ∧ True) ∧
 True ∧
 True ∧
 Value.slice none (0 : Nat) (0 : Nat) = Value.slice none (0 : Nat) (0 : Nat) ∧
 g.snd.snd.snd.fst = g.snd.snd.snd.fst ∧
 True ∧
 x.fst = x.fst ∧
 (↑x.fst.length : Int) = (↑x.fst.length : Int) ∧
 g.snd.snd.snd.snd.fst + (1 : Int) =
 g.snd.snd.snd.snd.fst + (1 : Int) ∧
 True) ∧
 ((True ∧ True) ∧
 g.fst = g.fst ∧
 g.snd.fst ++ ((0 : Int) :: ([] : List Int)).set (0 : Nat) (2 : Int) =
 g.snd.fst ++ ((0 : Int) :: ([] : List Int)).set (0 : Nat) (2 : Int) ∧
 g.snd.snd.fst = g.snd.snd.fst ∧ (True ∧ (True ∧ True) ∧ True) ∧ True) ∧
 True) ∧
 ((decide ((x.fst.getD g.snd.snd.snd.snd.fst.toNat ((0 : Int), (0 : Int))).snd < (0 : Int)) ||
 decide
 ((63 : Int) < (x.fst.getD g.snd.snd.snd.snd.fst.toNat ((0 : Int), (0 : Int))).snd)) =
 false →
 (((x.fst.getD g.snd.snd.snd.snd.fst.toNat ((0 : Int), (0 : Int))).fst == (1 : Int) ||
 (x.fst.getD g.snd.snd.snd.snd.fst.toNat ((0 : Int), (0 : Int))).fst ==
 (2 : Int) ||
 (x.fst.getD g.snd.snd.snd.snd.fst.toNat ((0 : Int), (0 : Int))).fst == (3 : Int)) =
 true →
 ((x.fst.getD g.snd.snd.snd.snd.fst.toNat ((0 : Int), (0 : Int))).fst == (1 : Int) ||
 (x.fst.getD g.snd.snd.snd.snd.fst.toNat ((0 : Int), (0 : Int))).fst ==
 (2 : Int) ||
 (x.fst.getD g.snd.snd.snd.snd.fst.toNat ((0 : Int), (0 : Int))).fst == (3 : Int)) =
 true) ∧
 (((x.fst.getD g.snd.snd.snd.snd.fst.toNat ((0 : Int), (0 : Int))).fst == (1 : Int) ||
 (x.fst.getD g.snd.snd.snd.snd.fst.toNat ((0 : Int), (0 : Int))).fst ==
 (2 : Int) ||
 (x.fst.getD g.snd.snd.snd.snd.fst.toNat ((0 : Int), (0 : Int))).fst ==
 (3 : Int)) =
 true →
 ((x.fst.getD g.snd.snd.snd.snd.fst.toNat ((0 : Int), (0 : Int))).fst == (1 : Int) ||
 (x.fst.getD g.snd.snd.snd.snd.fst.toNat ((0 : Int), (0 : Int))).fst ==
 (2 : Int) ||
 (x.fst.getD g.snd.snd.snd.snd.fst.toNat ((0 : Int), (0 : Int))).fst ==
 (3 : Int)) =
 true) ∧
 ((((x.fst.getD g.snd.snd.snd.snd.fst.toNat ((0 : Int), (0 : Int))).fst == (1 : Int) ||
 (x.fst.getD g.snd.snd.snd.snd.fst.toNat ((0 : Int), (0 : Int))).fst ==
 (2 : Int) ||
 (x.fst.getD g.snd.snd.snd.snd.fst.toNat ((0 : Int), (0 : Int))).fst ==
 (3 : Int)) &&
 decide ((0 : Int) ≤ g_1.fst)) =
 true →
 ((((x.fst.getD g.snd.snd.snd.snd.fst.toNat ((0 : Int), (0 : Int))).fst ==
 (1 : Int) ||
 (x.fst.getD g.snd.snd.snd.snd.fst.toNat ((0 : Int), (0 : Int))).fst ==
 (2 : Int) ||
 (x.fst.getD g.snd.snd.snd.snd.fst.toNat ((0 : Int), (0 : Int))).fst ==
 (3 : Int)) &&
 decide ((0 : Int) ≤ g_1.fst)) =
 true ∧
 (((x.fst.getD g.snd.snd.snd.snd.fst.toNat ((0 : Int), (0 : Int))).fst ==
 (1 : Int) ||
 (x.fst.getD g.snd.snd.snd.snd.fst.toNat ((0 : Int), (0 : Int))).fst ==
 (2 : Int) ||
 (x.fst.getD g.snd.snd.snd.snd.fst.toNat ((0 : Int), (0 : Int))).fst ==
 (3 : Int)) &&
 decide ((0 : Int) ≤ g_1.fst)) =
 true) ∧
 (0 : Int) ≤ g_1.fst ∧ g_1.fst < (↑g.fst.length : Int)) ∧
 ((((x.fst.getD g.snd.snd.snd.snd.fst.toNat ((0 : Int), (0 : Int))).fst == (1 : Int) ||
 (x.fst.getD g.snd.snd.snd.snd.fst.toNat ((0 : Int), (0 : Int))).fst ==
 (2 : Int) ||
 (x.fst.getD g.snd.snd.snd.snd.fst.toNat ((0 : Int), (0 : Int))).fst ==
 (3 : Int)) &&
 decide ((0 : Int) ≤ g_1.fst)) =
 true →
 (((x.fst.getD g.snd.snd.snd.snd.fst.toNat ((0 : Int), (0 : Int))).fst ==
 (1 : Int) ||
 (x.fst.getD g.snd.snd.snd.snd.fst.toNat ((0 : Int), (0 : Int))).fst ==
 (2 : Int) ||
 (x.fst.getD g.snd.snd.snd.snd.fst.toNat ((0 : Int), (0 : Int))).fst ==
 (3 : Int)) &&
 decide ((0 : Int) ≤ g_1.fst)) =
 true) ∧
 ((((x.fst.getD g.snd.snd.snd.snd.fst.toNat ((0 : Int), (0 : Int))).fst ==
 (1 : Int) ||
 (x.fst.getD g.snd.snd.snd.snd.fst.toNat ((0 : Int), (0 : Int))).fst ==
 (2 : Int) ||
 (x.fst.getD g.snd.snd.snd.snd.fst.toNat ((0 : Int), (0 : Int))).fst ==
 (3 : Int)) &&
 decide ((0 : Int) ≤ g_1.fst)) =
 true →
 (((x.fst.getD g.snd.snd.snd.snd.fst.toNat ((0 : Int), (0 : Int))).fst ==
 (1 : Int) ||
 (x.fst.getD g.snd.snd.snd.snd.fst.toNat ((0 : Int), (0 : Int))).fst ==
 (2 : Int) ||
 (x.fst.getD g.snd.snd.snd.snd.fst.toNat ((0 : Int), (0 : Int))).fst ==
 (3 : Int)) &&
 decide ((0 : Int) ≤ g_1.fst)) =
 true) ∧
 ((((x.fst.getD g.snd.snd.snd.snd.fst.toNat ((0 : Int), (0 : Int))).fst ==
 (1 : Int) ||
 (x.fst.getD g.snd.snd.snd.snd.fst.toNat ((0 : Int), (0 : Int))).fst ==
 (2 : Int) ||
 (x.fst.getD g.snd.snd.snd.snd.fst.toNat ((0 : Int), (0 : Int))).fst ==
 (3 : Int)) &&
 decide ((0 : Int) ≤ g_1.fst)) =
 true →
 (((x.fst.getD g.snd.snd.snd.snd.fst.toNat ((0 : Int), (0 : Int))).fst ==
 (1 : Int) ||
 (x.fst.getD g.snd.snd.snd.snd.fst.toNat ((0 : Int), (0 : Int))).fst ==
 (2 : Int) ||
 (x.fst.getD g.snd.snd.snd.snd.fst.toNat ((0 : Int), (0 : Int))).fst ==
 (3 : Int)) &&
 decide ((0 : Int) ≤ g_1.fst)) =
 true) ∧
 ((((x.fst.getD g.snd.snd.snd.snd.fst.toNat ((0 : Int), (0 : Int))).fst ==
 (1 : Int) ||
 (x.fst.getD g.snd.snd.snd.snd.fst.toNat
 ((0 : Int), (0 : Int))).fst ==
 (2 : Int) ||
 (x.fst.getD g.snd.snd.snd.snd.fst.toNat ((0 : Int), (0 : Int))).fst ==
 (3 : Int)) &&
 decide ((0 : Int) ≤ g_1.fst)) =
 true →
 (((x.fst.getD g.snd.snd.snd.snd.fst.toNat ((0 : Int), (0 : Int))).fst ==
 (1 : Int) ||
 (x.fst.getD g.snd.snd.snd.snd.fst.toNat
 ((0 : Int), (0 : Int))).fst ==
 (2 : Int) ||
 (x.fst.getD g.snd.snd.snd.snd.fst.toNat ((0 : Int), (0 : Int))).fst ==
 (3 : Int)) &&
 decide ((0 : Int) ≤ g_1.fst)) =
 true) ∧
 ((((x.fst.getD g.snd.snd.snd.snd.fst.toNat ((0 : Int), (0 : Int))).fst ==
 (1 : Int) ||
 (x.fst.getD g.snd.snd.snd.snd.fst.toNat
 ((0 : Int), (0 : Int))).fst ==
 (2 : Int) ||
 (x.fst.getD g.snd.snd.snd.snd.fst.toNat
 ((0 : Int), (0 : Int))).fst ==
 (3 : Int)) &&
 decide ((0 : Int) ≤ g_1.fst) &&
 (g.fst.getD g_1.fst.toNat ((0 : Int), (0 : Int))).snd == (1 : Int)) =
 true →
 (g.snd.fst.length +
 (((0 : Int) :: ([] : List Int)).set (0 : Nat) (7 : Int)).length ≤
 (9223372036854775807 : Nat) ∧
 (g.snd.fst.length +
 (((0 : Int) :: ([] : List Int)).set (0 : Nat)
 (7 : Int)).length +
 (g.snd.fst.length +
 (((0 : Int) :: ([] : List Int)).set (0 : Nat)
 (7 : Int)).length) /
 (4 : Nat) +
 (192 : Nat)) *
 (8 : Nat) ≤
 (281474976710656 : Nat)) ∧
 ((-9223372036854775808 : Int) ≤ g.snd.snd.snd.snd.fst + (1 : Int) ∧
 g.snd.snd.snd.snd.fst + (1 : Int) ≤ (9223372036854775807 : Int)) ∧
 (((0 : Int) ≤ g.snd.snd.snd.snd.fst + (1 : Int) ∧
 g.snd.snd.snd.snd.fst + (1 : Int) ≤ (↑x.fst.length : Int) ∧
 (↑(g.snd.fst ++
 ((0 : Int) :: ([] : List Int)).set (0 : Nat)
 (7 : Int)).length :
 Int) =
 g.snd.snd.snd.snd.fst + (1 : Int) ∧
 pl
 (List.take (g.snd.snd.snd.snd.fst + (1 : Int)).toNat
 x.fst) =
 ((g.fst, g.snd.snd.snd.fst, g.snd.snd.fst),
 g.snd.fst ++
 ((0 : Int) :: ([] : List Int)).set (0 : Nat)
 (7 : Int)) ∧
 good (g.fst, g.snd.snd.snd.fst, g.snd.snd.fst)
 (g.snd.snd.snd.snd.fst + (1 : Int))) ∧
 ((↑x.fst.length : Int) -
 (g.snd.snd.snd.snd.fst + (1 : Int))).toNat <
 ((↑x.fst.length : Int) - g.snd.snd.snd.snd.fst).toNat) ∧
 ((True ∧ True) ∧
 True ∧
 True ∧
 Value.slice none (0 : Nat) (0 : Nat) =
 Value.slice none (0 : Nat) (0 : Nat) ∧
 g.snd.snd.snd.fst = g.snd.snd.snd.fst ∧
 True ∧
 x.fst = x.fst ∧
 (↑x.fst.length : Int) = (↑x.fst.length : Int) ∧
 g.snd.snd.snd.snd.fst + (1 : Int) =
 g.snd.snd.snd.snd.fst + (1 : Int) ∧
 True) ∧
 ((True ∧ True) ∧
 g.fst = g.fst ∧
 g.snd.fst ++
 ((0 : Int) :: ([] : List Int)).set (0 : Nat)
 (7 : Int) =
 g.snd.fst ++
 ((0 : Int) :: ([] : List Int)).set (0 : Nat)
 (7 : Int) ∧
 g.snd.snd.fst = g.snd.snd.fst ∧
 (True ∧ (True ∧ True) ∧ True) ∧ True) ∧
 True) ∧
 ((((x.fst.getD g.snd.snd.snd.snd.fst.toNat ((0 : Int), (0 : Int))).fst ==
 (1 : Int) ||
 (x.fst.getD g.snd.snd.snd.snd.fst.toNat
 ((0 : Int), (0 : Int))).fst ==
 (2 : Int) ||
 (x.fst.getD g.snd.snd.snd.snd.fst.toNat
 ((0 : Int), (0 : Int))).fst ==
 (3 : Int)) &&
 decide ((0 : Int) ≤ g_1.fst) &&
 (g.fst.getD g_1.fst.toNat ((0 : Int), (0 : Int))).snd == (1 : Int)) =
 false →
 (((x.fst.getD g.snd.snd.snd.snd.fst.toNat ((0 : Int), (0 : Int))).fst ==
 (1 : Int)) =
 true →
 ((x.fst.getD g.snd.snd.snd.snd.fst.toNat
 ((0 : Int), (0 : Int))).fst ==
 (1 : Int)) =
 true) ∧
 (((x.fst.getD g.snd.snd.snd.snd.fst.toNat ((0 : Int), (0 : Int))).fst ==
 (1 : Int)) =
 true →
 ((x.fst.getD g.snd.snd.snd.snd.fst.toNat
 ((0 : Int), (0 : Int))).fst ==
 (1 : Int)) =
 true) ∧
 (((x.fst.getD g.snd.snd.snd.snd.fst.toNat
 ((0 : Int), (0 : Int))).fst ==
 (1 : Int) &&
 decide (g_1.fst < (0 : Int))) =
 true →
 (g.fst.length +
 ((((0 : Int), (0 : Int)) :: ([] : List (Int × Int))).set
 (0 : Nat)
 ((x.fst.getD g.snd.snd.snd.snd.fst.toNat
 ((0 : Int), (0 : Int))).snd,
 (0 : Int))).length ≤
 (9223372036854775807 : Nat) ∧
 (g.fst.length +
 ((((0 : Int), (0 : Int)) ::
 ([] : List (Int × Int))).set
 (0 : Nat)
 ((x.fst.getD g.snd.snd.snd.snd.fst.toNat
 ((0 : Int), (0 : Int))).snd,
 (0 : Int))).length +
 (g.fst.length +
 ((((0 : Int), (0 : Int)) ::
 ([] : List (Int × Int))).set
 (0 : Nat)
 ((x.fst.getD g.snd.snd.snd.snd.fst.toNat
 ((0 : Int), (0 : Int))).snd,
 (0 : Int))).length) /
 (4 : Nat) +
 (192 : Nat)) *
 (16 : Nat) ≤
 (281474976710656 : Nat)) ∧
 (g.snd.fst.length +
 (((0 : Int) :: ([] : List Int)).set (0 : Nat)
 (0 : Int)).length ≤
 (9223372036854775807 : Nat) ∧
 (g.snd.fst.length +
 (((0 : Int) :: ([] : List Int)).set (0 : Nat)
 (0 : Int)).length +
 (g.snd.fst.length +
 (((0 : Int) :: ([] : List Int)).set (0 : Nat)
 (0 : Int)).length) /
 (4 : Nat) +
 (192 : Nat)) *
 (8 : Nat) ≤
 (281474976710656 : Nat)) ∧
 ((-9223372036854775808 : Int) ≤
 g.snd.snd.snd.snd.fst + (1 : Int) ∧
 g.snd.snd.snd.snd.fst + (1 : Int) ≤
 (9223372036854775807 : Int)) ∧
 (((0 : Int) ≤ g.snd.snd.snd.snd.fst + (1 : Int) ∧
 g.snd.snd.snd.snd.fst + (1 : Int) ≤
 (↑x.fst.length : Int) ∧
 (↑(g.snd.fst ++
 ((0 : Int) :: ([] : List Int)).set
 (0 : Nat) (0 : Int)).length :
 Int) =
 g.snd.snd.snd.snd.fst + (1 : Int) ∧
 pl
 (List.take
 (g.snd.snd.snd.snd.fst + (1 : Int)).toNat
 x.fst) =
 ((g.fst ++
 (((0 : Int), (0 : Int)) ::
 ([] : List (Int × Int))).set
 (0 : Nat)
 ((x.fst.getD
 g.snd.snd.snd.snd.fst.toNat
 ((0 : Int), (0 : Int))).snd,
 (0 : Int)),
 g.snd.snd.snd.fst, g.snd.snd.fst),
 g.snd.fst ++
 ((0 : Int) :: ([] : List Int)).set
 (0 : Nat) (0 : Int)) ∧
 good
 (g.fst ++
 (((0 : Int), (0 : Int)) ::
 ([] : List (Int × Int))).set
 (0 : Nat)
 ((x.fst.getD g.snd.snd.snd.snd.fst.toNat
 ((0 : Int), (0 : Int))).snd,
 (0 : Int)),
 g.snd.snd.snd.fst, g.snd.snd.fst)
 (g.snd.snd.snd.snd.fst + (1 : Int))) ∧
 ((↑x.fst.length : Int) -
 (g.snd.snd.snd.snd.fst + (1 : Int))).toNat <
 ((↑x.fst.length : Int) -
 g.snd.snd.snd.snd.fst).toNat) ∧
 ((True ∧ True) ∧
 True ∧
 True ∧
 Value.slice none (0 : Nat) (0 : Nat) =
 Value.slice none (0 : Nat) (0 : Nat) ∧
 g.snd.snd.snd.fst = g.snd.snd.snd.fst ∧
 True ∧
 x.fst = x.fst ∧
 (↑x.fst.length : Int) =
 (↑x.fst.length : Int) ∧
 g.snd.snd.snd.snd.fst + (1 : Int) =
 g.snd.snd.snd.snd.fst + (1 : Int) ∧
 True) ∧
 ((True ∧ True) ∧
 g.fst ++
 (((0 : Int), (0 : Int)) ::
 ([] : List (Int × Int))).set
 (0 : Nat)
 ((x.fst.getD g.snd.snd.snd.snd.fst.toNat
 ((0 : Int), (0 : Int))).snd,
 (0 : Int)) =
 g.fst ++
 (((0 : Int), (0 : Int)) ::
 ([] : List (Int × Int))).set
 (0 : Nat)
 ((x.fst.getD g.snd.snd.snd.snd.fst.toNat
 ((0 : Int), (0 : Int))).snd,
 (0 : Int)) ∧
 g.snd.fst ++
 ((0 : Int) :: ([] : List Int)).set (0 : Nat)
 (0 : Int) =
 g.snd.fst ++
 ((0 : Int) :: ([] : List Int)).set (0 : Nat)
 (0 : Int) ∧
 g.snd.snd.fst = g.snd.snd.fst ∧
 (True ∧ (True ∧ True) ∧ True) ∧ True) ∧
 True) ∧
 (((x.fst.getD g.snd.snd.snd.snd.fst.toNat
 ((0 : Int), (0 : Int))).fst ==
 (1 : Int) &&
 decide (g_1.fst < (0 : Int))) =
 false →
 (((x.fst.getD g.snd.snd.snd.snd.fst.toNat
 ((0 : Int), (0 : Int))).fst ==
 (1 : Int)) =
 true →
 ((0 : Int) ≤ g_1.fst ∧ g_1.fst < (↑g.fst.length : Int)) ∧
 (g.snd.fst.length +
 (((0 : Int) :: ([] : List Int)).set (0 : Nat)
 (0 : Int)).length ≤
 (9223372036854775807 : Nat) ∧
 (g.snd.fst.length +
 (((0 : Int) :: ([] : List Int)).set (0 : Nat)
 (0 : Int)).length +
 (g.snd.fst.length +
 (((0 : Int) :: ([] : List Int)).set
 (0 : Nat) (0 : Int)).length) /
 (4 : Nat) +
 (192 : Nat)) *
 (8 : Nat) ≤
 (281474976710656 : Nat)) ∧
 ((-9223372036854775808 : Int) ≤
 g.snd.snd.snd.snd.fst + (1 : Int) ∧
 g.snd.snd.snd.snd.fst + (1 : Int) ≤
 (9223372036854775807 : Int)) ∧
 (((0 : Int) ≤ g.snd.snd.snd.snd.fst + (1 : Int) ∧
 g.snd.snd.snd.snd.fst + (1 : Int) ≤
 (↑x.fst.length : Int) ∧
 (↑(g.snd.fst ++
 ((0 : Int) :: ([] : List Int)).set
 (0 : Nat) (0 : Int)).length :
 Int) =
 g.snd.snd.snd.snd.fst + (1 : Int) ∧
 pl
 (List.take
 (g.snd.snd.snd.snd.fst +
 (1 : Int)).toNat
 x.fst) =
 ((g.fst.set g_1.fst.toNat
 ((g.fst.getD g_1.fst.toNat
 ((0 : Int), (0 : Int))).fst,
 (0 : Int)),
 g.snd.snd.snd.fst, g.snd.snd.fst),
 g.snd.fst ++
 ((0 : Int) :: ([] : List Int)).set
 (0 : Nat) (0 : Int)) ∧
 good
 (g.fst.set g_1.fst.toNat
 ((g.fst.getD g_1.fst.toNat
 ((0 : Int), (0 : Int))).fst,
 (0 : Int)),
 g.snd.snd.snd.fst, g.snd.snd.fst)
 (g.snd.snd.snd.snd.fst + (1 : Int))) ∧
 ((↑x.fst.length : Int) -
 (g.snd.snd.snd.snd.fst + (1 : Int))).toNat <
 ((↑x.fst.length : Int) -
 g.snd.snd.snd.snd.fst).toNat) ∧
 ((True ∧ True) ∧
 True ∧
 True ∧
 Value.slice none (0 : Nat) (0 : Nat) =
 Value.slice none (0 : Nat) (0 : Nat) ∧
 g.snd.snd.snd.fst = g.snd.snd.snd.fst ∧
 True ∧
 x.fst = x.fst ∧
 (↑x.fst.length : Int) =
 (↑x.fst.length : Int) ∧
 g.snd.snd.snd.snd.fst + (1 : Int) =
 g.snd.snd.snd.snd.fst +
 (1 : Int) ∧
 True) ∧
 ((True ∧ True) ∧
 g.fst.set g_1.fst.toNat
 ((g.fst.getD g_1.fst.toNat
 ((0 : Int), (0 : Int))).fst,
 (0 : Int)) =
 g.fst.set g_1.fst.toNat
 ((g.fst.getD g_1.fst.toNat
 ((0 : Int), (0 : Int))).fst,
 (0 : Int)) ∧
 g.snd.fst ++
 ((0 : Int) :: ([] : List Int)).set
 (0 : Nat) (0 : Int) =
 g.snd.fst ++
 ((0 : Int) :: ([] : List Int)).set
 (0 : Nat) (0 : Int) ∧
 g.snd.snd.fst = g.snd.snd.fst ∧
 (True ∧ (True ∧ True) ∧ True) ∧ True) ∧
 True) ∧
 (((x.fst.getD g.snd.snd.snd.snd.fst.toNat
 ((0 : Int), (0 : Int))).fst ==
 (1 : Int)) =
 false →
 (((x.fst.getD g.snd.snd.snd.snd.fst.toNat
 ((0 : Int), (0 : Int))).fst ==
 (1 : Int) ||
 (x.fst.getD g.snd.snd.snd.snd.fst.toNat
 ((0 : Int), (0 : Int))).fst ==
 (2 : Int) ||
 (x.fst.getD g.snd.snd.snd.snd.fst.toNat
 ((0 : Int), (0 : Int))).fst ==
 (3 : Int)) =
 true →
 ((x.fst.getD g.snd.snd.snd.snd.fst.toNat
 ((0 : Int), (0 : Int))).fst ==
 (1 : Int) ||
 (x.fst.getD g.snd.snd.snd.snd.fst.toNat
 ((0 : Int), (0 : Int))).fst ==
 (2 : Int) ||
 (x.fst.getD g.snd.snd.snd.snd.fst.toNat
 ((0 : Int), (0 : Int))).fst ==
 (3 : Int)) =
 true) ∧
 (((x.fst.getD g.snd.snd.snd.snd.fst.toNat
 ((0 : Int), (0 : Int))).fst ==
 (1 : Int) ||
 (x.fst.getD g.snd.snd.snd.snd.fst.toNat
 ((0 : Int), (0 : Int))).fst ==
 (2 : Int) ||
 (x.fst.getD g.snd.snd.snd.snd.fst.toNat
 ((0 : Int), (0 : Int))).fst ==
 (3 : Int)) =
 true →
 ((x.fst.getD g.snd.snd.snd.snd.fst.toNat
 ((0 : Int), (0 : Int))).fst ==
 (1 : Int) ||
 (x.fst.getD g.snd.snd.snd.snd.fst.toNat
 ((0 : Int), (0 : Int))).fst ==
 (2 : Int) ||
 (x.fst.getD g.snd.snd.snd.snd.fst.toNat
 ((0 : Int), (0 : Int))).fst ==
 (3 : Int)) =
 true) ∧
 ((((x.fst.getD g.snd.snd.snd.snd.fst.toNat
 ((0 : Int), (0 : Int))).fst ==
 (1 : Int) ||
 (x.fst.getD g.snd.snd.snd.snd.fst.toNat
 ((0 : Int), (0 : Int))).fst ==
 (2 : Int) ||
 (x.fst.getD g.snd.snd.snd.snd.fst.toNat
 ((0 : Int), (0 : Int))).fst ==
 (3 : Int)) &&
 decide (g_1.fst < (0 : Int))) =
 true →
 (g.snd.fst.length +
 (((0 : Int) :: ([] : List Int)).set (0 : Nat)
 (3 : Int)).length ≤
 (9223372036854775807 : Nat) ∧
 (g.snd.fst.length +
 (((0 : Int) :: ([] : List Int)).set
 (0 : Nat) (3 : Int)).length +
 (g.snd.fst.length +
 (((0 : Int) :: ([] : List Int)).set
 (0 : Nat) (3 : Int)).length) /
 (4 : Nat) +
 (192 : Nat)) *
 (8 : Nat) ≤
 (281474976710656 : Nat)) ∧
 ((-9223372036854775808 : Int) ≤
 g.snd.snd.snd.snd.fst + (1 : Int) ∧
 g.snd.snd.snd.snd.fst + (1 : Int) ≤
 (9223372036854775807 : Int)) ∧
 (((0 : Int) ≤ g.snd.snd.snd.snd.fst + (1 : Int) ∧
 g.snd.snd.snd.snd.fst + (1 : Int) ≤
 (↑x.fst.length : Int) ∧
 (↑(g.snd.fst ++
 ((0 : Int) ::
 ([] : List Int)).set
 (0 : Nat)
 (3 : Int)).length :
 Int) =
 g.snd.snd.snd.snd.fst + (1 : Int) ∧
 pl
 (List.take
 (g.snd.snd.snd.snd.fst +
 (1 : Int)).toNat
 x.fst) =
 ((g.fst, g.snd.snd.snd.fst,
 g.snd.snd.fst),
 g.snd.fst ++
 ((0 : Int) ::
 ([] : List Int)).set
 (0 : Nat) (3 : Int)) ∧
 good
 (g.fst, g.snd.snd.snd.fst,
 g.snd.snd.fst)
 (g.snd.snd.snd.snd.fst +
 (1 : Int))) ∧
 ((↑x.fst.length : Int) -
 (g.snd.snd.snd.snd.fst +
 (1 : Int))).toNat <
 ((↑x.fst.length : Int) -
 g.snd.snd.snd.snd.fst).toNat) ∧
 ((True ∧ True) ∧
 True ∧
 True ∧
 Value.slice none (0 : Nat) (0 : Nat) =
 Value.slice none (0 : Nat)
 (0 : Nat) ∧
 g.snd.snd.snd.fst =
 g.snd.snd.snd.fst ∧
 True ∧
 x.fst = x.fst ∧
 (↑x.fst.length : Int) =
 (↑x.fst.length : Int) ∧
 g.snd.snd.snd.snd.fst +
 (1 : Int) =
 g.snd.snd.snd.snd.fst +
 (1 : Int) ∧
 True) ∧
 ((True ∧ True) ∧
 g.fst = g.fst ∧
 g.snd.fst ++
 ((0 : Int) :: ([] : List Int)).set
 (0 : Nat) (3 : Int) =
 g.snd.fst ++
 ((0 : Int) :: ([] : List Int)).set
 (0 : Nat) (3 : Int) ∧
 g.snd.snd.fst = g.snd.snd.fst ∧
 (True ∧ (True ∧ True) ∧ True) ∧
 True) ∧
 True) ∧
 ((((x.fst.getD g.snd.snd.snd.snd.fst.toNat
 ((0 : Int), (0 : Int))).fst ==
 (1 : Int) ||
 (x.fst.getD g.snd.snd.snd.snd.fst.toNat
 ((0 : Int), (0 : Int))).fst ==
 (2 : Int) ||
 (x.fst.getD g.snd.snd.snd.snd.fst.toNat
 ((0 : Int), (0 : Int))).fst ==
 (3 : Int)) &&
 decide (g_1.fst < (0 : Int))) =
 false →
 (((x.fst.getD g.snd.snd.snd.snd.fst.toNat
 ((0 : Int), (0 : Int))).fst ==
 (3 : Int)) =
 true →
 ((0 : Int) ≤ g_1.fst ∧
 g_1.fst < (↑g.fst.length : Int)) ∧
 (((g.fst.getD g_1.fst.toNat
 ((0 : Int), (0 : Int))).snd ==
 (0 : Int)) =
 true →
 ((g.fst.getD g_1.fst.toNat
 ((0 : Int), (0 : Int))).snd ==
 (0 : Int)) =
 true) ∧
 (((g.fst.getD g_1.fst.toNat
 ((0 : Int), (0 : Int))).snd ==
 (0 : Int)) =
 true →
 ((g.fst.getD g_1.fst.toNat
 ((0 : Int), (0 : Int))).snd ==
 (0 : Int)) =
 true) ∧
 (((g.fst.getD g_1.fst.toNat
 ((0 : Int), (0 : Int))).snd ==
 (0 : Int) &&
 g.snd.snd.snd.fst == (0 : Int)) =
 true →
 ((0 : Int) ≤ g_1.fst ∧
 g_1.fst < (↑g.fst.length : Int)) ∧
 (g.snd.fst.length +
 (((0 : Int) ::
 ([] : List Int)).set
 (0 : Nat)
 (0 : Int)).length ≤
 (9223372036854775807 : Nat) ∧
 (g.snd.fst.length +
 (((0 : Int) ::
 ([] :
 List Int)).set
 (0 : Nat)
 (0 : Int)).length +
 (g.snd.fst.length +
 (((0 : Int) ::
 ([] :
 List
 Int)).set
 (0 : Nat)
 (0 :
 Int)).length) /
 (4 : Nat) +
 (192 : Nat)) *
 (8 : Nat) ≤
 (281474976710656 : Nat)) ∧
 ((-9223372036854775808 : Int) ≤
 g.snd.snd.snd.snd.fst +
 (1 : Int) ∧
 g.snd.snd.snd.snd.fst +
 (1 : Int) ≤
 (9223372036854775807 : Int)) ∧
 (((0 : Int) ≤
 g.snd.snd.snd.snd.fst +
 (1 : Int) ∧
 g.snd.snd.snd.snd.fst +
 (1 : Int) ≤
 (↑x.fst.length : Int) ∧
 (↑(g.snd.fst ++
 ((0 : Int) ::
 ([] :
 List
 Int)).set
 (0 : Nat)
 (0 :
 Int)).length :
 Int) =
 g.snd.snd.snd.snd.fst +
 (1 : Int) ∧
 pl
 (List.take
 (g.snd.snd.snd.snd.fst +
 (1 :
 Int)).toNat
 x.fst) =
 ((g.fst.set
 g_1.fst.toNat
 ((g.fst.getD
 g_1.fst.toNat
 ((0 :
 Int),
 (0 :
 Int))).fst,
 (1 : Int)),
 g.snd.snd.snd.fst,
 g.snd.snd.fst),
 g.snd.fst ++
 ((0 : Int) ::
 ([] :
 List
 Int)).set
 (0 : Nat)
 (0 : Int)) ∧
 good
 (g.fst.set
 g_1.fst.toNat
 ((g.fst.getD
 g_1.fst.toNat
 ((0 :
 Int),
 (0 :
 Int))).fst,
 (1 : Int)),
 g.snd.snd.snd.fst,
 g.snd.snd.fst)
 (g.snd.snd.snd.snd.fst +
 (1 : Int))) ∧
 ((↑x.fst.length : Int) -
 (g.snd.snd.snd.snd.fst +
 (1 : Int))).toNat <
 ((↑x.fst.length : Int) -
 g.snd.snd.snd.snd.fst).toNat) ∧
 ((True ∧ True) ∧
 True ∧
 True ∧
 Value.slice none
 (0 : Nat)
 (0 : Nat) =
 Value.slice none
 (0 : Nat)
 (0 : Nat) ∧
 g.snd.snd.snd.fst =
 g.snd.snd.snd.fst ∧
 True ∧
 x.fst = x.fst ∧
 (↑x.fst.length :
 Int) =
 (↑x.fst.length :
 Int) ∧
 g.snd.snd.snd.snd.fst +
 (1 :
 Int) =
 g.snd.snd.snd.snd.fst +
 (1 :
 Int) ∧
 True) ∧
 ((True ∧ True) ∧
 g.fst.set g_1.fst.toNat
 ((g.fst.getD
 g_1.fst.toNat
 ((0 : Int),
 (0 :
 Int))).fst,
 (1 : Int)) =
 g.fst.set
 g_1.fst.toNat
 ((g.fst.getD
 g_1.fst.toNat
 ((0 : Int),
 (0 :
 Int))).fst,
 (1 : Int)) ∧
 g.snd.fst ++
 ((0 : Int) ::
 ([] :
 List
 Int)).set
 (0 : Nat)
 (0 : Int) =
 g.snd.fst ++
 ((0 : Int) ::
 ([] :
 List
 Int)).set
 (0 : Nat)
 (0 : Int) ∧
 g.snd.snd.fst =
 g.snd.snd.fst ∧
 (True ∧
 (True ∧ True) ∧
 True) ∧
 True) ∧
 True) ∧
 (((g.fst.getD g_1.fst.toNat
 ((0 : Int), (0 : Int))).snd ==
 (0 : Int) &&
 g.snd.snd.snd.fst == (0 : Int)) =
 false →
 (g.snd.fst.length +
 (((0 : Int) ::
 ([] : List Int)).set
 (0 : Nat)
 (0 : Int)).length ≤
 (9223372036854775807 : Nat) ∧
 (g.snd.fst.length +
 (((0 : Int) ::
 ([] :
 List Int)).set
 (0 : Nat)
 (0 : Int)).length +
 (g.snd.fst.length +
 (((0 : Int) ::
 ([] :
 List Int)).set
 (0 : Nat)
 (0 : Int)).length) /
 (4 : Nat) +
 (192 : Nat)) *
 (8 : Nat) ≤
 (281474976710656 : Nat)) ∧
 ((-9223372036854775808 : Int) ≤
 g.snd.snd.snd.snd.fst +
 (1 : Int) ∧
 g.snd.snd.snd.snd.fst +
 (1 : Int) ≤
 (9223372036854775807 : Int)) ∧
 (((0 : Int) ≤
 g.snd.snd.snd.snd.fst +
 (1 : Int) ∧
 g.snd.snd.snd.snd.fst +
 (1 : Int) ≤
 (↑x.fst.length : Int) ∧
 (↑(g.snd.fst ++
 ((0 : Int) ::
 ([] :
 List
 Int)).set
 (0 : Nat)
 (0 :
 Int)).length :
 Int) =
 g.snd.snd.snd.snd.fst +
 (1 : Int) ∧
 pl
 (List.take
 (g.snd.snd.snd.snd.fst +
 (1 :
 Int)).toNat
 x.fst) =
 ((g.fst,
 g.snd.snd.snd.fst,
 g.snd.snd.fst),
 g.snd.fst ++
 ((0 : Int) ::
 ([] :
 List
 Int)).set
 (0 : Nat)
 (0 : Int)) ∧
 good
 (g.fst,
 g.snd.snd.snd.fst,
 g.snd.snd.fst)
 (g.snd.snd.snd.snd.fst +
 (1 : Int))) ∧
 ((↑x.fst.length : Int) -
 (g.snd.snd.snd.snd.fst +
 (1 : Int))).toNat <
 ((↑x.fst.length : Int) -
 g.snd.snd.snd.snd.fst).toNat) ∧
 ((True ∧ True) ∧
 True ∧
 True ∧
 Value.slice none (0 : Nat)
 (0 : Nat) =
 Value.slice none
 (0 : Nat)
 (0 : Nat) ∧
 g.snd.snd.snd.fst =
 g.snd.snd.snd.fst ∧
 True ∧
 x.fst = x.fst ∧
 (↑x.fst.length :
 Int) =
 (↑x.fst.length :
 Int) ∧
 g.snd.snd.snd.snd.fst +
 (1 :
 Int) =
 g.snd.snd.snd.snd.fst +
 (1 :
 Int) ∧
 True) ∧
 ((True ∧ True) ∧
 g.fst = g.fst ∧
 g.snd.fst ++
 ((0 : Int) ::
 ([] :
 List
 Int)).set
 (0 : Nat)
 (0 : Int) =
 g.snd.fst ++
 ((0 : Int) ::
 ([] :
 List
 Int)).set
 (0 : Nat)
 (0 : Int) ∧
 g.snd.snd.fst =
 g.snd.snd.fst ∧
 (True ∧
 (True ∧ True) ∧
 True) ∧
 True) ∧
 True)) ∧
 (((x.fst.getD g.snd.snd.snd.snd.fst.toNat
 ((0 : Int), (0 : Int))).fst ==
 (3 : Int)) =
 false →
 (((x.fst.getD g.snd.snd.snd.snd.fst.toNat
 ((0 : Int), (0 : Int))).fst ==
 (2 : Int)) =
 true →
 ((x.fst.getD g.snd.snd.snd.snd.fst.toNat
 ((0 : Int), (0 : Int))).fst ==
 (2 : Int)) =
 true) ∧
 (((x.fst.getD g.snd.snd.snd.snd.fst.toNat
 ((0 : Int), (0 : Int))).fst ==
 (2 : Int)) =
 true →
 ((x.fst.getD g.snd.snd.snd.snd.fst.toNat
 ((0 : Int), (0 : Int))).fst ==
 (2 : Int)) =
 true) ∧
 (((x.fst.getD g.snd.snd.snd.snd.fst.toNat
 ((0 : Int), (0 : Int))).fst ==
 (2 : Int) &&
 g.snd.snd.snd.fst == (0 : Int)) =
 true →
 (g.snd.fst.length +
 (((0 : Int) ::
 ([] : List Int)).set
 (0 : Nat) (6 : Int)).length ≤
 (9223372036854775807 : Nat) ∧
 (g.snd.fst.length +
 (((0 : Int) ::
 ([] : List Int)).set
 (0 : Nat)
 (6 : Int)).length +
 (g.snd.fst.length +
 (((0 : Int) ::
 ([] :
 List Int)).set
 (0 : Nat)
 (6 : Int)).length) /
 (4 : Nat) +
 (192 : Nat)) *
 (8 : Nat) ≤
 (281474976710656 : Nat)) ∧
 ((-9223372036854775808 : Int) ≤
 g.snd.snd.snd.snd.fst +
 (1 : Int) ∧
 g.snd.snd.snd.snd.fst + (1 : Int) ≤
 (9223372036854775807 : Int)) ∧
 (((0 : Int) ≤
 g.snd.snd.snd.snd.fst +
 (1 : Int) ∧
 g.snd.snd.snd.snd.fst +
 (1 : Int) ≤
 (↑x.fst.length : Int) ∧
 (↑(g.snd.fst ++
 ((0 : Int) ::
 ([] :
 List
 Int)).set
 (0 : Nat)
 (6 :
 Int)).length :
 Int) =
 g.snd.snd.snd.snd.fst +
 (1 : Int) ∧
 pl
 (List.take
 (g.snd.snd.snd.snd.fst +
 (1 : Int)).toNat
 x.fst) =
 ((g.fst,
 g.snd.snd.snd.fst,
 g.snd.snd.fst),
 g.snd.fst ++
 ((0 : Int) ::
 ([] :
 List
 Int)).set
 (0 : Nat)
 (6 : Int)) ∧
 good
 (g.fst,
 g.snd.snd.snd.fst,
 g.snd.snd.fst)
 (g.snd.snd.snd.snd.fst +
 (1 : Int))) ∧
 ((↑x.fst.length : Int) -
 (g.snd.snd.snd.snd.fst +
 (1 : Int))).toNat <
 ((↑x.fst.length : Int) -
 g.snd.snd.snd.snd.fst).toNat) ∧
 ((True ∧ True) ∧
 True ∧
 True ∧
 Value.slice none (0 : Nat)
 (0 : Nat) =
 Value.slice none
 (0 : Nat) (0 : Nat) ∧
 g.snd.snd.snd.fst =
 g.snd.snd.snd.fst ∧
 True ∧
 x.fst = x.fst ∧
 (↑x.fst.length :
 Int) =
 (↑x.fst.length :
 Int) ∧
 g.snd.snd.snd.snd.fst +
 (1 : Int) =
 g.snd.snd.snd.snd.fst +
 (1 : Int) ∧
 True) ∧
 ((True ∧ True) ∧
 g.fst = g.fst ∧
 g.snd.fst ++
 ((0 : Int) ::
 ([] :
 List Int)).set
 (0 : Nat)
 (6 : Int) =
 g.snd.fst ++
 ((0 : Int) ::
 ([] :
 List Int)).set
 (0 : Nat)
 (6 : Int) ∧
 g.snd.snd.fst =
 g.snd.snd.fst ∧
 (True ∧
 (True ∧ True) ∧
 True) ∧
 True) ∧
 True) ∧
 (((x.fst.getD g.snd.snd.snd.snd.fst.toNat
 ((0 : Int), (0 : Int))).fst ==
 (2 : Int) &&
 g.snd.snd.snd.fst == (0 : Int)) =
 false →
 (((x.fst.getD g.snd.snd.snd.snd.fst.toNat
 ((0 : Int), (0 : Int))).fst ==
 (2 : Int)) =
 true →
 ((-9223372036854775808 : Int) ≤
 g.snd.snd.snd.fst - (1 : Int) ∧
 g.snd.snd.snd.fst - (1 : Int) ≤
 (9223372036854775807 : Int)) ∧
 (g.snd.snd.fst.length +
 (((0 : Int) ::
 ([] : List Int)).set
 (0 : Nat)
 (x.fst.getD
 g.snd.snd.snd.snd.fst.toNat
 ((0 : Int),
 (0 :
 Int))).snd).length ≤
 (9223372036854775807 : Nat) ∧
 (g.snd.snd.fst.length +
 (((0 : Int) ::
 ([] :
 List
 Int)).set
 (0 : Nat)
 (x.fst.getD
 g.snd.snd.snd.snd.fst.toNat
 ((0 : Int),
 (0 :
 Int))).snd).length +
 (g.snd.snd.fst.length +
 (((0 : Int) ::
 ([] :
 List
 Int)).set
 (0 : Nat)
 (x.fst.getD
 g.snd.snd.snd.snd.fst.toNat
 ((0 : Int),
 (0 :
 Int))).snd).length) /
 (4 : Nat) +
 (192 : Nat)) *
 (8 : Nat) ≤
 (281474976710656 : Nat)) ∧
 (((0 : Int) ≤ (0 : Int) ∧
 (0 : Int) ≤ g_1.fst) ∧
 g_1.fst ≤
 (↑g.fst.length : Int)) ∧
 (([] :
 List
 (Int ×
 Int)).length +
 (List.drop (nat_lit 0)
 (List.take
 g_1.fst.toNat
 g.fst)).length ≤
 (9223372036854775807 :
 Nat) ∧
 (([] :
 List
 (Int ×
 Int)).length +
 (List.drop
 (nat_lit 0)
 (List.take
 g_1.fst.toNat
 g.fst)).length +
 (([] :
 List
 (Int ×
 Int)).length +
 (List.drop
 (nat_lit 0)
 (List.take
 g_1.fst.toNat
 g.fst)).length) /
 (4 : Nat) +
 (192 : Nat)) *
 (16 : Nat) ≤
 (281474976710656 : Nat)) ∧
 ((-9223372036854775808 :
 Int) ≤
 g_1.fst + (1 : Int) ∧
 g_1.fst + (1 : Int) ≤
 (9223372036854775807 :
 Int)) ∧
 (((0 : Int) ≤
 g_1.fst +
 (1 : Int) ∧
 g_1.fst + (1 : Int) ≤
 (↑g.fst.length :
 Int)) ∧
 (↑g.fst.length : Int) ≤
 (↑g.fst.length :
 Int)) ∧
 ((([] :
 List
 (Int ×
 Int)) ++
 List.drop
 (nat_lit 0)
 (List.take
 g_1.fst.toNat
 g.fst)).length +
 (List.drop
 (g_1.fst +
 (1 :
 Int)).toNat
 (List.take
 (↑g.fst.length :
 Int).toNat
 g.fst)).length ≤
 (9223372036854775807 :
 Nat) ∧
 ((([] :
 List
 (Int ×
 Int)) ++
 List.drop
 (nat_lit
 0)
 (List.take
 g_1.fst.toNat
 g.fst)).length +
 (List.drop
 (g_1.fst +
 (1 :
 Int)).toNat
 (List.take
 (↑g.fst.length :
 Int).toNat
 g.fst)).length +
 ((([] :
 List
 (Int ×
 Int)) ++
 List.drop
 (nat_lit
 0)
 (List.take
 g_1.fst.toNat
 g.fst)).length +
 (List.drop
 (g_1.fst +
 (1 :
 Int)).toNat
 (List.take
 (↑g.fst.length :
 Int).toNat
 g.fst)).length) /
 (4 : Nat) +
 (192 : Nat)) *
 (16 : Nat) ≤
 (281474976710656 :
 Nat)) ∧
 (decide
 ((0 : Int) <
 g.snd.snd.snd.fst -
 (1 : Int)) =
 true →
 ((((0 : Int) ≤
 (0 :
 Int) ∧
 (0 : Int) ≤
 (↑(([] :
 List
 (Int ×
 Int)) ++
 List.drop
 (nat_lit
 0)
 (List.take
 g_1.fst.toNat
 g.fst) ++
 List.drop
 (g_1.fst +
 (1 :
 Int)).toNat
 (List.take
 (↑g.fst.length :
 Int).toNat
 g.fst)).length :
 Int) ∧
 ((List.take
 (Int.toNat
 (0 :
 Int))
 (([] :
 List
 (Int ×
 Int)) ++
 List.drop
 (nat_lit
 0)
 (List.take
 g_1.fst.toNat
 g.fst) ++
 List.drop
 (g_1.fst +
 (1 :
 Int)).toNat
 (List.take
 (↑g.fst.length :
 Int).toNat
 g.fst))).all
 fun
 e ↦
 decide
 (e.snd =
 (2 :
 Int))) =
 true) ∧
 True) ∧
 ((True ∧ True) ∧
 (↑(([] :
 List
 (Int ×
 Int)) ++
 List.drop
 (nat_lit
 0)
 (List.take
 g_1.fst.toNat
 g.fst) ++
 List.drop
 (g_1.fst +
 (1 :
 Int)).toNat
 (List.take
 (↑g.fst.length :
 Int).toNat
 g.fst)).length :
 Int) =
 (↑(([] :
 List
 (Int ×
 Int)) ++
 List.drop
 (nat_lit
 0)
 (List.take
 g_1.fst.toNat
 g.fst) ++
 List.drop
 (g_1.fst +
 (1 :
 Int)).toNat
 (List.take
 (↑g.fst.length :
 Int).toNat
 g.fst)).length :
 Int) ∧
 (0 :
 Int) =
 (0 :
 Int) ∧
 True) ∧
 ((True ∧
 True) ∧
 ([] :
 List
 (Int ×
 Int)) ++
 List.drop
 (nat_lit
 0)
 (List.take
 g_1.fst.toNat
 g.fst) ++
 List.drop
 (g_1.fst +
 (1 :
 Int)).toNat
 (List.take
 (↑g.fst.length :
 Int).toNat
 g.fst) =
 ([] :
 List
 (Int ×
 Int)) ++
 List.drop
 (nat_lit
 0)
 (List.take
 g_1.fst.toNat
 g.fst) ++
 List.drop
 (g_1.fst +
 (1 :
 Int)).toNat
 (List.take
 (↑g.fst.length :
 Int).toNat
 g.fst) ∧
 g.snd.fst =
 g.snd.fst ∧
 g.snd.snd.fst ++
 ((0 :
 Int) ::
 ([] :
 List
 Int)).set
 (0 :
 Nat)
 (x.fst.getD
 g.snd.snd.snd.snd.fst.toNat
 ((0 :
 Int),
 (0 :
 Int))).snd =
 g.snd.snd.fst ++
 ((0 :
 Int) ::
 ([] :
 List
 Int)).set
 (0 :
 Nat)
 (x.fst.getD
 g.snd.snd.snd.snd.fst.toNat
 ((0 :
 Int),
 (0 :
 Int))).snd ∧
 (True ∧
 (True ∧
 True) ∧
 True) ∧
 ((x.fst.getD
 g.snd.snd.snd.snd.fst.toNat
 ((0 :
 Int),
 (0 :
 Int))).fst =
 (x.fst.getD
 g.snd.snd.snd.snd.fst.toNat
 ((0 :
 Int),
 (0 :
 Int))).fst ∧
 (x.fst.getD
 g.snd.snd.snd.snd.fst.toNat
 ((0 :
 Int),
 (0 :
 Int))).snd =
 (x.fst.getD
 g.snd.snd.snd.snd.fst.toNat
 ((0 :
 Int),
 (0 :
 Int))).snd ∧
 True) ∧
 g.fst =
 g.fst ∧
 ((0 :
 Int) ::
 ([] :
 List
 Int)).set
 (0 :
 Nat)
 (x.fst.getD
 g.snd.snd.snd.snd.fst.toNat
 ((0 :
 Int),
 (0 :
 Int))).snd =
 ((0 :
 Int) ::
 ([] :
 List
 Int)).set
 (0 :
 Nat)
 (x.fst.getD
 g.snd.snd.snd.snd.fst.toNat
 ((0 :
 Int),
 (0 :
 Int))).snd ∧
 True) ∧
 True ∧
 True ∧
 True ∧
 True ∧
 True ∧
 True ∧
 (True ∧
 True) ∧
 True ∧
 True ∧
 Value.slice
 none
 (0 :
 Nat)
 (0 :
 Nat) =
 Value.slice
 none
 (0 :
 Nat)
 (0 :
 Nat) ∧
 g.snd.snd.snd.fst -
 (1 :
 Int) =
 g.snd.snd.snd.fst -
 (1 :
 Int) ∧
 True ∧
 True ∧
 (True ∧
 True) ∧
 g_1.fst =
 g_1.fst ∧
 (0 :
 Int) =
 (0 :
 Int) ∧
 True ∧
 True ∧
 ((x.fst.getD
 g.snd.snd.snd.snd.fst.toNat
 ((0 :
 Int),
 (0 :
 Int))).fst ==
 (1 :
 Int) ||
 (x.fst.getD
 g.snd.snd.snd.snd.fst.toNat
 ((0 :
 Int),
 (0 :
 Int))).fst ==
 (2 :
 Int) ||
 (x.fst.getD
 g.snd.snd.snd.snd.fst.toNat
 ((0 :
 Int),
 (0 :
 Int))).fst ==
 (3 :
 Int)) =
 ((x.fst.getD
 g.snd.snd.snd.snd.fst.toNat
 ((0 :
 Int),
 (0 :
 Int))).fst ==
 (1 :
 Int) ||
 (x.fst.getD
 g.snd.snd.snd.snd.fst.toNat
 ((0 :
 Int),
 (0 :
 Int))).fst ==
 (2 :
 Int) ||
 (x.fst.getD
 g.snd.snd.snd.snd.fst.toNat
 ((0 :
 Int),
 (0 :
 Int))).fst ==
 (3 :
 Int)) ∧
 True ∧
 True ∧
 True ∧
 x.fst =
 x.fst ∧
 (↑x.fst.length :
 Int) =
 (↑x.fst.length :
 Int) ∧
 g.snd.snd.snd.snd.fst =
 g.snd.snd.snd.snd.fst ∧
 True ∧
 True ∧
 True ∧
 True ∧
 (↑g.fst.length :
 Int) =
 (↑g.fst.length :
 Int) ∧
 g_1.snd.fst =
 g_1.snd.fst ∧
 false =
 false ∧
 True ∧
 True ∧
 True ∧
 True ∧
 True ∧
 True ∧
 True ∧
 True ∧
 True ∧
 True ∧
 (True ∧
 True) ∧
 (x.fst.getD
 g.snd.snd.snd.snd.fst.toNat
 ((0 :
 Int),
 (0 :
 Int))).fst =
 (x.fst.getD
 g.snd.snd.snd.snd.fst.toNat
 ((0 :
 Int),
 (0 :
 Int))).fst ∧
 ((x.fst.getD
 g.snd.snd.snd.snd.fst.toNat
 ((0 :
 Int),
 (0 :
 Int))).fst ==
 (1 :
 Int)) =
 ((x.fst.getD
 g.snd.snd.snd.snd.fst.toNat
 ((0 :
 Int),
 (0 :
 Int))).fst ==
 (1 :
 Int)) ∧
 ((x.fst.getD
 g.snd.snd.snd.snd.fst.toNat
 ((0 :
 Int),
 (0 :
 Int))).fst ==
 (1 :
 Int)) =
 ((x.fst.getD
 g.snd.snd.snd.snd.fst.toNat
 ((0 :
 Int),
 (0 :
 Int))).fst ==
 (1 :
 Int)) ∧
 True ∧
 True ∧
 True ∧
 ((x.fst.getD
 g.snd.snd.snd.snd.fst.toNat
 ((0 :
 Int),
 (0 :
 Int))).fst ==
 (1 :
 Int) ||
 (x.fst.getD
 g.snd.snd.snd.snd.fst.toNat
 ((0 :
 Int),
 (0 :
 Int))).fst ==
 (2 :
 Int)) =
 ((x.fst.getD
 g.snd.snd.snd.snd.fst.toNat
 ((0 :
 Int),
 (0 :
 Int))).fst ==
 (1 :
 Int) ||
 (x.fst.getD
 g.snd.snd.snd.snd.fst.toNat
 ((0 :
 Int),
 (0 :
 Int))).fst ==
 (2 :
 Int)) ∧
 ((x.fst.getD
 g.snd.snd.snd.snd.fst.toNat
 ((0 :
 Int),
 (0 :
 Int))).fst ==
 (1 :
 Int) ||
 (x.fst.getD
 g.snd.snd.snd.snd.fst.toNat
 ((0 :
 Int),
 (0 :
 Int))).fst ==
 (2 :
 Int)) =
 ((x.fst.getD
 g.snd.snd.snd.snd.fst.toNat
 ((0 :
 Int),
 (0 :
 Int))).fst ==
 (1 :
 Int) ||
 (x.fst.getD
 g.snd.snd.snd.snd.fst.toNat
 ((0 :
 Int),
 (0 :
 Int))).fst ==
 (2 :
 Int)) ∧
 True ∧
 True ∧
 True ∧
 ((x.fst.getD
 g.snd.snd.snd.snd.fst.toNat
 ((0 :
 Int),
 (0 :
 Int))).fst ==
 (1 :
 Int) ||
 (x.fst.getD
 g.snd.snd.snd.snd.fst.toNat
 ((0 :
 Int),
 (0 :
 Int))).fst ==
 (2 :
 Int) ||
 (x.fst.getD
 g.snd.snd.snd.snd.fst.toNat
 ((0 :
 Int),
 (0 :
 Int))).fst ==
 (3 :
 Int)) =
 ((x.fst.getD
 g.snd.snd.snd.snd.fst.toNat
 ((0 :
 Int),
 (0 :
 Int))).fst ==
 (1 :
 Int) ||
 (x.fst.getD
 g.snd.snd.snd.snd.fst.toNat
 ((0 :
 Int),
 (0 :
 Int))).fst ==
 (2 :
 Int) ||
 (x.fst.getD
 g.snd.snd.snd.snd.fst.toNat
 ((0 :
 Int),
 (0 :
 Int))).fst ==
 (3 :
 Int)) ∧
 True ∧
 True ∧
 True ∧
 True ∧
 True ∧
 True ∧
 True ∧
 false =
 false ∧
 (True ∧
 True) ∧
 (x.fst.getD
 g.snd.snd.snd.snd.fst.toNat
 ((0 :
 Int),
 (0 :
 Int))).fst =
 (x.fst.getD
 g.snd.snd.snd.snd.fst.toNat
 ((0 :
 Int),
 (0 :
 Int))).fst ∧
 decide
 ((x.fst.getD
 g.snd.snd.snd.snd.fst.toNat
 ((0 :
 Int),
 (0 :
 Int))).fst <
 (1 :
 Int)) =
 decide
 ((x.fst.getD
 g.snd.snd.snd.snd.fst.toNat
 ((0 :
 Int),
 (0 :
 Int))).fst <
 (1 :
 Int)) ∧
 decide
 ((x.fst.getD
 g.snd.snd.snd.snd.fst.toNat
 ((0 :
 Int),
 (0 :
 Int))).fst <
 (1 :
 Int)) =
 decide
 ((x.fst.getD
 g.snd.snd.snd.snd.fst.toNat
 ((0 :
 Int),
 (0 :
 Int))).fst <
 (1 :
 Int)) ∧
 True ∧
 True ∧
 True ∧
 (decide
 ((x.fst.getD
 g.snd.snd.snd.snd.fst.toNat
 ((0 :
 Int),
 (0 :
 Int))).fst <
 (1 :
 Int)) ||
 decide
 ((5 :
 Int) <
 (x.fst.getD
 g.snd.snd.snd.snd.fst.toNat
 ((0 :
 Int),
 (0 :
 Int))).fst)) =
 (decide
 ((x.fst.getD
 g.snd.snd.snd.snd.fst.toNat
 ((0 :
 Int),
 (0 :
 Int))).fst <
 (1 :
 Int)) ||
 decide
 ((5 :
 Int) <
 (x.fst.getD
 g.snd.snd.snd.snd.fst.toNat
 ((0 :
 Int),
 (0 :
 Int))).fst)) ∧
 false =
 false ∧
 (True ∧
 True) ∧
 (x.fst.getD
 g.snd.snd.snd.snd.fst.toNat
 ((0 :
 Int),
 (0 :
 Int))).snd =
 (x.fst.getD
 g.snd.snd.snd.snd.fst.toNat
 ((0 :
 Int),
 (0 :
 Int))).snd ∧
 decide
 ((x.fst.getD
 g.snd.snd.snd.snd.fst.toNat
 ((0 :
 Int),
 (0 :
 Int))).snd <
 (0 :
 Int)) =
 decide
 ((x.fst.getD
 g.snd.snd.snd.snd.fst.toNat
 ((0 :
 Int),
 (0 :
 Int))).snd <
 (0 :
 Int)) ∧
 decide
 ((x.fst.getD
 g.snd.snd.snd.snd.fst.toNat
 ((0 :
 Int),
 (0 :
 Int))).snd <
 (0 :
 Int)) =
 decide
 ((x.fst.getD
 g.snd.snd.snd.snd.fst.toNat
 ((0 :
 Int),
 (0 :
 Int))).snd <
 (0 :
 Int)) ∧
 True ∧
 True ∧
 True ∧
 (decide
 ((x.fst.getD
 g.snd.snd.snd.snd.fst.toNat
 ((0 :
 Int),
 (0 :
 Int))).snd <
 (0 :
 Int)) ||
 decide
 ((63 :
 Int) <
 (x.fst.getD
 g.snd.snd.snd.snd.fst.toNat
 ((0 :
 Int),
 (0 :
 Int))).snd)) =
 (decide
 ((x.fst.getD
 g.snd.snd.snd.snd.fst.toNat
 ((0 :
 Int),
 (0 :
 Int))).snd <
 (0 :
 Int)) ||
 decide
 ((63 :
 Int) <
 (x.fst.getD
 g.snd.snd.snd.snd.fst.toNat
 ((0 :
 Int),
 (0 :
 Int))).snd)) ∧
 false =
 false ∧
 ((x.fst.getD
 g.snd.snd.snd.snd.fst.toNat
 ((0 :
 Int),
 (0 :
 Int))).fst ==
 (1 :
 Int) ||
 (x.fst.getD
 g.snd.snd.snd.snd.fst.toNat
 ((0 :
 Int),
 (0 :
 Int))).fst ==
 (2 :
 Int) ||
 (x.fst.getD
 g.snd.snd.snd.snd.fst.toNat
 ((0 :
 Int),
 (0 :
 Int))).fst ==
 (3 :
 Int)) =
 ((x.fst.getD
 g.snd.snd.snd.snd.fst.toNat
 ((0 :
 Int),
 (0 :
 Int))).fst ==
 (1 :
 Int) ||
 (x.fst.getD
 g.snd.snd.snd.snd.fst.toNat
 ((0 :
 Int),
 (0 :
 Int))).fst ==
 (2 :
 Int) ||
 (x.fst.getD
 g.snd.snd.snd.snd.fst.toNat
 ((0 :
 Int),
 (0 :
 Int))).fst ==
 (3 :
 Int)) ∧
 ((x.fst.getD
 g.snd.snd.snd.snd.fst.toNat
 ((0 :
 Int),
 (0 :
 Int))).fst ==
 (1 :
 Int) ||
 (x.fst.getD
 g.snd.snd.snd.snd.fst.toNat
 ((0 :
 Int),
 (0 :
 Int))).fst ==
 (2 :
 Int) ||
 (x.fst.getD
 g.snd.snd.snd.snd.fst.toNat
 ((0 :
 Int),
 (0 :
 Int))).fst ==
 (3 :
 Int)) =
 ((x.fst.getD
 g.snd.snd.snd.snd.fst.toNat
 ((0 :
 Int),
 (0 :
 Int))).fst ==
 (1 :
 Int) ||
 (x.fst.getD
 g.snd.snd.snd.snd.fst.toNat
 ((0 :
 Int),
 (0 :
 Int))).fst ==
 (2 :
 Int) ||
 (x.fst.getD
 g.snd.snd.snd.snd.fst.toNat
 ((0 :
 Int),
 (0 :
 Int))).fst ==
 (3 :
 Int)) ∧
 True ∧
 True ∧
 (((x.fst.getD
 g.snd.snd.snd.snd.fst.toNat
 ((0 :
 Int),
 (0 :
 Int))).fst ==
 (1 :
 Int) ||
 (x.fst.getD
 g.snd.snd.snd.snd.fst.toNat
 ((0 :
 Int),
 (0 :
 Int))).fst ==
 (2 :
 Int) ||
 (x.fst.getD
 g.snd.snd.snd.snd.fst.toNat
 ((0 :
 Int),
 (0 :
 Int))).fst ==
 (3 :
 Int)) &&
 decide
 ((0 :
 Int) ≤
 g_1.fst)) =
 (((x.fst.getD
 g.snd.snd.snd.snd.fst.toNat
 ((0 :
 Int),
 (0 :
 Int))).fst ==
 (1 :
 Int) ||
 (x.fst.getD
 g.snd.snd.snd.snd.fst.toNat
 ((0 :
 Int),
 (0 :
 Int))).fst ==
 (2 :
 Int) ||
 (x.fst.getD
 g.snd.snd.snd.snd.fst.toNat
 ((0 :
 Int),
 (0 :
 Int))).fst ==
 (3 :
 Int)) &&
 decide
 ((0 :
 Int) ≤
 g_1.fst)) ∧
 (((x.fst.getD
 g.snd.snd.snd.snd.fst.toNat
 ((0 :
 Int),
 (0 :
 Int))).fst ==
 (1 :
 Int) ||
 (x.fst.getD
 g.snd.snd.snd.snd.fst.toNat
 ((0 :
 Int),
 (0 :
 Int))).fst ==
 (2 :
 Int) ||
 (x.fst.getD
 g.snd.snd.snd.snd.fst.toNat
 ((0 :
 Int),
 (0 :
 Int))).fst ==
 (3 :
 Int)) &&
 decide
 ((0 :
 Int) ≤
 g_1.fst)) =
 (((x.fst.getD
 g.snd.snd.snd.snd.fst.toNat
 ((0 :
 Int),
 (0 :
 Int))).fst ==
 (1 :
 Int) ||
 (x.fst.getD
 g.snd.snd.snd.snd.fst.toNat
 ((0 :
 Int),
 (0 :
 Int))).fst ==
 (2 :
 Int) ||
 (x.fst.getD
 g.snd.snd.snd.snd.fst.toNat
 ((0 :
 Int),
 (0 :
 Int))).fst ==
 (3 :
 Int)) &&
 decide
 ((0 :
 Int) ≤
 g_1.fst)) ∧
 True ∧
 True ∧
 True ∧
 True ∧
 True ∧
 True ∧
 (((x.fst.getD
 g.snd.snd.snd.snd.fst.toNat
 ((0 :
 Int),
 (0 :
 Int))).fst ==
 (1 :
 Int) ||
 (x.fst.getD
 g.snd.snd.snd.snd.fst.toNat
 ((0 :
 Int),
 (0 :
 Int))).fst ==
 (2 :
 Int) ||
 (x.fst.getD
 g.snd.snd.snd.snd.fst.toNat
 ((0 :
 Int),
 (0 :
 Int))).fst ==
 (3 :
 Int)) &&
 decide
 ((0 :
 Int) ≤
 g_1.fst) &&
 (g.fst.getD
 g_1.fst.toNat
 ((0 :
 Int),
 (0 :
 Int))).snd ==
 (1 :
 Int)) =
 (((x.fst.getD
 g.snd.snd.snd.snd.fst.toNat
 ((0 :
 Int),
 (0 :
 Int))).fst ==
 (1 :
 Int) ||
 (x.fst.getD
 g.snd.snd.snd.snd.fst.toNat
 ((0 :
 Int),
 (0 :
 Int))).fst ==
 (2 :
 Int) ||
 (x.fst.getD
 g.snd.snd.snd.snd.fst.toNat
 ((0 :
 Int),
 (0 :
 Int))).fst ==
 (3 :
 Int)) &&
 decide
 ((0 :
 Int) ≤
 g_1.fst) &&
 (g.fst.getD
 g_1.fst.toNat
 ((0 :
 Int),
 (0 :
 Int))).snd ==
 (1 :
 Int)) ∧
 false =
 false ∧
 (True ∧
 True) ∧
 (x.fst.getD
 g.snd.snd.snd.snd.fst.toNat
 ((0 :
 Int),
 (0 :
 Int))).fst =
 (x.fst.getD
 g.snd.snd.snd.snd.fst.toNat
 ((0 :
 Int),
 (0 :
 Int))).fst ∧
 ((x.fst.getD
 g.snd.snd.snd.snd.fst.toNat
 ((0 :
 Int),
 (0 :
 Int))).fst ==
 (1 :
 Int)) =
 ((x.fst.getD
 g.snd.snd.snd.snd.fst.toNat
 ((0 :
 Int),
 (0 :
 Int))).fst ==
 (1 :
 Int)) ∧
 ((x.fst.getD
 g.snd.snd.snd.snd.fst.toNat
 ((0 :
 Int),
 (0 :
 Int))).fst ==
 (1 :
 Int)) =
 ((x.fst.getD
 g.snd.snd.snd.snd.fst.toNat
 ((0 :
 Int),
 (0 :
 Int))).fst ==
 (1 :
 Int)) ∧
 True ∧
 True ∧
 ((x.fst.getD
 g.snd.snd.snd.snd.fst.toNat
 ((0 :
 Int),
 (0 :
 Int))).fst ==
 (1 :
 Int) &&
 decide
 (g_1.fst <
 (0 :
 Int))) =
 ((x.fst.getD
 g.snd.snd.snd.snd.fst.toNat
 ((0 :
 Int),
 (0 :
 Int))).fst ==
 (1 :
 Int) &&
 decide
 (g_1.fst <
 (0 :
 Int))) ∧
 True ∧
 True ∧
 True ∧
 True ∧
 True ∧
 True ∧
 false =
 false ∧
 (True ∧
 True) ∧
 (x.fst.getD
 g.snd.snd.snd.snd.fst.toNat
 ((0 :
 Int),
 (0 :
 Int))).fst =
 (x.fst.getD
 g.snd.snd.snd.snd.fst.toNat
 ((0 :
 Int),
 (0 :
 Int))).fst ∧
 ((x.fst.getD
 g.snd.snd.snd.snd.fst.toNat
 ((0 :
 Int),
 (0 :
 Int))).fst ==
 (1 :
 Int)) =
 ((x.fst.getD
 g.snd.snd.snd.snd.fst.toNat
 ((0 :
 Int),
 (0 :
 Int))).fst ==
 (1 :
 Int)) ∧
 True ∧
 True ∧
 True ∧
 True ∧
 false =
 false ∧
 ((x.fst.getD
 g.snd.snd.snd.snd.fst.toNat
 ((0 :
 Int),
 (0 :
 Int))).fst ==
 (1 :
 Int) ||
 (x.fst.getD
 g.snd.snd.snd.snd.fst.toNat
 ((0 :
 Int),
 (0 :
 Int))).fst ==
 (2 :
 Int) ||
 (x.fst.getD
 g.snd.snd.snd.snd.fst.toNat
 ((0 :
 Int),
 (0 :
 Int))).fst ==
 (3 :
 Int)) =
 ((x.fst.getD
 g.snd.snd.snd.snd.fst.toNat
 ((0 :
 Int),
 (0 :
 Int))).fst ==
 (1 :
 Int) ||
 (x.fst.getD
 g.snd.snd.snd.snd.fst.toNat
 ((0 :
 Int),
 (0 :
 Int))).fst ==
 (2 :
 Int) ||
 (x.fst.getD
 g.snd.snd.snd.snd.fst.toNat
 ((0 :
 Int),
 (0 :
 Int))).fst ==
 (3 :
 Int)) ∧
 ((x.fst.getD
 g.snd.snd.snd.snd.fst.toNat
 ((0 :
 Int),
 (0 :
 Int))).fst ==
 (1 :
 Int) ||
 (x.fst.getD
 g.snd.snd.snd.snd.fst.toNat
 ((0 :
 Int),
 (0 :
 Int))).fst ==
 (2 :
 Int) ||
 (x.fst.getD
 g.snd.snd.snd.snd.fst.toNat
 ((0 :
 Int),
 (0 :
 Int))).fst ==
 (3 :
 Int)) =
 ((x.fst.getD
 g.snd.snd.snd.snd.fst.toNat
 ((0 :
 Int),
 (0 :
 Int))).fst ==
 (1 :
 Int) ||
 (x.fst.getD
 g.snd.snd.snd.snd.fst.toNat
 ((0 :
 Int),
 (0 :
 Int))).fst ==
 (2 :
 Int) ||
 (x.fst.getD
 g.snd.snd.snd.snd.fst.toNat
 ((0 :
 Int),
 (0 :
 Int))).fst ==
 (3 :
 Int)) ∧
 True ∧
 True ∧
 (((x.fst.getD
 g.snd.snd.snd.snd.fst.toNat
 ((0 :
 Int),
 (0 :
 Int))).fst ==
 (1 :
 Int) ||
 (x.fst.getD
 g.snd.snd.snd.snd.fst.toNat
 ((0 :
 Int),
 (0 :
 Int))).fst ==
 (2 :
 Int) ||
 (x.fst.getD
 g.snd.snd.snd.snd.fst.toNat
 ((0 :
 Int),
 (0 :
 Int))).fst ==
 (3 :
 Int)) &&
 decide
 (g_1.fst <
 (0 :
 Int))) =
 (((x.fst.getD
 g.snd.snd.snd.snd.fst.toNat
 ((0 :
 Int),
 (0 :
 Int))).fst ==
 (1 :
 Int) ||
 (x.fst.getD
 g.snd.snd.snd.snd.fst.toNat
 ((0 :
 Int),
 (0 :
 Int))).fst ==
 (2 :
 Int) ||
 (x.fst.getD
 g.snd.snd.snd.snd.fst.toNat
 ((0 :
 Int),
 (0 :
 Int))).fst ==
 (3 :
 Int)) &&
 decide
 (g_1.fst <
 (0 :
 Int))) ∧
 false =
 false ∧
 (True ∧
 True) ∧
 (x.fst.getD
 g.snd.snd.snd.snd.fst.toNat
 ((0 :
 Int),
 (0 :
 Int))).fst =
 (x.fst.getD
 g.snd.snd.snd.snd.fst.toNat
 ((0 :
 Int),
 (0 :
 Int))).fst ∧
 ((x.fst.getD
 g.snd.snd.snd.snd.fst.toNat
 ((0 :
 Int),
 (0 :
 Int))).fst ==
 (3 :
 Int)) =
 ((x.fst.getD
 g.snd.snd.snd.snd.fst.toNat
 ((0 :
 Int),
 (0 :
 Int))).fst ==
 (3 :
 Int)) ∧
 True ∧
 True ∧
 True ∧
 True ∧
 True ∧
 True ∧
 True ∧
 True ∧
 True ∧
 True ∧
 True ∧
 True ∧
 True ∧
 True ∧
 false =
 false ∧
 (True ∧
 True) ∧
 (x.fst.getD
 g.snd.snd.snd.snd.fst.toNat
 ((0 :
 Int),
 (0 :
 Int))).fst =
 (x.fst.getD
 g.snd.snd.snd.snd.fst.toNat
 ((0 :
 Int),
 (0 :
 Int))).fst ∧
 ((x.fst.getD
 g.snd.snd.snd.snd.fst.toNat
 ((0 :
 Int),
 (0 :
 Int))).fst ==
 (2 :
 Int)) =
 ((x.fst.getD
 g.snd.snd.snd.snd.fst.toNat
 ((0 :
 Int),
 (0 :
 Int))).fst ==
 (2 :
 Int)) ∧
 ((x.fst.getD
 g.snd.snd.snd.snd.fst.toNat
 ((0 :
 Int),
 (0 :
 Int))).fst ==
 (2 :
 Int)) =
 ((x.fst.getD
 g.snd.snd.snd.snd.fst.toNat
 ((0 :
 Int),
 (0 :
 Int))).fst ==
 (2 :
 Int)) ∧
 True ∧
 True ∧
 ((x.fst.getD
 g.snd.snd.snd.snd.fst.toNat
 ((0 :
 Int),
 (0 :
 Int))).fst ==
 (2 :
 Int) &&
 g.snd.snd.snd.fst ==
 (0 :
 Int)) =
 ((x.fst.getD
 g.snd.snd.snd.snd.fst.toNat
 ((0 :
 Int),
 (0 :
 Int))).fst ==
 (2 :
 Int) &&
 g.snd.snd.snd.fst ==
 (0 :
 Int)) ∧
 true =
 true ∧
 (True ∧
 True) ∧
 (x.fst.getD
 g.snd.snd.snd.snd.fst.toNat
 ((0 :
 Int),
 (0 :
 Int))).fst =
 (x.fst.getD
 g.snd.snd.snd.snd.fst.toNat
 ((0 :
 Int),
 (0 :
 Int))).fst ∧
 ((x.fst.getD
 g.snd.snd.snd.snd.fst.toNat
 ((0 :
 Int),
 (0 :
 Int))).fst ==
 (2 :
 Int)) =
 ((x.fst.getD
 g.snd.snd.snd.snd.fst.toNat
 ((0 :
 Int),
 (0 :
 Int))).fst ==
 (2 :
 Int)) ∧
 g.snd.snd.snd.fst =
 g.snd.snd.snd.fst ∧
 g.snd.snd.snd.fst -
 (1 :
 Int) =
 g.snd.snd.snd.fst -
 (1 :
 Int) ∧
 True ∧
 (True ∧
 True) ∧
 (x.fst.getD
 g.snd.snd.snd.snd.fst.toNat
 ((0 :
 Int),
 (0 :
 Int))).snd =
 (x.fst.getD
 g.snd.snd.snd.snd.fst.toNat
 ((0 :
 Int),
 (0 :
 Int))).snd ∧
 True ∧
 True ∧
 True ∧
 True ∧
 g_1.fst =
 g_1.fst ∧
 True ∧
 True ∧
 True ∧
 g_1.fst =
 g_1.fst ∧
 g_1.fst +
 (1 :
 Int) =
 g_1.fst +
 (1 :
 Int) ∧
 True ∧
 True ∧
 g.snd.snd.snd.fst -
 (1 :
 Int) =
 g.snd.snd.snd.fst -
 (1 :
 Int) ∧
 true =
 true ∧
 True ∧
 True ∧
 True ∧
 True ∧
 True ∧
 True ∧
 True ∧
 True ∧
 True ∧
 True ∧
 True ∧
 True ∧
 True ∧
 True ∧
 True ∧
 True ∧
 True ∧
 True ∧
 True ∧
 True ∧
 True ∧
 True ∧
 True ∧
 True ∧
 True ∧
 True ∧
 True ∧
 True ∧
 True ∧
 True ∧
 True ∧
 True ∧
 True ∧
 True ∧
 True ∧
 True ∧
 True ∧
 True ∧
 True ∧
 True ∧
 True ∧
 True ∧
 True) ∧
 ∀
 (g_2 :
 Int × Unit),
 (0 : Int) ≤
 g_2.fst ∧
 g_2.fst ≤
 (↑(([] :
 List
 (Int ×
 Int)) ++
 List.drop
 (nat_lit
 0)
 (List.take
 g_1.fst.toNat
 g.fst) ++
 List.drop
 (g_1.fst +
 (1 :
 Int)).toNat
 (List.take
 (↑g.fst.length :
 Int).toNat
 g.fst)).length :
 Int) ∧
 ((List.take
 g_2.fst.toNat
 (([] :
 List
 (Int ×
 Int)) ++
 List.drop
 (nat_lit
 0)
 (List.take
 g_1.fst.toNat
 g.fst) ++
 List.drop
 (g_1.fst +
 (1 :
 Int)).toNat
 (List.take
 (↑g.fst.length :
 Int).toNat
 g.fst))).all
 fun
 e ↦
 decide
 (e.snd =
 (2 :
 Int))) =
 true →
 ((-9223372036854775808 :
 Int) ≤
 g_2.fst ∧
 g_2.fst ≤
 (9223372036854775807 :
 Int)) ∧
 True →
 (decide
 (g_2.fst <
 (↑(([] :
 List
 (Int ×
 Int)) ++
 List.drop
 (nat_lit
 0)
 (List.take
 g_1.fst.toNat
 g.fst) ++
 List.drop
 (g_1.fst +
 (1 :
 Int)).toNat
 (List.take
 (↑g.fst.length :
 Int).toNat
 g.fst)).length :
 Int)) =
 true →
 ((0 :
 Int) ≤
 g_2.fst ∧
 g_2.fst <
 (↑(([] :
 List
 (Int ×
 Int)) ++
 List.drop
 (nat_lit
 0)
 (List.take
 g_1.fst.toNat
 g.fst) ++
 List.drop
 (g_1.fst +
 (1 :
 Int)).toNat
 (List.take
 (↑g.fst.length :
 Int).toNat
 g.fst)).length :
 Int)) ∧
 ((((([] :
 List
 (Int ×
 Int)) ++
 List.drop
 (nat_lit
 0)
 (List.take
 g_1.fst.toNat
 g.fst) ++
 List.drop
 (g_1.fst +
 (1 :
 Int)).toNat
 (List.take
 (↑g.fst.length :
 Int).toNat
 g.fst)).getD
 g_2.fst.toNat
 ((0 :
 Int),
 (0 :
 Int))).snd !=
 (2 :
 Int)) =
 true →
 ((0 :
 Int) ≤
 g_2.fst ∧
 g_2.fst <
 (↑(([] :
 List
 (Int ×
 Int)) ++
 List.drop
 (nat_lit
 0)
 (List.take
 g_1.fst.toNat
 g.fst) ++
 List.drop
 (g_1.fst +
 (1 :
 Int)).toNat
 (List.take
 (↑g.fst.length :
 Int).toNat
 g.fst)).length :
 Int)) ∧
 (g.snd.fst.length +
 (((0 :
 Int) ::
 ([] :
 List
 Int)).set
 (0 :
 Nat)
 (0 :
 Int)).length ≤
 (9223372036854775807 :
 Nat) ∧
 (g.snd.fst.length +
 (((0 :
 Int) ::
 ([] :
 List
 Int)).set
 (0 :
 Nat)
 (0 :
 Int)).length +
 (g.snd.fst.length +
 (((0 :
 Int) ::
 ([] :
 List
 Int)).set
 (0 :
 Nat)
 (0 :
 Int)).length) /
 (4 :
 Nat) +
 (192 :
 Nat)) *
 (8 :
 Nat) ≤
 (281474976710656 :
 Nat)) ∧
 ((-9223372036854775808 :
 Int) ≤
 g.snd.snd.snd.snd.fst +
 (1 :
 Int) ∧
 g.snd.snd.snd.snd.fst +
 (1 :
 Int) ≤
 (9223372036854775807 :
 Int)) ∧
 (((0 :
 Int) ≤
 g.snd.snd.snd.snd.fst +
 (1 :
 Int) ∧
 g.snd.snd.snd.snd.fst +
 (1 :
 Int) ≤
 (↑x.fst.length :
 Int) ∧
 (↑(g.snd.fst ++
 ((0 :
 Int) ::
 ([] :
 List
 Int)).set
 (0 :
 Nat)
 (0 :
 Int)).length :
 Int) =
 g.snd.snd.snd.snd.fst +
 (1 :
 Int) ∧
 pl
 (List.take
 (g.snd.snd.snd.snd.fst +
 (1 :
 Int)).toNat
 x.fst) =
 (((([] :
 List
 (Int ×
 Int)) ++
 List.drop
 (nat_lit
 0)
 (List.take
 g_1.fst.toNat
 g.fst) ++
 List.drop
 (g_1.fst +
 (1 :
 Int)).toNat
 (List.take
 (↑g.fst.length :
 Int).toNat
 g.fst)).set
 g_2.fst.toNat
 (((([] :
 List
 (Int ×
 Int)) ++
 List.drop
 (nat_lit
 0)
 (List.take
 g_1.fst.toNat
 g.fst) ++
 List.drop
 (g_1.fst +
 (1 :
 Int)).toNat
 (List.take
 (↑g.fst.length :
 Int).toNat
 g.fst)).getD
 g_2.fst.toNat
 ((0 :
 Int),
 (0 :
 Int))).fst,
 (2 :
 Int)),
 g.snd.snd.snd.fst -
 (1 :
 Int),
 g.snd.snd.fst ++
 ((0 :
 Int) ::
 ([] :
 List
 Int)).set
 (0 :
 Nat)
 (x.fst.getD
 g.snd.snd.snd.snd.fst.toNat
 ((0 :
 Int),
 (0 :
 Int))).snd),
 g.snd.fst ++
 ((0 :
 Int) ::
 ([] :
 List
 Int)).set
 (0 :
 Nat)
 (0 :
 Int)) ∧
 good
 ((([] :
 List
 (Int ×
 Int)) ++
 List.drop
 (nat_lit
 0)
 (List.take
 g_1.fst.toNat
 g.fst) ++
 List.drop
 (g_1.fst +
 (1 :
 Int)).toNat
 (List.take
 (↑g.fst.length :
 Int).toNat
 g.fst)).set
 g_2.fst.toNat
 (((([] :
 List
 (Int ×
 Int)) ++
 List.drop
 (nat_lit
 0)
 (List.take
 g_1.fst.toNat
 g.fst) ++
 List.drop
 (g_1.fst +
 (1 :
 Int)).toNat
 (List.take
 (↑g.fst.length :
 Int).toNat
 g.fst)).getD
 g_2.fst.toNat
 ((0 :
 Int),
 (0 :
 Int))).fst,
 (2 :
 Int)),
 g.snd.snd.snd.fst -
 (1 :
 Int),
 g.snd.snd.fst ++
 ((0 :
 Int) ::
 ([] :
 List
 Int)).set
 (0 :
 Nat)
 (x.fst.getD
 g.snd.snd.snd.snd.fst.toNat
 ((0 :
 Int),
 (0 :
 Int))).snd)
 (g.snd.snd.snd.snd.fst +
 (1 :
 Int))) ∧
 ((↑x.fst.length :
 Int) -
 (g.snd.snd.snd.snd.fst +
 (1 :
 Int))).toNat <
 ((↑x.fst.length :
 Int) -
 g.snd.snd.snd.snd.fst).toNat) ∧
 ((True ∧
 True) ∧
 True ∧
 True ∧
 Value.slice
 none
 (0 :
 Nat)
 (0 :
 Nat) =
 Value.slice
 none
 (0 :
 Nat)
 (0 :
 Nat) ∧
 g.snd.snd.snd.fst -
 (1 :
 Int) =
 g.snd.snd.snd.fst -
 (1 :
 Int) ∧
 True ∧
 x.fst =
 x.fst ∧
 (↑x.fst.length :
 Int) =
 (↑x.fst.length :
 Int) ∧
 g.snd.snd.snd.snd.fst +
 (1 :
 Int) =
 g.snd.snd.snd.snd.fst +
 (1 :
 Int) ∧
 True) ∧
 ((True ∧
 True) ∧
 (([] :
 List
 (Int ×
 Int)) ++
 List.drop
 (nat_lit
 0)
 (List.take
 g_1.fst.toNat
 g.fst) ++
 List.drop
 (g_1.fst +
 (1 :
 Int)).toNat
 (List.take
 (↑g.fst.length :
 Int).toNat
 g.fst)).set
 g_2.fst.toNat
 (((([] :
 List
 (Int ×
 Int)) ++
 List.drop
 (nat_lit
 0)
 (List.take
 g_1.fst.toNat
 g.fst) ++
 List.drop
 (g_1.fst +
 (1 :
 Int)).toNat
 (List.take
 (↑g.fst.length :
 Int).toNat
 g.fst)).getD
 g_2.fst.toNat
 ((0 :
 Int),
 (0 :
 Int))).fst,
 (2 :
 Int)) =
 (([] :
 List
 (Int ×
 Int)) ++
 List.drop
 (nat_lit
 0)
 (List.take
 g_1.fst.toNat
 g.fst) ++
 List.drop
 (g_1.fst +
 (1 :
 Int)).toNat
 (List.take
 (↑g.fst.length :
 Int).toNat
 g.fst)).set
 g_2.fst.toNat
 (((([] :
 List
 (Int ×
 Int)) ++
 List.drop
 (nat_lit
 0)
 (List.take
 g_1.fst.toNat
 g.fst) ++
 List.drop
 (g_1.fst +
 (1 :
 Int)).toNat
 (List.take
 (↑g.fst.length :
 Int).toNat
 g.fst)).getD
 g_2.fst.toNat
 ((0 :
 Int),
 (0 :
 Int))).fst,
 (2 :
 Int)) ∧
 g.snd.fst ++
 ((0 :
 Int) ::
 ([] :
 List
 Int)).set
 (0 :
 Nat)
 (0 :
 Int) =
 g.snd.fst ++
 ((0 :
 Int) ::
 ([] :
 List
 Int)).set
 (0 :
 Nat)
 (0 :
 Int) ∧
 g.snd.snd.fst ++
 ((0 :
 Int) ::
 ([] :
 List
 Int)).set
 (0 :
 Nat)
 (x.fst.getD
 g.snd.snd.snd.snd.fst.toNat
 ((0 :
 Int),
 (0 :
 Int))).snd =
 g.snd.snd.fst ++
 ((0 :
 Int) ::
 ([] :
 List
 Int)).set
 (0 :
 Nat)
 (x.fst.getD
 g.snd.snd.snd.snd.fst.toNat
 ((0 :
 Int),
 (0 :
 Int))).snd ∧
 (True ∧
 (True ∧
 True) ∧
 True) ∧
 True) ∧
 True) ∧
 ((((([] :
 List
 (Int ×
 Int)) ++
 List.drop
 (nat_lit
 0)
 (List.take
 g_1.fst.toNat
 g.fst) ++
 List.drop
 (g_1.fst +
 (1 :
 Int)).toNat
 (List.take
 (↑g.fst.length :
 Int).toNat
 g.fst)).getD
 g_2.fst.toNat
 ((0 :
 Int),
 (0 :
 Int))).snd !=
 (2 :
 Int)) =
 false →
 ((-9223372036854775808 :
 Int) ≤
 g_2.fst +
 (1 :
 Int) ∧
 g_2.fst +
 (1 :
 Int) ≤
 (9223372036854775807 :
 Int)) ∧
 (((0 :
 Int) ≤
 g_2.fst +
 (1 :
 Int) ∧
 g_2.fst +
 (1 :
 Int) ≤
 (↑(([] :
 List
 (Int ×
 Int)) ++
 List.drop
 (nat_lit
 0)
 (List.take
 g_1.fst.toNat
 g.fst) ++
 List.drop
 (g_1.fst +
 (1 :
 Int)).toNat
 (List.take
 (↑g.fst.length :
 Int).toNat
 g.fst)).length :
 Int) ∧
 ((List.take
 (g_2.fst +
 (1 :
 Int)).toNat
 (([] :
 List
 (Int ×
 Int)) ++
 List.drop
 (nat_lit
 0)
 (List.take
 g_1.fst.toNat
 g.fst) ++
 List.drop
 (g_1.fst +
 (1 :
 Int)).toNat
 (List.take
 (↑g.fst.length :
 Int).toNat
 g.fst))).all
 fun
 e ↦
 decide
 (e.snd =
 (2 :
 Int))) =
 true) ∧
 ((↑(([] :
 List
 (Int ×
 Int)) ++
 List.drop
 (nat_lit
 0)
 (List.take
 g_1.fst.toNat
 g.fst) ++
 List.drop
 (g_1.fst +
 (1 :
 Int)).toNat
 (List.take
 (↑g.fst.length :
 Int).toNat
 g.fst)).length :
 Int) -
 (g_2.fst +
 (1 :
 Int))).toNat <
 ((↑(([] :
 List
 (Int ×
 Int)) ++
 List.drop
 (nat_lit
 0)
 (List.take
 g_1.fst.toNat
 g.fst) ++
 List.drop
 (g_1.fst +
 (1 :
 Int)).toNat
 (List.take
 (↑g.fst.length :
 Int).toNat
 g.fst)).length :
 Int) -
 g_2.fst).toNat) ∧
 ((True ∧
 True) ∧
 (↑(([] :
 List
 (Int ×
 Int)) ++
 List.drop
 (nat_lit
 0)
 (List.take
 g_1.fst.toNat
 g.fst) ++
 List.drop
 (g_1.fst +
 (1 :
 Int)).toNat
 (List.take
 (↑g.fst.length :
 Int).toNat
 g.fst)).length :
 Int) =
 (↑(([] :
 List
 (Int ×
 Int)) ++
 List.drop
 (nat_lit
 0)
 (List.take
 g_1.fst.toNat
 g.fst) ++
 List.drop
 (g_1.fst +
 (1 :
 Int)).toNat
 (List.take
 (↑g.fst.length :
 Int).toNat
 g.fst)).length :
 Int) ∧
 g_2.fst +
 (1 :
 Int) =
 g_2.fst +
 (1 :
 Int) ∧
 True) ∧
 ((True ∧
 True) ∧
 ([] :
 List
 (Int ×
 Int)) ++
 List.drop
 (nat_lit
 0)
 (List.take
 g_1.fst.toNat
 g.fst) ++
 List.drop
 (g_1.fst +
 (1 :
 Int)).toNat
 (List.take
 (↑g.fst.length :
 Int).toNat
 g.fst) =
 ([] :
 List
 (Int ×
 Int)) ++
 List.drop
 (nat_lit
 0)
 (List.take
 g_1.fst.toNat
 g.fst) ++
 List.drop
 (g_1.fst +
 (1 :
 Int)).toNat
 (List.take
 (↑g.fst.length :
 Int).toNat
 g.fst) ∧
 g.snd.fst =
 g.snd.fst ∧
 g.snd.snd.fst ++
 ((0 :
 Int) ::
 ([] :
 List
 Int)).set
 (0 :
 Nat)
 (x.fst.getD
 g.snd.snd.snd.snd.fst.toNat
 ((0 :
 Int),
 (0 :
 Int))).snd =
 g.snd.snd.fst ++
 ((0 :
 Int) ::
 ([] :
 List
 Int)).set
 (0 :
 Nat)
 (x.fst.getD
 g.snd.snd.snd.snd.fst.toNat
 ((0 :
 Int),
 (0 :
 Int))).snd ∧
 (True ∧
 (True ∧
 True) ∧
 True) ∧
 ((x.fst.getD
 g.snd.snd.snd.snd.fst.toNat
 ((0 :
 Int),
 (0 :
 Int))).fst =
 (x.fst.getD
 g.snd.snd.snd.snd.fst.toNat
 ((0 :
 Int),
 (0 :
 Int))).fst ∧
 (x.fst.getD
 g.snd.snd.snd.snd.fst.toNat
 ((0 :
 Int),
 (0 :
 Int))).snd =
 (x.fst.getD
 g.snd.snd.snd.snd.fst.toNat
 ((0 :
 Int),
 (0 :
 Int))).snd ∧
 True) ∧
 g.fst =
 g.fst ∧
 ((0 :
 Int) ::
 ([] :
 List
 Int)).set
 (0 :
 Nat)
 (x.fst.getD
 g.snd.snd.snd.snd.fst.toNat
 ((0 :
 Int),
 (0 :
 Int))).snd =
 ((0 :
 Int) ::
 ([] :
 List
 Int)).set
 (0 :
 Nat)
 (x.fst.getD
 g.snd.snd.snd.snd.fst.toNat
 ((0 :
 Int),
 (0 :
 Int))).snd ∧
 True) ∧
 True ∧
 True ∧
 True ∧
 True ∧
 True ∧
 True ∧
 (True ∧
 True) ∧
 True ∧
 True ∧
 Value.slice
 none
 (0 :
 Nat)
 (0 :
 Nat) =
 Value.slice
 none
 (0 :
 Nat)
 (0 :
 Nat) ∧
 g.snd.snd.snd.fst -
 (1 :
 Int) =
 g.snd.snd.snd.fst -
 (1 :
 Int) ∧
 True ∧
 True ∧
 (True ∧
 True) ∧
 g_1.fst =
 g_1.fst ∧
 (0 :
 Int) =
 (0 :
 Int) ∧
 True ∧
 True ∧
 ((x.fst.getD
 g.snd.snd.snd.snd.fst.toNat
 ((0 :
 Int),
 (0 :
 Int))).fst ==
 (1 :
 Int) ||
 (x.fst.getD
 g.snd.snd.snd.snd.fst.toNat
 ((0 :
 Int),
 (0 :
 Int))).fst ==
 (2 :
 Int) ||
 (x.fst.getD
 g.snd.snd.snd.snd.fst.toNat
 ((0 :
 Int),
 (0 :
 Int))).fst ==
 (3 :
 Int)) =
 ((x.fst.getD
 g.snd.snd.snd.snd.fst.toNat
 ((0 :
 Int),
 (0 :
 Int))).fst ==
 (1 :
 Int) ||
 (x.fst.getD
 g.snd.snd.snd.snd.fst.toNat
 ((0 :
 Int),
 (0 :
 Int))).fst ==
 (2 :
 Int) ||
 (x.fst.getD
 g.snd.snd.snd.snd.fst.toNat
 ((0 :
 Int),
 (0 :
 Int))).fst ==
 (3 :
 Int)) ∧
 True ∧
 True ∧
 True ∧
 x.fst =
 x.fst ∧
 (↑x.fst.length :
 Int) =
 (↑x.fst.length :
 Int) ∧
 g.snd.snd.snd.snd.fst =
 g.snd.snd.snd.snd.fst ∧
 True ∧
 True ∧
 True ∧
 True ∧
 (↑g.fst.length :
 Int) =
 (↑g.fst.length :
 Int) ∧
 g_1.snd.fst =
 g_1.snd.fst ∧
 false =
 false ∧
 True ∧
 True ∧
 True ∧
 True ∧
 True ∧
 True ∧
 True ∧
 True ∧
 True ∧
 True ∧
 (True ∧
 True) ∧
 (x.fst.getD
 g.snd.snd.snd.snd.fst.toNat
 ((0 :
 Int),
 (0 :
 Int))).fst =
 (x.fst.getD
 g.snd.snd.snd.snd.fst.toNat
 ((0 :
 Int),
 (0 :
 Int))).fst ∧
 ((x.fst.getD
 g.snd.snd.snd.snd.fst.toNat
 ((0 :
 Int),
 (0 :
 Int))).fst ==
 (1 :
 Int)) =
 ((x.fst.getD
 g.snd.snd.snd.snd.fst.toNat
 ((0 :
 Int),
 (0 :
 Int))).fst ==
 (1 :
 Int)) ∧
 ((x.fst.getD
 g.snd.snd.snd.snd.fst.toNat
 ((0 :
 Int),
 (0 :
 Int))).fst ==
 (1 :
 Int)) =
 ((x.fst.getD
 g.snd.snd.snd.snd.fst.toNat
 ((0 :
 Int),
 (0 :
 Int))).fst ==
 (1 :
 Int)) ∧
 True ∧
 True ∧
 True ∧
 ((x.fst.getD
 g.snd.snd.snd.snd.fst.toNat
 ((0 :
 Int),
 (0 :
 Int))).fst ==
 (1 :
 Int) ||
 (x.fst.getD
 g.snd.snd.snd.snd.fst.toNat
 ((0 :
 Int),
 (0 :
 Int))).fst ==
 (2 :
 Int)) =
 ((x.fst.getD
 g.snd.snd.snd.snd.fst.toNat
 ((0 :
 Int),
 (0 :
 Int))).fst ==
 (1 :
 Int) ||
 (x.fst.getD
 g.snd.snd.snd.snd.fst.toNat
 ((0 :
 Int),
 (0 :
 Int))).fst ==
 (2 :
 Int)) ∧
 ((x.fst.getD
 g.snd.snd.snd.snd.fst.toNat
 ((0 :
 Int),
 (0 :
 Int))).fst ==
 (1 :
 Int) ||
 (x.fst.getD
 g.snd.snd.snd.snd.fst.toNat
 ((0 :
 Int),
 (0 :
 Int))).fst ==
 (2 :
 Int)) =
 ((x.fst.getD
 g.snd.snd.snd.snd.fst.toNat
 ((0 :
 Int),
 (0 :
 Int))).fst ==
 (1 :
 Int) ||
 (x.fst.getD
 g.snd.snd.snd.snd.fst.toNat
 ((0 :
 Int),
 (0 :
 Int))).fst ==
 (2 :
 Int)) ∧
 True ∧
 True ∧
 True ∧
 ((x.fst.getD
 g.snd.snd.snd.snd.fst.toNat
 ((0 :
 Int),
 (0 :
 Int))).fst ==
 (1 :
 Int) ||
 (x.fst.getD
 g.snd.snd.snd.snd.fst.toNat
 ((0 :
 Int),
 (0 :
 Int))).fst ==
 (2 :
 Int) ||
 (x.fst.getD
 g.snd.snd.snd.snd.fst.toNat
 ((0 :
 Int),
 (0 :
 Int))).fst ==
 (3 :
 Int)) =
 ((x.fst.getD
 g.snd.snd.snd.snd.fst.toNat
 ((0 :
 Int),
 (0 :
 Int))).fst ==
 (1 :
 Int) ||
 (x.fst.getD
 g.snd.snd.snd.snd.fst.toNat
 ((0 :
 Int),
 (0 :
 Int))).fst ==
 (2 :
 Int) ||
 (x.fst.getD
 g.snd.snd.snd.snd.fst.toNat
 ((0 :
 Int),
 (0 :
 Int))).fst ==
 (3 :
 Int)) ∧
 True ∧
 True ∧
 True ∧
 True ∧
 True ∧
 True ∧
 True ∧
 false =
 false ∧
 (True ∧
 True) ∧
 (x.fst.getD
 g.snd.snd.snd.snd.fst.toNat
 ((0 :
 Int),
 (0 :
 Int))).fst =
 (x.fst.getD
 g.snd.snd.snd.snd.fst.toNat
 ((0 :
 Int),
 (0 :
 Int))).fst ∧
 decide
 ((x.fst.getD
 g.snd.snd.snd.snd.fst.toNat
 ((0 :
 Int),
 (0 :
 Int))).fst <
 (1 :
 Int)) =
 decide
 ((x.fst.getD
 g.snd.snd.snd.snd.fst.toNat
 ((0 :
 Int),
 (0 :
 Int))).fst <
 (1 :
 Int)) ∧
 decide
 ((x.fst.getD
 g.snd.snd.snd.snd.fst.toNat
 ((0 :
 Int),
 (0 :
 Int))).fst <
 (1 :
 Int)) =
 decide
 ((x.fst.getD
 g.snd.snd.snd.snd.fst.toNat
 ((0 :
 Int),
 (0 :
 Int))).fst <
 (1 :
 Int)) ∧
 True ∧
 True ∧
 True ∧
 (decide
 ((x.fst.getD
 g.snd.snd.snd.snd.fst.toNat
 ((0 :
 Int),
 (0 :
 Int))).fst <
 (1 :
 Int)) ||
 decide
 ((5 :
 Int) <
 (x.fst.getD
 g.snd.snd.snd.snd.fst.toNat
 ((0 :
 Int),
 (0 :
 Int))).fst)) =
 (decide
 ((x.fst.getD
 g.snd.snd.snd.snd.fst.toNat
 ((0 :
 Int),
 (0 :
 Int))).fst <
 (1 :
 Int)) ||
 decide
 ((5 :
 Int) <
 (x.fst.getD
 g.snd.snd.snd.snd.fst.toNat
 ((0 :
 Int),
 (0 :
 Int))).fst)) ∧
 false =
 false ∧
 (True ∧
 True) ∧
 (x.fst.getD
 g.snd.snd.snd.snd.fst.toNat
 ((0 :
 Int),
 (0 :
 Int))).snd =
 (x.fst.getD
 g.snd.snd.snd.snd.fst.toNat
 ((0 :
 Int),
 (0 :
 Int))).snd ∧
 decide
 ((x.fst.getD
 g.snd.snd.snd.snd.fst.toNat
 ((0 :
 Int),
 (0 :
 Int))).snd <
 (0 :
 Int)) =
 decide
 ((x.fst.getD
 g.snd.snd.snd.snd.fst.toNat
 ((0 :
 Int),
 (0 :
 Int))).snd <
 (0 :
 Int)) ∧
 decide
 ((x.fst.getD
 g.snd.snd.snd.snd.fst.toNat
 ((0 :
 Int),
 (0 :
 Int))).snd <
 (0 :
 Int)) =
 decide
 ((x.fst.getD
 g.snd.snd.snd.snd.fst.toNat
 ((0 :
 Int),
 (0 :
 Int))).snd <
 (0 :
 Int)) ∧
 True ∧
 True ∧
 True ∧
 (decide
 ((x.fst.getD
 g.snd.snd.snd.snd.fst.toNat
 ((0 :
 Int),
 (0 :
 Int))).snd <
 (0 :
 Int)) ||
 decide
 ((63 :
 Int) <
 (x.fst.getD
 g.snd.snd.snd.snd.fst.toNat
 ((0 :
 Int),
 (0 :
 Int))).snd)) =
 (decide
 ((x.fst.getD
 g.snd.snd.snd.snd.fst.toNat
 ((0 :
 Int),
 (0 :
 Int))).snd <
 (0 :
 Int)) ||
 decide
 ((63 :
 Int) <
 (x.fst.getD
 g.snd.snd.snd.snd.fst.toNat
 ((0 :
 Int),
 (0 :
 Int))).snd)) ∧
 false =
 false ∧
 ((x.fst.getD
 g.snd.snd.snd.snd.fst.toNat
 ((0 :
 Int),
 (0 :
 Int))).fst ==
 (1 :
 Int) ||
 (x.fst.getD
 g.snd.snd.snd.snd.fst.toNat
 ((0 :
 Int),
 (0 :
 Int))).fst ==
 (2 :
 Int) ||
 (x.fst.getD
 g.snd.snd.snd.snd.fst.toNat
 ((0 :
 Int),
 (0 :
 Int))).fst ==
 (3 :
 Int)) =
 ((x.fst.getD
 g.snd.snd.snd.snd.fst.toNat
 ((0 :
 Int),
 (0 :
 Int))).fst ==
 (1 :
 Int) ||
 (x.fst.getD
 g.snd.snd.snd.snd.fst.toNat
 ((0 :
 Int),
 (0 :
 Int))).fst ==
 (2 :
 Int) ||
 (x.fst.getD
 g.snd.snd.snd.snd.fst.toNat
 ((0 :
 Int),
 (0 :
 Int))).fst ==
 (3 :
 Int)) ∧
 ((x.fst.getD
 g.snd.snd.snd.snd.fst.toNat
 ((0 :
 Int),
 (0 :
 Int))).fst ==
 (1 :
 Int) ||
 (x.fst.getD
 g.snd.snd.snd.snd.fst.toNat
 ((0 :
 Int),
 (0 :
 Int))).fst ==
 (2 :
 Int) ||
 (x.fst.getD
 g.snd.snd.snd.snd.fst.toNat
 ((0 :
 Int),
 (0 :
 Int))).fst ==
 (3 :
 Int)) =
 ((x.fst.getD
 g.snd.snd.snd.snd.fst.toNat
 ((0 :
 Int),
 (0 :
 Int))).fst ==
 (1 :
 Int) ||
 (x.fst.getD
 g.snd.snd.snd.snd.fst.toNat
 ((0 :
 Int),
 (0 :
 Int))).fst ==
 (2 :
 Int) ||
 (x.fst.getD
 g.snd.snd.snd.snd.fst.toNat
 ((0 :
 Int),
 (0 :
 Int))).fst ==
 (3 :
 Int)) ∧
 True ∧
 True ∧
 (((x.fst.getD
 g.snd.snd.snd.snd.fst.toNat
 ((0 :
 Int),
 (0 :
 Int))).fst ==
 (1 :
 Int) ||
 (x.fst.getD
 g.snd.snd.snd.snd.fst.toNat
 ((0 :
 Int),
 (0 :
 Int))).fst ==
 (2 :
 Int) ||
 (x.fst.getD
 g.snd.snd.snd.snd.fst.toNat
 ((0 :
 Int),
 (0 :
 Int))).fst ==
 (3 :
 Int)) &&
 decide
 ((0 :
 Int) ≤
 g_1.fst)) =
 (((x.fst.getD
 g.snd.snd.snd.snd.fst.toNat
 ((0 :
 Int),
 (0 :
 Int))).fst ==
 (1 :
 Int) ||
 (x.fst.getD
 g.snd.snd.snd.snd.fst.toNat
 ((0 :
 Int),
 (0 :
 Int))).fst ==
 (2 :
 Int) ||
 (x.fst.getD
 g.snd.snd.snd.snd.fst.toNat
 ((0 :
 Int),
 (0 :
 Int))).fst ==
 (3 :
 Int)) &&
 decide
 ((0 :
 Int) ≤
 g_1.fst)) ∧
 (((x.fst.getD
 g.snd.snd.snd.snd.fst.toNat
 ((0 :
 Int),
 (0 :
 Int))).fst ==
 (1 :
 Int) ||
 (x.fst.getD
 g.snd.snd.snd.snd.fst.toNat
 ((0 :
 Int),
 (0 :
 Int))).fst ==
 (2 :
 Int) ||
 (x.fst.getD
 g.snd.snd.snd.snd.fst.toNat
 ((0 :
 Int),
 (0 :
 Int))).fst ==
 (3 :
 Int)) &&
 decide
 ((0 :
 Int) ≤
 g_1.fst)) =
 (((x.fst.getD
 g.snd.snd.snd.snd.fst.toNat
 ((0 :
 Int),
 (0 :
 Int))).fst ==
 (1 :
 Int) ||
 (x.fst.getD
 g.snd.snd.snd.snd.fst.toNat
 ((0 :
 Int),
 (0 :
 Int))).fst ==
 (2 :
 Int) ||
 (x.fst.getD
 g.snd.snd.snd.snd.fst.toNat
 ((0 :
 Int),
 (0 :
 Int))).fst ==
 (3 :
 Int)) &&
 decide
 ((0 :
 Int) ≤
 g_1.fst)) ∧
 True ∧
 True ∧
 True ∧
 True ∧
 True ∧
 True ∧
 (((x.fst.getD
 g.snd.snd.snd.snd.fst.toNat
 ((0 :
 Int),
 (0 :
 Int))).fst ==
 (1 :
 Int) ||
 (x.fst.getD
 g.snd.snd.snd.snd.fst.toNat
 ((0 :
 Int),
 (0 :
 Int))).fst ==
 (2 :
 Int) ||
 (x.fst.getD
 g.snd.snd.snd.snd.fst.toNat
 ((0 :
 Int),
 (0 :
 Int))).fst ==
 (3 :
 Int)) &&
 decide
 ((0 :
 Int) ≤
 g_1.fst) &&
 (g.fst.getD
 g_1.fst.toNat
 ((0 :
 Int),
 (0 :
 Int))).snd ==
 (1 :
 Int)) =
 (((x.fst.getD
 g.snd.snd.snd.snd.fst.toNat
 ((0 :
 Int),
 (0 :
 Int))).fst ==
 (1 :
 Int) ||
 (x.fst.getD
 g.snd.snd.snd.snd.fst.toNat
 ((0 :
 Int),
 (0 :
 Int))).fst ==
 (2 :
 Int) ||
 (x.fst.getD
 g.snd.snd.snd.snd.fst.toNat
 ((0 :
 Int),
 (0 :
 Int))).fst ==
 (3 :
 Int)) &&
 decide
 ((0 :
 Int) ≤
 g_1.fst) &&
 (g.fst.getD
 g_1.fst.toNat
 ((0 :
 Int),
 (0 :
 Int))).snd ==
 (1 :
 Int)) ∧
 false =
 false ∧
 (True ∧
 True) ∧
 (x.fst.getD
 g.snd.snd.snd.snd.fst.toNat
 ((0 :
 Int),
 (0 :
 Int))).fst =
 (x.fst.getD
 g.snd.snd.snd.snd.fst.toNat
 ((0 :
 Int),
 (0 :
 Int))).fst ∧
 ((x.fst.getD
 g.snd.snd.snd.snd.fst.toNat
 ((0 :
 Int),
 (0 :
 Int))).fst ==
 (1 :
 Int)) =
 ((x.fst.getD
 g.snd.snd.snd.snd.fst.toNat
 ((0 :
 Int),
 (0 :
 Int))).fst ==
 (1 :
 Int)) ∧
 ((x.fst.getD
 g.snd.snd.snd.snd.fst.toNat
 ((0 :
 Int),
 (0 :
 Int))).fst ==
 (1 :
 Int)) =
 ((x.fst.getD
 g.snd.snd.snd.snd.fst.toNat
 ((0 :
 Int),
 (0 :
 Int))).fst ==
 (1 :
 Int)) ∧
 True ∧
 True ∧
 ((x.fst.getD
 g.snd.snd.snd.snd.fst.toNat
 ((0 :
 Int),
 (0 :
 Int))).fst ==
 (1 :
 Int) &&
 decide
 (g_1.fst <
 (0 :
 Int))) =
 ((x.fst.getD
 g.snd.snd.snd.snd.fst.toNat
 ((0 :
 Int),
 (0 :
 Int))).fst ==
 (1 :
 Int) &&
 decide
 (g_1.fst <
 (0 :
 Int))) ∧
 True ∧
 True ∧
 True ∧
 True ∧
 True ∧
 True ∧
 false =
 false ∧
 (True ∧
 True) ∧
 (x.fst.getD
 g.snd.snd.snd.snd.fst.toNat
 ((0 :
 Int),
 (0 :
 Int))).fst =
 (x.fst.getD
 g.snd.snd.snd.snd.fst.toNat
 ((0 :
 Int),
 (0 :
 Int))).fst ∧
 ((x.fst.getD
 g.snd.snd.snd.snd.fst.toNat
 ((0 :
 Int),
 (0 :
 Int))).fst ==
 (1 :
 Int)) =
 ((x.fst.getD
 g.snd.snd.snd.snd.fst.toNat
 ((0 :
 Int),
 (0 :
 Int))).fst ==
 (1 :
 Int)) ∧
 True ∧
 True ∧
 True ∧
 True ∧
 false =
 false ∧
 ((x.fst.getD
 g.snd.snd.snd.snd.fst.toNat
 ((0 :
 Int),
 (0 :
 Int))).fst ==
 (1 :
 Int) ||
 (x.fst.getD
 g.snd.snd.snd.snd.fst.toNat
 ((0 :
 Int),
 (0 :
 Int))).fst ==
 (2 :
 Int) ||
 (x.fst.getD
 g.snd.snd.snd.snd.fst.toNat
 ((0 :
 Int),
 (0 :
 Int))).fst ==
 (3 :
 Int)) =
 ((x.fst.getD
 g.snd.snd.snd.snd.fst.toNat
 ((0 :
 Int),
 (0 :
 Int))).fst ==
 (1 :
 Int) ||
 (x.fst.getD
 g.snd.snd.snd.snd.fst.toNat
 ((0 :
 Int),
 (0 :
 Int))).fst ==
 (2 :
 Int) ||
 (x.fst.getD
 g.snd.snd.snd.snd.fst.toNat
 ((0 :
 Int),
 (0 :
 Int))).fst ==
 (3 :
 Int)) ∧
 ((x.fst.getD
 g.snd.snd.snd.snd.fst.toNat
 ((0 :
 Int),
 (0 :
 Int))).fst ==
 (1 :
 Int) ||
 (x.fst.getD
 g.snd.snd.snd.snd.fst.toNat
 ((0 :
 Int),
 (0 :
 Int))).fst ==
 (2 :
 Int) ||
 (x.fst.getD
 g.snd.snd.snd.snd.fst.toNat
 ((0 :
 Int),
 (0 :
 Int))).fst ==
 (3 :
 Int)) =
 ((x.fst.getD
 g.snd.snd.snd.snd.fst.toNat
 ((0 :
 Int),
 (0 :
 Int))).fst ==
 (1 :
 Int) ||
 (x.fst.getD
 g.snd.snd.snd.snd.fst.toNat
 ((0 :
 Int),
 (0 :
 Int))).fst ==
 (2 :
 Int) ||
 (x.fst.getD
 g.snd.snd.snd.snd.fst.toNat
 ((0 :
 Int),
 (0 :
 Int))).fst ==
 (3 :
 Int)) ∧
 True ∧
 True ∧
 (((x.fst.getD
 g.snd.snd.snd.snd.fst.toNat
 ((0 :
 Int),
 (0 :
 Int))).fst ==
 (1 :
 Int) ||
 (x.fst.getD
 g.snd.snd.snd.snd.fst.toNat
 ((0 :
 Int),
 (0 :
 Int))).fst ==
 (2 :
 Int) ||
 (x.fst.getD
 g.snd.snd.snd.snd.fst.toNat
 ((0 :
 Int),
 (0 :
 Int))).fst ==
 (3 :
 Int)) &&
 decide
 (g_1.fst <
 (0 :
 Int))) =
 (((x.fst.getD
 g.snd.snd.snd.snd.fst.toNat
 ((0 :
 Int),
 (0 :
 Int))).fst ==
 (1 :
 Int) ||
 (x.fst.getD
 g.snd.snd.snd.snd.fst.toNat
 ((0 :
 Int),
 (0 :
 Int))).fst ==
 (2 :
 Int) ||
 (x.fst.getD
 g.snd.snd.snd.snd.fst.toNat
 ((0 :
 Int),
 (0 :
 Int))).fst ==
 (3 :
 Int)) &&
 decide
 (g_1.fst <
 (0 :
 Int))) ∧
 false =
 false ∧
 (True ∧
 True) ∧
 (x.fst.getD
 g.snd.snd.snd.snd.fst.toNat
 ((0 :
 Int),
 (0 :
 Int))).fst =
 (x.fst.getD
 g.snd.snd.snd.snd.fst.toNat
 ((0 :
 Int),
 (0 :
 Int))).fst ∧
 ((x.fst.getD
 g.snd.snd.snd.snd.fst.toNat
 ((0 :
 Int),
 (0 :
 Int))).fst ==
 (3 :
 Int)) =
 ((x.fst.getD
 g.snd.snd.snd.snd.fst.toNat
 ((0 :
 Int),
 (0 :
 Int))).fst ==
 (3 :
 Int)) ∧
 True ∧
 True ∧
 True ∧
 True ∧
 True ∧
 True ∧
 True ∧
 True ∧
 True ∧
 True ∧
 True ∧
 True ∧
 True ∧
 True ∧
 false =
 false ∧
 (True ∧
 True) ∧
 (x.fst.getD
 g.snd.snd.snd.snd.fst.toNat
 ((0 :
 Int),
 (0 :
 Int))).fst =
 (x.fst.getD
 g.snd.snd.snd.snd.fst.toNat
 ((0 :
 Int),
 (0 :
 Int))).fst ∧
 ((x.fst.getD
 g.snd.snd.snd.snd.fst.toNat
 ((0 :
 Int),
 (0 :
 Int))).fst ==
 (2 :
 Int)) =
 ((x.fst.getD
 g.snd.snd.snd.snd.fst.toNat
 ((0 :
 Int),
 (0 :
 Int))).fst ==
 (2 :
 Int)) ∧
 ((x.fst.getD
 g.snd.snd.snd.snd.fst.toNat
 ((0 :
 Int),
 (0 :
 Int))).fst ==
 (2 :
 Int)) =
 ((x.fst.getD
 g.snd.snd.snd.snd.fst.toNat
 ((0 :
 Int),
 (0 :
 Int))).fst ==
 (2 :
 Int)) ∧
 True ∧
 True ∧
 ((x.fst.getD
 g.snd.snd.snd.snd.fst.toNat
 ((0 :
 Int),
 (0 :
 Int))).fst ==
 (2 :
 Int) &&
 g.snd.snd.snd.fst ==
 (0 :
 Int)) =
 ((x.fst.getD
 g.snd.snd.snd.snd.fst.toNat
 ((0 :
 Int),
 (0 :
 Int))).fst ==
 (2 :
 Int) &&
 g.snd.snd.snd.fst ==
 (0 :
 Int)) ∧
 true =
 true ∧
 (True ∧
 True) ∧
 (x.fst.getD
 g.snd.snd.snd.snd.fst.toNat
 ((0 :
 Int),
 (0 :
 Int))).fst =
 (x.fst.getD
 g.snd.snd.snd.snd.fst.toNat
 ((0 :
 Int),
 (0 :
 Int))).fst ∧
 ((x.fst.getD
 g.snd.snd.snd.snd.fst.toNat
 ((0 :
 Int),
 (0 :
 Int))).fst ==
 (2 :
 Int)) =
 ((x.fst.getD
 g.snd.snd.snd.snd.fst.toNat
 ((0 :
 Int),
 (0 :
 Int))).fst ==
 (2 :
 Int)) ∧
 g.snd.snd.snd.fst =
 g.snd.snd.snd.fst ∧
 g.snd.snd.snd.fst -
 (1 :
 Int) =
 g.snd.snd.snd.fst -
 (1 :
 Int) ∧
 True ∧
 (True ∧
 True) ∧
 (x.fst.getD
 g.snd.snd.snd.snd.fst.toNat
 ((0 :
 Int),
 (0 :
 Int))).snd =
 (x.fst.getD
 g.snd.snd.snd.snd.fst.toNat
 ((0 :
 Int),
 (0 :
 Int))).snd ∧
 True ∧
 True ∧
 True ∧
 True ∧
 g_1.fst =
 g_1.fst ∧
 True ∧
 True ∧
 True ∧
 g_1.fst =
 g_1.fst ∧
 g_1.fst +
 (1 :
 Int) =
 g_1.fst +
 (1 :
 Int) ∧
 True ∧
 True ∧
 g.snd.snd.snd.fst -
 (1 :
 Int) =
 g.snd.snd.snd.fst -
 (1 :
 Int) ∧
 true =
 true ∧
 True ∧
 True ∧
 True ∧
 True ∧
 True ∧
 True ∧
 True ∧
 True ∧
 True ∧
 True ∧
 True ∧
 True ∧
 True ∧
 True ∧
 True ∧
 True ∧
 True ∧
 True ∧
 True ∧
 True ∧
 True ∧
 True ∧
 True ∧
 True ∧
 True ∧
 True ∧
 True ∧
 True ∧
 True ∧
 True ∧
 True ∧
 True ∧
 True ∧
 True ∧
 True ∧
 True ∧
 True ∧
 True ∧
 True ∧
 True ∧
 True ∧
 True ∧
 True)) ∧
 (decide
 (g_2.fst <
 (↑(([] :
 List
 (Int ×
 Int)) ++
 List.drop
 (nat_lit
 0)
 (List.take
 g_1.fst.toNat
 g.fst) ++
 List.drop
 (g_1.fst +
 (1 :
 Int)).toNat
 (List.take
 (↑g.fst.length :
 Int).toNat
 g.fst)).length :
 Int)) =
 false →
 (g.snd.fst.length +
 (((0 :
 Int) ::
 ([] :
 List
 Int)).set
 (0 :
 Nat)
 (0 :
 Int)).length ≤
 (9223372036854775807 :
 Nat) ∧
 (g.snd.fst.length +
 (((0 :
 Int) ::
 ([] :
 List
 Int)).set
 (0 :
 Nat)
 (0 :
 Int)).length +
 (g.snd.fst.length +
 (((0 :
 Int) ::
 ([] :
 List
 Int)).set
 (0 :
 Nat)
 (0 :
 Int)).length) /
 (4 :
 Nat) +
 (192 :
 Nat)) *
 (8 :
 Nat) ≤
 (281474976710656 :
 Nat)) ∧
 ((-9223372036854775808 :
 Int) ≤
 g.snd.snd.snd.snd.fst +
 (1 :
 Int) ∧
 g.snd.snd.snd.snd.fst +
 (1 :
 Int) ≤
 (9223372036854775807 :
 Int)) ∧
 (((0 :
 Int) ≤
 g.snd.snd.snd.snd.fst +
 (1 :
 Int) ∧
 g.snd.snd.snd.snd.fst +
 (1 :
 Int) ≤
 (↑x.fst.length :
 Int) ∧
 (↑(g.snd.fst ++
 ((0 :
 Int) ::
 ([] :
 List
 Int)).set
 (0 :
 Nat)
 (0 :
 Int)).length :
 Int) =
 g.snd.snd.snd.snd.fst +
 (1 :
 Int) ∧
 pl
 (List.take
 (g.snd.snd.snd.snd.fst +
 (1 :
 Int)).toNat
 x.fst) =
 ((([] :
 List
 (Int ×
 Int)) ++
 List.drop
 (nat_lit
 0)
 (List.take
 g_1.fst.toNat
 g.fst) ++
 List.drop
 (g_1.fst +
 (1 :
 Int)).toNat
 (List.take
 (↑g.fst.length :
 Int).toNat
 g.fst),
 g.snd.snd.snd.fst -
 (1 :
 Int),
 g.snd.snd.fst ++
 ((0 :
 Int) ::
 ([] :
 List
 Int)).set
 (0 :
 Nat)
 (x.fst.getD
 g.snd.snd.snd.snd.fst.toNat
 ((0 :
 Int),
 (0 :
 Int))).snd),
 g.snd.fst ++
 ((0 :
 Int) ::
 ([] :
 List
 Int)).set
 (0 :
 Nat)
 (0 :
 Int)) ∧
 good
 (([] :
 List
 (Int ×
 Int)) ++
 List.drop
 (nat_lit
 0)
 (List.take
 g_1.fst.toNat
 g.fst) ++
 List.drop
 (g_1.fst +
 (1 :
 Int)).toNat
 (List.take
 (↑g.fst.length :
 Int).toNat
 g.fst),
 g.snd.snd.snd.fst -
 (1 :
 Int),
 g.snd.snd.fst ++
 ((0 :
 Int) ::
 ([] :
 List
 Int)).set
 (0 :
 Nat)
 (x.fst.getD
 g.snd.snd.snd.snd.fst.toNat
 ((0 :
 Int),
 (0 :
 Int))).snd)
 (g.snd.snd.snd.snd.fst +
 (1 :
 Int))) ∧
 ((↑x.fst.length :
 Int) -
 (g.snd.snd.snd.snd.fst +
 (1 :
 Int))).toNat <
 ((↑x.fst.length :
 Int) -
 g.snd.snd.snd.snd.fst).toNat) ∧
 ((True ∧
 True) ∧
 True ∧
 True ∧
 Value.slice
 none
 (0 :
 Nat)
 (0 :
 Nat) =
 Value.slice
 none
 (0 :
 Nat)
 (0 :
 Nat) ∧
 g.snd.snd.snd.fst -
 (1 :
 Int) =
 g.snd.snd.snd.fst -
 (1 :
 Int) ∧
 True ∧
 x.fst =
 x.fst ∧
 (↑x.fst.length :
 Int) =
 (↑x.fst.length :
 Int) ∧
 g.snd.snd.snd.snd.fst +
 (1 :
 Int) =
 g.snd.snd.snd.snd.fst +
 (1 :
 Int) ∧
 True) ∧
 ((True ∧
 True) ∧
 ([] :
 List
 (Int ×
 Int)) ++
 List.drop
 (nat_lit
 0)
 (List.take
 g_1.fst.toNat
 g.fst) ++
 List.drop
 (g_1.fst +
 (1 :
 Int)).toNat
 (List.take
 (↑g.fst.length :
 Int).toNat
 g.fst) =
 ([] :
 List
 (Int ×
 Int)) ++
 List.drop
 (nat_lit
 0)
 (List.take
 g_1.fst.toNat
 g.fst) ++
 List.drop
 (g_1.fst +
 (1 :
 Int)).toNat
 (List.take
 (↑g.fst.length :
 Int).toNat
 g.fst) ∧
 g.snd.fst ++
 ((0 :
 Int) ::
 ([] :
 List
 Int)).set
 (0 :
 Nat)
 (0 :
 Int) =
 g.snd.fst ++
 ((0 :
 Int) ::
 ([] :
 List
 Int)).set
 (0 :
 Nat)
 (0 :
 Int) ∧
 g.snd.snd.fst ++
 ((0 :
 Int) ::
 ([] :
 List
 Int)).set
 (0 :
 Nat)
 (x.fst.getD
 g.snd.snd.snd.snd.fst.toNat
 ((0 :
 Int),
 (0 :
 Int))).snd =
 g.snd.snd.fst ++
 ((0 :
 Int) ::
 ([] :
 List
 Int)).set
 (0 :
 Nat)
 (x.fst.getD
 g.snd.snd.snd.snd.fst.toNat
 ((0 :
 Int),
 (0 :
 Int))).snd ∧
 (True ∧
 (True ∧
 True) ∧
 True) ∧
 True) ∧
 True)) ∧
 (decide
 ((0 : Int) <
 g.snd.snd.snd.fst -
 (1 : Int)) =
 false →
 (g.snd.fst.length +
 (((0 :
 Int) ::
 ([] :
 List
 Int)).set
 (0 :
 Nat)
 (0 :
 Int)).length ≤
 (9223372036854775807 :
 Nat) ∧
 (g.snd.fst.length +
 (((0 :
 Int) ::
 ([] :
 List
 Int)).set
 (0 :
 Nat)
 (0 :
 Int)).length +
 (g.snd.fst.length +
 (((0 :
 Int) ::
 ([] :
 List
 Int)).set
 (0 :
 Nat)
 (0 :
 Int)).length) /
 (4 :
 Nat) +
 (192 :
 Nat)) *
 (8 : Nat) ≤
 (281474976710656 :
 Nat)) ∧
 ((-9223372036854775808 :
 Int) ≤
 g.snd.snd.snd.snd.fst +
 (1 :
 Int) ∧
 g.snd.snd.snd.snd.fst +
 (1 :
 Int) ≤
 (9223372036854775807 :
 Int)) ∧
 (((0 : Int) ≤
 g.snd.snd.snd.snd.fst +
 (1 :
 Int) ∧
 g.snd.snd.snd.snd.fst +
 (1 :
 Int) ≤
 (↑x.fst.length :
 Int) ∧
 (↑(g.snd.fst ++
 ((0 :
 Int) ::
 ([] :
 List
 Int)).set
 (0 :
 Nat)
 (0 :
 Int)).length :
 Int) =
 g.snd.snd.snd.snd.fst +
 (1 :
 Int) ∧
 pl
 (List.take
 (g.snd.snd.snd.snd.fst +
 (1 :
 Int)).toNat
 x.fst) =
 ((([] :
 List
 (Int ×
 Int)) ++
 List.drop
 (nat_lit
 0)
 (List.take
 g_1.fst.toNat
 g.fst) ++
 List.drop
 (g_1.fst +
 (1 :
 Int)).toNat
 (List.take
 (↑g.fst.length :
 Int).toNat
 g.fst),
 g.snd.snd.snd.fst -
 (1 :
 Int),
 g.snd.snd.fst ++
 ((0 :
 Int) ::
 ([] :
 List
 Int)).set
 (0 :
 Nat)
 (x.fst.getD
 g.snd.snd.snd.snd.fst.toNat
 ((0 :
 Int),
 (0 :
 Int))).snd),
 g.snd.fst ++
 ((0 :
 Int) ::
 ([] :
 List
 Int)).set
 (0 :
 Nat)
 (0 :
 Int)) ∧
 good
 (([] :
 List
 (Int ×
 Int)) ++
 List.drop
 (nat_lit
 0)
 (List.take
 g_1.fst.toNat
 g.fst) ++
 List.drop
 (g_1.fst +
 (1 :
 Int)).toNat
 (List.take
 (↑g.fst.length :
 Int).toNat
 g.fst),
 g.snd.snd.snd.fst -
 (1 :
 Int),
 g.snd.snd.fst ++
 ((0 :
 Int) ::
 ([] :
 List
 Int)).set
 (0 :
 Nat)
 (x.fst.getD
 g.snd.snd.snd.snd.fst.toNat
 ((0 :
 Int),
 (0 :
 Int))).snd)
 (g.snd.snd.snd.snd.fst +
 (1 :
 Int))) ∧
 ((↑x.fst.length :
 Int) -
 (g.snd.snd.snd.snd.fst +
 (1 :
 Int))).toNat <
 ((↑x.fst.length :
 Int) -
 g.snd.snd.snd.snd.fst).toNat) ∧
 ((True ∧
 True) ∧
 True ∧
 True ∧
 Value.slice
 none
 (0 :
 Nat)
 (0 :
 Nat) =
 Value.slice
 none
 (0 :
 Nat)
 (0 :
 Nat) ∧
 g.snd.snd.snd.fst -
 (1 :
 Int) =
 g.snd.snd.snd.fst -
 (1 :
 Int) ∧
 True ∧
 x.fst =
 x.fst ∧
 (↑x.fst.length :
 Int) =
 (↑x.fst.length :
 Int) ∧
 g.snd.snd.snd.snd.fst +
 (1 :
 Int) =
 g.snd.snd.snd.snd.fst +
 (1 :
 Int) ∧
 True) ∧
 ((True ∧
 True) ∧
 ([] :
 List
 (Int ×
 Int)) ++
 List.drop
 (nat_lit
 0)
 (List.take
 g_1.fst.toNat
 g.fst) ++
 List.drop
 (g_1.fst +
 (1 :
 Int)).toNat
 (List.take
 (↑g.fst.length :
 Int).toNat
 g.fst) =
 ([] :
 List
 (Int ×
 Int)) ++
 List.drop
 (nat_lit
 0)
 (List.take
 g_1.fst.toNat
 g.fst) ++
 List.drop
 (g_1.fst +
 (1 :
 Int)).toNat
 (List.take
 (↑g.fst.length :
 Int).toNat
 g.fst) ∧
 g.snd.fst ++
 ((0 :
 Int) ::
 ([] :
 List
 Int)).set
 (0 :
 Nat)
 (0 :
 Int) =
 g.snd.fst ++
 ((0 :
 Int) ::
 ([] :
 List
 Int)).set
 (0 :
 Nat)
 (0 :
 Int) ∧
 g.snd.snd.fst ++
 ((0 :
 Int) ::
 ([] :
 List
 Int)).set
 (0 :
 Nat)
 (x.fst.getD
 g.snd.snd.snd.snd.fst.toNat
 ((0 :
 Int),
 (0 :
 Int))).snd =
 g.snd.snd.fst ++
 ((0 :
 Int) ::
 ([] :
 List
 Int)).set
 (0 :
 Nat)
 (x.fst.getD
 g.snd.snd.snd.snd.fst.toNat
 ((0 :
 Int),
 (0 :
 Int))).snd ∧
 (True ∧
 (True ∧
 True) ∧
 True) ∧
 True) ∧
 True)) ∧
 (((x.fst.getD
 g.snd.snd.snd.snd.fst.toNat
 ((0 : Int), (0 : Int))).fst ==
 (2 : Int)) =
 false →
 (((x.fst.getD
 g.snd.snd.snd.snd.fst.toNat
 ((0 : Int),
 (0 : Int))).fst ==
 (4 : Int)) =
 true →
 ((x.fst.getD
 g.snd.snd.snd.snd.fst.toNat
 ((0 : Int),
 (0 : Int))).fst ==
 (4 : Int)) =
 true) ∧
 (((x.fst.getD
 g.snd.snd.snd.snd.fst.toNat
 ((0 : Int),
 (0 : Int))).fst ==
 (4 : Int)) =
 true →
 ((x.fst.getD
 g.snd.snd.snd.snd.fst.toNat
 ((0 : Int),
 (0 : Int))).fst ==
 (4 : Int)) =
 true) ∧
 (((x.fst.getD
 g.snd.snd.snd.snd.fst.toNat
 ((0 : Int),
 (0 : Int))).fst ==
 (4 : Int) &&
 decide
 ((400 : Int) ≤
 g.snd.snd.snd.fst)) =
 true →
 (g.snd.fst.length +
 (((0 : Int) ::
 ([] :
 List
 Int)).set
 (0 : Nat)
 (4 :
 Int)).length ≤
 (9223372036854775807 :
 Nat) ∧
 (g.snd.fst.length +
 (((0 : Int) ::
 ([] :
 List
 Int)).set
 (0 : Nat)
 (4 :
 Int)).length +
 (g.snd.fst.length +
 (((0 : Int) ::
 ([] :
 List
 Int)).set
 (0 : Nat)
 (4 :
 Int)).length) /
 (4 : Nat) +
 (192 : Nat)) *
 (8 : Nat) ≤
 (281474976710656 :
 Nat)) ∧
 ((-9223372036854775808 :
 Int) ≤
 g.snd.snd.snd.snd.fst +
 (1 : Int) ∧
 g.snd.snd.snd.snd.fst +
 (1 : Int) ≤
 (9223372036854775807 :
 Int)) ∧
 (((0 : Int) ≤
 g.snd.snd.snd.snd.fst +
 (1 : Int) ∧
 g.snd.snd.snd.snd.fst +
 (1 : Int) ≤
 (↑x.fst.length :
 Int) ∧
 (↑(g.snd.fst ++
 ((0 :
 Int) ::
 ([] :
 List
 Int)).set
 (0 :
 Nat)
 (4 :
 Int)).length :
 Int) =
 g.snd.snd.snd.snd.fst +
 (1 : Int) ∧
 pl
 (List.take
 (g.snd.snd.snd.snd.fst +
 (1 :
 Int)).toNat
 x.fst) =
 ((g.fst,
 g.snd.snd.snd.fst,
 g.snd.snd.fst),
 g.snd.fst ++
 ((0 :
 Int) ::
 ([] :
 List
 Int)).set
 (0 :
 Nat)
 (4 :
 Int)) ∧
 good
 (g.fst,
 g.snd.snd.snd.fst,
 g.snd.snd.fst)
 (g.snd.snd.snd.snd.fst +
 (1 :
 Int))) ∧
 ((↑x.fst.length :
 Int) -
 (g.snd.snd.snd.snd.fst +
 (1 :
 Int))).toNat <
 ((↑x.fst.length :
 Int) -
 g.snd.snd.snd.snd.fst).toNat) ∧
 ((True ∧ True) ∧
 True ∧
 True ∧
 Value.slice none
 (0 : Nat)
 (0 :
 Nat) =
 Value.slice
 none
 (0 : Nat)
 (0 :
 Nat) ∧
 g.snd.snd.snd.fst =
 g.snd.snd.snd.fst ∧
 True ∧
 x.fst =
 x.fst ∧
 (↑x.fst.length :
 Int) =
 (↑x.fst.length :
 Int) ∧
 g.snd.snd.snd.snd.fst +
 (1 :
 Int) =
 g.snd.snd.snd.snd.fst +
 (1 :
 Int) ∧
 True) ∧
 ((True ∧ True) ∧
 g.fst = g.fst ∧
 g.snd.fst ++
 ((0 :
 Int) ::
 ([] :
 List
 Int)).set
 (0 :
 Nat)
 (4 :
 Int) =
 g.snd.fst ++
 ((0 :
 Int) ::
 ([] :
 List
 Int)).set
 (0 :
 Nat)
 (4 :
 Int) ∧
 g.snd.snd.fst =
 g.snd.snd.fst ∧
 (True ∧
 (True ∧
 True) ∧
 True) ∧
 True) ∧
 True) ∧
 (((x.fst.getD
 g.snd.snd.snd.snd.fst.toNat
 ((0 : Int),
 (0 : Int))).fst ==
 (4 : Int) &&
 decide
 ((400 : Int) ≤
 g.snd.snd.snd.fst)) =
 false →
 (((x.fst.getD
 g.snd.snd.snd.snd.fst.toNat
 ((0 : Int),
 (0 :
 Int))).fst ==
 (4 : Int)) =
 true →
 ((-9223372036854775808 :
 Int) ≤
 g.snd.snd.snd.fst +
 (1 : Int) ∧
 g.snd.snd.snd.fst +
 (1 : Int) ≤
 (9223372036854775807 :
 Int)) ∧
 ((((0 : Int) ≤
 (0 : Int) ∧
 (0 : Int) ≤
 (↑g.fst.length :
 Int) ∧
 ((List.take
 (Int.toNat
 (0 :
 Int))
 g.fst).all
 fun e ↦
 decide
 (e.snd =
 (2 :
 Int))) =
 true) ∧
 True) ∧
 ((True ∧ True) ∧
 (↑g.fst.length :
 Int) =
 (↑g.fst.length :
 Int) ∧
 (0 : Int) =
 (0 :
 Int) ∧
 True) ∧
 ((True ∧ True) ∧
 g.fst =
 g.fst ∧
 g.snd.fst =
 g.snd.fst ∧
 g.snd.snd.fst =
 g.snd.snd.fst ∧
 (True ∧
 (True ∧
 True) ∧
 True) ∧
 ((x.fst.getD
 g.snd.snd.snd.snd.fst.toNat
 ((0 :
 Int),
 (0 :
 Int))).fst =
 (x.fst.getD
 g.snd.snd.snd.snd.fst.toNat
 ((0 :
 Int),
 (0 :
 Int))).fst ∧
 (x.fst.getD
 g.snd.snd.snd.snd.fst.toNat
 ((0 :
 Int),
 (0 :
 Int))).snd =
 (x.fst.getD
 g.snd.snd.snd.snd.fst.toNat
 ((0 :
 Int),
 (0 :
 Int))).snd ∧
 True) ∧
 True) ∧
 True ∧
 True ∧
 True ∧
 True ∧
 True ∧
 True ∧
 (True ∧
 True) ∧
 True ∧
 True ∧
 Value.slice
 none
 (0 :
 Nat)
 (0 :
 Nat) =
 Value.slice
 none
 (0 :
 Nat)
 (0 :
 Nat) ∧
 g.snd.snd.snd.fst +
 (1 :
 Int) =
 g.snd.snd.snd.fst +
 (1 :
 Int) ∧
 True ∧
 True ∧
 (True ∧
 True) ∧
 g_1.fst =
 g_1.fst ∧
 (0 :
 Int) =
 (0 :
 Int) ∧
 True ∧
 True ∧
 ((x.fst.getD
 g.snd.snd.snd.snd.fst.toNat
 ((0 :
 Int),
 (0 :
 Int))).fst ==
 (1 :
 Int) ||
 (x.fst.getD
 g.snd.snd.snd.snd.fst.toNat
 ((0 :
 Int),
 (0 :
 Int))).fst ==
 (2 :
 Int) ||
 (x.fst.getD
 g.snd.snd.snd.snd.fst.toNat
 ((0 :
 Int),
 (0 :
 Int))).fst ==
 (3 :
 Int)) =
 ((x.fst.getD
 g.snd.snd.snd.snd.fst.toNat
 ((0 :
 Int),
 (0 :
 Int))).fst ==
 (1 :
 Int) ||
 (x.fst.getD
 g.snd.snd.snd.snd.fst.toNat
 ((0 :
 Int),
 (0 :
 Int))).fst ==
 (2 :
 Int) ||
 (x.fst.getD
 g.snd.snd.snd.snd.fst.toNat
 ((0 :
 Int),
 (0 :
 Int))).fst ==
 (3 :
 Int)) ∧
 True ∧
 True ∧
 True ∧
 x.fst =
 x.fst ∧
 (↑x.fst.length :
 Int) =
 (↑x.fst.length :
 Int) ∧
 g.snd.snd.snd.snd.fst =
 g.snd.snd.snd.snd.fst ∧
 True ∧
 True ∧
 True ∧
 True ∧
 (↑g.fst.length :
 Int) =
 (↑g.fst.length :
 Int) ∧
 g_1.snd.fst =
 g_1.snd.fst ∧
 false =
 false ∧
 True ∧
 True ∧
 True ∧
 True ∧
 True ∧
 True ∧
 True ∧
 True ∧
 True ∧
 True ∧
 (True ∧
 True) ∧
 (x.fst.getD
 g.snd.snd.snd.snd.fst.toNat
 ((0 :
 Int),
 (0 :
 Int))).fst =
 (x.fst.getD
 g.snd.snd.snd.snd.fst.toNat
 ((0 :
 Int),
 (0 :
 Int))).fst ∧
 ((x.fst.getD
 g.snd.snd.snd.snd.fst.toNat
 ((0 :
 Int),
 (0 :
 Int))).fst ==
 (1 :
 Int)) =
 ((x.fst.getD
 g.snd.snd.snd.snd.fst.toNat
 ((0 :
 Int),
 (0 :
 Int))).fst ==
 (1 :
 Int)) ∧
 ((x.fst.getD
 g.snd.snd.snd.snd.fst.toNat
 ((0 :
 Int),
 (0 :
 Int))).fst ==
 (1 :
 Int)) =
 ((x.fst.getD
 g.snd.snd.snd.snd.fst.toNat
 ((0 :
 Int),
 (0 :
 Int))).fst ==
 (1 :
 Int)) ∧
 True ∧
 True ∧
 True ∧
 ((x.fst.getD
 g.snd.snd.snd.snd.fst.toNat
 ((0 :
 Int),
 (0 :
 Int))).fst ==
 (1 :
 Int) ||
 (x.fst.getD
 g.snd.snd.snd.snd.fst.toNat
 ((0 :
 Int),
 (0 :
 Int))).fst ==
 (2 :
 Int)) =
 ((x.fst.getD
 g.snd.snd.snd.snd.fst.toNat
 ((0 :
 Int),
 (0 :
 Int))).fst ==
 (1 :
 Int) ||
 (x.fst.getD
 g.snd.snd.snd.snd.fst.toNat
 ((0 :
 Int),
 (0 :
 Int))).fst ==
 (2 :
 Int)) ∧
 ((x.fst.getD
 g.snd.snd.snd.snd.fst.toNat
 ((0 :
 Int),
 (0 :
 Int))).fst ==
 (1 :
 Int) ||
 (x.fst.getD
 g.snd.snd.snd.snd.fst.toNat
 ((0 :
 Int),
 (0 :
 Int))).fst ==
 (2 :
 Int)) =
 ((x.fst.getD
 g.snd.snd.snd.snd.fst.toNat
 ((0 :
 Int),
 (0 :
 Int))).fst ==
 (1 :
 Int) ||
 (x.fst.getD
 g.snd.snd.snd.snd.fst.toNat
 ((0 :
 Int),
 (0 :
 Int))).fst ==
 (2 :
 Int)) ∧
 True ∧
 True ∧
 True ∧
 ((x.fst.getD
 g.snd.snd.snd.snd.fst.toNat
 ((0 :
 Int),
 (0 :
 Int))).fst ==
 (1 :
 Int) ||
 (x.fst.getD
 g.snd.snd.snd.snd.fst.toNat
 ((0 :
 Int),
 (0 :
 Int))).fst ==
 (2 :
 Int) ||
 (x.fst.getD
 g.snd.snd.snd.snd.fst.toNat
 ((0 :
 Int),
 (0 :
 Int))).fst ==
 (3 :
 Int)) =
 ((x.fst.getD
 g.snd.snd.snd.snd.fst.toNat
 ((0 :
 Int),
 (0 :
 Int))).fst ==
 (1 :
 Int) ||
 (x.fst.getD
 g.snd.snd.snd.snd.fst.toNat
 ((0 :
 Int),
 (0 :
 Int))).fst ==
 (2 :
 Int) ||
 (x.fst.getD
 g.snd.snd.snd.snd.fst.toNat
 ((0 :
 Int),
 (0 :
 Int))).fst ==
 (3 :
 Int)) ∧
 True ∧
 True ∧
 True ∧
 True ∧
 True ∧
 True ∧
 True ∧
 false =
 false ∧
 (True ∧
 True) ∧
 (x.fst.getD
 g.snd.snd.snd.snd.fst.toNat
 ((0 :
 Int),
 (0 :
 Int))).fst =
 (x.fst.getD
 g.snd.snd.snd.snd.fst.toNat
 ((0 :
 Int),
 (0 :
 Int))).fst ∧
 decide
 ((x.fst.getD
 g.snd.snd.snd.snd.fst.toNat
 ((0 :
 Int),
 (0 :
 Int))).fst <
 (1 :
 Int)) =
 decide
 ((x.fst.getD
 g.snd.snd.snd.snd.fst.toNat
 ((0 :
 Int),
 (0 :
 Int))).fst <
 (1 :
 Int)) ∧
 decide
 ((x.fst.getD
 g.snd.snd.snd.snd.fst.toNat
 ((0 :
 Int),
 (0 :
 Int))).fst <
 (1 :
 Int)) =
 decide
 ((x.fst.getD
 g.snd.snd.snd.snd.fst.toNat
 ((0 :
 Int),
 (0 :
 Int))).fst <
 (1 :
 Int)) ∧
 True ∧
 True ∧
 True ∧
 (decide
 ((x.fst.getD
 g.snd.snd.snd.snd.fst.toNat
 ((0 :
 Int),
 (0 :
 Int))).fst <
 (1 :
 Int)) ||
 decide
 ((5 :
 Int) <
 (x.fst.getD
 g.snd.snd.snd.snd.fst.toNat
 ((0 :
 Int),
 (0 :
 Int))).fst)) =
 (decide
 ((x.fst.getD
 g.snd.snd.snd.snd.fst.toNat
 ((0 :
 Int),
 (0 :
 Int))).fst <
 (1 :
 Int)) ||
 decide
 ((5 :
 Int) <
 (x.fst.getD
 g.snd.snd.snd.snd.fst.toNat
 ((0 :
 Int),
 (0 :
 Int))).fst)) ∧
 false =
 false ∧
 (True ∧
 True) ∧
 (x.fst.getD
 g.snd.snd.snd.snd.fst.toNat
 ((0 :
 Int),
 (0 :
 Int))).snd =
 (x.fst.getD
 g.snd.snd.snd.snd.fst.toNat
 ((0 :
 Int),
 (0 :
 Int))).snd ∧
 decide
 ((x.fst.getD
 g.snd.snd.snd.snd.fst.toNat
 ((0 :
 Int),
 (0 :
 Int))).snd <
 (0 :
 Int)) =
 decide
 ((x.fst.getD
 g.snd.snd.snd.snd.fst.toNat
 ((0 :
 Int),
 (0 :
 Int))).snd <
 (0 :
 Int)) ∧
 decide
 ((x.fst.getD
 g.snd.snd.snd.snd.fst.toNat
 ((0 :
 Int),
 (0 :
 Int))).snd <
 (0 :
 Int)) =
 decide
 ((x.fst.getD
 g.snd.snd.snd.snd.fst.toNat
 ((0 :
 Int),
 (0 :
 Int))).snd <
 (0 :
 Int)) ∧
 True ∧
 True ∧
 True ∧
 (decide
 ((x.fst.getD
 g.snd.snd.snd.snd.fst.toNat
 ((0 :
 Int),
 (0 :
 Int))).snd <
 (0 :
 Int)) ||
 decide
 ((63 :
 Int) <
 (x.fst.getD
 g.snd.snd.snd.snd.fst.toNat
 ((0 :
 Int),
 (0 :
 Int))).snd)) =
 (decide
 ((x.fst.getD
 g.snd.snd.snd.snd.fst.toNat
 ((0 :
 Int),
 (0 :
 Int))).snd <
 (0 :
 Int)) ||
 decide
 ((63 :
 Int) <
 (x.fst.getD
 g.snd.snd.snd.snd.fst.toNat
 ((0 :
 Int),
 (0 :
 Int))).snd)) ∧
 false =
 false ∧
 ((x.fst.getD
 g.snd.snd.snd.snd.fst.toNat
 ((0 :
 Int),
 (0 :
 Int))).fst ==
 (1 :
 Int) ||
 (x.fst.getD
 g.snd.snd.snd.snd.fst.toNat
 ((0 :
 Int),
 (0 :
 Int))).fst ==
 (2 :
 Int) ||
 (x.fst.getD
 g.snd.snd.snd.snd.fst.toNat
 ((0 :
 Int),
 (0 :
 Int))).fst ==
 (3 :
 Int)) =
 ((x.fst.getD
 g.snd.snd.snd.snd.fst.toNat
 ((0 :
 Int),
 (0 :
 Int))).fst ==
 (1 :
 Int) ||
 (x.fst.getD
 g.snd.snd.snd.snd.fst.toNat
 ((0 :
 Int),
 (0 :
 Int))).fst ==
 (2 :
 Int) ||
 (x.fst.getD
 g.snd.snd.snd.snd.fst.toNat
 ((0 :
 Int),
 (0 :
 Int))).fst ==
 (3 :
 Int)) ∧
 ((x.fst.getD
 g.snd.snd.snd.snd.fst.toNat
 ((0 :
 Int),
 (0 :
 Int))).fst ==
 (1 :
 Int) ||
 (x.fst.getD
 g.snd.snd.snd.snd.fst.toNat
 ((0 :
 Int),
 (0 :
 Int))).fst ==
 (2 :
 Int) ||
 (x.fst.getD
 g.snd.snd.snd.snd.fst.toNat
 ((0 :
 Int),
 (0 :
 Int))).fst ==
 (3 :
 Int)) =
 ((x.fst.getD
 g.snd.snd.snd.snd.fst.toNat
 ((0 :
 Int),
 (0 :
 Int))).fst ==
 (1 :
 Int) ||
 (x.fst.getD
 g.snd.snd.snd.snd.fst.toNat
 ((0 :
 Int),
 (0 :
 Int))).fst ==
 (2 :
 Int) ||
 (x.fst.getD
 g.snd.snd.snd.snd.fst.toNat
 ((0 :
 Int),
 (0 :
 Int))).fst ==
 (3 :
 Int)) ∧
 True ∧
 True ∧
 (((x.fst.getD
 g.snd.snd.snd.snd.fst.toNat
 ((0 :
 Int),
 (0 :
 Int))).fst ==
 (1 :
 Int) ||
 (x.fst.getD
 g.snd.snd.snd.snd.fst.toNat
 ((0 :
 Int),
 (0 :
 Int))).fst ==
 (2 :
 Int) ||
 (x.fst.getD
 g.snd.snd.snd.snd.fst.toNat
 ((0 :
 Int),
 (0 :
 Int))).fst ==
 (3 :
 Int)) &&
 decide
 ((0 :
 Int) ≤
 g_1.fst)) =
 (((x.fst.getD
 g.snd.snd.snd.snd.fst.toNat
 ((0 :
 Int),
 (0 :
 Int))).fst ==
 (1 :
 Int) ||
 (x.fst.getD
 g.snd.snd.snd.snd.fst.toNat
 ((0 :
 Int),
 (0 :
 Int))).fst ==
 (2 :
 Int) ||
 (x.fst.getD
 g.snd.snd.snd.snd.fst.toNat
 ((0 :
 Int),
 (0 :
 Int))).fst ==
 (3 :
 Int)) &&
 decide
 ((0 :
 Int) ≤
 g_1.fst)) ∧
 (((x.fst.getD
 g.snd.snd.snd.snd.fst.toNat
 ((0 :
 Int),
 (0 :
 Int))).fst ==
 (1 :
 Int) ||
 (x.fst.getD
 g.snd.snd.snd.snd.fst.toNat
 ((0 :
 Int),
 (0 :
 Int))).fst ==
 (2 :
 Int) ||
 (x.fst.getD
 g.snd.snd.snd.snd.fst.toNat
 ((0 :
 Int),
 (0 :
 Int))).fst ==
 (3 :
 Int)) &&
 decide
 ((0 :
 Int) ≤
 g_1.fst)) =
 (((x.fst.getD
 g.snd.snd.snd.snd.fst.toNat
 ((0 :
 Int),
 (0 :
 Int))).fst ==
 (1 :
 Int) ||
 (x.fst.getD
 g.snd.snd.snd.snd.fst.toNat
 ((0 :
 Int),
 (0 :
 Int))).fst ==
 (2 :
 Int) ||
 (x.fst.getD
 g.snd.snd.snd.snd.fst.toNat
 ((0 :
 Int),
 (0 :
 Int))).fst ==
 (3 :
 Int)) &&
 decide
 ((0 :
 Int) ≤
 g_1.fst)) ∧
 True ∧
 True ∧
 True ∧
 True ∧
 True ∧
 True ∧
 (((x.fst.getD
 g.snd.snd.snd.snd.fst.toNat
 ((0 :
 Int),
 (0 :
 Int))).fst ==
 (1 :
 Int) ||
 (x.fst.getD
 g.snd.snd.snd.snd.fst.toNat
 ((0 :
 Int),
 (0 :
 Int))).fst ==
 (2 :
 Int) ||
 (x.fst.getD
 g.snd.snd.snd.snd.fst.toNat
 ((0 :
 Int),
 (0 :
 Int))).fst ==
 (3 :
 Int)) &&
 decide
 ((0 :
 Int) ≤
 g_1.fst) &&
 (g.fst.getD
 g_1.fst.toNat
 ((0 :
 Int),
 (0 :
 Int))).snd ==
 (1 :
 Int)) =
 (((x.fst.getD
 g.snd.snd.snd.snd.fst.toNat
 ((0 :
 Int),
 (0 :
 Int))).fst ==
 (1 :
 Int) ||
 (x.fst.getD
 g.snd.snd.snd.snd.fst.toNat
 ((0 :
 Int),
 (0 :
 Int))).fst ==
 (2 :
 Int) ||
 (x.fst.getD
 g.snd.snd.snd.snd.fst.toNat
 ((0 :
 Int),
 (0 :
 Int))).fst ==
 (3 :
 Int)) &&
 decide
 ((0 :
 Int) ≤
 g_1.fst) &&
 (g.fst.getD
 g_1.fst.toNat
 ((0 :
 Int),
 (0 :
 Int))).snd ==
 (1 :
 Int)) ∧
 false =
 false ∧
 (True ∧
 True) ∧
 (x.fst.getD
 g.snd.snd.snd.snd.fst.toNat
 ((0 :
 Int),
 (0 :
 Int))).fst =
 (x.fst.getD
 g.snd.snd.snd.snd.fst.toNat
 ((0 :
 Int),
 (0 :
 Int))).fst ∧
 ((x.fst.getD
 g.snd.snd.snd.snd.fst.toNat
 ((0 :
 Int),
 (0 :
 Int))).fst ==
 (1 :
 Int)) =
 ((x.fst.getD
 g.snd.snd.snd.snd.fst.toNat
 ((0 :
 Int),
 (0 :
 Int))).fst ==
 (1 :
 Int)) ∧
 ((x.fst.getD
 g.snd.snd.snd.snd.fst.toNat
 ((0 :
 Int),
 (0 :
 Int))).fst ==
 (1 :
 Int)) =
 ((x.fst.getD
 g.snd.snd.snd.snd.fst.toNat
 ((0 :
 Int),
 (0 :
 Int))).fst ==
 (1 :
 Int)) ∧
 True ∧
 True ∧
 ((x.fst.getD
 g.snd.snd.snd.snd.fst.toNat
 ((0 :
 Int),
 (0 :
 Int))).fst ==
 (1 :
 Int) &&
 decide
 (g_1.fst <
 (0 :
 Int))) =
 ((x.fst.getD
 g.snd.snd.snd.snd.fst.toNat
 ((0 :
 Int),
 (0 :
 Int))).fst ==
 (1 :
 Int) &&
 decide
 (g_1.fst <
 (0 :
 Int))) ∧
 True ∧
 True ∧
 True ∧
 True ∧
 True ∧
 True ∧
 false =
 false ∧
 (True ∧
 True) ∧
 (x.fst.getD
 g.snd.snd.snd.snd.fst.toNat
 ((0 :
 Int),
 (0 :
 Int))).fst =
 (x.fst.getD
 g.snd.snd.snd.snd.fst.toNat
 ((0 :
 Int),
 (0 :
 Int))).fst ∧
 ((x.fst.getD
 g.snd.snd.snd.snd.fst.toNat
 ((0 :
 Int),
 (0 :
 Int))).fst ==
 (1 :
 Int)) =
 ((x.fst.getD
 g.snd.snd.snd.snd.fst.toNat
 ((0 :
 Int),
 (0 :
 Int))).fst ==
 (1 :
 Int)) ∧
 True ∧
 True ∧
 True ∧
 True ∧
 false =
 false ∧
 ((x.fst.getD
 g.snd.snd.snd.snd.fst.toNat
 ((0 :
 Int),
 (0 :
 Int))).fst ==
 (1 :
 Int) ||
 (x.fst.getD
 g.snd.snd.snd.snd.fst.toNat
 ((0 :
 Int),
 (0 :
 Int))).fst ==
 (2 :
 Int) ||
 (x.fst.getD
 g.snd.snd.snd.snd.fst.toNat
 ((0 :
 Int),
 (0 :
 Int))).fst ==
 (3 :
 Int)) =
 ((x.fst.getD
 g.snd.snd.snd.snd.fst.toNat
 ((0 :
 Int),
 (0 :
 Int))).fst ==
 (1 :
 Int) ||
 (x.fst.getD
 g.snd.snd.snd.snd.fst.toNat
 ((0 :
 Int),
 (0 :
 Int))).fst ==
 (2 :
 Int) ||
 (x.fst.getD
 g.snd.snd.snd.snd.fst.toNat
 ((0 :
 Int),
 (0 :
 Int))).fst ==
 (3 :
 Int)) ∧
 ((x.fst.getD
 g.snd.snd.snd.snd.fst.toNat
 ((0 :
 Int),
 (0 :
 Int))).fst ==
 (1 :
 Int) ||
 (x.fst.getD
 g.snd.snd.snd.snd.fst.toNat
 ((0 :
 Int),
 (0 :
 Int))).fst ==
 (2 :
 Int) ||
 (x.fst.getD
 g.snd.snd.snd.snd.fst.toNat
 ((0 :
 Int),
 (0 :
 Int))).fst ==
 (3 :
 Int)) =
 ((x.fst.getD
 g.snd.snd.snd.snd.fst.toNat
 ((0 :
 Int),
 (0 :
 Int))).fst ==
 (1 :
 Int) ||
 (x.fst.getD
 g.snd.snd.snd.snd.fst.toNat
 ((0 :
 Int),
 (0 :
 Int))).fst ==
 (2 :
 Int) ||
 (x.fst.getD
 g.snd.snd.snd.snd.fst.toNat
 ((0 :
 Int),
 (0 :
 Int))).fst ==
 (3 :
 Int)) ∧
 True ∧
 True ∧
 (((x.fst.getD
 g.snd.snd.snd.snd.fst.toNat
 ((0 :
 Int),
 (0 :
 Int))).fst ==
 (1 :
 Int) ||
 (x.fst.getD
 g.snd.snd.snd.snd.fst.toNat
 ((0 :
 Int),
 (0 :
 Int))).fst ==
 (2 :
 Int) ||
 (x.fst.getD
 g.snd.snd.snd.snd.fst.toNat
 ((0 :
 Int),
 (0 :
 Int))).fst ==
 (3 :
 Int)) &&
 decide
 (g_1.fst <
 (0 :
 Int))) =
 (((x.fst.getD
 g.snd.snd.snd.snd.fst.toNat
 ((0 :
 Int),
 (0 :
 Int))).fst ==
 (1 :
 Int) ||
 (x.fst.getD
 g.snd.snd.snd.snd.fst.toNat
 ((0 :
 Int),
 (0 :
 Int))).fst ==
 (2 :
 Int) ||
 (x.fst.getD
 g.snd.snd.snd.snd.fst.toNat
 ((0 :
 Int),
 (0 :
 Int))).fst ==
 (3 :
 Int)) &&
 decide
 (g_1.fst <
 (0 :
 Int))) ∧
 false =
 false ∧
 (True ∧
 True) ∧
 (x.fst.getD
 g.snd.snd.snd.snd.fst.toNat
 ((0 :
 Int),
 (0 :
 Int))).fst =
 (x.fst.getD
 g.snd.snd.snd.snd.fst.toNat
 ((0 :
 Int),
 (0 :
 Int))).fst ∧
 ((x.fst.getD
 g.snd.snd.snd.snd.fst.toNat
 ((0 :
 Int),
 (0 :
 Int))).fst ==
 (3 :
 Int)) =
 ((x.fst.getD
 g.snd.snd.snd.snd.fst.toNat
 ((0 :
 Int),
 (0 :
 Int))).fst ==
 (3 :
 Int)) ∧
 True ∧
 True ∧
 True ∧
 True ∧
 True ∧
 True ∧
 True ∧
 True ∧
 True ∧
 True ∧
 True ∧
 True ∧
 True ∧
 True ∧
 false =
 false ∧
 (True ∧
 True) ∧
 (x.fst.getD
 g.snd.snd.snd.snd.fst.toNat
 ((0 :
 Int),
 (0 :
 Int))).fst =
 (x.fst.getD
 g.snd.snd.snd.snd.fst.toNat
 ((0 :
 Int),
 (0 :
 Int))).fst ∧
 ((x.fst.getD
 g.snd.snd.snd.snd.fst.toNat
 ((0 :
 Int),
 (0 :
 Int))).fst ==
 (2 :
 Int)) =
 ((x.fst.getD
 g.snd.snd.snd.snd.fst.toNat
 ((0 :
 Int),
 (0 :
 Int))).fst ==
 (2 :
 Int)) ∧
 ((x.fst.getD
 g.snd.snd.snd.snd.fst.toNat
 ((0 :
 Int),
 (0 :
 Int))).fst ==
 (2 :
 Int)) =
 ((x.fst.getD
 g.snd.snd.snd.snd.fst.toNat
 ((0 :
 Int),
 (0 :
 Int))).fst ==
 (2 :
 Int)) ∧
 True ∧
 True ∧
 ((x.fst.getD
 g.snd.snd.snd.snd.fst.toNat
 ((0 :
 Int),
 (0 :
 Int))).fst ==
 (2 :
 Int) &&
 g.snd.snd.snd.fst ==
 (0 :
 Int)) =
 ((x.fst.getD
 g.snd.snd.snd.snd.fst.toNat
 ((0 :
 Int),
 (0 :
 Int))).fst ==
 (2 :
 Int) &&
 g.snd.snd.snd.fst ==
 (0 :
 Int)) ∧
 false =
 false ∧
 (True ∧
 True) ∧
 (x.fst.getD
 g.snd.snd.snd.snd.fst.toNat
 ((0 :
 Int),
 (0 :
 Int))).fst =
 (x.fst.getD
 g.snd.snd.snd.snd.fst.toNat
 ((0 :
 Int),
 (0 :
 Int))).fst ∧
 ((x.fst.getD
 g.snd.snd.snd.snd.fst.toNat
 ((0 :
 Int),
 (0 :
 Int))).fst ==
 (2 :
 Int)) =
 ((x.fst.getD
 g.snd.snd.snd.snd.fst.toNat
 ((0 :
 Int),
 (0 :
 Int))).fst ==
 (2 :
 Int)) ∧
 True ∧
 True ∧
 True ∧
 True ∧
 True ∧
 True ∧
 True ∧
 True ∧
 True ∧
 True ∧
 True ∧
 True ∧
 True ∧
 True ∧
 True ∧
 True ∧
 True ∧
 True ∧
 True ∧
 True ∧
 True ∧
 false =
 false ∧
 (True ∧
 True) ∧
 (x.fst.getD
 g.snd.snd.snd.snd.fst.toNat
 ((0 :
 Int),
 (0 :
 Int))).fst =
 (x.fst.getD
 g.snd.snd.snd.snd.fst.toNat
 ((0 :
 Int),
 (0 :
 Int))).fst ∧
 ((x.fst.getD
 g.snd.snd.snd.snd.fst.toNat
 ((0 :
 Int),
 (0 :
 Int))).fst ==
 (4 :
 Int)) =
 ((x.fst.getD
 g.snd.snd.snd.snd.fst.toNat
 ((0 :
 Int),
 (0 :
 Int))).fst ==
 (4 :
 Int)) ∧
 ((x.fst.getD
 g.snd.snd.snd.snd.fst.toNat
 ((0 :
 Int),
 (0 :
 Int))).fst ==
 (4 :
 Int)) =
 ((x.fst.getD
 g.snd.snd.snd.snd.fst.toNat
 ((0 :
 Int),
 (0 :
 Int))).fst ==
 (4 :
 Int)) ∧
 True ∧
 True ∧
 ((x.fst.getD
 g.snd.snd.snd.snd.fst.toNat
 ((0 :
 Int),
 (0 :
 Int))).fst ==
 (4 :
 Int) &&
 decide
 ((400 :
 Int) ≤
 g.snd.snd.snd.fst)) =
 ((x.fst.getD
 g.snd.snd.snd.snd.fst.toNat
 ((0 :
 Int),
 (0 :
 Int))).fst ==
 (4 :
 Int) &&
 decide
 ((400 :
 Int) ≤
 g.snd.snd.snd.fst)) ∧
 true =
 true ∧
 (True ∧
 True) ∧
 (x.fst.getD
 g.snd.snd.snd.snd.fst.toNat
 ((0 :
 Int),
 (0 :
 Int))).fst =
 (x.fst.getD
 g.snd.snd.snd.snd.fst.toNat
 ((0 :
 Int),
 (0 :
 Int))).fst ∧
 ((x.fst.getD
 g.snd.snd.snd.snd.fst.toNat
 ((0 :
 Int),
 (0 :
 Int))).fst ==
 (4 :
 Int)) =
 ((x.fst.getD
 g.snd.snd.snd.snd.fst.toNat
 ((0 :
 Int),
 (0 :
 Int))).fst ==
 (4 :
 Int)) ∧
 g.snd.snd.snd.fst =
 g.snd.snd.snd.fst ∧
 g.snd.snd.snd.fst +
 (1 :
 Int) =
 g.snd.snd.snd.fst +
 (1 :
 Int) ∧
 True ∧
 True ∧
 True ∧
 True ∧
 True ∧
 True ∧
 True ∧
 True ∧
 True ∧
 True ∧
 True ∧
 True ∧
 True ∧
 True ∧
 True ∧
 True ∧
 True ∧
 True ∧
 True ∧
 True ∧
 True ∧
 True ∧
 True ∧
 True ∧
 True ∧
 True ∧
 True) ∧
 ∀ (g_2 : Int × Unit),
 (0 : Int) ≤
 g_2.fst ∧
 g_2.fst ≤
 (↑g.fst.length :
 Int) ∧
 ((List.take
 g_2.fst.toNat
 g.fst).all
 fun e ↦
 decide
 (e.snd =
 (2 :
 Int))) =
 true →
 ((-9223372036854775808 :
 Int) ≤
 g_2.fst ∧
 g_2.fst ≤
 (9223372036854775807 :
 Int)) ∧
 True →
 (decide
 (g_2.fst <
 (↑g.fst.length :
 Int)) =
 true →
 ((0 : Int) ≤
 g_2.fst ∧
 g_2.fst <
 (↑g.fst.length :
 Int)) ∧
 (((g.fst.getD
 g_2.fst.toNat
 ((0 :
 Int),
 (0 :
 Int))).snd !=
 (2 :
 Int)) =
 true →
 ((0 :
 Int) ≤
 g_2.fst ∧
 g_2.fst <
 (↑g.fst.length :
 Int)) ∧
 (g.snd.fst.length +
 (((0 :
 Int) ::
 ([] :
 List
 Int)).set
 (0 :
 Nat)
 (0 :
 Int)).length ≤
 (9223372036854775807 :
 Nat) ∧
 (g.snd.fst.length +
 (((0 :
 Int) ::
 ([] :
 List
 Int)).set
 (0 :
 Nat)
 (0 :
 Int)).length +
 (g.snd.fst.length +
 (((0 :
 Int) ::
 ([] :
 List
 Int)).set
 (0 :
 Nat)
 (0 :
 Int)).length) /
 (4 :
 Nat) +
 (192 :
 Nat)) *
 (8 :
 Nat) ≤
 (281474976710656 :
 Nat)) ∧
 ((-9223372036854775808 :
 Int) ≤
 g.snd.snd.snd.snd.fst +
 (1 :
 Int) ∧
 g.snd.snd.snd.snd.fst +
 (1 :
 Int) ≤
 (9223372036854775807 :
 Int)) ∧
 (((0 :
 Int) ≤
 g.snd.snd.snd.snd.fst +
 (1 :
 Int) ∧
 g.snd.snd.snd.snd.fst +
 (1 :
 Int) ≤
 (↑x.fst.length :
 Int) ∧
 (↑(g.snd.fst ++
 ((0 :
 Int) ::
 ([] :
 List
 Int)).set
 (0 :
 Nat)
 (0 :
 Int)).length :
 Int) =
 g.snd.snd.snd.snd.fst +
 (1 :
 Int) ∧
 pl
 (List.take
 (g.snd.snd.snd.snd.fst +
 (1 :
 Int)).toNat
 x.fst) =
 ((g.fst.set
 g_2.fst.toNat
 ((g.fst.getD
 g_2.fst.toNat
 ((0 :
 Int),
 (0 :
 Int))).fst,
 (2 :
 Int)),
 g.snd.snd.snd.fst +
 (1 :
 Int),
 g.snd.snd.fst),
 g.snd.fst ++
 ((0 :
 Int) ::
 ([] :
 List
 Int)).set
 (0 :
 Nat)
 (0 :
 Int)) ∧
 good
 (g.fst.set
 g_2.fst.toNat
 ((g.fst.getD
 g_2.fst.toNat
 ((0 :
 Int),
 (0 :
 Int))).fst,
 (2 :
 Int)),
 g.snd.snd.snd.fst +
 (1 :
 Int),
 g.snd.snd.fst)
 (g.snd.snd.snd.snd.fst +
 (1 :
 Int))) ∧
 ((↑x.fst.length :
 Int) -
 (g.snd.snd.snd.snd.fst +
 (1 :
 Int))).toNat <
 ((↑x.fst.length :
 Int) -
 g.snd.snd.snd.snd.fst).toNat) ∧
 ((True ∧
 True) ∧
 True ∧
 True ∧
 Value.slice
 none
 (0 :
 Nat)
 (0 :
 Nat) =
 Value.slice
 none
 (0 :
 Nat)
 (0 :
 Nat) ∧
 g.snd.snd.snd.fst +
 (1 :
 Int) =
 g.snd.snd.snd.fst +
 (1 :
 Int) ∧
 True ∧
 x.fst =
 x.fst ∧
 (↑x.fst.length :
 Int) =
 (↑x.fst.length :
 Int) ∧
 g.snd.snd.snd.snd.fst +
 (1 :
 Int) =
 g.snd.snd.snd.snd.fst +
 (1 :
 Int) ∧
 True) ∧
 ((True ∧
 True) ∧
 g.fst.set
 g_2.fst.toNat
 ((g.fst.getD
 g_2.fst.toNat
 ((0 :
 Int),
 (0 :
 Int))).fst,
 (2 :
 Int)) =
 g.fst.set
 g_2.fst.toNat
 ((g.fst.getD
 g_2.fst.toNat
 ((0 :
 Int),
 (0 :
 Int))).fst,
 (2 :
 Int)) ∧
 g.snd.fst ++
 ((0 :
 Int) ::
 ([] :
 List
 Int)).set
 (0 :
 Nat)
 (0 :
 Int) =
 g.snd.fst ++
 ((0 :
 Int) ::
 ([] :
 List
 Int)).set
 (0 :
 Nat)
 (0 :
 Int) ∧
 g.snd.snd.fst =
 g.snd.snd.fst ∧
 (True ∧
 (True ∧
 True) ∧
 True) ∧
 True) ∧
 True) ∧
 (((g.fst.getD
 g_2.fst.toNat
 ((0 :
 Int),
 (0 :
 Int))).snd !=
 (2 :
 Int)) =
 false →
 ((-9223372036854775808 :
 Int) ≤
 g_2.fst +
 (1 :
 Int) ∧
 g_2.fst +
 (1 :
 Int) ≤
 (9223372036854775807 :
 Int)) ∧
 (((0 :
 Int) ≤
 g_2.fst +
 (1 :
 Int) ∧
 g_2.fst +
 (1 :
 Int) ≤
 (↑g.fst.length :
 Int) ∧
 ((List.take
 (g_2.fst +
 (1 :
 Int)).toNat
 g.fst).all
 fun
 e ↦
 decide
 (e.snd =
 (2 :
 Int))) =
 true) ∧
 ((↑g.fst.length :
 Int) -
 (g_2.fst +
 (1 :
 Int))).toNat <
 ((↑g.fst.length :
 Int) -
 g_2.fst).toNat) ∧
 ((True ∧
 True) ∧
 (↑g.fst.length :
 Int) =
 (↑g.fst.length :
 Int) ∧
 g_2.fst +
 (1 :
 Int) =
 g_2.fst +
 (1 :
 Int) ∧
 True) ∧
 ((True ∧
 True) ∧
 g.fst =
 g.fst ∧
 g.snd.fst =
 g.snd.fst ∧
 g.snd.snd.fst =
 g.snd.snd.fst ∧
 (True ∧
 (True ∧
 True) ∧
 True) ∧
 ((x.fst.getD
 g.snd.snd.snd.snd.fst.toNat
 ((0 :
 Int),
 (0 :
 Int))).fst =
 (x.fst.getD
 g.snd.snd.snd.snd.fst.toNat
 ((0 :
 Int),
 (0 :
 Int))).fst ∧
 (x.fst.getD
 g.snd.snd.snd.snd.fst.toNat
 ((0 :
 Int),
 (0 :
 Int))).snd =
 (x.fst.getD
 g.snd.snd.snd.snd.fst.toNat
 ((0 :
 Int),
 (0 :
 Int))).snd ∧
 True) ∧
 True) ∧
 True ∧
 True ∧
 True ∧
 True ∧
 True ∧
 True ∧
 (True ∧
 True) ∧
 True ∧
 True ∧
 Value.slice
 none
 (0 :
 Nat)
 (0 :
 Nat) =
 Value.slice
 none
 (0 :
 Nat)
 (0 :
 Nat) ∧
 g.snd.snd.snd.fst +
 (1 :
 Int) =
 g.snd.snd.snd.fst +
 (1 :
 Int) ∧
 True ∧
 True ∧
 (True ∧
 True) ∧
 g_1.fst =
 g_1.fst ∧
 (0 :
 Int) =
 (0 :
 Int) ∧
 True ∧
 True ∧
 ((x.fst.getD
 g.snd.snd.snd.snd.fst.toNat
 ((0 :
 Int),
 (0 :
 Int))).fst ==
 (1 :
 Int) ||
 (x.fst.getD
 g.snd.snd.snd.snd.fst.toNat
 ((0 :
 Int),
 (0 :
 Int))).fst ==
 (2 :
 Int) ||
 (x.fst.getD
 g.snd.snd.snd.snd.fst.toNat
 ((0 :
 Int),
 (0 :
 Int))).fst ==
 (3 :
 Int)) =
 ((x.fst.getD
 g.snd.snd.snd.snd.fst.toNat
 ((0 :
 Int),
 (0 :
 Int))).fst ==
 (1 :
 Int) ||
 (x.fst.getD
 g.snd.snd.snd.snd.fst.toNat
 ((0 :
 Int),
 (0 :
 Int))).fst ==
 (2 :
 Int) ||
 (x.fst.getD
 g.snd.snd.snd.snd.fst.toNat
 ((0 :
 Int),
 (0 :
 Int))).fst ==
 (3 :
 Int)) ∧
 True ∧
 True ∧
 True ∧
 x.fst =
 x.fst ∧
 (↑x.fst.length :
 Int) =
 (↑x.fst.length :
 Int) ∧
 g.snd.snd.snd.snd.fst =
 g.snd.snd.snd.snd.fst ∧
 True ∧
 True ∧
 True ∧
 True ∧
 (↑g.fst.length :
 Int) =
 (↑g.fst.length :
 Int) ∧
 g_1.snd.fst =
 g_1.snd.fst ∧
 false =
 false ∧
 True ∧
 True ∧
 True ∧
 True ∧
 True ∧
 True ∧
 True ∧
 True ∧
 True ∧
 True ∧
 (True ∧
 True) ∧
 (x.fst.getD
 g.snd.snd.snd.snd.fst.toNat
 ((0 :
 Int),
 (0 :
 Int))).fst =
 (x.fst.getD
 g.snd.snd.snd.snd.fst.toNat
 ((0 :
 Int),
 (0 :
 Int))).fst ∧
 ((x.fst.getD
 g.snd.snd.snd.snd.fst.toNat
 ((0 :
 Int),
 (0 :
 Int))).fst ==
 (1 :
 Int)) =
 ((x.fst.getD
 g.snd.snd.snd.snd.fst.toNat
 ((0 :
 Int),
 (0 :
 Int))).fst ==
 (1 :
 Int)) ∧
 ((x.fst.getD
 g.snd.snd.snd.snd.fst.toNat
 ((0 :
 Int),
 (0 :
 Int))).fst ==
 (1 :
 Int)) =
 ((x.fst.getD
 g.snd.snd.snd.snd.fst.toNat
 ((0 :
 Int),
 (0 :
 Int))).fst ==
 (1 :
 Int)) ∧
 True ∧
 True ∧
 True ∧
 ((x.fst.getD
 g.snd.snd.snd.snd.fst.toNat
 ((0 :
 Int),
 (0 :
 Int))).fst ==
 (1 :
 Int) ||
 (x.fst.getD
 g.snd.snd.snd.snd.fst.toNat
 ((0 :
 Int),
 (0 :
 Int))).fst ==
 (2 :
 Int)) =
 ((x.fst.getD
 g.snd.snd.snd.snd.fst.toNat
 ((0 :
 Int),
 (0 :
 Int))).fst ==
 (1 :
 Int) ||
 (x.fst.getD
 g.snd.snd.snd.snd.fst.toNat
 ((0 :
 Int),
 (0 :
 Int))).fst ==
 (2 :
 Int)) ∧
 ((x.fst.getD
 g.snd.snd.snd.snd.fst.toNat
 ((0 :
 Int),
 (0 :
 Int))).fst ==
 (1 :
 Int) ||
 (x.fst.getD
 g.snd.snd.snd.snd.fst.toNat
 ((0 :
 Int),
 (0 :
 Int))).fst ==
 (2 :
 Int)) =
 ((x.fst.getD
 g.snd.snd.snd.snd.fst.toNat
 ((0 :
 Int),
 (0 :
 Int))).fst ==
 (1 :
 Int) ||
 (x.fst.getD
 g.snd.snd.snd.snd.fst.toNat
 ((0 :
 Int),
 (0 :
 Int))).fst ==
 (2 :
 Int)) ∧
 True ∧
 True ∧
 True ∧
 ((x.fst.getD
 g.snd.snd.snd.snd.fst.toNat
 ((0 :
 Int),
 (0 :
 Int))).fst ==
 (1 :
 Int) ||
 (x.fst.getD
 g.snd.snd.snd.snd.fst.toNat
 ((0 :
 Int),
 (0 :
 Int))).fst ==
 (2 :
 Int) ||
 (x.fst.getD
 g.snd.snd.snd.snd.fst.toNat
 ((0 :
 Int),
 (0 :
 Int))).fst ==
 (3 :
 Int)) =
 ((x.fst.getD
 g.snd.snd.snd.snd.fst.toNat
 ((0 :
 Int),
 (0 :
 Int))).fst ==
 (1 :
 Int) ||
 (x.fst.getD
 g.snd.snd.snd.snd.fst.toNat
 ((0 :
 Int),
 (0 :
 Int))).fst ==
 (2 :
 Int) ||
 (x.fst.getD
 g.snd.snd.snd.snd.fst.toNat
 ((0 :
 Int),
 (0 :
 Int))).fst ==
 (3 :
 Int)) ∧
 True ∧
 True ∧
 True ∧
 True ∧
 True ∧
 True ∧
 True ∧
 false =
 false ∧
 (True ∧
 True) ∧
 (x.fst.getD
 g.snd.snd.snd.snd.fst.toNat
 ((0 :
 Int),
 (0 :
 Int))).fst =
 (x.fst.getD
 g.snd.snd.snd.snd.fst.toNat
 ((0 :
 Int),
 (0 :
 Int))).fst ∧
 decide
 ((x.fst.getD
 g.snd.snd.snd.snd.fst.toNat
 ((0 :
 Int),
 (0 :
 Int))).fst <
 (1 :
 Int)) =
 decide
 ((x.fst.getD
 g.snd.snd.snd.snd.fst.toNat
 ((0 :
 Int),
 (0 :
 Int))).fst <
 (1 :
 Int)) ∧
 decide
 ((x.fst.getD
 g.snd.snd.snd.snd.fst.toNat
 ((0 :
 Int),
 (0 :
 Int))).fst <
 (1 :
 Int)) =
 decide
 ((x.fst.getD
 g.snd.snd.snd.snd.fst.toNat
 ((0 :
 Int),
 (0 :
 Int))).fst <
 (1 :
 Int)) ∧
 True ∧
 True ∧
 True ∧
 (decide
 ((x.fst.getD
 g.snd.snd.snd.snd.fst.toNat
 ((0 :
 Int),
 (0 :
 Int))).fst <
 (1 :
 Int)) ||
 decide
 ((5 :
 Int) <
 (x.fst.getD
 g.snd.snd.snd.snd.fst.toNat
 ((0 :
 Int),
 (0 :
 Int))).fst)) =
 (decide
 ((x.fst.getD
 g.snd.snd.snd.snd.fst.toNat
 ((0 :
 Int),
 (0 :
 Int))).fst <
 (1 :
 Int)) ||
 decide
 ((5 :
 Int) <
 (x.fst.getD
 g.snd.snd.snd.snd.fst.toNat
 ((0 :
 Int),
 (0 :
 Int))).fst)) ∧
 false =
 false ∧
 (True ∧
 True) ∧
 (x.fst.getD
 g.snd.snd.snd.snd.fst.toNat
 ((0 :
 Int),
 (0 :
 Int))).snd =
 (x.fst.getD
 g.snd.snd.snd.snd.fst.toNat
 ((0 :
 Int),
 (0 :
 Int))).snd ∧
 decide
 ((x.fst.getD
 g.snd.snd.snd.snd.fst.toNat
 ((0 :
 Int),
 (0 :
 Int))).snd <
 (0 :
 Int)) =
 decide
 ((x.fst.getD
 g.snd.snd.snd.snd.fst.toNat
 ((0 :
 Int),
 (0 :
 Int))).snd <
 (0 :
 Int)) ∧
 decide
 ((x.fst.getD
 g.snd.snd.snd.snd.fst.toNat
 ((0 :
 Int),
 (0 :
 Int))).snd <
 (0 :
 Int)) =
 decide
 ((x.fst.getD
 g.snd.snd.snd.snd.fst.toNat
 ((0 :
 Int),
 (0 :
 Int))).snd <
 (0 :
 Int)) ∧
 True ∧
 True ∧
 True ∧
 (decide
 ((x.fst.getD
 g.snd.snd.snd.snd.fst.toNat
 ((0 :
 Int),
 (0 :
 Int))).snd <
 (0 :
 Int)) ||
 decide
 ((63 :
 Int) <
 (x.fst.getD
 g.snd.snd.snd.snd.fst.toNat
 ((0 :
 Int),
 (0 :
 Int))).snd)) =
 (decide
 ((x.fst.getD
 g.snd.snd.snd.snd.fst.toNat
 ((0 :
 Int),
 (0 :
 Int))).snd <
 (0 :
 Int)) ||
 decide
 ((63 :
 Int) <
 (x.fst.getD
 g.snd.snd.snd.snd.fst.toNat
 ((0 :
 Int),
 (0 :
 Int))).snd)) ∧
 false =
 false ∧
 ((x.fst.getD
 g.snd.snd.snd.snd.fst.toNat
 ((0 :
 Int),
 (0 :
 Int))).fst ==
 (1 :
 Int) ||
 (x.fst.getD
 g.snd.snd.snd.snd.fst.toNat
 ((0 :
 Int),
 (0 :
 Int))).fst ==
 (2 :
 Int) ||
 (x.fst.getD
 g.snd.snd.snd.snd.fst.toNat
 ((0 :
 Int),
 (0 :
 Int))).fst ==
 (3 :
 Int)) =
 ((x.fst.getD
 g.snd.snd.snd.snd.fst.toNat
 ((0 :
 Int),
 (0 :
 Int))).fst ==
 (1 :
 Int) ||
 (x.fst.getD
 g.snd.snd.snd.snd.fst.toNat
 ((0 :
 Int),
 (0 :
 Int))).fst ==
 (2 :
 Int) ||
 (x.fst.getD
 g.snd.snd.snd.snd.fst.toNat
 ((0 :
 Int),
 (0 :
 Int))).fst ==
 (3 :
 Int)) ∧
 ((x.fst.getD
 g.snd.snd.snd.snd.fst.toNat
 ((0 :
 Int),
 (0 :
 Int))).fst ==
 (1 :
 Int) ||
 (x.fst.getD
 g.snd.snd.snd.snd.fst.toNat
 ((0 :
 Int),
 (0 :
 Int))).fst ==
 (2 :
 Int) ||
 (x.fst.getD
 g.snd.snd.snd.snd.fst.toNat
 ((0 :
 Int),
 (0 :
 Int))).fst ==
 (3 :
 Int)) =
 ((x.fst.getD
 g.snd.snd.snd.snd.fst.toNat
 ((0 :
 Int),
 (0 :
 Int))).fst ==
 (1 :
 Int) ||
 (x.fst.getD
 g.snd.snd.snd.snd.fst.toNat
 ((0 :
 Int),
 (0 :
 Int))).fst ==
 (2 :
 Int) ||
 (x.fst.getD
 g.snd.snd.snd.snd.fst.toNat
 ((0 :
 Int),
 (0 :
 Int))).fst ==
 (3 :
 Int)) ∧
 True ∧
 True ∧
 (((x.fst.getD
 g.snd.snd.snd.snd.fst.toNat
 ((0 :
 Int),
 (0 :
 Int))).fst ==
 (1 :
 Int) ||
 (x.fst.getD
 g.snd.snd.snd.snd.fst.toNat
 ((0 :
 Int),
 (0 :
 Int))).fst ==
 (2 :
 Int) ||
 (x.fst.getD
 g.snd.snd.snd.snd.fst.toNat
 ((0 :
 Int),
 (0 :
 Int))).fst ==
 (3 :
 Int)) &&
 decide
 ((0 :
 Int) ≤
 g_1.fst)) =
 (((x.fst.getD
 g.snd.snd.snd.snd.fst.toNat
 ((0 :
 Int),
 (0 :
 Int))).fst ==
 (1 :
 Int) ||
 (x.fst.getD
 g.snd.snd.snd.snd.fst.toNat
 ((0 :
 Int),
 (0 :
 Int))).fst ==
 (2 :
 Int) ||
 (x.fst.getD
 g.snd.snd.snd.snd.fst.toNat
 ((0 :
 Int),
 (0 :
 Int))).fst ==
 (3 :
 Int)) &&
 decide
 ((0 :
 Int) ≤
 g_1.fst)) ∧
 (((x.fst.getD
 g.snd.snd.snd.snd.fst.toNat
 ((0 :
 Int),
 (0 :
 Int))).fst ==
 (1 :
 Int) ||
 (x.fst.getD
 g.snd.snd.snd.snd.fst.toNat
 ((0 :
 Int),
 (0 :
 Int))).fst ==
 (2 :
 Int) ||
 (x.fst.getD
 g.snd.snd.snd.snd.fst.toNat
 ((0 :
 Int),
 (0 :
 Int))).fst ==
 (3 :
 Int)) &&
 decide
 ((0 :
 Int) ≤
 g_1.fst)) =
 (((x.fst.getD
 g.snd.snd.snd.snd.fst.toNat
 ((0 :
 Int),
 (0 :
 Int))).fst ==
 (1 :
 Int) ||
 (x.fst.getD
 g.snd.snd.snd.snd.fst.toNat
 ((0 :
 Int),
 (0 :
 Int))).fst ==
 (2 :
 Int) ||
 (x.fst.getD
 g.snd.snd.snd.snd.fst.toNat
 ((0 :
 Int),
 (0 :
 Int))).fst ==
 (3 :
 Int)) &&
 decide
 ((0 :
 Int) ≤
 g_1.fst)) ∧
 True ∧
 True ∧
 True ∧
 True ∧
 True ∧
 True ∧
 (((x.fst.getD
 g.snd.snd.snd.snd.fst.toNat
 ((0 :
 Int),
 (0 :
 Int))).fst ==
 (1 :
 Int) ||
 (x.fst.getD
 g.snd.snd.snd.snd.fst.toNat
 ((0 :
 Int),
 (0 :
 Int))).fst ==
 (2 :
 Int) ||
 (x.fst.getD
 g.snd.snd.snd.snd.fst.toNat
 ((0 :
 Int),
 (0 :
 Int))).fst ==
 (3 :
 Int)) &&
 decide
 ((0 :
 Int) ≤
 g_1.fst) &&
 (g.fst.getD
 g_1.fst.toNat
 ((0 :
 Int),
 (0 :
 Int))).snd ==
 (1 :
 Int)) =
 (((x.fst.getD
 g.snd.snd.snd.snd.fst.toNat
 ((0 :
 Int),
 (0 :
 Int))).fst ==
 (1 :
 Int) ||
 (x.fst.getD
 g.snd.snd.snd.snd.fst.toNat
 ((0 :
 Int),
 (0 :
 Int))).fst ==
 (2 :
 Int) ||
 (x.fst.getD
 g.snd.snd.snd.snd.fst.toNat
 ((0 :
 Int),
 (0 :
 Int))).fst ==
 (3 :
 Int)) &&
 decide
 ((0 :
 Int) ≤
 g_1.fst) &&
 (g.fst.getD
 g_1.fst.toNat
 ((0 :
 Int),
 (0 :
 Int))).snd ==
 (1 :
 Int)) ∧
 false =
 false ∧
 (True ∧
 True) ∧
 (x.fst.getD
 g.snd.snd.snd.snd.fst.toNat
 ((0 :
 Int),
 (0 :
 Int))).fst =
 (x.fst.getD
 g.snd.snd.snd.snd.fst.toNat
 ((0 :
 Int),
 (0 :
 Int))).fst ∧
 ((x.fst.getD
 g.snd.snd.snd.snd.fst.toNat
 ((0 :
 Int),
 (0 :
 Int))).fst ==
 (1 :
 Int)) =
 ((x.fst.getD
 g.snd.snd.snd.snd.fst.toNat
 ((0 :
 Int),
 (0 :
 Int))).fst ==
 (1 :
 Int)) ∧
 ((x.fst.getD
 g.snd.snd.snd.snd.fst.toNat
 ((0 :
 Int),
 (0 :
 Int))).fst ==
 (1 :
 Int)) =
 ((x.fst.getD
 g.snd.snd.snd.snd.fst.toNat
 ((0 :
 Int),
 (0 :
 Int))).fst ==
 (1 :
 Int)) ∧
 True ∧
 True ∧
 ((x.fst.getD
 g.snd.snd.snd.snd.fst.toNat
 ((0 :
 Int),
 (0 :
 Int))).fst ==
 (1 :
 Int) &&
 decide
 (g_1.fst <
 (0 :
 Int))) =
 ((x.fst.getD
 g.snd.snd.snd.snd.fst.toNat
 ((0 :
 Int),
 (0 :
 Int))).fst ==
 (1 :
 Int) &&
 decide
 (g_1.fst <
 (0 :
 Int))) ∧
 True ∧
 True ∧
 True ∧
 True ∧
 True ∧
 True ∧
 false =
 false ∧
 (True ∧
 True) ∧
 (x.fst.getD
 g.snd.snd.snd.snd.fst.toNat
 ((0 :
 Int),
 (0 :
 Int))).fst =
 (x.fst.getD
 g.snd.snd.snd.snd.fst.toNat
 ((0 :
 Int),
 (0 :
 Int))).fst ∧
 ((x.fst.getD
 g.snd.snd.snd.snd.fst.toNat
 ((0 :
 Int),
 (0 :
 Int))).fst ==
 (1 :
 Int)) =
 ((x.fst.getD
 g.snd.snd.snd.snd.fst.toNat
 ((0 :
 Int),
 (0 :
 Int))).fst ==
 (1 :
 Int)) ∧
 True ∧
 True ∧
 True ∧
 True ∧
 false =
 false ∧
 ((x.fst.getD
 g.snd.snd.snd.snd.fst.toNat
 ((0 :
 Int),
 (0 :
 Int))).fst ==
 (1 :
 Int) ||
 (x.fst.getD
 g.snd.snd.snd.snd.fst.toNat
 ((0 :
 Int),
 (0 :
 Int))).fst ==
 (2 :
 Int) ||
 (x.fst.getD
 g.snd.snd.snd.snd.fst.toNat
 ((0 :
 Int),
 (0 :
 Int))).fst ==
 (3 :
 Int)) =
 ((x.fst.getD
 g.snd.snd.snd.snd.fst.toNat
 ((0 :
 Int),
 (0 :
 Int))).fst ==
 (1 :
 Int) ||
 (x.fst.getD
 g.snd.snd.snd.snd.fst.toNat
 ((0 :
 Int),
 (0 :
 Int))).fst ==
 (2 :
 Int) ||
 (x.fst.getD
 g.snd.snd.snd.snd.fst.toNat
 ((0 :
 Int),
 (0 :
 Int))).fst ==
 (3 :
 Int)) ∧
 ((x.fst.getD
 g.snd.snd.snd.snd.fst.toNat
 ((0 :
 Int),
 (0 :
 Int))).fst ==
 (1 :
 Int) ||
 (x.fst.getD
 g.snd.snd.snd.snd.fst.toNat
 ((0 :
 Int),
 (0 :
 Int))).fst ==
 (2 :
 Int) ||
 (x.fst.getD
 g.snd.snd.snd.snd.fst.toNat
 ((0 :
 Int),
 (0 :
 Int))).fst ==
 (3 :
 Int)) =
 ((x.fst.getD
 g.snd.snd.snd.snd.fst.toNat
 ((0 :
 Int),
 (0 :
 Int))).fst ==
 (1 :
 Int) ||
 (x.fst.getD
 g.snd.snd.snd.snd.fst.toNat
 ((0 :
 Int),
 (0 :
 Int))).fst ==
 (2 :
 Int) ||
 (x.fst.getD
 g.snd.snd.snd.snd.fst.toNat
 ((0 :
 Int),
 (0 :
 Int))).fst ==
 (3 :
 Int)) ∧
 True ∧
 True ∧
 (((x.fst.getD
 g.snd.snd.snd.snd.fst.toNat
 ((0 :
 Int),
 (0 :
 Int))).fst ==
 (1 :
 Int) ||
 (x.fst.getD
 g.snd.snd.snd.snd.fst.toNat
 ((0 :
 Int),
 (0 :
 Int))).fst ==
 (2 :
 Int) ||
 (x.fst.getD
 g.snd.snd.snd.snd.fst.toNat
 ((0 :
 Int),
 (0 :
 Int))).fst ==
 (3 :
 Int)) &&
 decide
 (g_1.fst <
 (0 :
 Int))) =
 (((x.fst.getD
 g.snd.snd.snd.snd.fst.toNat
 ((0 :
 Int),
 (0 :
 Int))).fst ==
 (1 :
 Int) ||
 (x.fst.getD
 g.snd.snd.snd.snd.fst.toNat
 ((0 :
 Int),
 (0 :
 Int))).fst ==
 (2 :
 Int) ||
 (x.fst.getD
 g.snd.snd.snd.snd.fst.toNat
 ((0 :
 Int),
 (0 :
 Int))).fst ==
 (3 :
 Int)) &&
 decide
 (g_1.fst <
 (0 :
 Int))) ∧
 false =
 false ∧
 (True ∧
 True) ∧
 (x.fst.getD
 g.snd.snd.snd.snd.fst.toNat
 ((0 :
 Int),
 (0 :
 Int))).fst =
 (x.fst.getD
 g.snd.snd.snd.snd.fst.toNat
 ((0 :
 Int),
 (0 :
 Int))).fst ∧
 ((x.fst.getD
 g.snd.snd.snd.snd.fst.toNat
 ((0 :
 Int),
 (0 :
 Int))).fst ==
 (3 :
 Int)) =
 ((x.fst.getD
 g.snd.snd.snd.snd.fst.toNat
 ((0 :
 Int),
 (0 :
 Int))).fst ==
 (3 :
 Int)) ∧
 True ∧
 True ∧
 True ∧
 True ∧
 True ∧
 True ∧
 True ∧
 True ∧
 True ∧
 True ∧
 True ∧
 True ∧
 True ∧
 True ∧
 false =
 false ∧
 (True ∧
 True) ∧
 (x.fst.getD
 g.snd.snd.snd.snd.fst.toNat
 ((0 :
 Int),
 (0 :
 Int))).fst =
 (x.fst.getD
 g.snd.snd.snd.snd.fst.toNat
 ((0 :
 Int),
 (0 :
 Int))).fst ∧
 ((x.fst.getD
 g.snd.snd.snd.snd.fst.toNat
 ((0 :
 Int),
 (0 :
 Int))).fst ==
 (2 :
 Int)) =
 ((x.fst.getD
 g.snd.snd.snd.snd.fst.toNat
 ((0 :
 Int),
 (0 :
 Int))).fst ==
 (2 :
 Int)) ∧
 ((x.fst.getD
 g.snd.snd.snd.snd.fst.toNat
 ((0 :
 Int),
 (0 :
 Int))).fst ==
 (2 :
 Int)) =
 ((x.fst.getD
 g.snd.snd.snd.snd.fst.toNat
 ((0 :
 Int),
 (0 :
 Int))).fst ==
 (2 :
 Int)) ∧
 True ∧
 True ∧
 ((x.fst.getD
 g.snd.snd.snd.snd.fst.toNat
 ((0 :
 Int),
 (0 :
 Int))).fst ==
 (2 :
 Int) &&
 g.snd.snd.snd.fst ==
 (0 :
 Int)) =
 ((x.fst.getD
 g.snd.snd.snd.snd.fst.toNat
 ((0 :
 Int),
 (0 :
 Int))).fst ==
 (2 :
 Int) &&
 g.snd.snd.snd.fst ==
 (0 :
 Int)) ∧
 false =
 false ∧
 (True ∧
 True) ∧
 (x.fst.getD
 g.snd.snd.snd.snd.fst.toNat
 ((0 :
 Int),
 (0 :
 Int))).fst =
 (x.fst.getD
 g.snd.snd.snd.snd.fst.toNat
 ((0 :
 Int),
 (0 :
 Int))).fst ∧
 ((x.fst.getD
 g.snd.snd.snd.snd.fst.toNat
 ((0 :
 Int),
 (0 :
 Int))).fst ==
 (2 :
 Int)) =
 ((x.fst.getD
 g.snd.snd.snd.snd.fst.toNat
 ((0 :
 Int),
 (0 :
 Int))).fst ==
 (2 :
 Int)) ∧
 True ∧
 True ∧
 True ∧
 True ∧
 True ∧
 True ∧
 True ∧
 True ∧
 True ∧
 True ∧
 True ∧
 True ∧
 True ∧
 True ∧
 True ∧
 True ∧
 True ∧
 True ∧
 True ∧
 True ∧
 True ∧
 false =
 false ∧
 (True ∧
 True) ∧
 (x.fst.getD
 g.snd.snd.snd.snd.fst.toNat
 ((0 :
 Int),
 (0 :
 Int))).fst =
 (x.fst.getD
 g.snd.snd.snd.snd.fst.toNat
 ((0 :
 Int),
 (0 :
 Int))).fst ∧
 ((x.fst.getD
 g.snd.snd.snd.snd.fst.toNat
 ((0 :
 Int),
 (0 :
 Int))).fst ==
 (4 :
 Int)) =
 ((x.fst.getD
 g.snd.snd.snd.snd.fst.toNat
 ((0 :
 Int),
 (0 :
 Int))).fst ==
 (4 :
 Int)) ∧
 ((x.fst.getD
 g.snd.snd.snd.snd.fst.toNat
 ((0 :
 Int),
 (0 :
 Int))).fst ==
 (4 :
 Int)) =
 ((x.fst.getD
 g.snd.snd.snd.snd.fst.toNat
 ((0 :
 Int),
 (0 :
 Int))).fst ==
 (4 :
 Int)) ∧
 True ∧
 True ∧
 ((x.fst.getD
 g.snd.snd.snd.snd.fst.toNat
 ((0 :
 Int),
 (0 :
 Int))).fst ==
 (4 :
 Int) &&
 decide
 ((400 :
 Int) ≤
 g.snd.snd.snd.fst)) =
 ((x.fst.getD
 g.snd.snd.snd.snd.fst.toNat
 ((0 :
 Int),
 (0 :
 Int))).fst ==
 (4 :
 Int) &&
 decide
 ((400 :
 Int) ≤
 g.snd.snd.snd.fst)) ∧
 true =
 true ∧
 (True ∧
 True) ∧
 (x.fst.getD
 g.snd.snd.snd.snd.fst.toNat
 ((0 :
 Int),
 (0 :
 Int))).fst =
 (x.fst.getD
 g.snd.snd.snd.snd.fst.toNat
 ((0 :
 Int),
 (0 :
 Int))).fst ∧
 ((x.fst.getD
 g.snd.snd.snd.snd.fst.toNat
 ((0 :
 Int),
 (0 :
 Int))).fst ==
 (4 :
 Int)) =
 ((x.fst.getD
 g.snd.snd.snd.snd.fst.toNat
 ((0 :
 Int),
 (0 :
 Int))).fst ==
 (4 :
 Int)) ∧
 g.snd.snd.snd.fst =
 g.snd.snd.snd.fst ∧
 g.snd.snd.snd.fst +
 (1 :
 Int) =
 g.snd.snd.snd.fst +
 (1 :
 Int) ∧
 True ∧
 True ∧
 True ∧
 True ∧
 True ∧
 True ∧
 True ∧
 True ∧
 True ∧
 True ∧
 True ∧
 True ∧
 True ∧
 True ∧
 True ∧
 True ∧
 True ∧
 True ∧
 True ∧
 True ∧
 True ∧
 True ∧
 True ∧
 True ∧
 True ∧
 True ∧
 True)) ∧
 (decide
 (g_2.fst <
 (↑g.fst.length :
 Int)) =
 false →
 (g.snd.fst.length +
 (((0 :
 Int) ::
 ([] :
 List
 Int)).set
 (0 :
 Nat)
 (0 :
 Int)).length ≤
 (9223372036854775807 :
 Nat) ∧
 (g.snd.fst.length +
 (((0 :
 Int) ::
 ([] :
 List
 Int)).set
 (0 :
 Nat)
 (0 :
 Int)).length +
 (g.snd.fst.length +
 (((0 :
 Int) ::
 ([] :
 List
 Int)).set
 (0 :
 Nat)
 (0 :
 Int)).length) /
 (4 :
 Nat) +
 (192 :
 Nat)) *
 (8 :
 Nat) ≤
 (281474976710656 :
 Nat)) ∧
 ((-9223372036854775808 :
 Int) ≤
 g.snd.snd.snd.snd.fst +
 (1 :
 Int) ∧
 g.snd.snd.snd.snd.fst +
 (1 :
 Int) ≤
 (9223372036854775807 :
 Int)) ∧
 (((0 :
 Int) ≤
 g.snd.snd.snd.snd.fst +
 (1 :
 Int) ∧
 g.snd.snd.snd.snd.fst +
 (1 :
 Int) ≤
 (↑x.fst.length :
 Int) ∧
 (↑(g.snd.fst ++
 ((0 :
 Int) ::
 ([] :
 List
 Int)).set
 (0 :
 Nat)
 (0 :
 Int)).length :
 Int) =
 g.snd.snd.snd.snd.fst +
 (1 :
 Int) ∧
 pl
 (List.take
 (g.snd.snd.snd.snd.fst +
 (1 :
 Int)).toNat
 x.fst) =
 ((g.fst,
 g.snd.snd.snd.fst +
 (1 :
 Int),
 g.snd.snd.fst),
 g.snd.fst ++
 ((0 :
 Int) ::
 ([] :
 List
 Int)).set
 (0 :
 Nat)
 (0 :
 Int)) ∧
 good
 (g.fst,
 g.snd.snd.snd.fst +
 (1 :
 Int),
 g.snd.snd.fst)
 (g.snd.snd.snd.snd.fst +
 (1 :
 Int))) ∧
 ((↑x.fst.length :
 Int) -
 (g.snd.snd.snd.snd.fst +
 (1 :
 Int))).toNat <
 ((↑x.fst.length :
 Int) -
 g.snd.snd.snd.snd.fst).toNat) ∧
 ((True ∧
 True) ∧
 True ∧
 True ∧
 Value.slice
 none
 (0 :
 Nat)
 (0 :
 Nat) =
 Value.slice
 none
 (0 :
 Nat)
 (0 :
 Nat) ∧
 g.snd.snd.snd.fst +
 (1 :
 Int) =
 g.snd.snd.snd.fst +
 (1 :
 Int) ∧
 True ∧
 x.fst =
 x.fst ∧
 (↑x.fst.length :
 Int) =
 (↑x.fst.length :
 Int) ∧
 g.snd.snd.snd.snd.fst +
 (1 :
 Int) =
 g.snd.snd.snd.snd.fst +
 (1 :
 Int) ∧
 True) ∧
 ((True ∧
 True) ∧
 g.fst =
 g.fst ∧
 g.snd.fst ++
 ((0 :
 Int) ::
 ([] :
 List
 Int)).set
 (0 :
 Nat)
 (0 :
 Int) =
 g.snd.fst ++
 ((0 :
 Int) ::
 ([] :
 List
 Int)).set
 (0 :
 Nat)
 (0 :
 Int) ∧
 g.snd.snd.fst =
 g.snd.snd.fst ∧
 (True ∧
 (True ∧
 True) ∧
 True) ∧
 True) ∧
 True)) ∧
 (((x.fst.getD
 g.snd.snd.snd.snd.fst.toNat
 ((0 : Int),
 (0 :
 Int))).fst ==
 (4 : Int)) =
 false →
 ((((0 : Int) ≤ (0 : Int) ∧
 (0 : Int) ≤
 (↑g.fst.length :
 Int) ∧
 g.fst =
 wakeN g.fst
 (Int.toNat
 (0 :
 Int))) ∧
 True) ∧
 ((True ∧ True) ∧
 True ∧
 True ∧
 Value.slice
 none
 (0 :
 Nat)
 (0 :
 Nat) =
 Value.slice
 none
 (0 :
 Nat)
 (0 :
 Nat) ∧
 g.snd.snd.snd.fst =
 g.snd.snd.snd.fst ∧
 True ∧
 (0 :
 Int) =
 (0 :
 Int) ∧
 x.fst =
 x.fst ∧
 (↑x.fst.length :
 Int) =
 (↑x.fst.length :
 Int) ∧
 g.snd.snd.snd.snd.fst =
 g.snd.snd.snd.snd.fst ∧
 (↑g.fst.length :
 Int) =
 (↑g.fst.length :
 Int) ∧
 (0 :
 Int) =
 (0 :
 Int) ∧
 True) ∧
 ((True ∧ True) ∧
 g.fst = g.fst ∧
 g.snd.fst =
 g.snd.fst ∧
 g.snd.snd.fst =
 g.snd.snd.fst ∧
 (True ∧
 (True ∧
 True) ∧
 True) ∧
 True) ∧
 True) ∧
 ∀
 (g_2 :
 List (Int × Int) ×
 Int × Unit),
 (0 : Int) ≤
 g_2.snd.fst ∧
 g_2.snd.fst ≤
 (↑g.fst.length :
 Int) ∧
 g_2.fst =
 wakeN g.fst
 g_2.snd.fst.toNat →
 (g_2.fst.length ≤
 (9223372036854775807 :
 Nat) ∧
 ∀
 (x :
 Int ×
 Int),
 x ∈
 g_2.fst →
 ((-9223372036854775808 :
 Int) ≤
 x.fst ∧
 x.fst ≤
 (9223372036854775807 :
 Int)) ∧
 (-9223372036854775808 :
 Int) ≤
 x.snd ∧
 x.snd ≤
 (9223372036854775807 :
 Int)) ∧
 ((-9223372036854775808 :
 Int) ≤
 g_2.snd.fst ∧
 g_2.snd.fst ≤
 (9223372036854775807 :
 Int)) ∧
 True →
 (decide
 (g_2.snd.fst <
 (↑g.fst.length :
 Int)) =
 true →
 ((((0 : Int) ≤
 (0 :
 Int) ∧
 (0 :
 Int) ≤
 (↑g_2.fst.length :
 Int) ∧
 ((List.take
 (Int.toNat
 (0 :
 Int))
 g_2.fst).all
 fun
 e ↦
 decide
 (e.snd =
 (2 :
 Int))) =
 true) ∧
 True) ∧
 ((True ∧
 True) ∧
 (↑g_2.fst.length :
 Int) =
 (↑g_2.fst.length :
 Int) ∧
 (0 :
 Int) =
 (0 :
 Int) ∧
 True) ∧
 ((True ∧
 True) ∧
 g_2.fst =
 g_2.fst ∧
 g.snd.fst =
 g.snd.fst ∧
 g.snd.snd.fst =
 g.snd.snd.fst ∧
 (True ∧
 (True ∧
 True) ∧
 True) ∧
 True) ∧
 True ∧
 True ∧
 True ∧
 True ∧
 True ∧
 True ∧
 (True ∧
 True) ∧
 True ∧
 True ∧
 Value.slice
 none
 (0 :
 Nat)
 (0 :
 Nat) =
 Value.slice
 none
 (0 :
 Nat)
 (0 :
 Nat) ∧
 g.snd.snd.snd.fst =
 g.snd.snd.snd.fst ∧
 True ∧
 True ∧
 True ∧
 True ∧
 (0 :
 Int) =
 (0 :
 Int) ∧
 True ∧
 True ∧
 True ∧
 True ∧
 True ∧
 True ∧
 x.fst =
 x.fst ∧
 (↑x.fst.length :
 Int) =
 (↑x.fst.length :
 Int) ∧
 g.snd.snd.snd.snd.fst =
 g.snd.snd.snd.snd.fst ∧
 True ∧
 True ∧
 True ∧
 True ∧
 True ∧
 True ∧
 True ∧
 True ∧
 True ∧
 True ∧
 True ∧
 True ∧
 True ∧
 True ∧
 True ∧
 True ∧
 True ∧
 True ∧
 True ∧
 True ∧
 True ∧
 True ∧
 True ∧
 True ∧
 True ∧
 True ∧
 True ∧
 True ∧
 True ∧
 True ∧
 True ∧
 (↑g.fst.length :
 Int) =
 (↑g.fst.length :
 Int) ∧
 g_2.snd.fst =
 g_2.snd.fst ∧
 true =
 true ∧
 True ∧
 True ∧
 True ∧
 True ∧
 True ∧
 True ∧
 True ∧
 True ∧
 True ∧
 True ∧
 True ∧
 True ∧
 True ∧
 True ∧
 True ∧
 True ∧
 True ∧
 True ∧
 True ∧
 True ∧
 True ∧
 True ∧
 True ∧
 True ∧
 True ∧
 True ∧
 True ∧
 True ∧
 True ∧
 True ∧
 True ∧
 True ∧
 True ∧
 True ∧
 True ∧
 True ∧
 True ∧
 True ∧
 True ∧
 True ∧
 True ∧
 True ∧
 True ∧
 True ∧
 True ∧
 True ∧
 True ∧
 True ∧
 True ∧
 True ∧
 True ∧
 True ∧
 True ∧
 True ∧
 True ∧
 True ∧
 True ∧
 True ∧
 True ∧
 True ∧
 True ∧
 True ∧
 True ∧
 True ∧
 True ∧
 True ∧
 True ∧
 True ∧
 True ∧
 True ∧
 True ∧
 True ∧
 True ∧
 True ∧
 True ∧
 True ∧
 True ∧
 True ∧
 True ∧
 True ∧
 True ∧
 True ∧
 True ∧
 True ∧
 True ∧
 True ∧
 True ∧
 True ∧
 True ∧
 True ∧
 True ∧
 True ∧
 True ∧
 True ∧
 True ∧
 True ∧
 True ∧
 True ∧
 True ∧
 True ∧
 True ∧
 True ∧
 True ∧
 True ∧
 True ∧
 True ∧
 True ∧
 True ∧
 True ∧
 True ∧
 True ∧
 True ∧
 True ∧
 True ∧
 True ∧
 True ∧
 True ∧
 True ∧
 True ∧
 True ∧
 True ∧
 True ∧
 True ∧
 True ∧
 True ∧
 True ∧
 True ∧
 True ∧
 True ∧
 True ∧
 True ∧
 True ∧
 True ∧
 True ∧
 True ∧
 True ∧
 True ∧
 True ∧
 True ∧
 True ∧
 True ∧
 True ∧
 True ∧
 True ∧
 True ∧
 True ∧
 True ∧
 True ∧
 True ∧
 True ∧
 True ∧
 True ∧
 True ∧
 True ∧
 True) ∧
 ∀
 (g_3 :
 Int ×
 Unit),
 (0 :
 Int) ≤
 g_3.fst ∧
 g_3.fst ≤
 (↑g_2.fst.length :
 Int) ∧
 ((List.take
 g_3.fst.toNat
 g_2.fst).all
 fun
 e ↦
 decide
 (e.snd =
 (2 :
 Int))) =
 true →
 ((-9223372036854775808 :
 Int) ≤
 g_3.fst ∧
 g_3.fst ≤
 (9223372036854775807 :
 Int)) ∧
 True →
 (decide
 (g_3.fst <
 (↑g_2.fst.length :
 Int)) =
 true →
 ((0 :
 Int) ≤
 g_3.fst ∧
 g_3.fst <
 (↑g_2.fst.length :
 Int)) ∧
 (((g_2.fst.getD
 g_3.fst.toNat
 ((0 :
 Int),
 (0 :
 Int))).snd !=
 (2 :
 Int)) =
 true →
 ((0 :
 Int) ≤
 g_3.fst ∧
 g_3.fst <
 (↑g_2.fst.length :
 Int)) ∧
 ((-9223372036854775808 :
 Int) ≤
 g_2.snd.fst +
 (1 :
 Int) ∧
 g_2.snd.fst +
 (1 :
 Int) ≤
 (9223372036854775807 :
 Int)) ∧
 (((0 :
 Int) ≤
 g_2.snd.fst +
 (1 :
 Int) ∧
 g_2.snd.fst +
 (1 :
 Int) ≤
 (↑g.fst.length :
 Int) ∧
 g_2.fst.set
 g_3.fst.toNat
 ((g_2.fst.getD
 g_3.fst.toNat
 ((0 :
 Int),
 (0 :
 Int))).fst,
 (2 :
 Int)) =
 wakeN
 g.fst
 (g_2.snd.fst +
 (1 :
 Int)).toNat) ∧
 ((↑g.fst.length :
 Int) -
 (g_2.snd.fst +
 (1 :
 Int))).toNat <
 ((↑g.fst.length :
 Int) -
 g_2.snd.fst).toNat) ∧
 ((True ∧
 True) ∧
 True ∧
 True ∧
 Value.slice
 none
 (0 :
 Nat)
 (0 :
 Nat) =
 Value.slice
 none
 (0 :
 Nat)
 (0 :
 Nat) ∧
 g.snd.snd.snd.fst =
 g.snd.snd.snd.fst ∧
 True ∧
 (0 :
 Int) =
 (0 :
 Int) ∧
 x.fst =
 x.fst ∧
 (↑x.fst.length :
 Int) =
 (↑x.fst.length :
 Int) ∧
 g.snd.snd.snd.snd.fst =
 g.snd.snd.snd.snd.fst ∧
 (↑g.fst.length :
 Int) =
 (↑g.fst.length :
 Int) ∧
 g_2.snd.fst +
 (1 :
 Int) =
 g_2.snd.fst +
 (1 :
 Int) ∧
 True) ∧
 ((True ∧
 True) ∧
 g_2.fst.set
 g_3.fst.toNat
 ((g_2.fst.getD
 g_3.fst.toNat
 ((0 :
 Int),
 (0 :
 Int))).fst,
 (2 :
 Int)) =
 g_2.fst.set
 g_3.fst.toNat
 ((g_2.fst.getD
 g_3.fst.toNat
 ((0 :
 Int),
 (0 :
 Int))).fst,
 (2 :
 Int)) ∧
 g.snd.fst =
 g.snd.fst ∧
 g.snd.snd.fst =
 g.snd.snd.fst ∧
 (True ∧
 (True ∧
 True) ∧
 True) ∧
 True) ∧
 True) ∧
 (((g_2.fst.getD
 g_3.fst.toNat
 ((0 :
 Int),
 (0 :
 Int))).snd !=
 (2 :
 Int)) =
 false →
 ((-9223372036854775808 :
 Int) ≤
 g_3.fst +
 (1 :
 Int) ∧
 g_3.fst +
 (1 :
 Int) ≤
 (9223372036854775807 :
 Int)) ∧
 (((0 :
 Int) ≤
 g_3.fst +
 (1 :
 Int) ∧
 g_3.fst +
 (1 :
 Int) ≤
 (↑g_2.fst.length :
 Int) ∧
 ((List.take
 (g_3.fst +
 (1 :
 Int)).toNat
 g_2.fst).all
 fun
 e ↦
 decide
 (e.snd =
 (2 :
 Int))) =
 true) ∧
 ((↑g_2.fst.length :
 Int) -
 (g_3.fst +
 (1 :
 Int))).toNat <
 ((↑g_2.fst.length :
 Int) -
 g_3.fst).toNat) ∧
 ((True ∧
 True) ∧
 (↑g_2.fst.length :
 Int) =
 (↑g_2.fst.length :
 Int) ∧
 g_3.fst +
 (1 :
 Int) =
 g_3.fst +
 (1 :
 Int) ∧
 True) ∧
 ((True ∧
 True) ∧
 g_2.fst =
 g_2.fst ∧
 g.snd.fst =
 g.snd.fst ∧
 g.snd.snd.fst =
 g.snd.snd.fst ∧
 (True ∧
 (True ∧
 True) ∧
 True) ∧
 True) ∧
 True ∧
 True ∧
 True ∧
 True ∧
 True ∧
 True ∧
 (True ∧
 True) ∧
 True ∧
 True ∧
 Value.slice
 none
 (0 :
 Nat)
 (0 :
 Nat) =
 Value.slice
 none
 (0 :
 Nat)
 (0 :
 Nat) ∧
 g.snd.snd.snd.fst =
 g.snd.snd.snd.fst ∧
 True ∧
 True ∧
 True ∧
 True ∧
 (0 :
 Int) =
 (0 :
 Int) ∧
 True ∧
 True ∧
 True ∧
 True ∧
 True ∧
 True ∧
 x.fst =
 x.fst ∧
 (↑x.fst.length :
 Int) =
 (↑x.fst.length :
 Int) ∧
 g.snd.snd.snd.snd.fst =
 g.snd.snd.snd.snd.fst ∧
 True ∧
 True ∧
 True ∧
 True ∧
 True ∧
 True ∧
 True ∧
 True ∧
 True ∧
 True ∧
 True ∧
 True ∧
 True ∧
 True ∧
 True ∧
 True ∧
 True ∧
 True ∧
 True ∧
 True ∧
 True ∧
 True ∧
 True ∧
 True ∧
 True ∧
 True ∧
 True ∧
 True ∧
 True ∧
 True ∧
 True ∧
 (↑g.fst.length :
 Int) =
 (↑g.fst.length :
 Int) ∧
 g_2.snd.fst =
 g_2.snd.fst ∧
 true =
 true ∧
 True ∧
 True ∧
 True ∧
 True ∧
 True ∧
 True ∧
 True ∧
 True ∧
 True ∧
 True ∧
 True ∧
 True ∧
 True ∧
 True ∧
 True ∧
 True ∧
 True ∧
 True ∧
 True ∧
 True ∧
 True ∧
 True ∧
 True ∧
 True ∧
 True ∧
 True ∧
 True ∧
 True ∧
 True ∧
 True ∧
 True ∧
 True ∧
 True ∧
 True ∧
 True ∧
 True ∧
 True ∧
 True ∧
 True ∧
 True ∧
 True ∧
 True ∧
 True ∧
 True ∧
 True ∧
 True ∧
 True ∧
 True ∧
 True ∧
 True ∧
 True ∧
 True ∧
 True ∧
 True ∧
 True ∧
 True ∧
 True ∧
 True ∧
 True ∧
 True ∧
 True ∧
 True ∧
 True ∧
 True ∧
 True ∧
 True ∧
 True ∧
 True ∧
 True ∧
 True ∧
 True ∧
 True ∧
 True ∧
 True ∧
 True ∧
 True ∧
 True ∧
 True ∧
 True ∧
 True ∧
 True ∧
 True ∧
 True ∧
 True ∧
 True ∧
 True ∧
 True ∧
 True ∧
 True ∧
 True ∧
 True ∧
 True ∧
 True ∧
 True ∧
 True ∧
 True ∧
 True ∧
 True ∧
 True ∧
 True ∧
 True ∧
 True ∧
 True ∧
 True ∧
 True ∧
 True ∧
 True ∧
 True ∧
 True ∧
 True ∧
 True ∧
 True ∧
 True ∧
 True ∧
 True ∧
 True ∧
 True ∧
 True ∧
 True ∧
 True ∧
 True ∧
 True ∧
 True ∧
 True ∧
 True ∧
 True ∧
 True ∧
 True ∧
 True ∧
 True ∧
 True ∧
 True ∧
 True ∧
 True ∧
 True ∧
 True ∧
 True ∧
 True ∧
 True ∧
 True ∧
 True ∧
 True ∧
 True ∧
 True ∧
 True ∧
 True ∧
 True ∧
 True ∧
 True ∧
 True ∧
 True ∧
 True ∧
 True ∧
 True ∧
 True)) ∧
 (decide
 (g_3.fst <
 (↑g_2.fst.length :
 Int)) =
 false →
 ((-9223372036854775808 :
 Int) ≤
 g_2.snd.fst +
 (1 :
 Int) ∧
 g_2.snd.fst +
 (1 :
 Int) ≤
 (9223372036854775807 :
 Int)) ∧
 (((0 :
 Int) ≤
 g_2.snd.fst +
 (1 :
 Int) ∧
 g_2.snd.fst +
 (1 :
 Int) ≤
 (↑g.fst.length :
 Int) ∧
 g_2.fst =
 wakeN
 g.fst
 (g_2.snd.fst +
 (1 :
 Int)).toNat) ∧
 ((↑g.fst.length :
 Int) -
 (g_2.snd.fst +
 (1 :
 Int))).toNat <
 ((↑g.fst.length :
 Int) -
 g_2.snd.fst).toNat) ∧
 ((True ∧
 True) ∧
 True ∧
 True ∧
 Value.slice
 none
 (0 :
 Nat)
 (0 :
 Nat) =
 Value.slice
 none
 (0 :
 Nat)
 (0 :
 Nat) ∧
 g.snd.snd.snd.fst =
 g.snd.snd.snd.fst ∧
 True ∧
 (0 :
 Int) =
 (0 :
 Int) ∧
 x.fst =
 x.fst ∧
 (↑x.fst.length :
 Int) =
 (↑x.fst.length :
 Int) ∧
 g.snd.snd.snd.snd.fst =
 g.snd.snd.snd.snd.fst ∧
 (↑g.fst.length :
 Int) =
 (↑g.fst.length :
 Int) ∧
 g_2.snd.fst +
 (1 :
 Int) =
 g_2.snd.fst +
 (1 :
 Int) ∧
 True) ∧
 ((True ∧
 True) ∧
 g_2.fst =
 g_2.fst ∧
 g.snd.fst =
 g.snd.fst ∧
 g.snd.snd.fst =
 g.snd.snd.fst ∧
 (True ∧
 (True ∧
 True) ∧
 True) ∧
 True) ∧
 True)) ∧
 (decide
 (g_2.snd.fst <
 (↑g.fst.length :
 Int)) =
 false →
 (g.snd.fst.length +
 (((0 :
 Int) ::
 ([] :
 List
 Int)).set
 (0 :
 Nat)
 (0 :
 Int)).length ≤
 (9223372036854775807 :
 Nat) ∧
 (g.snd.fst.length +
 (((0 :
 Int) ::
 ([] :
 List
 Int)).set
 (0 :
 Nat)
 (0 :
 Int)).length +
 (g.snd.fst.length +
 (((0 :
 Int) ::
 ([] :
 List
 Int)).set
 (0 :
 Nat)
 (0 :
 Int)).length) /
 (4 :
 Nat) +
 (192 :
 Nat)) *
 (8 :
 Nat) ≤
 (281474976710656 :
 Nat)) ∧
 ((-9223372036854775808 :
 Int) ≤
 g.snd.snd.snd.snd.fst +
 (1 :
 Int) ∧
 g.snd.snd.snd.snd.fst +
 (1 :
 Int) ≤
 (9223372036854775807 :
 Int)) ∧
 (((0 :
 Int) ≤
 g.snd.snd.snd.snd.fst +
 (1 :
 Int) ∧
 g.snd.snd.snd.snd.fst +
 (1 :
 Int) ≤
 (↑x.fst.length :
 Int) ∧
 (↑(g.snd.fst ++
 ((0 :
 Int) ::
 ([] :
 List
 Int)).set
 (0 :
 Nat)
 (0 :
 Int)).length :
 Int) =
 g.snd.snd.snd.snd.fst +
 (1 :
 Int) ∧
 pl
 (List.take
 (g.snd.snd.snd.snd.fst +
 (1 :
 Int)).toNat
 x.fst) =
 ((g_2.fst,
 g.snd.snd.snd.fst,
 g.snd.snd.fst),
 g.snd.fst ++
 ((0 :
 Int) ::
 ([] :
 List
 Int)).set
 (0 :
 Nat)
 (0 :
 Int)) ∧
 good
 (g_2.fst,
 g.snd.snd.snd.fst,
 g.snd.snd.fst)
 (g.snd.snd.snd.snd.fst +
 (1 :
 Int))) ∧
 ((↑x.fst.length :
 Int) -
 (g.snd.snd.snd.snd.fst +
 (1 :
 Int))).toNat <
 ((↑x.fst.length :
 Int) -
 g.snd.snd.snd.snd.fst).toNat) ∧
 ((True ∧
 True) ∧
 True ∧
 True ∧
 Value.slice
 none
 (0 :
 Nat)
 (0 :
 Nat) =
 Value.slice
 none
 (0 :
 Nat)
 (0 :
 Nat) ∧
 g.snd.snd.snd.fst =
 g.snd.snd.snd.fst ∧
 True ∧
 x.fst =
 x.fst ∧
 (↑x.fst.length :
 Int) =
 (↑x.fst.length :
 Int) ∧
 g.snd.snd.snd.snd.fst +
 (1 :
 Int) =
 g.snd.snd.snd.snd.fst +
 (1 :
 Int) ∧
 True) ∧
 ((True ∧
 True) ∧
 g_2.fst =
 g_2.fst ∧
 g.snd.fst ++
 ((0 :
 Int) ::
 ([] :
 List
 Int)).set
 (0 :
 Nat)
 (0 :
 Int) =
 g.snd.fst ++
 ((0 :
 Int) ::
 ([] :
 List
 Int)).set
 (0 :
 Nat)
 (0 :
 Int) ∧
 g.snd.snd.fst =
 g.snd.snd.fst ∧
 (True ∧
 (True ∧
 True) ∧
 True) ∧
 True) ∧
 True)))))))))))))) ∧
 (decide (g.snd.snd.snd.snd.fst < (↑x.fst.length : Int)) = false →
 ((((0 : Int) ≤ (0 : Int) ∧ (0 : Int) ≤ (↑g.fst.length : Int) ∧ ([] : List Int) = sleepers (List.take (Int.toNat (0 : Int)) g.fst)) ∧
 True) ∧
 (True ∧
 True ∧
 True ∧
 g.snd.snd.snd.fst = g.snd.snd.snd.fst ∧ True ∧ (↑g.fst.length : Int) = (↑g.fst.length : Int) ∧ (0 : Int) = (0 : Int) ∧ True) ∧
 (([] : List Int) = ([] : List Int) ∧ g.snd.fst = g.snd.fst ∧ g.snd.snd.fst = g.snd.snd.fst ∧ g.fst = g.fst ∧ True) ∧ True) ∧
 ∀ (g_1 : List Int × Int × Unit),
 (0 : Int) ≤ g_1.snd.fst ∧ g_1.snd.fst ≤ (↑g.fst.length : Int) ∧ g_1.fst = sleepers (List.take g_1.snd.fst.toNat g.fst) →
 (g_1.fst.length ≤ (9223372036854775807 : Nat) ∧
 ∀ (x : Int), x ∈ g_1.fst → (-9223372036854775808 : Int) ≤ x ∧ x ≤ (9223372036854775807 : Int)) ∧
 ((-9223372036854775808 : Int) ≤ g_1.snd.fst ∧ g_1.snd.fst ≤ (9223372036854775807 : Int)) ∧ True →
 (decide (g_1.snd.fst < (↑g.fst.length : Int)) = true →
 ((0 : Int) ≤ g_1.snd.fst ∧ g_1.snd.fst < (↑g.fst.length : Int)) ∧
 (((g.fst.getD g_1.snd.fst.toNat ((0 : Int), (0 : Int))).snd == (1 : Int)) = true →
 (g_1.fst.length +
 (((0 : Int) :: ([] : List Int)).set (0 : Nat)
 (g.fst.getD g_1.snd.fst.toNat ((0 : Int), (0 : Int))).fst).length ≤
 (9223372036854775807 : Nat) ∧
 (g_1.fst.length +
 (((0 : Int) :: ([] : List Int)).set (0 : Nat)
 (g.fst.getD g_1.snd.fst.toNat ((0 : Int), (0 : Int))).fst).length +
 (g_1.fst.length +
 (((0 : Int) :: ([] : List Int)).set (0 : Nat)
 (g.fst.getD g_1.snd.fst.toNat ((0 : Int), (0 : Int))).fst).length) /
 (4 : Nat) +
 (192 : Nat)) *
 (8 : Nat) ≤
 (281474976710656 : Nat)) ∧
 ((-9223372036854775808 : Int) ≤ g_1.snd.fst + (1 : Int) ∧ g_1.snd.fst + (1 : Int) ≤ (9223372036854775807 : Int)) ∧
 (((0 : Int) ≤ g_1.snd.fst + (1 : Int) ∧
 g_1.snd.fst + (1 : Int) ≤ (↑g.fst.length : Int) ∧
 g_1.fst ++
 ((0 : Int) :: ([] : List Int)).set (0 : Nat) (g.fst.getD g_1.snd.fst.toNat ((0 : Int), (0 : Int))).fst =
 sleepers (List.take (g_1.snd.fst + (1 : Int)).toNat g.fst)) ∧
 ((↑g.fst.length : Int) - (g_1.snd.fst + (1 : Int))).toNat < ((↑g.fst.length : Int) - g_1.snd.fst).toNat) ∧
 (True ∧
 True ∧
 True ∧
 g.snd.snd.snd.fst = g.snd.snd.snd.fst ∧
 True ∧
 (↑g.fst.length : Int) = (↑g.fst.length : Int) ∧
 g_1.snd.fst + (1 : Int) = g_1.snd.fst + (1 : Int) ∧ True) ∧
 (g_1.fst ++
 ((0 : Int) :: ([] : List Int)).set (0 : Nat) (g.fst.getD g_1.snd.fst.toNat ((0 : Int), (0 : Int))).fst =
 g_1.fst ++
 ((0 : Int) :: ([] : List Int)).set (0 : Nat) (g.fst.getD g_1.snd.fst.toNat ((0 : Int), (0 : Int))).fst ∧
 g.snd.fst = g.snd.fst ∧ g.snd.snd.fst = g.snd.snd.fst ∧ g.fst = g.fst ∧ True) ∧
 True) ∧
 (((g.fst.getD g_1.snd.fst.toNat ((0 : Int), (0 : Int))).snd == (1 : Int)) = false →
 ((-9223372036854775808 : Int) ≤ g_1.snd.fst + (1 : Int) ∧ g_1.snd.fst + (1 : Int) ≤ (9223372036854775807 : Int)) ∧
 (((0 : Int) ≤ g_1.snd.fst + (1 : Int) ∧
 g_1.snd.fst + (1 : Int) ≤ (↑g.fst.length : Int) ∧
 g_1.fst = sleepers (List.take (g_1.snd.fst + (1 : Int)).toNat g.fst)) ∧
 ((↑g.fst.length : Int) - (g_1.snd.fst + (1 : Int))).toNat < ((↑g.fst.length : Int) - g_1.snd.fst).toNat) ∧
 (True ∧
 True ∧
 True ∧
 g.snd.snd.snd.fst = g.snd.snd.snd.fst ∧
 True ∧
 (↑g.fst.length : Int) = (↑g.fst.length : Int) ∧
 g_1.snd.fst + (1 : Int) = g_1.snd.fst + (1 : Int) ∧ True) ∧
 (g_1.fst = g_1.fst ∧ g.snd.fst = g.snd.fst ∧ g.snd.snd.fst = g.snd.snd.fst ∧ g.fst = g.fst ∧ True) ∧ True)) ∧
 (decide (g_1.snd.fst < (↑g.fst.length : Int)) = false →
 g.snd.fst = (play x.fst).fst ∧
 g.snd.snd.fst = (play x.fst).snd.fst ∧
 g_1.fst = (play x.fst).snd.snd.fst ∧ g.snd.snd.snd.fst = (play x.fst).snd.snd.snd.fst))

theorem E_oplay_eq (x : HL (cPlay : Ctr).as) : vc (fx_oplay x) 2 31 Try.f31 (cPlay) x = E_oplay x := by kernel_rfl

def E_plays (x : List (Int × Int) × Unit) : Prop :=
 Holds (x.fst.length * (16 : Nat) ≤ (140737488355328 : Nat)) ∧
 Holds (x.fst.length * (16 : Nat) ≤ (140737488355328 : Nat)) ∧
 (((play x.fst).snd.snd.snd.fst == (play x.fst).snd.snd.snd.fst) = true →
 (((play x.fst).snd.snd.snd.fst == (play x.fst).snd.snd.snd.fst) = true ∧
 ((play x.fst).snd.snd.snd.fst == (play x.fst).snd.snd.snd.fst) = true) ∧
 Holds True) ∧
 (((play x.fst).snd.snd.snd.fst == (play x.fst).snd.snd.snd.fst) = true →
 ((play x.fst).snd.snd.snd.fst == (play x.fst).snd.snd.snd.fst) = true) ∧
 (((play x.fst).snd.snd.snd.fst == (play x.fst).snd.snd.snd.fst && decide ((play x.fst).fst = (play x.fst).fst)) = true →
 (((play x.fst).snd.snd.snd.fst == (play x.fst).snd.snd.snd.fst && decide ((play x.fst).fst = (play x.fst).fst)) = true ∧
 ((play x.fst).snd.snd.snd.fst == (play x.fst).snd.snd.snd.fst && decide ((play x.fst).fst = (play x.fst).fst)) = true) ∧
 Holds True) ∧
 (((play x.fst).snd.snd.snd.fst == (play x.fst).snd.snd.snd.fst && decide ((play x.fst).fst = (play x.fst).fst)) = true →
 ((play x.fst).snd.snd.snd.fst == (play x.fst).snd.snd.snd.fst && decide ((play x.fst).fst = (play x.fst).fst)) = true) ∧
 (((play x.fst).snd.snd.snd.fst == (play x.fst).snd.snd.snd.fst && decide ((play x.fst).fst = (play x.fst).fst) &&
 decide ((play x.fst).snd.fst = (play x.fst).snd.fst)) =
 true →
 (((play x.fst).snd.snd.snd.fst == (play x.fst).snd.snd.snd.fst && decide ((play x.fst).fst = (play x.fst).fst) &&
 decide ((play x.fst).snd.fst = (play x.fst).snd.fst)) =
 true ∧
 ((play x.fst).snd.snd.snd.fst == (play x.fst).snd.snd.snd.fst && decide ((play x.fst).fst = (play x.fst).fst) &&
 decide ((play x.fst).snd.fst = (play x.fst).snd.fst)) =
 true) ∧
 Holds True) ∧
 (((play x.fst).snd.snd.snd.fst == (play x.fst).snd.snd.snd.fst && decide ((play x.fst).fst = (play x.fst).fst) &&
 decide ((play x.fst).snd.fst = (play x.fst).snd.fst)) =
 true →
 ((play x.fst).snd.snd.snd.fst == (play x.fst).snd.snd.snd.fst && decide ((play x.fst).fst = (play x.fst).fst) &&
 decide ((play x.fst).snd.fst = (play x.fst).snd.fst)) =
 true) ∧
 ((play x.fst).snd.snd.snd.fst == (play x.fst).snd.snd.snd.fst && decide ((play x.fst).fst = (play x.fst).fst) &&
 decide ((play x.fst).snd.fst = (play x.fst).snd.fst) &&
 decide ((play x.fst).snd.snd.fst = (play x.fst).snd.snd.fst)) =
 true

theorem E_plays_eq (x : HL (cLaw : Ctr).as) : vc (fx_plays x) 1 8 Try.f8 (cLaw) x = E_plays x := by kernel_rfl

end Go.Proofs.Ytlkhpbjjimjhbaa.Waitp
