/-
  The conditions that the executor comes to, written out (by a tool of ours), and that they are the conditions (by the kernel).
-/
import Derived.Test.YtmcepjbbbkgfcaaGraceC
namespace Go.Proofs.Ytmcepjbbbkgfcaa.Grace
open Go.Sx
set_option maxRecDepth 100000

def E_equal (x : List Int × List Int × Unit) : Prop :=
 (((↑x.fst.length : Int) != (↑x.snd.fst.length : Int)) = true → false = decide (x.fst = x.snd.fst)) ∧
 (((↑x.fst.length : Int) != (↑x.snd.fst.length : Int)) = false →
 ((((0 : Int) ≤ (0 : Int) ∧
 (0 : Int) ≤ (↑x.fst.length : Int) ∧ List.take (Int.toNat (0 : Int)) x.fst = List.take (Int.toNat (0 : Int)) x.snd.fst) ∧
 True) ∧
 (x.fst = x.fst ∧ x.snd.fst = x.snd.fst ∧ (↑x.fst.length : Int) = (↑x.fst.length : Int) ∧ (0 : Int) = (0 : Int) ∧ True) ∧ True ∧ True) ∧
 ∀ (g : Int × Unit),
 (0 : Int) ≤ g.fst ∧ g.fst ≤ (↑x.fst.length : Int) ∧ List.take g.fst.toNat x.fst = List.take g.fst.toNat x.snd.fst →
 ((-9223372036854775808 : Int) ≤ g.fst ∧ g.fst ≤ (9223372036854775807 : Int)) ∧ True →
 (decide (g.fst < (↑x.fst.length : Int)) = true →
 ((0 : Int) ≤ g.fst ∧ g.fst < (↑x.fst.length : Int)) ∧
 ((0 : Int) ≤ g.fst ∧ g.fst < (↑x.snd.fst.length : Int)) ∧
 ((x.fst.getD g.fst.toNat (0 : Int) != x.snd.fst.getD g.fst.toNat (0 : Int)) = true → false = decide (x.fst = x.snd.fst)) ∧
 ((x.fst.getD g.fst.toNat (0 : Int) != x.snd.fst.getD g.fst.toNat (0 : Int)) = false →
 ((-9223372036854775808 : Int) ≤ g.fst + (1 : Int) ∧ g.fst + (1 : Int) ≤ (9223372036854775807 : Int)) ∧
 (((0 : Int) ≤ g.fst + (1 : Int) ∧
 g.fst + (1 : Int) ≤ (↑x.fst.length : Int) ∧
 List.take (g.fst + (1 : Int)).toNat x.fst = List.take (g.fst + (1 : Int)).toNat x.snd.fst) ∧
 ((↑x.fst.length : Int) - (g.fst + (1 : Int))).toNat < ((↑x.fst.length : Int) - g.fst).toNat) ∧
 (x.fst = x.fst ∧
 x.snd.fst = x.snd.fst ∧
 (↑x.fst.length : Int) = (↑x.fst.length : Int) ∧ g.fst + (1 : Int) = g.fst + (1 : Int) ∧ True) ∧
 True ∧ True)) ∧
 (decide (g.fst < (↑x.fst.length : Int)) = false → true = decide (x.fst = x.snd.fst)))

theorem E_equal_eq (x : HL (cEqual : Ctr).as) : vc (fx_equal x) 1 18 Try.f18 (cEqual) x = E_equal x := by kernel_rfl

def E_equale (x : List Int × List Int × Unit) : Prop :=
 (((↑x.fst.length : Int) != (↑x.snd.fst.length : Int)) = true → false = decide (x.fst = x.snd.fst)) ∧
 (((↑x.fst.length : Int) != (↑x.snd.fst.length : Int)) = false →
 ((((0 : Int) ≤ (0 : Int) ∧
 (0 : Int) ≤ (↑x.fst.length : Int) ∧ List.take (Int.toNat (0 : Int)) x.fst = List.take (Int.toNat (0 : Int)) x.snd.fst) ∧
 True) ∧
 (x.fst = x.fst ∧ x.snd.fst = x.snd.fst ∧ (↑x.fst.length : Int) = (↑x.fst.length : Int) ∧ (0 : Int) = (0 : Int) ∧ True) ∧ True ∧ True) ∧
 ∀ (g : Int × Unit),
 (0 : Int) ≤ g.fst ∧ g.fst ≤ (↑x.fst.length : Int) ∧ List.take g.fst.toNat x.fst = List.take g.fst.toNat x.snd.fst →
 ((-9223372036854775808 : Int) ≤ g.fst ∧ g.fst ≤ (9223372036854775807 : Int)) ∧ True →
 (decide (g.fst < (↑x.fst.length : Int)) = true →
 ((0 : Int) ≤ g.fst ∧ g.fst < (↑x.fst.length : Int)) ∧
 ((0 : Int) ≤ g.fst ∧ g.fst < (↑x.snd.fst.length : Int)) ∧
 ((x.fst.getD g.fst.toNat (0 : Int) != x.snd.fst.getD g.fst.toNat (0 : Int)) = true → false = decide (x.fst = x.snd.fst)) ∧
 ((x.fst.getD g.fst.toNat (0 : Int) != x.snd.fst.getD g.fst.toNat (0 : Int)) = false →
 ((-9223372036854775808 : Int) ≤ g.fst + (1 : Int) ∧ g.fst + (1 : Int) ≤ (9223372036854775807 : Int)) ∧
 (((0 : Int) ≤ g.fst + (1 : Int) ∧
 g.fst + (1 : Int) ≤ (↑x.fst.length : Int) ∧
 List.take (g.fst + (1 : Int)).toNat x.fst = List.take (g.fst + (1 : Int)).toNat x.snd.fst) ∧
 ((↑x.fst.length : Int) - (g.fst + (1 : Int))).toNat < ((↑x.fst.length : Int) - g.fst).toNat) ∧
 (x.fst = x.fst ∧
 x.snd.fst = x.snd.fst ∧
 (↑x.fst.length : Int) = (↑x.fst.length : Int) ∧ g.fst + (1 : Int) = g.fst + (1 : Int) ∧ True) ∧
 True ∧ True)) ∧
 (decide (g.fst < (↑x.fst.length : Int)) = false → true = decide (x.fst = x.snd.fst)))

theorem E_equale_eq (x : HL (cEqual : Ctr).as) : vc (fx_equale x) 1 21 Try.f21 (cEqual) x = E_equale x := by kernel_rfl

def E_play (x : List (Int × Int × Int) × Unit) : Prop :=
 ((((0 : Int) ≤ (0 : Int) ∧
 (0 : Int) ≤ (↑x.fst.length : Int) ∧
 pl (List.take (Int.toNat (0 : Int)) x.fst) =
 ((false :: false :: false :: false :: false :: false :: false :: false :: ([] : List Bool), ([] : List (Int × List Bool)),
 ([] : List Int)),
 ([] : List Int), ([] : List Int)) ∧
 (↑([] : List (Int × List Bool)).length : Int) + (↑([] : List Int).length : Int) ≤ (0 : Int) ∧
 (↑([] : List Int).length : Int) = (0 : Int) ∧ (↑([] : List Int).length : Int) = (0 : Int)) ∧
 True) ∧
 ((True ∧ True) ∧
 True ∧
 True ∧
 Value.slice none (0 : Nat) (0 : Nat) = Value.slice none (0 : Nat) (0 : Nat) ∧
 x.fst = x.fst ∧ (↑x.fst.length : Int) = (↑x.fst.length : Int) ∧ (0 : Int) = (0 : Int) ∧ True) ∧
 ((false :: false :: false :: false :: false :: false :: false :: false :: ([] : List Bool) =
 false :: false :: false :: false :: false :: false :: false :: false :: ([] : List Bool) ∧
 True ∧ True ∧ True) ∧
 ([] : List (Int × List Bool)) = ([] : List (Int × List Bool)) ∧
 ([] : List Int) = ([] : List Int) ∧ ([] : List Int) = ([] : List Int) ∧ ([] : List Int) = ([] : List Int) ∧ True) ∧
 True) ∧
 ∀ (g : (List Bool × List (Int × List Bool) × List Int) × List Int × List Int × Int × Unit),
 (0 : Int) ≤ g.snd.snd.snd.fst ∧
 g.snd.snd.snd.fst ≤ (↑x.fst.length : Int) ∧
 pl (List.take g.snd.snd.snd.fst.toNat x.fst) = (g.fst, g.snd.fst, g.snd.snd.fst) ∧
 (↑g.fst.snd.fst.length : Int) + (↑g.fst.snd.snd.length : Int) ≤ g.snd.snd.snd.fst ∧
 (↑g.snd.fst.length : Int) = g.snd.snd.snd.fst ∧ (↑g.snd.snd.fst.length : Int) = g.snd.snd.snd.fst →
 ((g.fst.fst.length = (8 : Nat) ∧ ∀ (x : Bool), x ∈ g.fst.fst → True) ∧
 (g.fst.snd.fst.length ≤ (9223372036854775807 : Nat) ∧
 ∀ (x : Int × List Bool),
 x ∈ g.fst.snd.fst →
 ((-9223372036854775808 : Int) ≤ x.fst ∧ x.fst ≤ (9223372036854775807 : Int)) ∧
 x.snd.length = (8 : Nat) ∧ ∀ (x_1 : Bool), x_1 ∈ x.snd → True) ∧
 g.fst.snd.snd.length ≤ (9223372036854775807 : Nat) ∧
 ∀ (x : Int), x ∈ g.fst.snd.snd → (-9223372036854775808 : Int) ≤ x ∧ x ≤ (9223372036854775807 : Int)) ∧
 (g.snd.fst.length ≤ (9223372036854775807 : Nat) ∧
 ∀ (x : Int), x ∈ g.snd.fst → (-9223372036854775808 : Int) ≤ x ∧ x ≤ (9223372036854775807 : Int)) ∧
 (g.snd.snd.fst.length ≤ (9223372036854775807 : Nat) ∧
 ∀ (x : Int), x ∈ g.snd.snd.fst → (-9223372036854775808 : Int) ≤ x ∧ x ≤ (9223372036854775807 : Int)) ∧
 ((-9223372036854775808 : Int) ≤ g.snd.snd.snd.fst ∧ g.snd.snd.snd.fst ≤ (9223372036854775807 : Int)) ∧ True →
 (decide (g.snd.snd.snd.fst < (↑x.fst.length : Int)) = true →
 ((0 : Int) ≤ g.snd.snd.snd.fst ∧ g.snd.snd.snd.fst < (↑x.fst.length : Int)) ∧
 ((!decide ((x.fst.getD g.snd.snd.snd.fst.toNat ((0 : Int), (0 : Int), (0 : Int))).fst < (1 : Int))) = true →
 (!decide ((x.fst.getD g.snd.snd.snd.fst.toNat ((0 : Int), (0 : Int), (0 : Int))).fst < (1 : Int))) = true) ∧
 ((!decide ((x.fst.getD g.snd.snd.snd.fst.toNat ((0 : Int), (0 : Int), (0 : Int))).fst < (1 : Int))) = true →
 (!decide ((x.fst.getD g.snd.snd.snd.fst.toNat ((0 : Int), (0 : Int), (0 : Int))).fst < (1 : Int))) = true) ∧
 (decide ((x.fst.getD g.snd.snd.snd.fst.toNat ((0 : Int), (0 : Int), (0 : Int))).fst < (1 : Int)) = false →
 (!decide ((x.fst.getD g.snd.snd.snd.fst.toNat ((0 : Int), (0 : Int), (0 : Int))).fst < (1 : Int))) = true) ∧
 ((decide ((x.fst.getD g.snd.snd.snd.fst.toNat ((0 : Int), (0 : Int), (0 : Int))).fst < (1 : Int)) ||
 decide ((3 : Int) < (x.fst.getD g.snd.snd.snd.fst.toNat ((0 : Int), (0 : Int), (0 : Int))).fst)) =
 true →
 (g.snd.fst.length + (((0 : Int) :: ([] : List Int)).set (0 : Nat) (5 : Int)).length ≤ (9223372036854775807 : Nat) ∧
 (g.snd.fst.length + (((0 : Int) :: ([] : List Int)).set (0 : Nat) (5 : Int)).length +
 (g.snd.fst.length + (((0 : Int) :: ([] : List Int)).set (0 : Nat) (5 : Int)).length) / (4 : Nat) +
 (192 : Nat)) *
 (8 : Nat) ≤
 (281474976710656 : Nat)) ∧
 (g.snd.snd.fst.length + (((0 : Int) :: ([] : List Int)).set (0 : Nat) (↑g.fst.snd.snd.length : Int)).length ≤
 (9223372036854775807 : Nat) ∧
 (g.snd.snd.fst.length + (((0 : Int) :: ([] : List Int)).set (0 : Nat) (↑g.fst.snd.snd.length : Int)).length +
 (g.snd.snd.fst.length + (((0 : Int) :: ([] : List Int)).set (0 : Nat) (↑g.fst.snd.snd.length : Int)).length) /
 (4 : Nat) +
 (192 : Nat)) *
 (8 : Nat) ≤
 (281474976710656 : Nat)) ∧
 ((-9223372036854775808 : Int) ≤ g.snd.snd.snd.fst + (1 : Int) ∧
 g.snd.snd.snd.fst + (1 : Int) ≤ (9223372036854775807 : Int)) ∧
 (((0 : Int) ≤ g.snd.snd.snd.fst + (1 : Int) ∧
 g.snd.snd.snd.fst + (1 : Int) ≤ (↑x.fst.length : Int) ∧
 pl (List.take (g.snd.snd.snd.fst + (1 : Int)).toNat x.fst) =
 ((g.fst.fst, g.fst.snd.fst, g.fst.snd.snd),
 g.snd.fst ++ ((0 : Int) :: ([] : List Int)).set (0 : Nat) (5 : Int),
 g.snd.snd.fst ++ ((0 : Int) :: ([] : List Int)).set (0 : Nat) (↑g.fst.snd.snd.length : Int)) ∧
 (↑g.fst.snd.fst.length : Int) + (↑g.fst.snd.snd.length : Int) ≤ g.snd.snd.snd.fst + (1 : Int) ∧
 (↑(g.snd.fst ++ ((0 : Int) :: ([] : List Int)).set (0 : Nat) (5 : Int)).length : Int) =
 g.snd.snd.snd.fst + (1 : Int) ∧
 (↑(g.snd.snd.fst ++ ((0 : Int) :: ([] : List Int)).set (0 : Nat) (↑g.fst.snd.snd.length : Int)).length :
 Int) =
 g.snd.snd.snd.fst + (1 : Int)) ∧
 ((↑x.fst.length : Int) - (g.snd.snd.snd.fst + (1 : Int))).toNat <
 ((↑x.fst.length : Int) - g.snd.snd.snd.fst).toNat) ∧
 ((True ∧ True) ∧
 True ∧
 True ∧
 Value.slice none (0 : Nat) (0 : Nat) = Value.slice none (0 : Nat) (0 : Nat) ∧
 x.fst = x.fst ∧
 (↑x.fst.length : Int) = (↑x.fst.length : Int) ∧
 g.snd.snd.snd.fst + (1 : Int) = g.snd.snd.snd.fst + (1 : Int) ∧ True) ∧
 ((g.fst.fst = g.fst.fst ∧ True ∧ True ∧ True) ∧
 g.fst.snd.fst = g.fst.snd.fst ∧
 g.fst.snd.snd = g.fst.snd.snd ∧
 g.snd.fst ++ ((0 : Int) :: ([] : List Int)).set (0 : Nat) (5 : Int) =
 g.snd.fst ++ ((0 : Int) :: ([] : List Int)).set (0 : Nat) (5 : Int) ∧
 g.snd.snd.fst ++ ((0 : Int) :: ([] : List Int)).set (0 : Nat) (↑g.fst.snd.snd.length : Int) =
 g.snd.snd.fst ++ ((0 : Int) :: ([] : List Int)).set (0 : Nat) (↑g.fst.snd.snd.length : Int) ∧
 True) ∧
 True) ∧
 ((decide ((x.fst.getD g.snd.snd.snd.fst.toNat ((0 : Int), (0 : Int), (0 : Int))).fst < (1 : Int)) ||
 decide ((3 : Int) < (x.fst.getD g.snd.snd.snd.fst.toNat ((0 : Int), (0 : Int), (0 : Int))).fst)) =
 false →
 (((x.fst.getD g.snd.snd.snd.fst.toNat ((0 : Int), (0 : Int), (0 : Int))).fst == (3 : Int)) = true →
 ((((0 : Int) ≤ (0 : Int) ∧
 (0 : Int) ≤ (↑g.fst.snd.1.length : Int) ∧
 held (List.take (Int.toNat (0 : Int)) g.fst.snd.1)
 (x.fst.getD g.snd.snd.snd.fst.toNat ((0 : Int), (0 : Int), (0 : Int))).snd.2 =
 false) ∧
 True) ∧
 ((x.fst.getD g.snd.snd.snd.fst.toNat ((0 : Int), (0 : Int), (0 : Int))).snd.snd =
 (x.fst.getD g.snd.snd.snd.fst.toNat ((0 : Int), (0 : Int), (0 : Int))).snd.snd ∧
 True ∧ (↑g.fst.snd.fst.length : Int) = (↑g.fst.snd.fst.length : Int) ∧ (0 : Int) = (0 : Int) ∧ True) ∧
 ((g.fst.fst = g.fst.fst ∧ True ∧ True ∧ True) ∧
 g.fst.snd.fst = g.fst.snd.fst ∧
 g.fst.snd.snd = g.fst.snd.snd ∧
 ((x.fst.getD g.snd.snd.snd.fst.toNat ((0 : Int), (0 : Int), (0 : Int))).fst =
 (x.fst.getD g.snd.snd.snd.fst.toNat ((0 : Int), (0 : Int), (0 : Int))).fst ∧
 (x.fst.getD g.snd.snd.snd.fst.toNat ((0 : Int), (0 : Int), (0 : Int))).snd.fst =
 (x.fst.getD g.snd.snd.snd.fst.toNat ((0 : Int), (0 : Int), (0 : Int))).snd.fst ∧
 (x.fst.getD g.snd.snd.snd.fst.toNat ((0 : Int), (0 : Int), (0 : Int))).snd.snd =
 (x.fst.getD g.snd.snd.snd.fst.toNat ((0 : Int), (0 : Int), (0 : Int))).snd.snd ∧
 True) ∧
 g.snd.fst = g.snd.fst ∧
 g.snd.snd.fst = g.snd.snd.fst ∧
 ((x.fst.getD g.snd.snd.snd.fst.toNat ((0 : Int), (0 : Int), (0 : Int))).fst =
 (x.fst.getD g.snd.snd.snd.fst.toNat ((0 : Int), (0 : Int), (0 : Int))).fst ∧
 (x.fst.getD g.snd.snd.snd.fst.toNat ((0 : Int), (0 : Int), (0 : Int))).snd.fst =
 (x.fst.getD g.snd.snd.snd.fst.toNat ((0 : Int), (0 : Int), (0 : Int))).snd.fst ∧
 (x.fst.getD g.snd.snd.snd.fst.toNat ((0 : Int), (0 : Int), (0 : Int))).snd.snd =
 (x.fst.getD g.snd.snd.snd.fst.toNat ((0 : Int), (0 : Int), (0 : Int))).snd.snd ∧
 True) ∧
 True) ∧
 (True ∧ True) ∧
 ((x.fst.getD g.snd.snd.snd.fst.toNat ((0 : Int), (0 : Int), (0 : Int))).fst =
 (x.fst.getD g.snd.snd.snd.fst.toNat ((0 : Int), (0 : Int), (0 : Int))).fst ∧
 (x.fst.getD g.snd.snd.snd.fst.toNat ((0 : Int), (0 : Int), (0 : Int))).snd.fst =
 (x.fst.getD g.snd.snd.snd.fst.toNat ((0 : Int), (0 : Int), (0 : Int))).snd.fst ∧
 (x.fst.getD g.snd.snd.snd.fst.toNat ((0 : Int), (0 : Int), (0 : Int))).snd.snd =
 (x.fst.getD g.snd.snd.snd.fst.toNat ((0 : Int), (0 : Int), (0 : Int))).snd.snd ∧
 True) ∧
 True ∧
 (True ∧ True) ∧
 (0 : Int) = (0 : Int) ∧
 True ∧
 (True ∧ True) ∧
 (x.fst.getD g.snd.snd.snd.fst.toNat ((0 : Int), (0 : Int), (0 : Int))).fst =
 (x.fst.getD g.snd.snd.snd.fst.toNat ((0 : Int), (0 : Int), (0 : Int))).fst ∧
 decide ((x.fst.getD g.snd.snd.snd.fst.toNat ((0 : Int), (0 : Int), (0 : Int))).fst < (1 : Int)) =
 decide
 ((x.fst.getD g.snd.snd.snd.fst.toNat ((0 : Int), (0 : Int), (0 : Int))).fst < (1 : Int)) ∧
 decide
 ((x.fst.getD g.snd.snd.snd.fst.toNat ((0 : Int), (0 : Int), (0 : Int))).fst < (1 : Int)) =
 decide
 ((x.fst.getD g.snd.snd.snd.fst.toNat ((0 : Int), (0 : Int), (0 : Int))).fst < (1 : Int)) ∧
 True ∧
 True ∧
 True ∧
 false = false ∧
 (True ∧ True) ∧
 (x.fst.getD g.snd.snd.snd.fst.toNat ((0 : Int), (0 : Int), (0 : Int))).fst =
 (x.fst.getD g.snd.snd.snd.fst.toNat ((0 : Int), (0 : Int), (0 : Int))).fst ∧
 true = true ∧
 (True ∧ True) ∧
 (True ∧ True) ∧
 (x.fst.getD g.snd.snd.snd.fst.toNat
 ((0 : Int), (0 : Int), (0 : Int))).snd.snd =
 (x.fst.getD g.snd.snd.snd.fst.toNat
 ((0 : Int), (0 : Int), (0 : Int))).snd.snd ∧
 True ∧
 True ∧
 True ∧
 True ∧
 True ∧
 True ∧
 True ∧
 True ∧
 True ∧
 True ∧
 True ∧
 True ∧
 True ∧
 True ∧
 True ∧
 True ∧
 True ∧
 True ∧
 True ∧
 True ∧
 True ∧
 True ∧
 True ∧
 True ∧
 True ∧
 True ∧
 True ∧
 True ∧
 True ∧
 True ∧
 True ∧
 True ∧
 True ∧
 True ∧
 True ∧
 True ∧
 True ∧
 True ∧
 True ∧
 True ∧
 True ∧
 True ∧
 True ∧
 True ∧
 True ∧
 True ∧
 True ∧
 True ∧
 True ∧
 True ∧
 True ∧
 True ∧
 True ∧
 True ∧
 True ∧
 True ∧
 True ∧
 True ∧
 True ∧
 True ∧
 True ∧
 True ∧
 True ∧
 True ∧
 True ∧
 True ∧
 True ∧
 True ∧
 True ∧
 True ∧
 True ∧
 True ∧
 True ∧
 True ∧
 True ∧
 True ∧
 True ∧
 True ∧
 True ∧
 True ∧
 True ∧
 True ∧
 True ∧
 True ∧
 True ∧
 True ∧
 True ∧
 True ∧
 True ∧
 True ∧
 True ∧
 True ∧
 True ∧
 True ∧
 (True ∧
 True) ∧
 True ∧
 True ∧
 Value.slice
 none
 (0 :
 Nat)
 (0 :
 Nat) =
 Value.slice
 none
 (0 :
 Nat)
 (0 :
 Nat) ∧
 True ∧
 (True ∧
 True) ∧
 True ∧
 True ∧
 True ∧
 True ∧
 x.fst =
 x.fst ∧
 (↑x.fst.length :
 Int) =
 (↑x.fst.length :
 Int) ∧
 g.snd.snd.snd.fst =
 g.snd.snd.snd.fst ∧
 true =
 true ∧
 True ∧
 ((x.fst.getD
 g.snd.snd.snd.fst.toNat
 ((0 :
 Int),
 (0 :
 Int),
 (0 :
 Int))).fst =
 (x.fst.getD
 g.snd.snd.snd.fst.toNat
 ((0 :
 Int),
 (0 :
 Int),
 (0 :
 Int))).fst ∧
 (x.fst.getD
 g.snd.snd.snd.fst.toNat
 ((0 :
 Int),
 (0 :
 Int),
 (0 :
 Int))).snd.fst =
 (x.fst.getD
 g.snd.snd.snd.fst.toNat
 ((0 :
 Int),
 (0 :
 Int),
 (0 :
 Int))).snd.fst ∧
 (x.fst.getD
 g.snd.snd.snd.fst.toNat
 ((0 :
 Int),
 (0 :
 Int),
 (0 :
 Int))).snd.snd =
 (x.fst.getD
 g.snd.snd.snd.fst.toNat
 ((0 :
 Int),
 (0 :
 Int),
 (0 :
 Int))).snd.snd ∧
 True) ∧
 True ∧
 (True ∧
 True) ∧
 ((x.fst.getD
 g.snd.snd.snd.fst.toNat
 ((0 :
 Int),
 (0 :
 Int),
 (0 :
 Int))).fst =
 (x.fst.getD
 g.snd.snd.snd.fst.toNat
 ((0 :
 Int),
 (0 :
 Int),
 (0 :
 Int))).fst ∧
 (x.fst.getD
 g.snd.snd.snd.fst.toNat
 ((0 :
 Int),
 (0 :
 Int),
 (0 :
 Int))).snd.fst =
 (x.fst.getD
 g.snd.snd.snd.fst.toNat
 ((0 :
 Int),
 (0 :
 Int),
 (0 :
 Int))).snd.fst ∧
 (x.fst.getD
 g.snd.snd.snd.fst.toNat
 ((0 :
 Int),
 (0 :
 Int),
 (0 :
 Int))).snd.snd =
 (x.fst.getD
 g.snd.snd.snd.fst.toNat
 ((0 :
 Int),
 (0 :
 Int),
 (0 :
 Int))).snd.snd ∧
 True) ∧
 True ∧
 True ∧
 True ∧
 True ∧
 True ∧
 True ∧
 True ∧
 True ∧
 True ∧
 True ∧
 True ∧
 True ∧
 True ∧
 True ∧
 True ∧
 True ∧
 True ∧
 True ∧
 True ∧
 True ∧
 True ∧
 True ∧
 True ∧
 True ∧
 True ∧
 True ∧
 True ∧
 True ∧
 True ∧
 True ∧
 True ∧
 True ∧
 True ∧
 True ∧
 True) ∧
 ∀ (g_1 : Int × Unit),
 (0 : Int) ≤ g_1.fst ∧
 g_1.fst ≤ (↑g.fst.snd.1.length : Int) ∧
 held (List.take g_1.fst.toNat g.fst.snd.1)
 (x.fst.getD g.snd.snd.snd.fst.toNat ((0 : Int), (0 : Int), (0 : Int))).snd.2 =
 false →
 ((-9223372036854775808 : Int) ≤ g_1.fst ∧ g_1.fst ≤ (9223372036854775807 : Int)) ∧ True →
 (decide (g_1.fst < (↑g.fst.snd.fst.length : Int)) = true →
 ((0 : Int) ≤ g_1.fst ∧ g_1.fst < (↑g.fst.snd.fst.length : Int)) ∧
 (((g.fst.snd.fst.getD g_1.fst.toNat
 ((0 : Int),
 false ::
 false :: false :: false :: false :: false :: false :: false :: ([] : List Bool))).fst ==
 (x.fst.getD g.snd.snd.snd.fst.toNat ((0 : Int), (0 : Int), (0 : Int))).snd.snd) =
 true →
 (g.snd.fst.length + (((0 : Int) :: ([] : List Int)).set (0 : Nat) (6 : Int)).length ≤
 (9223372036854775807 : Nat) ∧
 (g.snd.fst.length + (((0 : Int) :: ([] : List Int)).set (0 : Nat) (6 : Int)).length +
 (g.snd.fst.length + (((0 : Int) :: ([] : List Int)).set (0 : Nat) (6 : Int)).length) /
 (4 : Nat) +
 (192 : Nat)) *
 (8 : Nat) ≤
 (281474976710656 : Nat)) ∧
 (g.snd.snd.fst.length +
 (((0 : Int) :: ([] : List Int)).set (0 : Nat) (↑g.fst.snd.snd.length : Int)).length ≤
 (9223372036854775807 : Nat) ∧
 (g.snd.snd.fst.length +
 (((0 : Int) :: ([] : List Int)).set (0 : Nat) (↑g.fst.snd.snd.length : Int)).length +
 (g.snd.snd.fst.length +
 (((0 : Int) :: ([] : List Int)).set (0 : Nat) (↑g.fst.snd.snd.length : Int)).length) /
 (4 : Nat) +
 (192 : Nat)) *
 (8 : Nat) ≤
 (281474976710656 : Nat)) ∧
 ((-9223372036854775808 : Int) ≤ g.snd.snd.snd.fst + (1 : Int) ∧
 g.snd.snd.snd.fst + (1 : Int) ≤ (9223372036854775807 : Int)) ∧
 (((0 : Int) ≤ g.snd.snd.snd.fst + (1 : Int) ∧
 g.snd.snd.snd.fst + (1 : Int) ≤ (↑x.fst.length : Int) ∧
 pl (List.take (g.snd.snd.snd.fst + (1 : Int)).toNat x.fst) =
 ((g.fst.fst, g.fst.snd.fst, g.fst.snd.snd),
 g.snd.fst ++ ((0 : Int) :: ([] : List Int)).set (0 : Nat) (6 : Int),
 g.snd.snd.fst ++
 ((0 : Int) :: ([] : List Int)).set (0 : Nat) (↑g.fst.snd.snd.length : Int)) ∧
 (↑g.fst.snd.fst.length : Int) + (↑g.fst.snd.snd.length : Int) ≤
 g.snd.snd.snd.fst + (1 : Int) ∧
 (↑(g.snd.fst ++ ((0 : Int) :: ([] : List Int)).set (0 : Nat) (6 : Int)).length :
 Int) =
 g.snd.snd.snd.fst + (1 : Int) ∧
 (↑(g.snd.snd.fst ++
 ((0 : Int) :: ([] : List Int)).set (0 : Nat)
 (↑g.fst.snd.snd.length : Int)).length :
 Int) =
 g.snd.snd.snd.fst + (1 : Int)) ∧
 ((↑x.fst.length : Int) - (g.snd.snd.snd.fst + (1 : Int))).toNat <
 ((↑x.fst.length : Int) - g.snd.snd.snd.fst).toNat) ∧
 ((True ∧ True) ∧
 True ∧
 True ∧
 Value.slice none (0 : Nat) (0 : Nat) = Value.slice none (0 : Nat) (0 : Nat) ∧
 x.fst = x.fst ∧
 (↑x.fst.length : Int) = (↑x.fst.length : Int) ∧
 g.snd.snd.snd.fst + (1 : Int) = g.snd.snd.snd.fst + (1 : Int) ∧ True) ∧
 ((g.fst.fst = g.fst.fst ∧ True ∧ True ∧ True) ∧
 g.fst.snd.fst = g.fst.snd.fst ∧
 g.fst.snd.snd = g.fst.snd.snd ∧
 g.snd.fst ++ ((0 : Int) :: ([] : List Int)).set (0 : Nat) (6 : Int) =
 g.snd.fst ++ ((0 : Int) :: ([] : List Int)).set (0 : Nat) (6 : Int) ∧
 g.snd.snd.fst ++
 ((0 : Int) :: ([] : List Int)).set (0 : Nat) (↑g.fst.snd.snd.length : Int) =
 g.snd.snd.fst ++
 ((0 : Int) :: ([] : List Int)).set (0 : Nat) (↑g.fst.snd.snd.length : Int) ∧
 True) ∧
 True) ∧
 (((g.fst.snd.fst.getD g_1.fst.toNat
 ((0 : Int),
 false ::
 false :: false :: false :: false :: false :: false :: false :: ([] : List Bool))).fst ==
 (x.fst.getD g.snd.snd.snd.fst.toNat ((0 : Int), (0 : Int), (0 : Int))).snd.snd) =
 false →
 ((-9223372036854775808 : Int) ≤ g_1.fst + (1 : Int) ∧
 g_1.fst + (1 : Int) ≤ (9223372036854775807 : Int)) ∧
 (((0 : Int) ≤ g_1.fst + (1 : Int) ∧
 g_1.fst + (1 : Int) ≤ (↑g.fst.snd.1.length : Int) ∧
 held (List.take (g_1.fst + (1 : Int)).toNat g.fst.snd.1)
 (x.fst.getD g.snd.snd.snd.fst.toNat ((0 : Int), (0 : Int), (0 : Int))).snd.2 =
 false) ∧
 ((↑g.fst.snd.1.length : Int) - (g_1.fst + (1 : Int))).toNat <
 ((↑g.fst.snd.1.length : Int) - g_1.fst).toNat) ∧
 ((x.fst.getD g.snd.snd.snd.fst.toNat ((0 : Int), (0 : Int), (0 : Int))).snd.snd =
 (x.fst.getD g.snd.snd.snd.fst.toNat ((0 : Int), (0 : Int), (0 : Int))).snd.snd ∧
 True ∧
 (↑g.fst.snd.fst.length : Int) = (↑g.fst.snd.fst.length : Int) ∧
 g_1.fst + (1 : Int) = g_1.fst + (1 : Int) ∧ True) ∧
 ((g.fst.fst = g.fst.fst ∧ True ∧ True ∧ True) ∧
 g.fst.snd.fst = g.fst.snd.fst ∧
 g.fst.snd.snd = g.fst.snd.snd ∧
 ((x.fst.getD g.snd.snd.snd.fst.toNat ((0 : Int), (0 : Int), (0 : Int))).fst =
 (x.fst.getD g.snd.snd.snd.fst.toNat ((0 : Int), (0 : Int), (0 : Int))).fst ∧
 (x.fst.getD g.snd.snd.snd.fst.toNat ((0 : Int), (0 : Int), (0 : Int))).snd.fst =
 (x.fst.getD g.snd.snd.snd.fst.toNat ((0 : Int), (0 : Int), (0 : Int))).snd.fst ∧
 (x.fst.getD g.snd.snd.snd.fst.toNat ((0 : Int), (0 : Int), (0 : Int))).snd.snd =
 (x.fst.getD g.snd.snd.snd.fst.toNat ((0 : Int), (0 : Int), (0 : Int))).snd.snd ∧
 True) ∧
 g.snd.fst = g.snd.fst ∧
 g.snd.snd.fst = g.snd.snd.fst ∧
 ((x.fst.getD g.snd.snd.snd.fst.toNat ((0 : Int), (0 : Int), (0 : Int))).fst =
 (x.fst.getD g.snd.snd.snd.fst.toNat ((0 : Int), (0 : Int), (0 : Int))).fst ∧
 (x.fst.getD g.snd.snd.snd.fst.toNat ((0 : Int), (0 : Int), (0 : Int))).snd.fst =
 (x.fst.getD g.snd.snd.snd.fst.toNat
 ((0 : Int), (0 : Int), (0 : Int))).snd.fst ∧
 (x.fst.getD g.snd.snd.snd.fst.toNat
 ((0 : Int), (0 : Int), (0 : Int))).snd.snd =
 (x.fst.getD g.snd.snd.snd.fst.toNat
 ((0 : Int), (0 : Int), (0 : Int))).snd.snd ∧
 True) ∧
 True) ∧
 (True ∧ True) ∧
 ((x.fst.getD g.snd.snd.snd.fst.toNat ((0 : Int), (0 : Int), (0 : Int))).fst =
 (x.fst.getD g.snd.snd.snd.fst.toNat ((0 : Int), (0 : Int), (0 : Int))).fst ∧
 (x.fst.getD g.snd.snd.snd.fst.toNat ((0 : Int), (0 : Int), (0 : Int))).snd.fst =
 (x.fst.getD g.snd.snd.snd.fst.toNat ((0 : Int), (0 : Int), (0 : Int))).snd.fst ∧
 (x.fst.getD g.snd.snd.snd.fst.toNat ((0 : Int), (0 : Int), (0 : Int))).snd.snd =
 (x.fst.getD g.snd.snd.snd.fst.toNat ((0 : Int), (0 : Int), (0 : Int))).snd.snd ∧
 True) ∧
 True ∧
 (True ∧ True) ∧
 (0 : Int) = (0 : Int) ∧
 True ∧
 (True ∧ True) ∧
 (x.fst.getD g.snd.snd.snd.fst.toNat ((0 : Int), (0 : Int), (0 : Int))).fst =
 (x.fst.getD g.snd.snd.snd.fst.toNat ((0 : Int), (0 : Int), (0 : Int))).fst ∧
 decide
 ((x.fst.getD g.snd.snd.snd.fst.toNat
 ((0 : Int), (0 : Int), (0 : Int))).fst <
 (1 : Int)) =
 decide
 ((x.fst.getD g.snd.snd.snd.fst.toNat
 ((0 : Int), (0 : Int), (0 : Int))).fst <
 (1 : Int)) ∧
 decide
 ((x.fst.getD g.snd.snd.snd.fst.toNat
 ((0 : Int), (0 : Int), (0 : Int))).fst <
 (1 : Int)) =
 decide
 ((x.fst.getD g.snd.snd.snd.fst.toNat
 ((0 : Int), (0 : Int), (0 : Int))).fst <
 (1 : Int)) ∧
 True ∧
 True ∧
 True ∧
 false = false ∧
 (True ∧ True) ∧
 (x.fst.getD g.snd.snd.snd.fst.toNat
 ((0 : Int), (0 : Int), (0 : Int))).fst =
 (x.fst.getD g.snd.snd.snd.fst.toNat
 ((0 : Int), (0 : Int), (0 : Int))).fst ∧
 true = true ∧
 (True ∧ True) ∧
 (True ∧ True) ∧
 (x.fst.getD g.snd.snd.snd.fst.toNat
 ((0 : Int), (0 : Int), (0 : Int))).snd.snd =
 (x.fst.getD g.snd.snd.snd.fst.toNat
 ((0 : Int), (0 : Int), (0 : Int))).snd.snd ∧
 True ∧
 True ∧
 True ∧
 True ∧
 True ∧
 True ∧
 True ∧
 True ∧
 True ∧
 True ∧
 True ∧
 True ∧
 True ∧
 True ∧
 True ∧
 True ∧
 True ∧
 True ∧
 True ∧
 True ∧
 True ∧
 True ∧
 True ∧
 True ∧
 True ∧
 True ∧
 True ∧
 True ∧
 True ∧
 True ∧
 True ∧
 True ∧
 True ∧
 True ∧
 True ∧
 True ∧
 True ∧
 True ∧
 True ∧
 True ∧
 True ∧
 True ∧
 True ∧
 True ∧
 True ∧
 True ∧
 True ∧
 True ∧
 True ∧
 True ∧
 True ∧
 True ∧
 True ∧
 True ∧
 True ∧
 True ∧
 True ∧
 True ∧
 True ∧
 True ∧
 True ∧
 True ∧
 True ∧
 True ∧
 True ∧
 True ∧
 True ∧
 True ∧
 True ∧
 True ∧
 True ∧
 True ∧
 True ∧
 True ∧
 True ∧
 True ∧
 True ∧
 True ∧
 True ∧
 True ∧
 True ∧
 True ∧
 True ∧
 True ∧
 True ∧
 True ∧
 True ∧
 True ∧
 True ∧
 True ∧
 True ∧
 True ∧
 True ∧
 True ∧
 (True ∧
 True) ∧
 True ∧
 True ∧
 Value.slice
 none
 (0 :
 Nat)
 (0 :
 Nat) =
 Value.slice
 none
 (0 :
 Nat)
 (0 :
 Nat) ∧
 True ∧
 (True ∧
 True) ∧
 True ∧
 True ∧
 True ∧
 True ∧
 x.fst =
 x.fst ∧
 (↑x.fst.length :
 Int) =
 (↑x.fst.length :
 Int) ∧
 g.snd.snd.snd.fst =
 g.snd.snd.snd.fst ∧
 true =
 true ∧
 True ∧
 ((x.fst.getD
 g.snd.snd.snd.fst.toNat
 ((0 :
 Int),
 (0 :
 Int),
 (0 :
 Int))).fst =
 (x.fst.getD
 g.snd.snd.snd.fst.toNat
 ((0 :
 Int),
 (0 :
 Int),
 (0 :
 Int))).fst ∧
 (x.fst.getD
 g.snd.snd.snd.fst.toNat
 ((0 :
 Int),
 (0 :
 Int),
 (0 :
 Int))).snd.fst =
 (x.fst.getD
 g.snd.snd.snd.fst.toNat
 ((0 :
 Int),
 (0 :
 Int),
 (0 :
 Int))).snd.fst ∧
 (x.fst.getD
 g.snd.snd.snd.fst.toNat
 ((0 :
 Int),
 (0 :
 Int),
 (0 :
 Int))).snd.snd =
 (x.fst.getD
 g.snd.snd.snd.fst.toNat
 ((0 :
 Int),
 (0 :
 Int),
 (0 :
 Int))).snd.snd ∧
 True) ∧
 True ∧
 (True ∧
 True) ∧
 ((x.fst.getD
 g.snd.snd.snd.fst.toNat
 ((0 :
 Int),
 (0 :
 Int),
 (0 :
 Int))).fst =
 (x.fst.getD
 g.snd.snd.snd.fst.toNat
 ((0 :
 Int),
 (0 :
 Int),
 (0 :
 Int))).fst ∧
 (x.fst.getD
 g.snd.snd.snd.fst.toNat
 ((0 :
 Int),
 (0 :
 Int),
 (0 :
 Int))).snd.fst =
 (x.fst.getD
 g.snd.snd.snd.fst.toNat
 ((0 :
 Int),
 (0 :
 Int),
 (0 :
 Int))).snd.fst ∧
 (x.fst.getD
 g.snd.snd.snd.fst.toNat
 ((0 :
 Int),
 (0 :
 Int),
 (0 :
 Int))).snd.snd =
 (x.fst.getD
 g.snd.snd.snd.fst.toNat
 ((0 :
 Int),
 (0 :
 Int),
 (0 :
 Int))).snd.snd ∧
 True) ∧
 True ∧
 True ∧
 True ∧
 True ∧
 True ∧
 True ∧
 True ∧
 True ∧
 True ∧
 True ∧
 True ∧
 True ∧
 True ∧
 True ∧
 True ∧
 True ∧
 True ∧
 True ∧
 True ∧
 True ∧
 True ∧
 True ∧
 True ∧
 True ∧
 True ∧
 True ∧
 True ∧
 True ∧
 True ∧
 True ∧
 True ∧
 True ∧
 True ∧
 True ∧
 True)) ∧
 (decide (g_1.fst < (↑g.fst.snd.fst.length : Int)) = false →
 (g.fst.snd.fst.length +
 ((((0 : Int),
 false :: false :: false :: false :: false :: false :: false :: false :: ([] : List Bool)) ::
 ([] : List (Int × List Bool))).set
 (0 : Nat)
 ((x.fst.getD g.snd.snd.snd.fst.toNat ((0 : Int), (0 : Int), (0 : Int))).snd.snd,
 g.fst.fst)).length ≤
 (9223372036854775807 : Nat) ∧
 (g.fst.snd.fst.length +
 ((((0 : Int),
 false ::
 false :: false :: false :: false :: false :: false :: false :: ([] : List Bool)) ::
 ([] : List (Int × List Bool))).set
 (0 : Nat)
 ((x.fst.getD g.snd.snd.snd.fst.toNat ((0 : Int), (0 : Int), (0 : Int))).snd.snd,
 g.fst.fst)).length +
 (g.fst.snd.fst.length +
 ((((0 : Int),
 false ::
 false ::
 false :: false :: false :: false :: false :: false :: ([] : List Bool)) ::
 ([] : List (Int × List Bool))).set
 (0 : Nat)
 ((x.fst.getD g.snd.snd.snd.fst.toNat ((0 : Int), (0 : Int), (0 : Int))).snd.snd,
 g.fst.fst)).length) /
 (4 : Nat) +
 (192 : Nat)) *
 (16 : Nat) ≤
 (281474976710656 : Nat)) ∧
 ((((0 : Int) ≤ (0 : Int) ∧
 (0 : Int) ≤
 (↑((List.brecOn.go (motive := fun x ↦ List (Int × List Bool) → List (Int × List Bool))
 g.fst.snd.fst List.append._f).1
 ((((0 : Int),
 false ::
 false ::
 false :: false :: false :: false :: false :: false :: ([] : List Bool)) ::
 ([] : List (Int × List Bool))).set
 (0 : Nat)
 ((x.fst.getD g.snd.snd.snd.fst.toNat ((0 : Int), (0 : Int), (0 : Int))).snd.snd,
 g.fst.fst))).length :
 Int) ∧
 g.fst.fst = g.fst.1 ∧
 g.fst.snd.snd =
 g.fst.snd.2 ++
 ff
 (List.take (Int.toNat (0 : Int))
 ((List.brecOn.go (motive := fun x ↦ List (Int × List Bool) → List (Int × List Bool))
 g.fst.snd.fst List.append._f).1
 ((((0 : Int),
 false ::
 false ::
 false ::
 false :: false :: false :: false :: false :: ([] : List Bool)) ::
 ([] : List (Int × List Bool))).set
 (0 : Nat)
 ((x.fst.getD g.snd.snd.snd.fst.toNat ((0 : Int), (0 : Int), (0 : Int))).snd.snd,
 g.fst.fst)))) ∧
 ([] : List (Int × List Bool)) =
 lf
 (List.take (Int.toNat (0 : Int))
 ((List.brecOn.go (motive := fun x ↦ List (Int × List Bool) → List (Int × List Bool))
 g.fst.snd.fst List.append._f).1
 ((((0 : Int),
 false ::
 false ::
 false :: false :: false :: false :: false :: false :: ([] : List Bool)) ::
 ([] : List (Int × List Bool))).set
 (0 : Nat)
 ((x.fst.getD g.snd.snd.snd.fst.toNat ((0 : Int), (0 : Int), (0 : Int))).snd.snd,
 g.fst.fst))))) ∧
 True) ∧
 ((True ∧ True) ∧
 True ∧
 True ∧
 (↑(g.fst.snd.fst ++
 (((0 : Int),
 false ::
 false ::
 false ::
 false :: false :: false :: false :: false :: ([] : List Bool)) ::
 ([] : List (Int × List Bool))).set
 (0 : Nat)
 ((x.fst.getD g.snd.snd.snd.fst.toNat ((0 : Int), (0 : Int), (0 : Int))).snd.snd,
 g.fst.fst)).length :
 Int) =
 (↑(g.fst.snd.fst ++
 (((0 : Int),
 false ::
 false ::
 false ::
 false :: false :: false :: false :: false :: ([] : List Bool)) ::
 ([] : List (Int × List Bool))).set
 (0 : Nat)
 ((x.fst.getD g.snd.snd.snd.fst.toNat ((0 : Int), (0 : Int), (0 : Int))).snd.snd,
 g.fst.fst)).length :
 Int) ∧
 (0 : Int) = (0 : Int) ∧ True) ∧
 ((g.fst.fst = g.fst.fst ∧ True ∧ True ∧ True) ∧
 g.fst.snd.snd = g.fst.snd.snd ∧
 ([] : List (Int × List Bool)) = ([] : List (Int × List Bool)) ∧
 ((x.fst.getD g.snd.snd.snd.fst.toNat ((0 : Int), (0 : Int), (0 : Int))).fst =
 (x.fst.getD g.snd.snd.snd.fst.toNat ((0 : Int), (0 : Int), (0 : Int))).fst ∧
 (x.fst.getD g.snd.snd.snd.fst.toNat ((0 : Int), (0 : Int), (0 : Int))).snd.fst =
 (x.fst.getD g.snd.snd.snd.fst.toNat ((0 : Int), (0 : Int), (0 : Int))).snd.fst ∧
 (x.fst.getD g.snd.snd.snd.fst.toNat ((0 : Int), (0 : Int), (0 : Int))).snd.snd =
 (x.fst.getD g.snd.snd.snd.fst.toNat ((0 : Int), (0 : Int), (0 : Int))).snd.snd ∧
 True) ∧
 (((0 : Int),
 false ::
 false ::
 false :: false :: false :: false :: false :: false :: ([] : List Bool)) ::
 ([] : List (Int × List Bool))).set
 (0 : Nat)
 ((x.fst.getD g.snd.snd.snd.fst.toNat ((0 : Int), (0 : Int), (0 : Int))).snd.snd,
 g.fst.fst) =
 (((0 : Int),
 false ::
 false ::
 false :: false :: false :: false :: false :: false :: ([] : List Bool)) ::
 ([] : List (Int × List Bool))).set
 (0 : Nat)
 ((x.fst.getD g.snd.snd.snd.fst.toNat ((0 : Int), (0 : Int), (0 : Int))).snd.snd,
 g.fst.fst) ∧
 g.fst.snd.fst ++
 (((0 : Int),
 false ::
 false ::
 false ::
 false :: false :: false :: false :: false :: ([] : List Bool)) ::
 ([] : List (Int × List Bool))).set
 (0 : Nat)
 ((x.fst.getD g.snd.snd.snd.fst.toNat ((0 : Int), (0 : Int), (0 : Int))).snd.snd,
 g.fst.fst) =
 g.fst.snd.fst ++
 (((0 : Int),
 false ::
 false ::
 false ::
 false :: false :: false :: false :: false :: ([] : List Bool)) ::
 ([] : List (Int × List Bool))).set
 (0 : Nat)
 ((x.fst.getD g.snd.snd.snd.fst.toNat ((0 : Int), (0 : Int), (0 : Int))).snd.snd,
 g.fst.fst) ∧
 g.snd.fst = g.snd.fst ∧
 g.snd.snd.fst = g.snd.snd.fst ∧
 ((x.fst.getD g.snd.snd.snd.fst.toNat ((0 : Int), (0 : Int), (0 : Int))).fst =
 (x.fst.getD g.snd.snd.snd.fst.toNat ((0 : Int), (0 : Int), (0 : Int))).fst ∧
 (x.fst.getD g.snd.snd.snd.fst.toNat ((0 : Int), (0 : Int), (0 : Int))).snd.fst =
 (x.fst.getD g.snd.snd.snd.fst.toNat
 ((0 : Int), (0 : Int), (0 : Int))).snd.fst ∧
 (x.fst.getD g.snd.snd.snd.fst.toNat
 ((0 : Int), (0 : Int), (0 : Int))).snd.snd =
 (x.fst.getD g.snd.snd.snd.fst.toNat
 ((0 : Int), (0 : Int), (0 : Int))).snd.snd ∧
 True) ∧
 True) ∧
 (True ∧ True) ∧
 ((x.fst.getD g.snd.snd.snd.fst.toNat ((0 : Int), (0 : Int), (0 : Int))).fst =
 (x.fst.getD g.snd.snd.snd.fst.toNat ((0 : Int), (0 : Int), (0 : Int))).fst ∧
 (x.fst.getD g.snd.snd.snd.fst.toNat ((0 : Int), (0 : Int), (0 : Int))).snd.fst =
 (x.fst.getD g.snd.snd.snd.fst.toNat ((0 : Int), (0 : Int), (0 : Int))).snd.fst ∧
 (x.fst.getD g.snd.snd.snd.fst.toNat ((0 : Int), (0 : Int), (0 : Int))).snd.snd =
 (x.fst.getD g.snd.snd.snd.fst.toNat ((0 : Int), (0 : Int), (0 : Int))).snd.snd ∧
 True) ∧
 True ∧
 (True ∧ True) ∧
 (0 : Int) = (0 : Int) ∧
 True ∧
 (True ∧ True) ∧
 (x.fst.getD g.snd.snd.snd.fst.toNat ((0 : Int), (0 : Int), (0 : Int))).fst =
 (x.fst.getD g.snd.snd.snd.fst.toNat ((0 : Int), (0 : Int), (0 : Int))).fst ∧
 decide
 ((x.fst.getD g.snd.snd.snd.fst.toNat ((0 : Int), (0 : Int), (0 : Int))).fst <
 (1 : Int)) =
 decide
 ((x.fst.getD g.snd.snd.snd.fst.toNat ((0 : Int), (0 : Int), (0 : Int))).fst <
 (1 : Int)) ∧
 decide
 ((x.fst.getD g.snd.snd.snd.fst.toNat
 ((0 : Int), (0 : Int), (0 : Int))).fst <
 (1 : Int)) =
 decide
 ((x.fst.getD g.snd.snd.snd.fst.toNat
 ((0 : Int), (0 : Int), (0 : Int))).fst <
 (1 : Int)) ∧
 True ∧
 True ∧
 True ∧
 false = false ∧
 (True ∧ True) ∧
 (x.fst.getD g.snd.snd.snd.fst.toNat
 ((0 : Int), (0 : Int), (0 : Int))).fst =
 (x.fst.getD g.snd.snd.snd.fst.toNat
 ((0 : Int), (0 : Int), (0 : Int))).fst ∧
 true = true ∧
 (True ∧ True) ∧
 (True ∧ True) ∧
 (x.fst.getD g.snd.snd.snd.fst.toNat
 ((0 : Int), (0 : Int), (0 : Int))).snd.snd =
 (x.fst.getD g.snd.snd.snd.fst.toNat
 ((0 : Int), (0 : Int), (0 : Int))).snd.snd ∧
 false = false ∧
 (True ∧ True) ∧
 (True ∧ True) ∧
 (True ∧ True) ∧
 (True ∧ True) ∧
 True ∧
 (True ∧ True) ∧
 (x.fst.getD g.snd.snd.snd.fst.toNat
 ((0 : Int), (0 : Int),
 (0 : Int))).snd.snd =
 (x.fst.getD g.snd.snd.snd.fst.toNat
 ((0 : Int), (0 : Int),
 (0 : Int))).snd.snd ∧
 (True ∧ True) ∧
 (True ∧ True) ∧
 (True ∧ True) ∧
 (g.fst.fst = g.fst.fst ∧ True) ∧
 ((x.fst.getD g.snd.snd.snd.fst.toNat
 ((0 : Int), (0 : Int),
 (0 : Int))).snd.snd =
 (x.fst.getD
 g.snd.snd.snd.fst.toNat
 ((0 : Int), (0 : Int),
 (0 : Int))).snd.snd ∧
 g.fst.fst = g.fst.fst ∧ True) ∧
 True ∧
 True ∧
 (True ∧ True) ∧
 (True ∧ True) ∧
 (True ∧ True) ∧
 True ∧
 True ∧
 True ∧
 True ∧
 True ∧
 True ∧
 True ∧
 True ∧
 True ∧
 True ∧
 True ∧
 True ∧
 True ∧
 True ∧
 True ∧
 True ∧
 True ∧
 True ∧
 True ∧
 True ∧
 True ∧
 True ∧
 True ∧
 True ∧
 True ∧
 True ∧
 True ∧
 True ∧
 True ∧
 True ∧
 True ∧
 True ∧
 True ∧
 True ∧
 True ∧
 True ∧
 True ∧
 True ∧
 True ∧
 True ∧
 True ∧
 True ∧
 True ∧
 True ∧
 True ∧
 True ∧
 True ∧
 True ∧
 True ∧
 True ∧
 True ∧
 True ∧
 True ∧
 True ∧
 True ∧
 True ∧
 True ∧
 True ∧
 True ∧
 True ∧
 True ∧
 True ∧
 True ∧
 True ∧
 True ∧
 True ∧
 True ∧
 True ∧
 True ∧
 True ∧
 True ∧
 True ∧
 True ∧
 True ∧
 True ∧
 True ∧
 (True ∧
 True) ∧
 True ∧
 True ∧
 Value.slice
 none
 (0 :
 Nat)
 (0 :
 Nat) =
 Value.slice
 none
 (0 :
 Nat)
 (0 :
 Nat) ∧
 True ∧
 (True ∧
 True) ∧
 True ∧
 True ∧
 True ∧
 True ∧
 x.fst =
 x.fst ∧
 (↑x.fst.length :
 Int) =
 (↑x.fst.length :
 Int) ∧
 g.snd.snd.snd.fst =
 g.snd.snd.snd.fst ∧
 true =
 true ∧
 True ∧
 ((x.fst.getD
 g.snd.snd.snd.fst.toNat
 ((0 :
 Int),
 (0 :
 Int),
 (0 :
 Int))).fst =
 (x.fst.getD
 g.snd.snd.snd.fst.toNat
 ((0 :
 Int),
 (0 :
 Int),
 (0 :
 Int))).fst ∧
 (x.fst.getD
 g.snd.snd.snd.fst.toNat
 ((0 :
 Int),
 (0 :
 Int),
 (0 :
 Int))).snd.fst =
 (x.fst.getD
 g.snd.snd.snd.fst.toNat
 ((0 :
 Int),
 (0 :
 Int),
 (0 :
 Int))).snd.fst ∧
 (x.fst.getD
 g.snd.snd.snd.fst.toNat
 ((0 :
 Int),
 (0 :
 Int),
 (0 :
 Int))).snd.snd =
 (x.fst.getD
 g.snd.snd.snd.fst.toNat
 ((0 :
 Int),
 (0 :
 Int),
 (0 :
 Int))).snd.snd ∧
 True) ∧
 True ∧
 (True ∧
 True) ∧
 ((x.fst.getD
 g.snd.snd.snd.fst.toNat
 ((0 :
 Int),
 (0 :
 Int),
 (0 :
 Int))).fst =
 (x.fst.getD
 g.snd.snd.snd.fst.toNat
 ((0 :
 Int),
 (0 :
 Int),
 (0 :
 Int))).fst ∧
 (x.fst.getD
 g.snd.snd.snd.fst.toNat
 ((0 :
 Int),
 (0 :
 Int),
 (0 :
 Int))).snd.fst =
 (x.fst.getD
 g.snd.snd.snd.fst.toNat
 ((0 :
 Int),
 (0 :
 Int),
 (0 :
 Int))).snd.fst ∧
 (x.fst.getD
 g.snd.snd.snd.fst.toNat
 ((0 :
 Int),
 (0 :
 Int),
 (0 :
 Int))).snd.snd =
 (x.fst.getD
 g.snd.snd.snd.fst.toNat
 ((0 :
 Int),
 (0 :
 Int),
 (0 :
 Int))).snd.snd ∧
 True) ∧
 True ∧
 True ∧
 True ∧
 True ∧
 True ∧
 True ∧
 True ∧
 True ∧
 True ∧
 True ∧
 True ∧
 True ∧
 True ∧
 True ∧
 True ∧
 True ∧
 True ∧
 True ∧
 True ∧
 True ∧
 True ∧
 True ∧
 True ∧
 True ∧
 True ∧
 True ∧
 True ∧
 True ∧
 True ∧
 True ∧
 True ∧
 True ∧
 True ∧
 True ∧
 True) ∧
 ∀ (g_2 : (List Bool × Unit × List Int) × List (Int × List Bool) × Int × Unit),
 (0 : Int) ≤ g_2.snd.snd.fst ∧
 g_2.snd.snd.fst ≤
 (↑((List.brecOn.go (motive := fun x ↦ List (Int × List Bool) → List (Int × List Bool))
 g.fst.snd.fst List.append._f).1
 ((((0 : Int),
 false ::
 false ::
 false :: false :: false :: false :: false :: false :: ([] : List Bool)) ::
 ([] : List (Int × List Bool))).set
 (0 : Nat)
 ((x.fst.getD g.snd.snd.snd.fst.toNat ((0 : Int), (0 : Int), (0 : Int))).snd.snd,
 g.fst.fst))).length :
 Int) ∧
 g_2.fst.fst = g.fst.1 ∧
 g_2.fst.snd.snd =
 g.fst.snd.2 ++
 ff
 (List.take g_2.snd.snd.fst.toNat
 ((List.brecOn.go (motive := fun x ↦ List (Int × List Bool) → List (Int × List Bool))
 g.fst.snd.fst List.append._f).1
 ((((0 : Int),
 false ::
 false ::
 false ::
 false :: false :: false :: false :: false :: ([] : List Bool)) ::
 ([] : List (Int × List Bool))).set
 (0 : Nat)
 ((x.fst.getD g.snd.snd.snd.fst.toNat ((0 : Int), (0 : Int), (0 : Int))).snd.snd,
 g.fst.fst)))) ∧
 g_2.snd.fst =
 lf
 (List.take g_2.snd.snd.fst.toNat
 ((List.brecOn.go (motive := fun x ↦ List (Int × List Bool) → List (Int × List Bool))
 g.fst.snd.fst List.append._f).1
 ((((0 : Int),
 false ::
 false ::
 false :: false :: false :: false :: false :: false :: ([] : List Bool)) ::
 ([] : List (Int × List Bool))).set
 (0 : Nat)
 ((x.fst.getD g.snd.snd.snd.fst.toNat ((0 : Int), (0 : Int), (0 : Int))).snd.snd,
 g.fst.fst)))) →
 ((g_2.fst.fst.length = (8 : Nat) ∧ ∀ (x : Bool), x ∈ g_2.fst.fst → True) ∧
 True ∧
 g_2.fst.snd.snd.length ≤ (9223372036854775807 : Nat) ∧
 ∀ (x : Int),
 x ∈ g_2.fst.snd.snd →
 (-9223372036854775808 : Int) ≤ x ∧ x ≤ (9223372036854775807 : Int)) ∧
 (g_2.snd.fst.length ≤ (9223372036854775807 : Nat) ∧
 ∀ (x : Int × List Bool),
 x ∈ g_2.snd.fst →
 ((-9223372036854775808 : Int) ≤ x.fst ∧ x.fst ≤ (9223372036854775807 : Int)) ∧
 x.snd.length = (8 : Nat) ∧ ∀ (x_1 : Bool), x_1 ∈ x.snd → True) ∧
 ((-9223372036854775808 : Int) ≤ g_2.snd.snd.fst ∧
 g_2.snd.snd.fst ≤ (9223372036854775807 : Int)) ∧
 True →
 (decide
 (g_2.snd.snd.fst <
 (↑(g.fst.snd.fst ++
 (((0 : Int),
 false ::
 false ::
 false ::
 false :: false :: false :: false :: false :: ([] : List Bool)) ::
 ([] : List (Int × List Bool))).set
 (0 : Nat)
 ((x.fst.getD g.snd.snd.snd.fst.toNat ((0 : Int), (0 : Int), (0 : Int))).snd.snd,
 g.fst.fst)).length :
 Int)) =
 true →
 ((0 : Int) ≤ g_2.snd.snd.fst ∧
 g_2.snd.snd.fst <
 (↑(g.fst.snd.fst ++
 (((0 : Int),
 false ::
 false ::
 false ::
 false :: false :: false :: false :: false :: ([] : List Bool)) ::
 ([] : List (Int × List Bool))).set
 (0 : Nat)
 ((x.fst.getD g.snd.snd.snd.fst.toNat ((0 : Int), (0 : Int), (0 : Int))).snd.snd,
 g.fst.fst)).length :
 Int)) ∧
 (deq (Ty.arr (8 : Nat) Ty.bool)
 ((g.fst.snd.fst ++
 (((0 : Int),
 false ::
 false ::
 false ::
 false ::
 false :: false :: false :: false :: ([] : List Bool)) ::
 ([] : List (Int × List Bool))).set
 (0 : Nat)
 ((x.fst.getD g.snd.snd.snd.fst.toNat
 ((0 : Int), (0 : Int), (0 : Int))).snd.snd,
 g.fst.fst)).getD
 g_2.snd.snd.fst.toNat
 ((0 : Int),
 false ::
 false ::
 false :: false :: false :: false :: false :: false :: ([] : List Bool))).snd
 (false ::
 false :: false :: false :: false :: false :: false :: false :: ([] : List Bool)) =
 true →
 (g_2.fst.snd.snd.length +
 (((0 : Int) :: ([] : List Int)).set (0 : Nat)
 ((g.fst.snd.fst ++
 (((0 : Int),
 false ::
 false ::
 false ::
 false ::
 false ::
 false :: false :: false :: ([] : List Bool)) ::
 ([] : List (Int × List Bool))).set
 (0 : Nat)
 ((x.fst.getD g.snd.snd.snd.fst.toNat
 ((0 : Int), (0 : Int), (0 : Int))).snd.snd,
 g.fst.fst)).getD
 g_2.snd.snd.fst.toNat
 ((0 : Int),
 false ::
 false ::
 false ::
 false ::
 false ::
 false :: false :: false :: ([] : List Bool))).fst).length ≤
 (9223372036854775807 : Nat) ∧
 (g_2.fst.snd.snd.length +
 (((0 : Int) :: ([] : List Int)).set (0 : Nat)
 ((g.fst.snd.fst ++
 (((0 : Int),
 false ::
 false ::
 false ::
 false ::
 false ::
 false ::
 false :: false :: ([] : List Bool)) ::
 ([] : List (Int × List Bool))).set
 (0 : Nat)
 ((x.fst.getD g.snd.snd.snd.fst.toNat
 ((0 : Int), (0 : Int), (0 : Int))).snd.snd,
 g.fst.fst)).getD
 g_2.snd.snd.fst.toNat
 ((0 : Int),
 false ::
 false ::
 false ::
 false ::
 false ::
 false ::
 false :: false :: ([] : List Bool))).fst).length +
 (g_2.fst.snd.snd.length +
 (((0 : Int) :: ([] : List Int)).set (0 : Nat)
 ((g.fst.snd.fst ++
 (((0 : Int),
 false ::
 false ::
 false ::
 false ::
 false ::
 false ::
 false :: false :: ([] : List Bool)) ::
 ([] : List (Int × List Bool))).set
 (0 : Nat)
 ((x.fst.getD g.snd.snd.snd.fst.toNat
 ((0 : Int), (0 : Int), (0 : Int))).snd.snd,
 g.fst.fst)).getD
 g_2.snd.snd.fst.toNat
 ((0 : Int),
 false ::
 false ::
 false ::
 false ::
 false ::
 false ::
 false :: false :: ([] : List Bool))).fst).length) /
 (4 : Nat) +
 (192 : Nat)) *
 (8 : Nat) ≤
 (281474976710656 : Nat)) ∧
 ((-9223372036854775808 : Int) ≤ g_2.snd.snd.fst + (1 : Int) ∧
 g_2.snd.snd.fst + (1 : Int) ≤ (9223372036854775807 : Int)) ∧
 (((0 : Int) ≤ g_2.snd.snd.fst + (1 : Int) ∧
 g_2.snd.snd.fst + (1 : Int) ≤
 (↑((List.brecOn.go (motive := fun x ↦
 List (Int × List Bool) → List (Int × List Bool)) g.fst.snd.fst
 List.append._f).1
 ((((0 : Int),
 false ::
 false ::
 false ::
 false ::
 false ::
 false :: false :: false :: ([] : List Bool)) ::
 ([] : List (Int × List Bool))).set
 (0 : Nat)
 ((x.fst.getD g.snd.snd.snd.fst.toNat
 ((0 : Int), (0 : Int), (0 : Int))).snd.snd,
 g.fst.fst))).length :
 Int) ∧
 g_2.fst.fst = g.fst.1 ∧
 g_2.fst.snd.snd ++
 ((0 : Int) :: ([] : List Int)).set (0 : Nat)
 ((g.fst.snd.fst ++
 (((0 : Int),
 false ::
 false ::
 false ::
 false ::
 false ::
 false ::
 false :: false :: ([] : List Bool)) ::
 ([] : List (Int × List Bool))).set
 (0 : Nat)
 ((x.fst.getD g.snd.snd.snd.fst.toNat
 ((0 : Int), (0 : Int), (0 : Int))).snd.snd,
 g.fst.fst)).getD
 g_2.snd.snd.fst.toNat
 ((0 : Int),
 false ::
 false ::
 false ::
 false ::
 false ::
 false :: false :: false :: ([] : List Bool))).fst =
 g.fst.snd.2 ++
 ff
 (List.take (g_2.snd.snd.fst + (1 : Int)).toNat
 ((List.brecOn.go (motive := fun x ↦
 List (Int × List Bool) → List (Int × List Bool))
 g.fst.snd.fst List.append._f).1
 ((((0 : Int),
 false ::
 false ::
 false ::
 false ::
 false ::
 false ::
 false :: false :: ([] : List Bool)) ::
 ([] : List (Int × List Bool))).set
 (0 : Nat)
 ((x.fst.getD g.snd.snd.snd.fst.toNat
 ((0 : Int), (0 : Int), (0 : Int))).snd.snd,
 g.fst.fst)))) ∧
 g_2.snd.fst =
 lf
 (List.take (g_2.snd.snd.fst + (1 : Int)).toNat
 ((List.brecOn.go (motive := fun x ↦
 List (Int × List Bool) → List (Int × List Bool)) g.fst.snd.fst
 List.append._f).1
 ((((0 : Int),
 false ::
 false ::
 false ::
 false ::
 false ::
 false :: false :: false :: ([] : List Bool)) ::
 ([] : List (Int × List Bool))).set
 (0 : Nat)
 ((x.fst.getD g.snd.snd.snd.fst.toNat
 ((0 : Int), (0 : Int), (0 : Int))).snd.snd,
 g.fst.fst))))) ∧
 ((↑((List.brecOn.go (motive := fun x ↦
 List (Int × List Bool) → List (Int × List Bool)) g.fst.snd.fst
 List.append._f).1
 ((((0 : Int),
 false ::
 false ::
 false ::
 false ::
 false ::
 false :: false :: false :: ([] : List Bool)) ::
 ([] : List (Int × List Bool))).set
 (0 : Nat)
 ((x.fst.getD g.snd.snd.snd.fst.toNat
 ((0 : Int), (0 : Int), (0 : Int))).snd.snd,
 g.fst.fst))).length :
 Int) -
 (g_2.snd.snd.fst + (1 : Int))).toNat <
 ((↑((List.brecOn.go (motive := fun x ↦
 List (Int × List Bool) → List (Int × List Bool)) g.fst.snd.fst
 List.append._f).1
 ((((0 : Int),
 false ::
 false ::
 false ::
 false ::
 false ::
 false :: false :: false :: ([] : List Bool)) ::
 ([] : List (Int × List Bool))).set
 (0 : Nat)
 ((x.fst.getD g.snd.snd.snd.fst.toNat
 ((0 : Int), (0 : Int), (0 : Int))).snd.snd,
 g.fst.fst))).length :
 Int) -
 g_2.snd.snd.fst).toNat) ∧
 ((True ∧ True) ∧
 True ∧
 True ∧
 (↑(g.fst.snd.fst ++
 (((0 : Int),
 false ::
 false ::
 false ::
 false ::
 false ::
 false ::
 false :: false :: ([] : List Bool)) ::
 ([] : List (Int × List Bool))).set
 (0 : Nat)
 ((x.fst.getD g.snd.snd.snd.fst.toNat
 ((0 : Int), (0 : Int), (0 : Int))).snd.snd,
 g.fst.fst)).length :
 Int) =
 (↑(g.fst.snd.fst ++
 (((0 : Int),
 false ::
 false ::
 false ::
 false ::
 false ::
 false ::
 false :: false :: ([] : List Bool)) ::
 ([] : List (Int × List Bool))).set
 (0 : Nat)
 ((x.fst.getD g.snd.snd.snd.fst.toNat
 ((0 : Int), (0 : Int), (0 : Int))).snd.snd,
 g.fst.fst)).length :
 Int) ∧
 g_2.snd.snd.fst + (1 : Int) = g_2.snd.snd.fst + (1 : Int) ∧ True) ∧
 ((g_2.fst.fst = g_2.fst.fst ∧ True ∧ True ∧ True) ∧
 g_2.fst.snd.snd ++
 ((0 : Int) :: ([] : List Int)).set (0 : Nat)
 ((g.fst.snd.fst ++
 (((0 : Int),
 false ::
 false ::
 false ::
 false ::
 false ::
 false ::
 false :: false :: ([] : List Bool)) ::
 ([] : List (Int × List Bool))).set
 (0 : Nat)
 ((x.fst.getD g.snd.snd.snd.fst.toNat
 ((0 : Int), (0 : Int), (0 : Int))).snd.snd,
 g.fst.fst)).getD
 g_2.snd.snd.fst.toNat
 ((0 : Int),
 false ::
 false ::
 false ::
 false ::
 false ::
 false :: false :: false :: ([] : List Bool))).fst =
 g_2.fst.snd.snd ++
 ((0 : Int) :: ([] : List Int)).set (0 : Nat)
 ((g.fst.snd.fst ++
 (((0 : Int),
 false ::
 false ::
 false ::
 false ::
 false ::
 false ::
 false :: false :: ([] : List Bool)) ::
 ([] : List (Int × List Bool))).set
 (0 : Nat)
 ((x.fst.getD g.snd.snd.snd.fst.toNat
 ((0 : Int), (0 : Int), (0 : Int))).snd.snd,
 g.fst.fst)).getD
 g_2.snd.snd.fst.toNat
 ((0 : Int),
 false ::
 false ::
 false ::
 false ::
 false ::
 false :: false :: false :: ([] : List Bool))).fst ∧
 g_2.snd.fst = g_2.snd.fst ∧
 ((x.fst.getD g.snd.snd.snd.fst.toNat
 ((0 : Int), (0 : Int), (0 : Int))).fst =
 (x.fst.getD g.snd.snd.snd.fst.toNat
 ((0 : Int), (0 : Int), (0 : Int))).fst ∧
 (x.fst.getD g.snd.snd.snd.fst.toNat
 ((0 : Int), (0 : Int), (0 : Int))).snd.fst =
 (x.fst.getD g.snd.snd.snd.fst.toNat
 ((0 : Int), (0 : Int), (0 : Int))).snd.fst ∧
 (x.fst.getD g.snd.snd.snd.fst.toNat
 ((0 : Int), (0 : Int), (0 : Int))).snd.snd =
 (x.fst.getD g.snd.snd.snd.fst.toNat
 ((0 : Int), (0 : Int), (0 : Int))).snd.snd ∧
 True) ∧
 (((0 : Int),
 false ::
 false ::
 false ::
 false ::
 false ::
 false :: false :: false :: ([] : List Bool)) ::
 ([] : List (Int × List Bool))).set
 (0 : Nat)
 ((x.fst.getD g.snd.snd.snd.fst.toNat
 ((0 : Int), (0 : Int), (0 : Int))).snd.snd,
 g.fst.fst) =
 (((0 : Int),
 false ::
 false ::
 false ::
 false ::
 false ::
 false :: false :: false :: ([] : List Bool)) ::
 ([] : List (Int × List Bool))).set
 (0 : Nat)
 ((x.fst.getD g.snd.snd.snd.fst.toNat
 ((0 : Int), (0 : Int), (0 : Int))).snd.snd,
 g.fst.fst) ∧
 g.fst.snd.fst ++
 (((0 : Int),
 false ::
 false ::
 false ::
 false ::
 false ::
 false ::
 false :: false :: ([] : List Bool)) ::
 ([] : List (Int × List Bool))).set
 (0 : Nat)
 ((x.fst.getD g.snd.snd.snd.fst.toNat
 ((0 : Int), (0 : Int), (0 : Int))).snd.snd,
 g.fst.fst) =
 g.fst.snd.fst ++
 (((0 : Int),
 false ::
 false ::
 false ::
 false ::
 false ::
 false ::
 false :: false :: ([] : List Bool)) ::
 ([] : List (Int × List Bool))).set
 (0 : Nat)
 ((x.fst.getD g.snd.snd.snd.fst.toNat
 ((0 : Int), (0 : Int), (0 : Int))).snd.snd,
 g.fst.fst) ∧
 g.snd.fst = g.snd.fst ∧
 g.snd.snd.fst = g.snd.snd.fst ∧
 ((x.fst.getD g.snd.snd.snd.fst.toNat
 ((0 : Int), (0 : Int), (0 : Int))).fst =
 (x.fst.getD g.snd.snd.snd.fst.toNat
 ((0 : Int), (0 : Int), (0 : Int))).fst ∧
 (x.fst.getD g.snd.snd.snd.fst.toNat
 ((0 : Int), (0 : Int), (0 : Int))).snd.fst =
 (x.fst.getD g.snd.snd.snd.fst.toNat
 ((0 : Int), (0 : Int), (0 : Int))).snd.fst ∧
 (x.fst.getD g.snd.snd.snd.fst.toNat
 ((0 : Int), (0 : Int), (0 : Int))).snd.snd =
 (x.fst.getD g.snd.snd.snd.fst.toNat
 ((0 : Int), (0 : Int), (0 : Int))).snd.snd ∧
 True) ∧
 True) ∧
 (True ∧ True) ∧
 ((x.fst.getD g.snd.snd.snd.fst.toNat ((0 : Int), (0 : Int), (0 : Int))).fst =
 (x.fst.getD g.snd.snd.snd.fst.toNat
 ((0 : Int), (0 : Int), (0 : Int))).fst ∧
 (x.fst.getD g.snd.snd.snd.fst.toNat
 ((0 : Int), (0 : Int), (0 : Int))).snd.fst =
 (x.fst.getD g.snd.snd.snd.fst.toNat
 ((0 : Int), (0 : Int), (0 : Int))).snd.fst ∧
 (x.fst.getD g.snd.snd.snd.fst.toNat
 ((0 : Int), (0 : Int), (0 : Int))).snd.snd =
 (x.fst.getD g.snd.snd.snd.fst.toNat
 ((0 : Int), (0 : Int), (0 : Int))).snd.snd ∧
 True) ∧
 True ∧
 (True ∧ True) ∧
 (0 : Int) = (0 : Int) ∧
 True ∧
 (True ∧ True) ∧
 (x.fst.getD g.snd.snd.snd.fst.toNat
 ((0 : Int), (0 : Int), (0 : Int))).fst =
 (x.fst.getD g.snd.snd.snd.fst.toNat
 ((0 : Int), (0 : Int), (0 : Int))).fst ∧
 decide
 ((x.fst.getD g.snd.snd.snd.fst.toNat
 ((0 : Int), (0 : Int), (0 : Int))).fst <
 (1 : Int)) =
 decide
 ((x.fst.getD g.snd.snd.snd.fst.toNat
 ((0 : Int), (0 : Int), (0 : Int))).fst <
 (1 : Int)) ∧
 decide
 ((x.fst.getD g.snd.snd.snd.fst.toNat
 ((0 : Int), (0 : Int), (0 : Int))).fst <
 (1 : Int)) =
 decide
 ((x.fst.getD g.snd.snd.snd.fst.toNat
 ((0 : Int), (0 : Int), (0 : Int))).fst <
 (1 : Int)) ∧
 True ∧
 True ∧
 True ∧
 false = false ∧
 (True ∧ True) ∧
 (x.fst.getD g.snd.snd.snd.fst.toNat
 ((0 : Int), (0 : Int), (0 : Int))).fst =
 (x.fst.getD g.snd.snd.snd.fst.toNat
 ((0 : Int), (0 : Int), (0 : Int))).fst ∧
 true = true ∧
 (True ∧ True) ∧
 (True ∧ True) ∧
 (x.fst.getD g.snd.snd.snd.fst.toNat
 ((0 : Int), (0 : Int),
 (0 : Int))).snd.snd =
 (x.fst.getD g.snd.snd.snd.fst.toNat
 ((0 : Int), (0 : Int),
 (0 : Int))).snd.snd ∧
 false = false ∧
 (True ∧ True) ∧
 (True ∧ True) ∧
 (True ∧ True) ∧
 (True ∧ True) ∧
 True ∧
 (True ∧ True) ∧
 (x.fst.getD
 g.snd.snd.snd.fst.toNat
 ((0 : Int),
 (0 : Int),
 (0 :
 Int))).snd.snd =
 (x.fst.getD
 g.snd.snd.snd.fst.toNat
 ((0 : Int),
 (0 : Int),
 (0 :
 Int))).snd.snd ∧
 (True ∧ True) ∧
 (True ∧ True) ∧
 (True ∧ True) ∧
 (g.fst.fst =
 g.fst.fst ∧
 True) ∧
 ((x.fst.getD
 g.snd.snd.snd.fst.toNat
 ((0 :
 Int),
 (0 :
 Int),
 (0 :
 Int))).snd.snd =
 (x.fst.getD
 g.snd.snd.snd.fst.toNat
 ((0 :
 Int),
 (0 :
 Int),
 (0 :
 Int))).snd.snd ∧
 g.fst.fst =
 g.fst.fst ∧
 True) ∧
 True ∧
 True ∧
 (True ∧
 True) ∧
 (True ∧
 True) ∧
 (True ∧
 True) ∧
 True ∧
 True ∧
 True ∧
 True ∧
 True ∧
 True ∧
 True ∧
 True ∧
 True ∧
 True ∧
 True ∧
 True ∧
 True ∧
 True ∧
 True ∧
 True ∧
 True ∧
 True ∧
 True ∧
 True ∧
 True ∧
 True ∧
 True ∧
 True ∧
 True ∧
 True ∧
 True ∧
 True ∧
 True ∧
 True ∧
 True ∧
 True ∧
 True ∧
 True ∧
 True ∧
 True ∧
 True ∧
 True ∧
 True ∧
 True ∧
 True ∧
 True ∧
 True ∧
 True ∧
 True ∧
 True ∧
 True ∧
 True ∧
 True ∧
 True ∧
 True ∧
 True ∧
 True ∧
 True ∧
 True ∧
 True ∧
 True ∧
 True ∧
 True ∧
 True ∧
 True ∧
 True ∧
 True ∧
 True ∧
 True ∧
 True ∧
 True ∧
 True ∧
 True ∧
 True ∧
 True ∧
 True ∧
 True ∧
 True ∧
 True ∧
 True ∧
 (True ∧
 True) ∧
 True ∧
 True ∧
 Value.slice
 none
 (0 :
 Nat)
 (0 :
 Nat) =
 Value.slice
 none
 (0 :
 Nat)
 (0 :
 Nat) ∧
 True ∧
 (True ∧
 True) ∧
 True ∧
 True ∧
 True ∧
 True ∧
 x.fst =
 x.fst ∧
 (↑x.fst.length :
 Int) =
 (↑x.fst.length :
 Int) ∧
 g.snd.snd.snd.fst =
 g.snd.snd.snd.fst ∧
 true =
 true ∧
 True ∧
 ((x.fst.getD
 g.snd.snd.snd.fst.toNat
 ((0 :
 Int),
 (0 :
 Int),
 (0 :
 Int))).fst =
 (x.fst.getD
 g.snd.snd.snd.fst.toNat
 ((0 :
 Int),
 (0 :
 Int),
 (0 :
 Int))).fst ∧
 (x.fst.getD
 g.snd.snd.snd.fst.toNat
 ((0 :
 Int),
 (0 :
 Int),
 (0 :
 Int))).snd.fst =
 (x.fst.getD
 g.snd.snd.snd.fst.toNat
 ((0 :
 Int),
 (0 :
 Int),
 (0 :
 Int))).snd.fst ∧
 (x.fst.getD
 g.snd.snd.snd.fst.toNat
 ((0 :
 Int),
 (0 :
 Int),
 (0 :
 Int))).snd.snd =
 (x.fst.getD
 g.snd.snd.snd.fst.toNat
 ((0 :
 Int),
 (0 :
 Int),
 (0 :
 Int))).snd.snd ∧
 True) ∧
 True ∧
 (True ∧
 True) ∧
 ((x.fst.getD
 g.snd.snd.snd.fst.toNat
 ((0 :
 Int),
 (0 :
 Int),
 (0 :
 Int))).fst =
 (x.fst.getD
 g.snd.snd.snd.fst.toNat
 ((0 :
 Int),
 (0 :
 Int),
 (0 :
 Int))).fst ∧
 (x.fst.getD
 g.snd.snd.snd.fst.toNat
 ((0 :
 Int),
 (0 :
 Int),
 (0 :
 Int))).snd.fst =
 (x.fst.getD
 g.snd.snd.snd.fst.toNat
 ((0 :
 Int),
 (0 :
 Int),
 (0 :
 Int))).snd.fst ∧
 (x.fst.getD
 g.snd.snd.snd.fst.toNat
 ((0 :
 Int),
 (0 :
 Int),
 (0 :
 Int))).snd.snd =
 (x.fst.getD
 g.snd.snd.snd.fst.toNat
 ((0 :
 Int),
 (0 :
 Int),
 (0 :
 Int))).snd.snd ∧
 True) ∧
 True ∧
 True ∧
 True ∧
 True ∧
 True ∧
 True ∧
 True ∧
 True ∧
 True ∧
 True ∧
 True ∧
 True ∧
 True ∧
 True ∧
 True ∧
 True ∧
 True ∧
 True ∧
 True ∧
 True ∧
 True ∧
 True ∧
 True ∧
 True ∧
 True ∧
 True ∧
 True ∧
 True ∧
 True ∧
 True ∧
 True ∧
 True ∧
 True ∧
 True ∧
 True) ∧
 (deq (Ty.arr (8 : Nat) Ty.bool)
 ((g.fst.snd.fst ++
 (((0 : Int),
 false ::
 false ::
 false ::
 false ::
 false :: false :: false :: false :: ([] : List Bool)) ::
 ([] : List (Int × List Bool))).set
 (0 : Nat)
 ((x.fst.getD g.snd.snd.snd.fst.toNat
 ((0 : Int), (0 : Int), (0 : Int))).snd.snd,
 g.fst.fst)).getD
 g_2.snd.snd.fst.toNat
 ((0 : Int),
 false ::
 false ::
 false :: false :: false :: false :: false :: false :: ([] : List Bool))).snd
 (false ::
 false :: false :: false :: false :: false :: false :: false :: ([] : List Bool)) =
 false →
 (g_2.snd.fst.length +
 ((((0 : Int),
 false ::
 false ::
 false ::
 false :: false :: false :: false :: false :: ([] : List Bool)) ::
 ([] : List (Int × List Bool))).set
 (0 : Nat)
 (((g.fst.snd.fst ++
 (((0 : Int),
 false ::
 false ::
 false ::
 false ::
 false ::
 false :: false :: false :: ([] : List Bool)) ::
 ([] : List (Int × List Bool))).set
 (0 : Nat)
 ((x.fst.getD g.snd.snd.snd.fst.toNat
 ((0 : Int), (0 : Int), (0 : Int))).snd.snd,
 g.fst.fst)).getD
 g_2.snd.snd.fst.toNat
 ((0 : Int),
 false ::
 false ::
 false ::
 false ::
 false :: false :: false :: false :: ([] : List Bool))).fst,
 ((g.fst.snd.fst ++
 (((0 : Int),
 false ::
 false ::
 false ::
 false ::
 false ::
 false :: false :: false :: ([] : List Bool)) ::
 ([] : List (Int × List Bool))).set
 (0 : Nat)
 ((x.fst.getD g.snd.snd.snd.fst.toNat
 ((0 : Int), (0 : Int), (0 : Int))).snd.snd,
 g.fst.fst)).getD
 g_2.snd.snd.fst.toNat
 ((0 : Int),
 false ::
 false ::
 false ::
 false ::
 false ::
 false :: false :: false :: ([] : List Bool))).snd)).length ≤
 (9223372036854775807 : Nat) ∧
 (g_2.snd.fst.length +
 ((((0 : Int),
 false ::
 false ::
 false ::
 false ::
 false :: false :: false :: false :: ([] : List Bool)) ::
 ([] : List (Int × List Bool))).set
 (0 : Nat)
 (((g.fst.snd.fst ++
 (((0 : Int),
 false ::
 false ::
 false ::
 false ::
 false ::
 false ::
 false :: false :: ([] : List Bool)) ::
 ([] : List (Int × List Bool))).set
 (0 : Nat)
 ((x.fst.getD g.snd.snd.snd.fst.toNat
 ((0 : Int), (0 : Int), (0 : Int))).snd.snd,
 g.fst.fst)).getD
 g_2.snd.snd.fst.toNat
 ((0 : Int),
 false ::
 false ::
 false ::
 false ::
 false ::
 false :: false :: false :: ([] : List Bool))).fst,
 ((g.fst.snd.fst ++
 (((0 : Int),
 false ::
 false ::
 false ::
 false ::
 false ::
 false ::
 false :: false :: ([] : List Bool)) ::
 ([] : List (Int × List Bool))).set
 (0 : Nat)
 ((x.fst.getD g.snd.snd.snd.fst.toNat
 ((0 : Int), (0 : Int), (0 : Int))).snd.snd,
 g.fst.fst)).getD
 g_2.snd.snd.fst.toNat
 ((0 : Int),
 false ::
 false ::
 false ::
 false ::
 false ::
 false ::
 false :: false :: ([] : List Bool))).snd)).length +
 (g_2.snd.fst.length +
 ((((0 : Int),
 false ::
 false ::
 false ::
 false ::
 false :: false :: false :: false :: ([] : List Bool)) ::
 ([] : List (Int × List Bool))).set
 (0 : Nat)
 (((g.fst.snd.fst ++
 (((0 : Int),
 false ::
 false ::
 false ::
 false ::
 false ::
 false ::
 false :: false :: ([] : List Bool)) ::
 ([] : List (Int × List Bool))).set
 (0 : Nat)
 ((x.fst.getD g.snd.snd.snd.fst.toNat
 ((0 : Int), (0 : Int), (0 : Int))).snd.snd,
 g.fst.fst)).getD
 g_2.snd.snd.fst.toNat
 ((0 : Int),
 false ::
 false ::
 false ::
 false ::
 false ::
 false :: false :: false :: ([] : List Bool))).fst,
 ((g.fst.snd.fst ++
 (((0 : Int),
 false ::
 false ::
 false ::
 false ::
 false ::
 false ::
 false :: false :: ([] : List Bool)) ::
 ([] : List (Int × List Bool))).set
 (0 : Nat)
 ((x.fst.getD g.snd.snd.snd.fst.toNat
 ((0 : Int), (0 : Int), (0 : Int))).snd.snd,
 g.fst.fst)).getD
 g_2.snd.snd.fst.toNat
 ((0 : Int),
 false ::
 false ::
 false ::
 false ::
 false ::
 false ::
 false ::
 false :: ([] : List Bool))).snd)).length) /
 (4 : Nat) +
 (192 : Nat)) *
 (16 : Nat) ≤
 (281474976710656 : Nat)) ∧
 ((-9223372036854775808 : Int) ≤ g_2.snd.snd.fst + (1 : Int) ∧
 g_2.snd.snd.fst + (1 : Int) ≤ (9223372036854775807 : Int)) ∧
 (((0 : Int) ≤ g_2.snd.snd.fst + (1 : Int) ∧
 g_2.snd.snd.fst + (1 : Int) ≤
 (↑((List.brecOn.go (motive := fun x ↦
 List (Int × List Bool) → List (Int × List Bool)) g.fst.snd.fst
 List.append._f).1
 ((((0 : Int),
 false ::
 false ::
 false ::
 false ::
 false ::
 false :: false :: false :: ([] : List Bool)) ::
 ([] : List (Int × List Bool))).set
 (0 : Nat)
 ((x.fst.getD g.snd.snd.snd.fst.toNat
 ((0 : Int), (0 : Int), (0 : Int))).snd.snd,
 g.fst.fst))).length :
 Int) ∧
 g_2.fst.fst = g.fst.1 ∧
 g_2.fst.snd.snd =
 g.fst.snd.2 ++
 ff
 (List.take (g_2.snd.snd.fst + (1 : Int)).toNat
 ((List.brecOn.go (motive := fun x ↦
 List (Int × List Bool) → List (Int × List Bool))
 g.fst.snd.fst List.append._f).1
 ((((0 : Int),
 false ::
 false ::
 false ::
 false ::
 false ::
 false ::
 false :: false :: ([] : List Bool)) ::
 ([] : List (Int × List Bool))).set
 (0 : Nat)
 ((x.fst.getD g.snd.snd.snd.fst.toNat
 ((0 : Int), (0 : Int), (0 : Int))).snd.snd,
 g.fst.fst)))) ∧
 g_2.snd.fst ++
 (((0 : Int),
 false ::
 false ::
 false ::
 false ::
 false ::
 false :: false :: false :: ([] : List Bool)) ::
 ([] : List (Int × List Bool))).set
 (0 : Nat)
 (((g.fst.snd.fst ++
 (((0 : Int),
 false ::
 false ::
 false ::
 false ::
 false ::
 false ::
 false :: false :: ([] : List Bool)) ::
 ([] : List (Int × List Bool))).set
 (0 : Nat)
 ((x.fst.getD g.snd.snd.snd.fst.toNat
 ((0 : Int), (0 : Int), (0 : Int))).snd.snd,
 g.fst.fst)).getD
 g_2.snd.snd.fst.toNat
 ((0 : Int),
 false ::
 false ::
 false ::
 false ::
 false ::
 false :: false :: false :: ([] : List Bool))).fst,
 ((g.fst.snd.fst ++
 (((0 : Int),
 false ::
 false ::
 false ::
 false ::
 false ::
 false ::
 false :: false :: ([] : List Bool)) ::
 ([] : List (Int × List Bool))).set
 (0 : Nat)
 ((x.fst.getD g.snd.snd.snd.fst.toNat
 ((0 : Int), (0 : Int), (0 : Int))).snd.snd,
 g.fst.fst)).getD
 g_2.snd.snd.fst.toNat
 ((0 : Int),
 false ::
 false ::
 false ::
 false ::
 false ::
 false ::
 false :: false :: ([] : List Bool))).snd) =
 lf
 (List.take (g_2.snd.snd.fst + (1 : Int)).toNat
 ((List.brecOn.go (motive := fun x ↦
 List (Int × List Bool) → List (Int × List Bool)) g.fst.snd.fst
 List.append._f).1
 ((((0 : Int),
 false ::
 false ::
 false ::
 false ::
 false ::
 false :: false :: false :: ([] : List Bool)) ::
 ([] : List (Int × List Bool))).set
 (0 : Nat)
 ((x.fst.getD g.snd.snd.snd.fst.toNat
 ((0 : Int), (0 : Int), (0 : Int))).snd.snd,
 g.fst.fst))))) ∧
 ((↑((List.brecOn.go (motive := fun x ↦
 List (Int × List Bool) → List (Int × List Bool)) g.fst.snd.fst
 List.append._f).1
 ((((0 : Int),
 false ::
 false ::
 false ::
 false ::
 false ::
 false :: false :: false :: ([] : List Bool)) ::
 ([] : List (Int × List Bool))).set
 (0 : Nat)
 ((x.fst.getD g.snd.snd.snd.fst.toNat
 ((0 : Int), (0 : Int), (0 : Int))).snd.snd,
 g.fst.fst))).length :
 Int) -
 (g_2.snd.snd.fst + (1 : Int))).toNat <
 ((↑((List.brecOn.go (motive := fun x ↦
 List (Int × List Bool) → List (Int × List Bool)) g.fst.snd.fst
 List.append._f).1
 ((((0 : Int),
 false ::
 false ::
 false ::
 false ::
 false ::
 false :: false :: false :: ([] : List Bool)) ::
 ([] : List (Int × List Bool))).set
 (0 : Nat)
 ((x.fst.getD g.snd.snd.snd.fst.toNat
 ((0 : Int), (0 : Int), (0 : Int))).snd.snd,
 g.fst.fst))).length :
 Int) -
 g_2.snd.snd.fst).toNat) ∧
 ((True ∧ True) ∧
 True ∧
 True ∧
 (↑(g.fst.snd.fst ++
 (((0 : Int),
 false ::
 false ::
 false ::
 false ::
 false ::
 false ::
 false :: false :: ([] : List Bool)) ::
 ([] : List (Int × List Bool))).set
 (0 : Nat)
 ((x.fst.getD g.snd.snd.snd.fst.toNat
 ((0 : Int), (0 : Int), (0 : Int))).snd.snd,
 g.fst.fst)).length :
 Int) =
 (↑(g.fst.snd.fst ++
 (((0 : Int),
 false ::
 false ::
 false ::
 false ::
 false ::
 false ::
 false :: false :: ([] : List Bool)) ::
 ([] : List (Int × List Bool))).set
 (0 : Nat)
 ((x.fst.getD g.snd.snd.snd.fst.toNat
 ((0 : Int), (0 : Int), (0 : Int))).snd.snd,
 g.fst.fst)).length :
 Int) ∧
 g_2.snd.snd.fst + (1 : Int) = g_2.snd.snd.fst + (1 : Int) ∧ True) ∧
 ((g_2.fst.fst = g_2.fst.fst ∧ True ∧ True ∧ True) ∧
 g_2.fst.snd.snd = g_2.fst.snd.snd ∧
 g_2.snd.fst ++
 (((0 : Int),
 false ::
 false ::
 false ::
 false ::
 false ::
 false :: false :: false :: ([] : List Bool)) ::
 ([] : List (Int × List Bool))).set
 (0 : Nat)
 (((g.fst.snd.fst ++
 (((0 : Int),
 false ::
 false ::
 false ::
 false ::
 false ::
 false ::
 false :: false :: ([] : List Bool)) ::
 ([] : List (Int × List Bool))).set
 (0 : Nat)
 ((x.fst.getD g.snd.snd.snd.fst.toNat
 ((0 : Int), (0 : Int), (0 : Int))).snd.snd,
 g.fst.fst)).getD
 g_2.snd.snd.fst.toNat
 ((0 : Int),
 false ::
 false ::
 false ::
 false ::
 false ::
 false :: false :: false :: ([] : List Bool))).fst,
 ((g.fst.snd.fst ++
 (((0 : Int),
 false ::
 false ::
 false ::
 false ::
 false ::
 false ::
 false :: false :: ([] : List Bool)) ::
 ([] : List (Int × List Bool))).set
 (0 : Nat)
 ((x.fst.getD g.snd.snd.snd.fst.toNat
 ((0 : Int), (0 : Int), (0 : Int))).snd.snd,
 g.fst.fst)).getD
 g_2.snd.snd.fst.toNat
 ((0 : Int),
 false ::
 false ::
 false ::
 false ::
 false ::
 false ::
 false :: false :: ([] : List Bool))).snd) =
 g_2.snd.fst ++
 (((0 : Int),
 false ::
 false ::
 false ::
 false ::
 false ::
 false :: false :: false :: ([] : List Bool)) ::
 ([] : List (Int × List Bool))).set
 (0 : Nat)
 (((g.fst.snd.fst ++
 (((0 : Int),
 false ::
 false ::
 false ::
 false ::
 false ::
 false ::
 false :: false :: ([] : List Bool)) ::
 ([] : List (Int × List Bool))).set
 (0 : Nat)
 ((x.fst.getD g.snd.snd.snd.fst.toNat
 ((0 : Int), (0 : Int), (0 : Int))).snd.snd,
 g.fst.fst)).getD
 g_2.snd.snd.fst.toNat
 ((0 : Int),
 false ::
 false ::
 false ::
 false ::
 false ::
 false :: false :: false :: ([] : List Bool))).fst,
 ((g.fst.snd.fst ++
 (((0 : Int),
 false ::
 false ::
 false ::
 false ::
 false ::
 false ::
 false :: false :: ([] : List Bool)) ::
 ([] : List (Int × List Bool))).set
 (0 : Nat)
 ((x.fst.getD g.snd.snd.snd.fst.toNat
 ((0 : Int), (0 : Int), (0 : Int))).snd.snd,
 g.fst.fst)).getD
 g_2.snd.snd.fst.toNat
 ((0 : Int),
 false ::
 false ::
 false ::
 false ::
 false ::
 false ::
 false :: false :: ([] : List Bool))).snd) ∧
 ((x.fst.getD g.snd.snd.snd.fst.toNat
 ((0 : Int), (0 : Int), (0 : Int))).fst =
 (x.fst.getD g.snd.snd.snd.fst.toNat
 ((0 : Int), (0 : Int), (0 : Int))).fst ∧
 (x.fst.getD g.snd.snd.snd.fst.toNat
 ((0 : Int), (0 : Int), (0 : Int))).snd.fst =
 (x.fst.getD g.snd.snd.snd.fst.toNat
 ((0 : Int), (0 : Int), (0 : Int))).snd.fst ∧
 (x.fst.getD g.snd.snd.snd.fst.toNat
 ((0 : Int), (0 : Int), (0 : Int))).snd.snd =
 (x.fst.getD g.snd.snd.snd.fst.toNat
 ((0 : Int), (0 : Int), (0 : Int))).snd.snd ∧
 True) ∧
 (((0 : Int),
 false ::
 false ::
 false ::
 false ::
 false ::
 false :: false :: false :: ([] : List Bool)) ::
 ([] : List (Int × List Bool))).set
 (0 : Nat)
 ((x.fst.getD g.snd.snd.snd.fst.toNat
 ((0 : Int), (0 : Int), (0 : Int))).snd.snd,
 g.fst.fst) =
 (((0 : Int),
 false ::
 false ::
 false ::
 false ::
 false ::
 false :: false :: false :: ([] : List Bool)) ::
 ([] : List (Int × List Bool))).set
 (0 : Nat)
 ((x.fst.getD g.snd.snd.snd.fst.toNat
 ((0 : Int), (0 : Int), (0 : Int))).snd.snd,
 g.fst.fst) ∧
 g.fst.snd.fst ++
 (((0 : Int),
 false ::
 false ::
 false ::
 false ::
 false ::
 false ::
 false :: false :: ([] : List Bool)) ::
 ([] : List (Int × List Bool))).set
 (0 : Nat)
 ((x.fst.getD g.snd.snd.snd.fst.toNat
 ((0 : Int), (0 : Int), (0 : Int))).snd.snd,
 g.fst.fst) =
 g.fst.snd.fst ++
 (((0 : Int),
 false ::
 false ::
 false ::
 false ::
 false ::
 false ::
 false :: false :: ([] : List Bool)) ::
 ([] : List (Int × List Bool))).set
 (0 : Nat)
 ((x.fst.getD g.snd.snd.snd.fst.toNat
 ((0 : Int), (0 : Int), (0 : Int))).snd.snd,
 g.fst.fst) ∧
 g.snd.fst = g.snd.fst ∧
 g.snd.snd.fst = g.snd.snd.fst ∧
 ((x.fst.getD g.snd.snd.snd.fst.toNat
 ((0 : Int), (0 : Int), (0 : Int))).fst =
 (x.fst.getD g.snd.snd.snd.fst.toNat
 ((0 : Int), (0 : Int), (0 : Int))).fst ∧
 (x.fst.getD g.snd.snd.snd.fst.toNat
 ((0 : Int), (0 : Int), (0 : Int))).snd.fst =
 (x.fst.getD g.snd.snd.snd.fst.toNat
 ((0 : Int), (0 : Int), (0 : Int))).snd.fst ∧
 (x.fst.getD g.snd.snd.snd.fst.toNat
 ((0 : Int), (0 : Int), (0 : Int))).snd.snd =
 (x.fst.getD g.snd.snd.snd.fst.toNat
 ((0 : Int), (0 : Int), (0 : Int))).snd.snd ∧
 True) ∧
 True) ∧
 (True ∧ True) ∧
 ((x.fst.getD g.snd.snd.snd.fst.toNat ((0 : Int), (0 : Int), (0 : Int))).fst =
 (x.fst.getD g.snd.snd.snd.fst.toNat
 ((0 : Int), (0 : Int), (0 : Int))).fst ∧
 (x.fst.getD g.snd.snd.snd.fst.toNat
 ((0 : Int), (0 : Int), (0 : Int))).snd.fst =
 (x.fst.getD g.snd.snd.snd.fst.toNat
 ((0 : Int), (0 : Int), (0 : Int))).snd.fst ∧
 (x.fst.getD g.snd.snd.snd.fst.toNat
 ((0 : Int), (0 : Int), (0 : Int))).snd.snd =
 (x.fst.getD g.snd.snd.snd.fst.toNat
 ((0 : Int), (0 : Int), (0 : Int))).snd.snd ∧
 True) ∧
 True ∧
 (True ∧ True) ∧
 (0 : Int) = (0 : Int) ∧
 True ∧
 (True ∧ True) ∧
 (x.fst.getD g.snd.snd.snd.fst.toNat
 ((0 : Int), (0 : Int), (0 : Int))).fst =
 (x.fst.getD g.snd.snd.snd.fst.toNat
 ((0 : Int), (0 : Int), (0 : Int))).fst ∧
 decide
 ((x.fst.getD g.snd.snd.snd.fst.toNat
 ((0 : Int), (0 : Int), (0 : Int))).fst <
 (1 : Int)) =
 decide
 ((x.fst.getD g.snd.snd.snd.fst.toNat
 ((0 : Int), (0 : Int), (0 : Int))).fst <
 (1 : Int)) ∧
 decide
 ((x.fst.getD g.snd.snd.snd.fst.toNat
 ((0 : Int), (0 : Int), (0 : Int))).fst <
 (1 : Int)) =
 decide
 ((x.fst.getD g.snd.snd.snd.fst.toNat
 ((0 : Int), (0 : Int), (0 : Int))).fst <
 (1 : Int)) ∧
 True ∧
 True ∧
 True ∧
 false = false ∧
 (True ∧ True) ∧
 (x.fst.getD g.snd.snd.snd.fst.toNat
 ((0 : Int), (0 : Int), (0 : Int))).fst =
 (x.fst.getD g.snd.snd.snd.fst.toNat
 ((0 : Int), (0 : Int), (0 : Int))).fst ∧
 true = true ∧
 (True ∧ True) ∧
 (True ∧ True) ∧
 (x.fst.getD g.snd.snd.snd.fst.toNat
 ((0 : Int), (0 : Int),
 (0 : Int))).snd.snd =
 (x.fst.getD g.snd.snd.snd.fst.toNat
 ((0 : Int), (0 : Int),
 (0 : Int))).snd.snd ∧
 false = false ∧
 (True ∧ True) ∧
 (True ∧ True) ∧
 (True ∧ True) ∧
 (True ∧ True) ∧
 True ∧
 (True ∧ True) ∧
 (x.fst.getD
 g.snd.snd.snd.fst.toNat
 ((0 : Int),
 (0 : Int),
 (0 :
 Int))).snd.snd =
 (x.fst.getD
 g.snd.snd.snd.fst.toNat
 ((0 : Int),
 (0 : Int),
 (0 :
 Int))).snd.snd ∧
 (True ∧ True) ∧
 (True ∧ True) ∧
 (True ∧ True) ∧
 (g.fst.fst =
 g.fst.fst ∧
 True) ∧
 ((x.fst.getD
 g.snd.snd.snd.fst.toNat
 ((0 :
 Int),
 (0 :
 Int),
 (0 :
 Int))).snd.snd =
 (x.fst.getD
 g.snd.snd.snd.fst.toNat
 ((0 :
 Int),
 (0 :
 Int),
 (0 :
 Int))).snd.snd ∧
 g.fst.fst =
 g.fst.fst ∧
 True) ∧
 True ∧
 True ∧
 (True ∧
 True) ∧
 (True ∧
 True) ∧
 (True ∧
 True) ∧
 True ∧
 True ∧
 True ∧
 True ∧
 True ∧
 True ∧
 True ∧
 True ∧
 True ∧
 True ∧
 True ∧
 True ∧
 True ∧
 True ∧
 True ∧
 True ∧
 True ∧
 True ∧
 True ∧
 True ∧
 True ∧
 True ∧
 True ∧
 True ∧
 True ∧
 True ∧
 True ∧
 True ∧
 True ∧
 True ∧
 True ∧
 True ∧
 True ∧
 True ∧
 True ∧
 True ∧
 True ∧
 True ∧
 True ∧
 True ∧
 True ∧
 True ∧
 True ∧
 True ∧
 True ∧
 True ∧
 True ∧
 True ∧
 True ∧
 True ∧
 True ∧
 True ∧
 True ∧
 True ∧
 True ∧
 True ∧
 True ∧
 True ∧
 True ∧
 True ∧
 True ∧
 True ∧
 True ∧
 True ∧
 True ∧
 True ∧
 True ∧
 True ∧
 True ∧
 True ∧
 True ∧
 True ∧
 True ∧
 True ∧
 True ∧
 True ∧
 (True ∧
 True) ∧
 True ∧
 True ∧
 Value.slice
 none
 (0 :
 Nat)
 (0 :
 Nat) =
 Value.slice
 none
 (0 :
 Nat)
 (0 :
 Nat) ∧
 True ∧
 (True ∧
 True) ∧
 True ∧
 True ∧
 True ∧
 True ∧
 x.fst =
 x.fst ∧
 (↑x.fst.length :
 Int) =
 (↑x.fst.length :
 Int) ∧
 g.snd.snd.snd.fst =
 g.snd.snd.snd.fst ∧
 true =
 true ∧
 True ∧
 ((x.fst.getD
 g.snd.snd.snd.fst.toNat
 ((0 :
 Int),
 (0 :
 Int),
 (0 :
 Int))).fst =
 (x.fst.getD
 g.snd.snd.snd.fst.toNat
 ((0 :
 Int),
 (0 :
 Int),
 (0 :
 Int))).fst ∧
 (x.fst.getD
 g.snd.snd.snd.fst.toNat
 ((0 :
 Int),
 (0 :
 Int),
 (0 :
 Int))).snd.fst =
 (x.fst.getD
 g.snd.snd.snd.fst.toNat
 ((0 :
 Int),
 (0 :
 Int),
 (0 :
 Int))).snd.fst ∧
 (x.fst.getD
 g.snd.snd.snd.fst.toNat
 ((0 :
 Int),
 (0 :
 Int),
 (0 :
 Int))).snd.snd =
 (x.fst.getD
 g.snd.snd.snd.fst.toNat
 ((0 :
 Int),
 (0 :
 Int),
 (0 :
 Int))).snd.snd ∧
 True) ∧
 True ∧
 (True ∧
 True) ∧
 ((x.fst.getD
 g.snd.snd.snd.fst.toNat
 ((0 :
 Int),
 (0 :
 Int),
 (0 :
 Int))).fst =
 (x.fst.getD
 g.snd.snd.snd.fst.toNat
 ((0 :
 Int),
 (0 :
 Int),
 (0 :
 Int))).fst ∧
 (x.fst.getD
 g.snd.snd.snd.fst.toNat
 ((0 :
 Int),
 (0 :
 Int),
 (0 :
 Int))).snd.fst =
 (x.fst.getD
 g.snd.snd.snd.fst.toNat
 ((0 :
 Int),
 (0 :
 Int),
 (0 :
 Int))).snd.fst ∧
 (x.fst.getD
 g.snd.snd.snd.fst.toNat
 ((0 :
 Int),
 (0 :
 Int),
 (0 :
 Int))).snd.snd =
 (x.fst.getD
 g.snd.snd.snd.fst.toNat
 ((0 :
 Int),
 (0 :
 Int),
 (0 :
 Int))).snd.snd ∧
 True) ∧
 True ∧
 True ∧
 True ∧
 True ∧
 True ∧
 True ∧
 True ∧
 True ∧
 True ∧
 True ∧
 True ∧
 True ∧
 True ∧
 True ∧
 True ∧
 True ∧
 True ∧
 True ∧
 True ∧
 True ∧
 True ∧
 True ∧
 True ∧
 True ∧
 True ∧
 True ∧
 True ∧
 True ∧
 True ∧
 True ∧
 True ∧
 True ∧
 True ∧
 True ∧
 True)) ∧
 (decide
 (g_2.snd.snd.fst <
 (↑(g.fst.snd.fst ++
 (((0 : Int),
 false ::
 false ::
 false ::
 false :: false :: false :: false :: false :: ([] : List Bool)) ::
 ([] : List (Int × List Bool))).set
 (0 : Nat)
 ((x.fst.getD g.snd.snd.snd.fst.toNat ((0 : Int), (0 : Int), (0 : Int))).snd.snd,
 g.fst.fst)).length :
 Int)) =
 false →
 (g.snd.fst.length + (((0 : Int) :: ([] : List Int)).set (0 : Nat) (0 : Int)).length ≤
 (9223372036854775807 : Nat) ∧
 (g.snd.fst.length + (((0 : Int) :: ([] : List Int)).set (0 : Nat) (0 : Int)).length +
 (g.snd.fst.length +
 (((0 : Int) :: ([] : List Int)).set (0 : Nat) (0 : Int)).length) /
 (4 : Nat) +
 (192 : Nat)) *
 (8 : Nat) ≤
 (281474976710656 : Nat)) ∧
 (g.snd.snd.fst.length +
 (((0 : Int) :: ([] : List Int)).set (0 : Nat)
 (↑g_2.fst.snd.snd.length : Int)).length ≤
 (9223372036854775807 : Nat) ∧
 (g.snd.snd.fst.length +
 (((0 : Int) :: ([] : List Int)).set (0 : Nat)
 (↑g_2.fst.snd.snd.length : Int)).length +
 (g.snd.snd.fst.length +
 (((0 : Int) :: ([] : List Int)).set (0 : Nat)
 (↑g_2.fst.snd.snd.length : Int)).length) /
 (4 : Nat) +
 (192 : Nat)) *
 (8 : Nat) ≤
 (281474976710656 : Nat)) ∧
 ((-9223372036854775808 : Int) ≤ g.snd.snd.snd.fst + (1 : Int) ∧
 g.snd.snd.snd.fst + (1 : Int) ≤ (9223372036854775807 : Int)) ∧
 (((0 : Int) ≤ g.snd.snd.snd.fst + (1 : Int) ∧
 g.snd.snd.snd.fst + (1 : Int) ≤ (↑x.fst.length : Int) ∧
 pl (List.take (g.snd.snd.snd.fst + (1 : Int)).toNat x.fst) =
 ((g_2.fst.fst, g_2.snd.fst, g_2.fst.snd.snd),
 g.snd.fst ++ ((0 : Int) :: ([] : List Int)).set (0 : Nat) (0 : Int),
 g.snd.snd.fst ++
 ((0 : Int) :: ([] : List Int)).set (0 : Nat)
 (↑g_2.fst.snd.snd.length : Int)) ∧
 (↑g_2.snd.fst.length : Int) + (↑g_2.fst.snd.snd.length : Int) ≤
 g.snd.snd.snd.fst + (1 : Int) ∧
 (↑(g.snd.fst ++
 ((0 : Int) :: ([] : List Int)).set (0 : Nat) (0 : Int)).length :
 Int) =
 g.snd.snd.snd.fst + (1 : Int) ∧
 (↑(g.snd.snd.fst ++
 ((0 : Int) :: ([] : List Int)).set (0 : Nat)
 (↑g_2.fst.snd.snd.length : Int)).length :
 Int) =
 g.snd.snd.snd.fst + (1 : Int)) ∧
 ((↑x.fst.length : Int) - (g.snd.snd.snd.fst + (1 : Int))).toNat <
 ((↑x.fst.length : Int) - g.snd.snd.snd.fst).toNat) ∧
 ((True ∧ True) ∧
 True ∧
 True ∧
 Value.slice none (0 : Nat) (0 : Nat) = Value.slice none (0 : Nat) (0 : Nat) ∧
 x.fst = x.fst ∧
 (↑x.fst.length : Int) = (↑x.fst.length : Int) ∧
 g.snd.snd.snd.fst + (1 : Int) = g.snd.snd.snd.fst + (1 : Int) ∧ True) ∧
 ((g_2.fst.fst = g_2.fst.fst ∧ True ∧ True ∧ True) ∧
 g_2.snd.fst = g_2.snd.fst ∧
 g_2.fst.snd.snd = g_2.fst.snd.snd ∧
 g.snd.fst ++ ((0 : Int) :: ([] : List Int)).set (0 : Nat) (0 : Int) =
 g.snd.fst ++ ((0 : Int) :: ([] : List Int)).set (0 : Nat) (0 : Int) ∧
 g.snd.snd.fst ++
 ((0 : Int) :: ([] : List Int)).set (0 : Nat)
 (↑g_2.fst.snd.snd.length : Int) =
 g.snd.snd.fst ++
 ((0 : Int) :: ([] : List Int)).set (0 : Nat)
 (↑g_2.fst.snd.snd.length : Int) ∧
 True) ∧
 True))) ∧
 (((x.fst.getD g.snd.snd.snd.fst.toNat ((0 : Int), (0 : Int), (0 : Int))).fst == (3 : Int)) = false →
 ((!decide ((x.fst.getD g.snd.snd.snd.fst.toNat ((0 : Int), (0 : Int), (0 : Int))).snd.fst < (0 : Int))) = true →
 (!decide ((x.fst.getD g.snd.snd.snd.fst.toNat ((0 : Int), (0 : Int), (0 : Int))).snd.fst < (0 : Int))) = true) ∧
 ((!decide ((x.fst.getD g.snd.snd.snd.fst.toNat ((0 : Int), (0 : Int), (0 : Int))).snd.fst < (0 : Int))) = true →
 (!decide ((x.fst.getD g.snd.snd.snd.fst.toNat ((0 : Int), (0 : Int), (0 : Int))).snd.fst < (0 : Int))) = true) ∧
 (decide ((x.fst.getD g.snd.snd.snd.fst.toNat ((0 : Int), (0 : Int), (0 : Int))).snd.fst < (0 : Int)) = false →
 (!decide ((x.fst.getD g.snd.snd.snd.fst.toNat ((0 : Int), (0 : Int), (0 : Int))).snd.fst < (0 : Int))) = true) ∧
 ((decide ((x.fst.getD g.snd.snd.snd.fst.toNat ((0 : Int), (0 : Int), (0 : Int))).snd.fst < (0 : Int)) ||
 decide ((8 : Int) ≤ (x.fst.getD g.snd.snd.snd.fst.toNat ((0 : Int), (0 : Int), (0 : Int))).snd.fst)) =
 true →
 (g.snd.fst.length + (((0 : Int) :: ([] : List Int)).set (0 : Nat) (2 : Int)).length ≤
 (9223372036854775807 : Nat) ∧
 (g.snd.fst.length + (((0 : Int) :: ([] : List Int)).set (0 : Nat) (2 : Int)).length +
 (g.snd.fst.length + (((0 : Int) :: ([] : List Int)).set (0 : Nat) (2 : Int)).length) / (4 : Nat) +
 (192 : Nat)) *
 (8 : Nat) ≤
 (281474976710656 : Nat)) ∧
 (g.snd.snd.fst.length + (((0 : Int) :: ([] : List Int)).set (0 : Nat) (↑g.fst.snd.snd.length : Int)).length ≤
 (9223372036854775807 : Nat) ∧
 (g.snd.snd.fst.length +
 (((0 : Int) :: ([] : List Int)).set (0 : Nat) (↑g.fst.snd.snd.length : Int)).length +
 (g.snd.snd.fst.length +
 (((0 : Int) :: ([] : List Int)).set (0 : Nat) (↑g.fst.snd.snd.length : Int)).length) /
 (4 : Nat) +
 (192 : Nat)) *
 (8 : Nat) ≤
 (281474976710656 : Nat)) ∧
 ((-9223372036854775808 : Int) ≤ g.snd.snd.snd.fst + (1 : Int) ∧
 g.snd.snd.snd.fst + (1 : Int) ≤ (9223372036854775807 : Int)) ∧
 (((0 : Int) ≤ g.snd.snd.snd.fst + (1 : Int) ∧
 g.snd.snd.snd.fst + (1 : Int) ≤ (↑x.fst.length : Int) ∧
 pl (List.take (g.snd.snd.snd.fst + (1 : Int)).toNat x.fst) =
 ((g.fst.fst, g.fst.snd.fst, g.fst.snd.snd),
 g.snd.fst ++ ((0 : Int) :: ([] : List Int)).set (0 : Nat) (2 : Int),
 g.snd.snd.fst ++
 ((0 : Int) :: ([] : List Int)).set (0 : Nat) (↑g.fst.snd.snd.length : Int)) ∧
 (↑g.fst.snd.fst.length : Int) + (↑g.fst.snd.snd.length : Int) ≤ g.snd.snd.snd.fst + (1 : Int) ∧
 (↑(g.snd.fst ++ ((0 : Int) :: ([] : List Int)).set (0 : Nat) (2 : Int)).length : Int) =
 g.snd.snd.snd.fst + (1 : Int) ∧
 (↑(g.snd.snd.fst ++
 ((0 : Int) :: ([] : List Int)).set (0 : Nat)
 (↑g.fst.snd.snd.length : Int)).length :
 Int) =
 g.snd.snd.snd.fst + (1 : Int)) ∧
 ((↑x.fst.length : Int) - (g.snd.snd.snd.fst + (1 : Int))).toNat <
 ((↑x.fst.length : Int) - g.snd.snd.snd.fst).toNat) ∧
 ((True ∧ True) ∧
 True ∧
 True ∧
 Value.slice none (0 : Nat) (0 : Nat) = Value.slice none (0 : Nat) (0 : Nat) ∧
 x.fst = x.fst ∧
 (↑x.fst.length : Int) = (↑x.fst.length : Int) ∧
 g.snd.snd.snd.fst + (1 : Int) = g.snd.snd.snd.fst + (1 : Int) ∧ True) ∧
 ((g.fst.fst = g.fst.fst ∧ True ∧ True ∧ True) ∧
 g.fst.snd.fst = g.fst.snd.fst ∧
 g.fst.snd.snd = g.fst.snd.snd ∧
 g.snd.fst ++ ((0 : Int) :: ([] : List Int)).set (0 : Nat) (2 : Int) =
 g.snd.fst ++ ((0 : Int) :: ([] : List Int)).set (0 : Nat) (2 : Int) ∧
 g.snd.snd.fst ++
 ((0 : Int) :: ([] : List Int)).set (0 : Nat) (↑g.fst.snd.snd.length : Int) =
 g.snd.snd.fst ++
 ((0 : Int) :: ([] : List Int)).set (0 : Nat) (↑g.fst.snd.snd.length : Int) ∧
 True) ∧
 True) ∧
 ((decide ((x.fst.getD g.snd.snd.snd.fst.toNat ((0 : Int), (0 : Int), (0 : Int))).snd.fst < (0 : Int)) ||
 decide ((8 : Int) ≤ (x.fst.getD g.snd.snd.snd.fst.toNat ((0 : Int), (0 : Int), (0 : Int))).snd.fst)) =
 false →
 (((x.fst.getD g.snd.snd.snd.fst.toNat ((0 : Int), (0 : Int), (0 : Int))).fst == (1 : Int)) = true →
 ((0 : Int) ≤ (x.fst.getD g.snd.snd.snd.fst.toNat ((0 : Int), (0 : Int), (0 : Int))).snd.fst ∧
 (x.fst.getD g.snd.snd.snd.fst.toNat ((0 : Int), (0 : Int), (0 : Int))).snd.fst < (↑(8 : Nat) : Int)) ∧
 (g.fst.fst.getD (x.fst.getD g.snd.snd.snd.fst.toNat ((0 : Int), (0 : Int), (0 : Int))).snd.fst.toNat
 false =
 true →
 (g.snd.fst.length + (((0 : Int) :: ([] : List Int)).set (0 : Nat) (6 : Int)).length ≤
 (9223372036854775807 : Nat) ∧
 (g.snd.fst.length + (((0 : Int) :: ([] : List Int)).set (0 : Nat) (6 : Int)).length +
 (g.snd.fst.length + (((0 : Int) :: ([] : List Int)).set (0 : Nat) (6 : Int)).length) /
 (4 : Nat) +
 (192 : Nat)) *
 (8 : Nat) ≤
 (281474976710656 : Nat)) ∧
 (g.snd.snd.fst.length +
 (((0 : Int) :: ([] : List Int)).set (0 : Nat) (↑g.fst.snd.snd.length : Int)).length ≤
 (9223372036854775807 : Nat) ∧
 (g.snd.snd.fst.length +
 (((0 : Int) :: ([] : List Int)).set (0 : Nat) (↑g.fst.snd.snd.length : Int)).length +
 (g.snd.snd.fst.length +
 (((0 : Int) :: ([] : List Int)).set (0 : Nat)
 (↑g.fst.snd.snd.length : Int)).length) /
 (4 : Nat) +
 (192 : Nat)) *
 (8 : Nat) ≤
 (281474976710656 : Nat)) ∧
 ((-9223372036854775808 : Int) ≤ g.snd.snd.snd.fst + (1 : Int) ∧
 g.snd.snd.snd.fst + (1 : Int) ≤ (9223372036854775807 : Int)) ∧
 (((0 : Int) ≤ g.snd.snd.snd.fst + (1 : Int) ∧
 g.snd.snd.snd.fst + (1 : Int) ≤ (↑x.fst.length : Int) ∧
 pl (List.take (g.snd.snd.snd.fst + (1 : Int)).toNat x.fst) =
 ((g.fst.fst, g.fst.snd.fst, g.fst.snd.snd),
 g.snd.fst ++ ((0 : Int) :: ([] : List Int)).set (0 : Nat) (6 : Int),
 g.snd.snd.fst ++
 ((0 : Int) :: ([] : List Int)).set (0 : Nat) (↑g.fst.snd.snd.length : Int)) ∧
 (↑g.fst.snd.fst.length : Int) + (↑g.fst.snd.snd.length : Int) ≤
 g.snd.snd.snd.fst + (1 : Int) ∧
 (↑(g.snd.fst ++ ((0 : Int) :: ([] : List Int)).set (0 : Nat) (6 : Int)).length :
 Int) =
 g.snd.snd.snd.fst + (1 : Int) ∧
 (↑(g.snd.snd.fst ++
 ((0 : Int) :: ([] : List Int)).set (0 : Nat)
 (↑g.fst.snd.snd.length : Int)).length :
 Int) =
 g.snd.snd.snd.fst + (1 : Int)) ∧
 ((↑x.fst.length : Int) - (g.snd.snd.snd.fst + (1 : Int))).toNat <
 ((↑x.fst.length : Int) - g.snd.snd.snd.fst).toNat) ∧
 ((True ∧ True) ∧
 True ∧
 True ∧
 Value.slice none (0 : Nat) (0 : Nat) = Value.slice none (0 : Nat) (0 : Nat) ∧
 x.fst = x.fst ∧
 (↑x.fst.length : Int) = (↑x.fst.length : Int) ∧
 g.snd.snd.snd.fst + (1 : Int) = g.snd.snd.snd.fst + (1 : Int) ∧ True) ∧
 ((g.fst.fst = g.fst.fst ∧ True ∧ True ∧ True) ∧
 g.fst.snd.fst = g.fst.snd.fst ∧
 g.fst.snd.snd = g.fst.snd.snd ∧
 g.snd.fst ++ ((0 : Int) :: ([] : List Int)).set (0 : Nat) (6 : Int) =
 g.snd.fst ++ ((0 : Int) :: ([] : List Int)).set (0 : Nat) (6 : Int) ∧
 g.snd.snd.fst ++
 ((0 : Int) :: ([] : List Int)).set (0 : Nat) (↑g.fst.snd.snd.length : Int) =
 g.snd.snd.fst ++
 ((0 : Int) :: ([] : List Int)).set (0 : Nat) (↑g.fst.snd.snd.length : Int) ∧
 True) ∧
 True) ∧
 (g.fst.fst.getD (x.fst.getD g.snd.snd.snd.fst.toNat ((0 : Int), (0 : Int), (0 : Int))).snd.fst.toNat
 false =
 false →
 (((x.fst.getD g.snd.snd.snd.fst.toNat ((0 : Int), (0 : Int), (0 : Int))).fst == (2 : Int)) = true →
 ((0 : Int) ≤ (x.fst.getD g.snd.snd.snd.fst.toNat ((0 : Int), (0 : Int), (0 : Int))).snd.fst ∧
 (x.fst.getD g.snd.snd.snd.fst.toNat ((0 : Int), (0 : Int), (0 : Int))).snd.fst <
 (↑(8 : Nat) : Int)) ∧
 ((!g.fst.fst.getD
 (x.fst.getD g.snd.snd.snd.fst.toNat ((0 : Int), (0 : Int), (0 : Int))).snd.fst.toNat
 false) =
 true →
 (g.snd.fst.length + (((0 : Int) :: ([] : List Int)).set (0 : Nat) (3 : Int)).length ≤
 (9223372036854775807 : Nat) ∧
 (g.snd.fst.length + (((0 : Int) :: ([] : List Int)).set (0 : Nat) (3 : Int)).length +
 (g.snd.fst.length +
 (((0 : Int) :: ([] : List Int)).set (0 : Nat) (3 : Int)).length) /
 (4 : Nat) +
 (192 : Nat)) *
 (8 : Nat) ≤
 (281474976710656 : Nat)) ∧
 (g.snd.snd.fst.length +
 (((0 : Int) :: ([] : List Int)).set (0 : Nat)
 (↑g.fst.snd.snd.length : Int)).length ≤
 (9223372036854775807 : Nat) ∧
 (g.snd.snd.fst.length +
 (((0 : Int) :: ([] : List Int)).set (0 : Nat)
 (↑g.fst.snd.snd.length : Int)).length +
 (g.snd.snd.fst.length +
 (((0 : Int) :: ([] : List Int)).set (0 : Nat)
 (↑g.fst.snd.snd.length : Int)).length) /
 (4 : Nat) +
 (192 : Nat)) *
 (8 : Nat) ≤
 (281474976710656 : Nat)) ∧
 ((-9223372036854775808 : Int) ≤ g.snd.snd.snd.fst + (1 : Int) ∧
 g.snd.snd.snd.fst + (1 : Int) ≤ (9223372036854775807 : Int)) ∧
 (((0 : Int) ≤ g.snd.snd.snd.fst + (1 : Int) ∧
 g.snd.snd.snd.fst + (1 : Int) ≤ (↑x.fst.length : Int) ∧
 pl (List.take (g.snd.snd.snd.fst + (1 : Int)).toNat x.fst) =
 ((g.fst.fst, g.fst.snd.fst, g.fst.snd.snd),
 g.snd.fst ++ ((0 : Int) :: ([] : List Int)).set (0 : Nat) (3 : Int),
 g.snd.snd.fst ++
 ((0 : Int) :: ([] : List Int)).set (0 : Nat)
 (↑g.fst.snd.snd.length : Int)) ∧
 (↑g.fst.snd.fst.length : Int) + (↑g.fst.snd.snd.length : Int) ≤
 g.snd.snd.snd.fst + (1 : Int) ∧
 (↑(g.snd.fst ++
 ((0 : Int) :: ([] : List Int)).set (0 : Nat)
 (3 : Int)).length :
 Int) =
 g.snd.snd.snd.fst + (1 : Int) ∧
 (↑(g.snd.snd.fst ++
 ((0 : Int) :: ([] : List Int)).set (0 : Nat)
 (↑g.fst.snd.snd.length : Int)).length :
 Int) =
 g.snd.snd.snd.fst + (1 : Int)) ∧
 ((↑x.fst.length : Int) - (g.snd.snd.snd.fst + (1 : Int))).toNat <
 ((↑x.fst.length : Int) - g.snd.snd.snd.fst).toNat) ∧
 ((True ∧ True) ∧
 True ∧
 True ∧
 Value.slice none (0 : Nat) (0 : Nat) =
 Value.slice none (0 : Nat) (0 : Nat) ∧
 x.fst = x.fst ∧
 (↑x.fst.length : Int) = (↑x.fst.length : Int) ∧
 g.snd.snd.snd.fst + (1 : Int) = g.snd.snd.snd.fst + (1 : Int) ∧
 True) ∧
 ((g.fst.fst = g.fst.fst ∧ True ∧ True ∧ True) ∧
 g.fst.snd.fst = g.fst.snd.fst ∧
 g.fst.snd.snd = g.fst.snd.snd ∧
 g.snd.fst ++ ((0 : Int) :: ([] : List Int)).set (0 : Nat) (3 : Int) =
 g.snd.fst ++ ((0 : Int) :: ([] : List Int)).set (0 : Nat) (3 : Int) ∧
 g.snd.snd.fst ++
 ((0 : Int) :: ([] : List Int)).set (0 : Nat)
 (↑g.fst.snd.snd.length : Int) =
 g.snd.snd.fst ++
 ((0 : Int) :: ([] : List Int)).set (0 : Nat)
 (↑g.fst.snd.snd.length : Int) ∧
 True) ∧
 True) ∧
 ((!g.fst.fst.getD
 (x.fst.getD g.snd.snd.snd.fst.toNat ((0 : Int), (0 : Int), (0 : Int))).snd.fst.toNat
 false) =
 false →
 ((0 : Int) ≤
 (x.fst.getD g.snd.snd.snd.fst.toNat ((0 : Int), (0 : Int), (0 : Int))).snd.fst ∧
 (x.fst.getD g.snd.snd.snd.fst.toNat ((0 : Int), (0 : Int), (0 : Int))).snd.fst <
 (↑(8 : Nat) : Int)) ∧
 (((x.fst.getD g.snd.snd.snd.fst.toNat ((0 : Int), (0 : Int), (0 : Int))).fst ==
 (2 : Int)) =
 true →
 ((((0 : Int) ≤ (0 : Int) ∧
 (0 : Int) ≤ (↑g.fst.snd.1.length : Int) ∧
 g.fst.fst.set
 (x.fst.getD g.snd.snd.snd.fst.toNat
 ((0 : Int), (0 : Int), (0 : Int))).snd.fst.toNat
 ((x.fst.getD g.snd.snd.snd.fst.toNat
 ((0 : Int), (0 : Int), (0 : Int))).fst ==
 (1 : Int)) =
 (List.brecOn.go (motive := fun x ↦ Nat → Bool → List Bool) g.fst.fst
 List.set._f).1
 (x.fst.getD g.snd.snd.snd.fst.toNat
 ((0 : Int), (0 : Int), (0 : Int))).snd.fst.toNat
 ((x.fst.getD g.snd.snd.snd.fst.toNat
 ((0 : Int), (0 : Int), (0 : Int))).fst ==
 (1 : Int)) ∧
 g.fst.snd.fst =
 List.map
 (clr
 (x.fst.getD g.snd.snd.snd.fst.toNat
 ((0 : Int), (0 : Int), (0 : Int))).snd.fst)
 (List.take (Int.toNat (0 : Int)) g.fst.snd.1) ++
 List.drop (Int.toNat (0 : Int)) g.fst.snd.1) ∧
 True) ∧
 ((True ∧ True) ∧
 (True ∧ True) ∧
 (↑g.fst.snd.fst.length : Int) = (↑g.fst.snd.fst.length : Int) ∧
 (0 : Int) = (0 : Int) ∧ True) ∧
 ((g.fst.fst.set
 (x.fst.getD g.snd.snd.snd.fst.toNat
 ((0 : Int), (0 : Int), (0 : Int))).snd.fst.toNat
 ((x.fst.getD g.snd.snd.snd.fst.toNat
 ((0 : Int), (0 : Int), (0 : Int))).fst ==
 (1 : Int)) =
 g.fst.fst.set
 (x.fst.getD g.snd.snd.snd.fst.toNat
 ((0 : Int), (0 : Int), (0 : Int))).snd.fst.toNat
 ((x.fst.getD g.snd.snd.snd.fst.toNat
 ((0 : Int), (0 : Int), (0 : Int))).fst ==
 (1 : Int)) ∧
 True ∧ True ∧ True) ∧
 g.fst.snd.fst = g.fst.snd.fst ∧
 g.snd.fst = g.snd.fst ∧
 g.snd.snd.fst = g.snd.snd.fst ∧
 ((x.fst.getD g.snd.snd.snd.fst.toNat
 ((0 : Int), (0 : Int), (0 : Int))).fst =
 (x.fst.getD g.snd.snd.snd.fst.toNat
 ((0 : Int), (0 : Int), (0 : Int))).fst ∧
 (x.fst.getD g.snd.snd.snd.fst.toNat
 ((0 : Int), (0 : Int), (0 : Int))).snd.fst =
 (x.fst.getD g.snd.snd.snd.fst.toNat
 ((0 : Int), (0 : Int), (0 : Int))).snd.fst ∧
 (x.fst.getD g.snd.snd.snd.fst.toNat
 ((0 : Int), (0 : Int), (0 : Int))).snd.snd =
 (x.fst.getD g.snd.snd.snd.fst.toNat
 ((0 : Int), (0 : Int), (0 : Int))).snd.snd ∧
 True) ∧
 g.fst.snd.snd = g.fst.snd.snd ∧
 ((x.fst.getD g.snd.snd.snd.fst.toNat
 ((0 : Int), (0 : Int), (0 : Int))).fst =
 (x.fst.getD g.snd.snd.snd.fst.toNat
 ((0 : Int), (0 : Int), (0 : Int))).fst ∧
 (x.fst.getD g.snd.snd.snd.fst.toNat
 ((0 : Int), (0 : Int), (0 : Int))).snd.fst =
 (x.fst.getD g.snd.snd.snd.fst.toNat
 ((0 : Int), (0 : Int), (0 : Int))).snd.fst ∧
 (x.fst.getD g.snd.snd.snd.fst.toNat
 ((0 : Int), (0 : Int), (0 : Int))).snd.snd =
 (x.fst.getD g.snd.snd.snd.fst.toNat
 ((0 : Int), (0 : Int), (0 : Int))).snd.snd ∧
 True) ∧
 True) ∧
 True ∧
 True ∧
 True ∧
 True ∧
 True ∧
 True ∧
 (True ∧ True) ∧
 True ∧
 True ∧
 Value.slice none (0 : Nat) (0 : Nat) =
 Value.slice none (0 : Nat) (0 : Nat) ∧
 True ∧
 (True ∧ True) ∧
 True ∧
 True ∧
 True ∧
 True ∧
 x.fst = x.fst ∧
 (↑x.fst.length : Int) =
 (↑x.fst.length : Int) ∧
 g.snd.snd.snd.fst = g.snd.snd.snd.fst ∧
 true = true ∧
 True ∧
 ((x.fst.getD g.snd.snd.snd.fst.toNat
 ((0 : Int), (0 : Int),
 (0 : Int))).fst =
 (x.fst.getD
 g.snd.snd.snd.fst.toNat
 ((0 : Int), (0 : Int),
 (0 : Int))).fst ∧
 (x.fst.getD
 g.snd.snd.snd.fst.toNat
 ((0 : Int), (0 : Int),
 (0 :
 Int))).snd.fst =
 (x.fst.getD
 g.snd.snd.snd.fst.toNat
 ((0 : Int), (0 : Int),
 (0 :
 Int))).snd.fst ∧
 (x.fst.getD
 g.snd.snd.snd.fst.toNat
 ((0 : Int),
 (0 : Int),
 (0 :
 Int))).snd.snd =
 (x.fst.getD
 g.snd.snd.snd.fst.toNat
 ((0 : Int),
 (0 : Int),
 (0 :
 Int))).snd.snd ∧
 True) ∧
 True ∧
 (True ∧ True) ∧
 ((x.fst.getD
 g.snd.snd.snd.fst.toNat
 ((0 : Int),
 (0 : Int),
 (0 : Int))).fst =
 (x.fst.getD
 g.snd.snd.snd.fst.toNat
 ((0 : Int),
 (0 : Int),
 (0 : Int))).fst ∧
 (x.fst.getD
 g.snd.snd.snd.fst.toNat
 ((0 : Int),
 (0 : Int),
 (0 :
 Int))).snd.fst =
 (x.fst.getD
 g.snd.snd.snd.fst.toNat
 ((0 : Int),
 (0 : Int),
 (0 :
 Int))).snd.fst ∧
 (x.fst.getD
 g.snd.snd.snd.fst.toNat
 ((0 : Int),
 (0 : Int),
 (0 :
 Int))).snd.snd =
 (x.fst.getD
 g.snd.snd.snd.fst.toNat
 ((0 : Int),
 (0 : Int),
 (0 :
 Int))).snd.snd ∧
 True) ∧
 True ∧
 True ∧
 True ∧
 True ∧
 True ∧
 True ∧
 True ∧
 True ∧
 True ∧
 True ∧
 True ∧
 True ∧
 True ∧
 True ∧
 True ∧
 True ∧
 True ∧
 True ∧
 True ∧
 True ∧
 True ∧
 True ∧
 True ∧
 True ∧
 True ∧
 True ∧
 True ∧
 True ∧
 True ∧
 True ∧
 True ∧
 True ∧
 True ∧
 True ∧
 True) ∧
 ∀ (g_1 : (List Bool × List (Int × List Bool) × Unit) × Int × Unit),
 (0 : Int) ≤ g_1.snd.fst ∧
 g_1.snd.fst ≤ (↑g.fst.snd.1.length : Int) ∧
 g_1.fst.fst =
 (List.brecOn.go (motive := fun x ↦ Nat → Bool → List Bool) g.fst.fst
 List.set._f).1
 (x.fst.getD g.snd.snd.snd.fst.toNat
 ((0 : Int), (0 : Int), (0 : Int))).snd.fst.toNat
 ((x.fst.getD g.snd.snd.snd.fst.toNat
 ((0 : Int), (0 : Int), (0 : Int))).fst ==
 (1 : Int)) ∧
 g_1.fst.snd.fst =
 List.map
 (clr
 (x.fst.getD g.snd.snd.snd.fst.toNat
 ((0 : Int), (0 : Int), (0 : Int))).snd.fst)
 (List.take g_1.snd.fst.toNat g.fst.snd.1) ++
 List.drop g_1.snd.fst.toNat g.fst.snd.1 →
 ((g_1.fst.fst.length = (8 : Nat) ∧ ∀ (x : Bool), x ∈ g_1.fst.fst → True) ∧
 (g_1.fst.snd.fst.length ≤ (9223372036854775807 : Nat) ∧
 ∀ (x : Int × List Bool),
 x ∈ g_1.fst.snd.fst →
 ((-9223372036854775808 : Int) ≤ x.fst ∧
 x.fst ≤ (9223372036854775807 : Int)) ∧
 x.snd.length = (8 : Nat) ∧ ∀ (x_1 : Bool), x_1 ∈ x.snd → True) ∧
 True) ∧
 ((-9223372036854775808 : Int) ≤ g_1.snd.fst ∧
 g_1.snd.fst ≤ (9223372036854775807 : Int)) ∧
 True →
 (decide (g_1.snd.fst < (↑g.fst.snd.fst.length : Int)) = true →
 ((0 : Int) ≤ g_1.snd.fst ∧
 g_1.snd.fst < (↑g_1.fst.snd.fst.length : Int)) ∧
 ((0 : Int) ≤
 (x.fst.getD g.snd.snd.snd.fst.toNat
 ((0 : Int), (0 : Int), (0 : Int))).snd.fst ∧
 (x.fst.getD g.snd.snd.snd.fst.toNat
 ((0 : Int), (0 : Int), (0 : Int))).snd.fst <
 (↑(8 : Nat) : Int)) ∧
 ((-9223372036854775808 : Int) ≤ g_1.snd.fst + (1 : Int) ∧
 g_1.snd.fst + (1 : Int) ≤ (9223372036854775807 : Int)) ∧
 (((0 : Int) ≤ g_1.snd.fst + (1 : Int) ∧
 g_1.snd.fst + (1 : Int) ≤ (↑g.fst.snd.1.length : Int) ∧
 g_1.fst.fst =
 (List.brecOn.go (motive := fun x ↦
 Nat → Bool → List Bool) g.fst.fst List.set._f).1
 (x.fst.getD g.snd.snd.snd.fst.toNat
 ((0 : Int), (0 : Int),
 (0 : Int))).snd.fst.toNat
 ((x.fst.getD g.snd.snd.snd.fst.toNat
 ((0 : Int), (0 : Int), (0 : Int))).fst ==
 (1 : Int)) ∧
 g_1.fst.snd.fst.set g_1.snd.fst.toNat
 ((g_1.fst.snd.fst.getD g_1.snd.fst.toNat
 ((0 : Int),
 false ::
 false ::
 false ::
 false ::
 false ::
 false ::
 false ::
 false :: ([] : List Bool))).fst,
 (g_1.fst.snd.fst.getD g_1.snd.fst.toNat
 ((0 : Int),
 false ::
 false ::
 false ::
 false ::
 false ::
 false ::
 false ::
 false ::
 ([] : List Bool))).snd.set
 (x.fst.getD g.snd.snd.snd.fst.toNat
 ((0 : Int), (0 : Int),
 (0 : Int))).snd.fst.toNat
 false) =
 List.map
 (clr
 (x.fst.getD g.snd.snd.snd.fst.toNat
 ((0 : Int), (0 : Int), (0 : Int))).snd.fst)
 (List.take (g_1.snd.fst + (1 : Int)).toNat
 g.fst.snd.1) ++
 List.drop (g_1.snd.fst + (1 : Int)).toNat
 g.fst.snd.1) ∧
 ((↑g.fst.snd.1.length : Int) -
 (g_1.snd.fst + (1 : Int))).toNat <
 ((↑g.fst.snd.1.length : Int) - g_1.snd.fst).toNat) ∧
 ((True ∧ True) ∧
 (True ∧ True) ∧
 (↑g.fst.snd.fst.length : Int) =
 (↑g.fst.snd.fst.length : Int) ∧
 g_1.snd.fst + (1 : Int) = g_1.snd.fst + (1 : Int) ∧
 True) ∧
 ((g_1.fst.fst = g_1.fst.fst ∧ True ∧ True ∧ True) ∧
 g_1.fst.snd.fst.set g_1.snd.fst.toNat
 ((g_1.fst.snd.fst.getD g_1.snd.fst.toNat
 ((0 : Int),
 false ::
 false ::
 false ::
 false ::
 false ::
 false ::
 false ::
 false :: ([] : List Bool))).fst,
 (g_1.fst.snd.fst.getD g_1.snd.fst.toNat
 ((0 : Int),
 false ::
 false ::
 false ::
 false ::
 false ::
 false ::
 false ::
 false ::
 ([] : List Bool))).snd.set
 (x.fst.getD g.snd.snd.snd.fst.toNat
 ((0 : Int), (0 : Int),
 (0 : Int))).snd.fst.toNat
 false) =
 g_1.fst.snd.fst.set g_1.snd.fst.toNat
 ((g_1.fst.snd.fst.getD g_1.snd.fst.toNat
 ((0 : Int),
 false ::
 false ::
 false ::
 false ::
 false ::
 false ::
 false ::
 false :: ([] : List Bool))).fst,
 (g_1.fst.snd.fst.getD g_1.snd.fst.toNat
 ((0 : Int),
 false ::
 false ::
 false ::
 false ::
 false ::
 false ::
 false ::
 false ::
 ([] : List Bool))).snd.set
 (x.fst.getD g.snd.snd.snd.fst.toNat
 ((0 : Int), (0 : Int),
 (0 : Int))).snd.fst.toNat
 false) ∧
 g.snd.fst = g.snd.fst ∧
 g.snd.snd.fst = g.snd.snd.fst ∧
 ((x.fst.getD g.snd.snd.snd.fst.toNat
 ((0 : Int), (0 : Int), (0 : Int))).fst =
 (x.fst.getD g.snd.snd.snd.fst.toNat
 ((0 : Int), (0 : Int), (0 : Int))).fst ∧
 (x.fst.getD g.snd.snd.snd.fst.toNat
 ((0 : Int), (0 : Int),
 (0 : Int))).snd.fst =
 (x.fst.getD g.snd.snd.snd.fst.toNat
 ((0 : Int), (0 : Int),
 (0 : Int))).snd.fst ∧
 (x.fst.getD g.snd.snd.snd.fst.toNat
 ((0 : Int), (0 : Int),
 (0 : Int))).snd.snd =
 (x.fst.getD g.snd.snd.snd.fst.toNat
 ((0 : Int), (0 : Int),
 (0 : Int))).snd.snd ∧
 True) ∧
 g.fst.snd.snd = g.fst.snd.snd ∧
 ((x.fst.getD g.snd.snd.snd.fst.toNat
 ((0 : Int), (0 : Int), (0 : Int))).fst =
 (x.fst.getD g.snd.snd.snd.fst.toNat
 ((0 : Int), (0 : Int), (0 : Int))).fst ∧
 (x.fst.getD g.snd.snd.snd.fst.toNat
 ((0 : Int), (0 : Int),
 (0 : Int))).snd.fst =
 (x.fst.getD g.snd.snd.snd.fst.toNat
 ((0 : Int), (0 : Int),
 (0 : Int))).snd.fst ∧
 (x.fst.getD g.snd.snd.snd.fst.toNat
 ((0 : Int), (0 : Int),
 (0 : Int))).snd.snd =
 (x.fst.getD g.snd.snd.snd.fst.toNat
 ((0 : Int), (0 : Int),
 (0 : Int))).snd.snd ∧
 True) ∧
 True) ∧
 True ∧
 True ∧
 True ∧
 True ∧
 True ∧
 True ∧
 (True ∧ True) ∧
 True ∧
 True ∧
 Value.slice none (0 : Nat) (0 : Nat) =
 Value.slice none (0 : Nat) (0 : Nat) ∧
 True ∧
 (True ∧ True) ∧
 True ∧
 True ∧
 True ∧
 True ∧
 x.fst = x.fst ∧
 (↑x.fst.length : Int) =
 (↑x.fst.length : Int) ∧
 g.snd.snd.snd.fst =
 g.snd.snd.snd.fst ∧
 true = true ∧
 True ∧
 ((x.fst.getD
 g.snd.snd.snd.fst.toNat
 ((0 :
 Int),
 (0 :
 Int),
 (0 :
 Int))).fst =
 (x.fst.getD
 g.snd.snd.snd.fst.toNat
 ((0 :
 Int),
 (0 :
 Int),
 (0 :
 Int))).fst ∧
 (x.fst.getD
 g.snd.snd.snd.fst.toNat
 ((0 :
 Int),
 (0 :
 Int),
 (0 :
 Int))).snd.fst =
 (x.fst.getD
 g.snd.snd.snd.fst.toNat
 ((0 :
 Int),
 (0 :
 Int),
 (0 :
 Int))).snd.fst ∧
 (x.fst.getD
 g.snd.snd.snd.fst.toNat
 ((0 :
 Int),
 (0 :
 Int),
 (0 :
 Int))).snd.snd =
 (x.fst.getD
 g.snd.snd.snd.fst.toNat
 ((0 :
 Int),
 (0 :
 Int),
 (0 :
 Int))).snd.snd ∧
 True) ∧
 True ∧
 (True ∧ True) ∧
 ((x.fst.getD
 g.snd.snd.snd.fst.toNat
 ((0 :
 Int),
 (0 :
 Int),
 (0 :
 Int))).fst =
 (x.fst.getD
 g.snd.snd.snd.fst.toNat
 ((0 :
 Int),
 (0 :
 Int),
 (0 :
 Int))).fst ∧
 (x.fst.getD
 g.snd.snd.snd.fst.toNat
 ((0 :
 Int),
 (0 :
 Int),
 (0 :
 Int))).snd.fst =
 (x.fst.getD
 g.snd.snd.snd.fst.toNat
 ((0 :
 Int),
 (0 :
 Int),
 (0 :
 Int))).snd.fst ∧
 (x.fst.getD
 g.snd.snd.snd.fst.toNat
 ((0 :
 Int),
 (0 :
 Int),
 (0 :
 Int))).snd.snd =
 (x.fst.getD
 g.snd.snd.snd.fst.toNat
 ((0 :
 Int),
 (0 :
 Int),
 (0 :
 Int))).snd.snd ∧
 True) ∧
 True ∧
 True ∧
 True ∧
 True ∧
 True ∧
 True ∧
 True ∧
 True ∧
 True ∧
 True ∧
 True ∧
 True ∧
 True ∧
 True ∧
 True ∧
 True ∧
 True ∧
 True ∧
 True ∧
 True ∧
 True ∧
 True ∧
 True ∧
 True ∧
 True ∧
 True ∧
 True ∧
 True ∧
 True ∧
 True ∧
 True ∧
 True ∧
 True ∧
 True ∧
 True) ∧
 (decide (g_1.snd.fst < (↑g.fst.snd.fst.length : Int)) = false →
 ((((0 : Int) ≤ (0 : Int) ∧
 (0 : Int) ≤ (↑g_1.fst.snd.1.length : Int) ∧
 g_1.fst.fst = g_1.fst.1 ∧
 g.fst.snd.snd =
 g.fst.snd.2 ++
 ff (List.take (Int.toNat (0 : Int)) g_1.fst.snd.1) ∧
 ([] : List (Int × List Bool)) =
 lf (List.take (Int.toNat (0 : Int)) g_1.fst.snd.1)) ∧
 True) ∧
 ((True ∧ True) ∧
 True ∧
 True ∧
 (↑g_1.fst.snd.fst.length : Int) =
 (↑g_1.fst.snd.fst.length : Int) ∧
 (0 : Int) = (0 : Int) ∧ True) ∧
 ((g_1.fst.fst = g_1.fst.fst ∧ True ∧ True ∧ True) ∧
 g.fst.snd.snd = g.fst.snd.snd ∧
 ([] : List (Int × List Bool)) =
 ([] : List (Int × List Bool)) ∧
 ((x.fst.getD g.snd.snd.snd.fst.toNat
 ((0 : Int), (0 : Int), (0 : Int))).fst =
 (x.fst.getD g.snd.snd.snd.fst.toNat
 ((0 : Int), (0 : Int), (0 : Int))).fst ∧
 (x.fst.getD g.snd.snd.snd.fst.toNat
 ((0 : Int), (0 : Int), (0 : Int))).snd.fst =
 (x.fst.getD g.snd.snd.snd.fst.toNat
 ((0 : Int), (0 : Int), (0 : Int))).snd.fst ∧
 (x.fst.getD g.snd.snd.snd.fst.toNat
 ((0 : Int), (0 : Int), (0 : Int))).snd.snd =
 (x.fst.getD g.snd.snd.snd.fst.toNat
 ((0 : Int), (0 : Int), (0 : Int))).snd.snd ∧
 True) ∧
 g.snd.fst = g.snd.fst ∧
 g.snd.snd.fst = g.snd.snd.fst ∧
 ((x.fst.getD g.snd.snd.snd.fst.toNat
 ((0 : Int), (0 : Int), (0 : Int))).fst =
 (x.fst.getD g.snd.snd.snd.fst.toNat
 ((0 : Int), (0 : Int), (0 : Int))).fst ∧
 (x.fst.getD g.snd.snd.snd.fst.toNat
 ((0 : Int), (0 : Int),
 (0 : Int))).snd.fst =
 (x.fst.getD g.snd.snd.snd.fst.toNat
 ((0 : Int), (0 : Int),
 (0 : Int))).snd.fst ∧
 (x.fst.getD g.snd.snd.snd.fst.toNat
 ((0 : Int), (0 : Int),
 (0 : Int))).snd.snd =
 (x.fst.getD g.snd.snd.snd.fst.toNat
 ((0 : Int), (0 : Int),
 (0 : Int))).snd.snd ∧
 True) ∧
 g_1.fst.snd.fst = g_1.fst.snd.fst ∧ True) ∧
 (True ∧ True) ∧
 True ∧
 True ∧
 (True ∧ True) ∧
 True ∧
 True ∧
 True ∧
 True ∧
 True ∧
 True ∧
 True ∧
 True ∧
 True ∧
 True ∧
 True ∧
 True ∧
 True ∧
 True ∧
 True ∧
 True ∧
 True ∧
 True ∧
 True ∧
 True ∧
 True ∧
 True ∧
 True ∧
 True ∧
 True ∧
 True ∧
 True ∧
 True ∧
 True ∧
 True ∧
 True ∧
 True ∧
 True ∧
 True ∧
 True ∧
 True ∧
 True ∧
 True ∧
 True ∧
 True ∧
 True ∧
 True ∧
 True ∧
 True ∧
 True ∧
 True ∧
 True ∧
 True ∧
 True ∧
 True ∧
 True ∧
 True ∧
 True ∧
 True ∧
 True ∧
 True ∧
 True ∧
 True ∧
 True ∧
 True ∧
 True ∧
 True ∧
 True ∧
 True ∧
 True ∧
 True ∧
 True ∧
 True ∧
 True ∧
 True ∧
 True ∧
 True ∧
 True ∧
 True ∧
 True ∧
 True ∧
 True ∧
 True ∧
 True ∧
 True ∧
 True ∧
 True ∧
 True ∧
 True ∧
 True ∧
 True ∧
 True ∧
 (↑g.fst.snd.fst.length :
 Int) =
 (↑g.fst.snd.fst.length :
 Int) ∧
 g_1.snd.fst =
 g_1.snd.fst ∧
 false =
 false ∧
 True ∧
 True ∧
 True ∧
 True ∧
 True ∧
 True ∧
 True ∧
 True ∧
 True ∧
 True ∧
 True ∧
 True ∧
 (True ∧
 True) ∧
 True ∧
 True ∧
 True ∧
 True ∧
 True ∧
 True ∧
 True ∧
 (True ∧
 True) ∧
 True ∧
 True ∧
 Value.slice
 none
 (0 :
 Nat)
 (0 :
 Nat) =
 Value.slice
 none
 (0 :
 Nat)
 (0 :
 Nat) ∧
 True ∧
 (True ∧
 True) ∧
 True ∧
 True ∧
 True ∧
 True ∧
 x.fst =
 x.fst ∧
 (↑x.fst.length :
 Int) =
 (↑x.fst.length :
 Int) ∧
 g.snd.snd.snd.fst =
 g.snd.snd.snd.fst ∧
 true =
 true ∧
 True ∧
 ((x.fst.getD
 g.snd.snd.snd.fst.toNat
 ((0 :
 Int),
 (0 :
 Int),
 (0 :
 Int))).fst =
 (x.fst.getD
 g.snd.snd.snd.fst.toNat
 ((0 :
 Int),
 (0 :
 Int),
 (0 :
 Int))).fst ∧
 (x.fst.getD
 g.snd.snd.snd.fst.toNat
 ((0 :
 Int),
 (0 :
 Int),
 (0 :
 Int))).snd.fst =
 (x.fst.getD
 g.snd.snd.snd.fst.toNat
 ((0 :
 Int),
 (0 :
 Int),
 (0 :
 Int))).snd.fst ∧
 (x.fst.getD
 g.snd.snd.snd.fst.toNat
 ((0 :
 Int),
 (0 :
 Int),
 (0 :
 Int))).snd.snd =
 (x.fst.getD
 g.snd.snd.snd.fst.toNat
 ((0 :
 Int),
 (0 :
 Int),
 (0 :
 Int))).snd.snd ∧
 True) ∧
 True ∧
 (True ∧
 True) ∧
 ((x.fst.getD
 g.snd.snd.snd.fst.toNat
 ((0 :
 Int),
 (0 :
 Int),
 (0 :
 Int))).fst =
 (x.fst.getD
 g.snd.snd.snd.fst.toNat
 ((0 :
 Int),
 (0 :
 Int),
 (0 :
 Int))).fst ∧
 (x.fst.getD
 g.snd.snd.snd.fst.toNat
 ((0 :
 Int),
 (0 :
 Int),
 (0 :
 Int))).snd.fst =
 (x.fst.getD
 g.snd.snd.snd.fst.toNat
 ((0 :
 Int),
 (0 :
 Int),
 (0 :
 Int))).snd.fst ∧
 (x.fst.getD
 g.snd.snd.snd.fst.toNat
 ((0 :
 Int),
 (0 :
 Int),
 (0 :
 Int))).snd.snd =
 (x.fst.getD
 g.snd.snd.snd.fst.toNat
 ((0 :
 Int),
 (0 :
 Int),
 (0 :
 Int))).snd.snd ∧
 True) ∧
 True ∧
 True ∧
 True ∧
 True ∧
 True ∧
 True ∧
 True ∧
 True ∧
 True ∧
 True ∧
 True ∧
 True ∧
 True ∧
 True ∧
 True ∧
 True ∧
 True ∧
 True ∧
 True ∧
 True ∧
 True ∧
 True ∧
 True ∧
 True ∧
 True ∧
 True ∧
 True ∧
 True ∧
 True ∧
 True ∧
 True ∧
 True ∧
 True ∧
 True ∧
 True) ∧
 ∀
 (g_2 :
 (List Bool × Unit × List Int) ×
 List (Int × List Bool) × Int × Unit),
 (0 : Int) ≤ g_2.snd.snd.fst ∧
 g_2.snd.snd.fst ≤ (↑g_1.fst.snd.1.length : Int) ∧
 g_2.fst.fst = g_1.fst.1 ∧
 g_2.fst.snd.snd =
 g.fst.snd.2 ++
 ff (List.take g_2.snd.snd.fst.toNat g_1.fst.snd.1) ∧
 g_2.snd.fst =
 lf (List.take g_2.snd.snd.fst.toNat g_1.fst.snd.1) →
 ((g_2.fst.fst.length = (8 : Nat) ∧
 ∀ (x : Bool), x ∈ g_2.fst.fst → True) ∧
 True ∧
 g_2.fst.snd.snd.length ≤ (9223372036854775807 : Nat) ∧
 ∀ (x : Int),
 x ∈ g_2.fst.snd.snd →
 (-9223372036854775808 : Int) ≤ x ∧
 x ≤ (9223372036854775807 : Int)) ∧
 (g_2.snd.fst.length ≤ (9223372036854775807 : Nat) ∧
 ∀ (x : Int × List Bool),
 x ∈ g_2.snd.fst →
 ((-9223372036854775808 : Int) ≤ x.fst ∧
 x.fst ≤ (9223372036854775807 : Int)) ∧
 x.snd.length = (8 : Nat) ∧
 ∀ (x_1 : Bool), x_1 ∈ x.snd → True) ∧
 ((-9223372036854775808 : Int) ≤ g_2.snd.snd.fst ∧
 g_2.snd.snd.fst ≤ (9223372036854775807 : Int)) ∧
 True →
 (decide (g_2.snd.snd.fst < (↑g_1.fst.snd.fst.length : Int)) =
 true →
 ((0 : Int) ≤ g_2.snd.snd.fst ∧
 g_2.snd.snd.fst < (↑g_1.fst.snd.fst.length : Int)) ∧
 (deq (Ty.arr (8 : Nat) Ty.bool)
 (g_1.fst.snd.fst.getD g_2.snd.snd.fst.toNat
 ((0 : Int),
 false ::
 false ::
 false ::
 false ::
 false ::
 false ::
 false ::
 false :: ([] : List Bool))).snd
 (false ::
 false ::
 false ::
 false ::
 false ::
 false ::
 false :: false :: ([] : List Bool)) =
 true →
 (g_2.fst.snd.snd.length +
 (((0 : Int) :: ([] : List Int)).set (0 : Nat)
 (g_1.fst.snd.fst.getD g_2.snd.snd.fst.toNat
 ((0 : Int),
 false ::
 false ::
 false ::
 false ::
 false ::
 false ::
 false ::
 false ::
 ([] :
 List
 Bool))).fst).length ≤
 (9223372036854775807 : Nat) ∧
 (g_2.fst.snd.snd.length +
 (((0 : Int) :: ([] : List Int)).set
 (0 : Nat)
 (g_1.fst.snd.fst.getD
 g_2.snd.snd.fst.toNat
 ((0 : Int),
 false ::
 false ::
 false ::
 false ::
 false ::
 false ::
 false ::
 false ::
 ([] :
 List
 Bool))).fst).length +
 (g_2.fst.snd.snd.length +
 (((0 : Int) :: ([] : List Int)).set
 (0 : Nat)
 (g_1.fst.snd.fst.getD
 g_2.snd.snd.fst.toNat
 ((0 : Int),
 false ::
 false ::
 false ::
 false ::
 false ::
 false ::
 false ::
 false ::
 ([] :
 List
 Bool))).fst).length) /
 (4 : Nat) +
 (192 : Nat)) *
 (8 : Nat) ≤
 (281474976710656 : Nat)) ∧
 ((-9223372036854775808 : Int) ≤
 g_2.snd.snd.fst + (1 : Int) ∧
 g_2.snd.snd.fst + (1 : Int) ≤
 (9223372036854775807 : Int)) ∧
 (((0 : Int) ≤ g_2.snd.snd.fst + (1 : Int) ∧
 g_2.snd.snd.fst + (1 : Int) ≤
 (↑g_1.fst.snd.1.length : Int) ∧
 g_2.fst.fst = g_1.fst.1 ∧
 g_2.fst.snd.snd ++
 ((0 : Int) :: ([] : List Int)).set
 (0 : Nat)
 (g_1.fst.snd.fst.getD
 g_2.snd.snd.fst.toNat
 ((0 : Int),
 false ::
 false ::
 false ::
 false ::
 false ::
 false ::
 false ::
 false ::
 ([] :
 List
 Bool))).fst =
 g.fst.snd.2 ++
 ff
 (List.take
 (g_2.snd.snd.fst +
 (1 : Int)).toNat
 g_1.fst.snd.1) ∧
 g_2.snd.fst =
 lf
 (List.take
 (g_2.snd.snd.fst +
 (1 : Int)).toNat
 g_1.fst.snd.1)) ∧
 ((↑g_1.fst.snd.1.length : Int) -
 (g_2.snd.snd.fst + (1 : Int))).toNat <
 ((↑g_1.fst.snd.1.length : Int) -
 g_2.snd.snd.fst).toNat) ∧
 ((True ∧ True) ∧
 True ∧
 True ∧
 (↑g_1.fst.snd.fst.length : Int) =
 (↑g_1.fst.snd.fst.length : Int) ∧
 g_2.snd.snd.fst + (1 : Int) =
 g_2.snd.snd.fst + (1 : Int) ∧
 True) ∧
 ((g_2.fst.fst = g_2.fst.fst ∧
 True ∧ True ∧ True) ∧
 g_2.fst.snd.snd ++
 ((0 : Int) :: ([] : List Int)).set
 (0 : Nat)
 (g_1.fst.snd.fst.getD
 g_2.snd.snd.fst.toNat
 ((0 : Int),
 false ::
 false ::
 false ::
 false ::
 false ::
 false ::
 false ::
 false ::
 ([] :
 List
 Bool))).fst =
 g_2.fst.snd.snd ++
 ((0 : Int) :: ([] : List Int)).set
 (0 : Nat)
 (g_1.fst.snd.fst.getD
 g_2.snd.snd.fst.toNat
 ((0 : Int),
 false ::
 false ::
 false ::
 false ::
 false ::
 false ::
 false ::
 false ::
 ([] :
 List
 Bool))).fst ∧
 g_2.snd.fst = g_2.snd.fst ∧
 ((x.fst.getD g.snd.snd.snd.fst.toNat
 ((0 : Int), (0 : Int),
 (0 : Int))).fst =
 (x.fst.getD
 g.snd.snd.snd.fst.toNat
 ((0 : Int), (0 : Int),
 (0 : Int))).fst ∧
 (x.fst.getD g.snd.snd.snd.fst.toNat
 ((0 : Int), (0 : Int),
 (0 : Int))).snd.fst =
 (x.fst.getD
 g.snd.snd.snd.fst.toNat
 ((0 : Int), (0 : Int),
 (0 : Int))).snd.fst ∧
 (x.fst.getD
 g.snd.snd.snd.fst.toNat
 ((0 : Int), (0 : Int),
 (0 : Int))).snd.snd =
 (x.fst.getD
 g.snd.snd.snd.fst.toNat
 ((0 : Int), (0 : Int),
 (0 : Int))).snd.snd ∧
 True) ∧
 g.snd.fst = g.snd.fst ∧
 g.snd.snd.fst = g.snd.snd.fst ∧
 ((x.fst.getD
 g.snd.snd.snd.fst.toNat
 ((0 : Int), (0 : Int),
 (0 : Int))).fst =
 (x.fst.getD
 g.snd.snd.snd.fst.toNat
 ((0 : Int), (0 : Int),
 (0 : Int))).fst ∧
 (x.fst.getD
 g.snd.snd.snd.fst.toNat
 ((0 : Int),
 (0 : Int),
 (0 :
 Int))).snd.fst =
 (x.fst.getD
 g.snd.snd.snd.fst.toNat
 ((0 : Int),
 (0 : Int),
 (0 :
 Int))).snd.fst ∧
 (x.fst.getD
 g.snd.snd.snd.fst.toNat
 ((0 : Int),
 (0 : Int),
 (0 :
 Int))).snd.snd =
 (x.fst.getD
 g.snd.snd.snd.fst.toNat
 ((0 : Int),
 (0 : Int),
 (0 :
 Int))).snd.snd ∧
 True) ∧
 g_1.fst.snd.fst =
 g_1.fst.snd.fst ∧
 True) ∧
 (True ∧ True) ∧
 True ∧
 True ∧
 (True ∧ True) ∧
 True ∧
 True ∧
 True ∧
 True ∧
 True ∧
 True ∧
 True ∧
 True ∧
 True ∧
 True ∧
 True ∧
 True ∧
 True ∧
 True ∧
 True ∧
 True ∧
 True ∧
 True ∧
 True ∧
 True ∧
 True ∧
 True ∧
 True ∧
 True ∧
 True ∧
 True ∧
 True ∧
 True ∧
 True ∧
 True ∧
 True ∧
 True ∧
 True ∧
 True ∧
 True ∧
 True ∧
 True ∧
 True ∧
 True ∧
 True ∧
 True ∧
 True ∧
 True ∧
 True ∧
 True ∧
 True ∧
 True ∧
 True ∧
 True ∧
 True ∧
 True ∧
 True ∧
 True ∧
 True ∧
 True ∧
 True ∧
 True ∧
 True ∧
 True ∧
 True ∧
 True ∧
 True ∧
 True ∧
 True ∧
 True ∧
 True ∧
 True ∧
 True ∧
 True ∧
 True ∧
 True ∧
 True ∧
 True ∧
 True ∧
 True ∧
 True ∧
 True ∧
 True ∧
 True ∧
 True ∧
 True ∧
 True ∧
 True ∧
 True ∧
 True ∧
 True ∧
 True ∧
 (↑g.fst.snd.fst.length :
 Int) =
 (↑g.fst.snd.fst.length :
 Int) ∧
 g_1.snd.fst =
 g_1.snd.fst ∧
 false =
 false ∧
 True ∧
 True ∧
 True ∧
 True ∧
 True ∧
 True ∧
 True ∧
 True ∧
 True ∧
 True ∧
 True ∧
 True ∧
 (True ∧
 True) ∧
 True ∧
 True ∧
 True ∧
 True ∧
 True ∧
 True ∧
 True ∧
 (True ∧
 True) ∧
 True ∧
 True ∧
 Value.slice
 none
 (0 :
 Nat)
 (0 :
 Nat) =
 Value.slice
 none
 (0 :
 Nat)
 (0 :
 Nat) ∧
 True ∧
 (True ∧
 True) ∧
 True ∧
 True ∧
 True ∧
 True ∧
 x.fst =
 x.fst ∧
 (↑x.fst.length :
 Int) =
 (↑x.fst.length :
 Int) ∧
 g.snd.snd.snd.fst =
 g.snd.snd.snd.fst ∧
 true =
 true ∧
 True ∧
 ((x.fst.getD
 g.snd.snd.snd.fst.toNat
 ((0 :
 Int),
 (0 :
 Int),
 (0 :
 Int))).fst =
 (x.fst.getD
 g.snd.snd.snd.fst.toNat
 ((0 :
 Int),
 (0 :
 Int),
 (0 :
 Int))).fst ∧
 (x.fst.getD
 g.snd.snd.snd.fst.toNat
 ((0 :
 Int),
 (0 :
 Int),
 (0 :
 Int))).snd.fst =
 (x.fst.getD
 g.snd.snd.snd.fst.toNat
 ((0 :
 Int),
 (0 :
 Int),
 (0 :
 Int))).snd.fst ∧
 (x.fst.getD
 g.snd.snd.snd.fst.toNat
 ((0 :
 Int),
 (0 :
 Int),
 (0 :
 Int))).snd.snd =
 (x.fst.getD
 g.snd.snd.snd.fst.toNat
 ((0 :
 Int),
 (0 :
 Int),
 (0 :
 Int))).snd.snd ∧
 True) ∧
 True ∧
 (True ∧
 True) ∧
 ((x.fst.getD
 g.snd.snd.snd.fst.toNat
 ((0 :
 Int),
 (0 :
 Int),
 (0 :
 Int))).fst =
 (x.fst.getD
 g.snd.snd.snd.fst.toNat
 ((0 :
 Int),
 (0 :
 Int),
 (0 :
 Int))).fst ∧
 (x.fst.getD
 g.snd.snd.snd.fst.toNat
 ((0 :
 Int),
 (0 :
 Int),
 (0 :
 Int))).snd.fst =
 (x.fst.getD
 g.snd.snd.snd.fst.toNat
 ((0 :
 Int),
 (0 :
 Int),
 (0 :
 Int))).snd.fst ∧
 (x.fst.getD
 g.snd.snd.snd.fst.toNat
 ((0 :
 Int),
 (0 :
 Int),
 (0 :
 Int))).snd.snd =
 (x.fst.getD
 g.snd.snd.snd.fst.toNat
 ((0 :
 Int),
 (0 :
 Int),
 (0 :
 Int))).snd.snd ∧
 True) ∧
 True ∧
 True ∧
 True ∧
 True ∧
 True ∧
 True ∧
 True ∧
 True ∧
 True ∧
 True ∧
 True ∧
 True ∧
 True ∧
 True ∧
 True ∧
 True ∧
 True ∧
 True ∧
 True ∧
 True ∧
 True ∧
 True ∧
 True ∧
 True ∧
 True ∧
 True ∧
 True ∧
 True ∧
 True ∧
 True ∧
 True ∧
 True ∧
 True ∧
 True ∧
 True) ∧
 (deq (Ty.arr (8 : Nat) Ty.bool)
 (g_1.fst.snd.fst.getD g_2.snd.snd.fst.toNat
 ((0 : Int),
 false ::
 false ::
 false ::
 false ::
 false ::
 false ::
 false ::
 false :: ([] : List Bool))).snd
 (false ::
 false ::
 false ::
 false ::
 false ::
 false ::
 false :: false :: ([] : List Bool)) =
 false →
 (g_2.snd.fst.length +
 ((((0 : Int),
 false ::
 false ::
 false ::
 false ::
 false ::
 false ::
 false ::
 false ::
 ([] : List Bool)) ::
 ([] : List (Int × List Bool))).set
 (0 : Nat)
 ((g_1.fst.snd.fst.getD g_2.snd.snd.fst.toNat
 ((0 : Int),
 false ::
 false ::
 false ::
 false ::
 false ::
 false ::
 false ::
 false ::
 ([] :
 List Bool))).fst,
 (g_1.fst.snd.fst.getD
 g_2.snd.snd.fst.toNat
 ((0 : Int),
 false ::
 false ::
 false ::
 false ::
 false ::
 false ::
 false ::
 false ::
 ([] :
 List
 Bool))).snd)).length ≤
 (9223372036854775807 : Nat) ∧
 (g_2.snd.fst.length +
 ((((0 : Int),
 false ::
 false ::
 false ::
 false ::
 false ::
 false ::
 false ::
 false ::
 ([] :
 List Bool)) ::
 ([] : List (Int × List Bool))).set
 (0 : Nat)
 ((g_1.fst.snd.fst.getD
 g_2.snd.snd.fst.toNat
 ((0 : Int),
 false ::
 false ::
 false ::
 false ::
 false ::
 false ::
 false ::
 false ::
 ([] :
 List
 Bool))).fst,
 (g_1.fst.snd.fst.getD
 g_2.snd.snd.fst.toNat
 ((0 : Int),
 false ::
 false ::
 false ::
 false ::
 false ::
 false ::
 false ::
 false ::
 ([] :
 List
 Bool))).snd)).length +
 (g_2.snd.fst.length +
 ((((0 : Int),
 false ::
 false ::
 false ::
 false ::
 false ::
 false ::
 false ::
 false ::
 ([] :
 List
 Bool)) ::
 ([] :
 List (Int × List Bool))).set
 (0 : Nat)
 ((g_1.fst.snd.fst.getD
 g_2.snd.snd.fst.toNat
 ((0 : Int),
 false ::
 false ::
 false ::
 false ::
 false ::
 false ::
 false ::
 false ::
 ([] :
 List
 Bool))).fst,
 (g_1.fst.snd.fst.getD
 g_2.snd.snd.fst.toNat
 ((0 : Int),
 false ::
 false ::
 false ::
 false ::
 false ::
 false ::
 false ::
 false ::
 ([] :
 List
 Bool))).snd)).length) /
 (4 : Nat) +
 (192 : Nat)) *
 (16 : Nat) ≤
 (281474976710656 : Nat)) ∧
 ((-9223372036854775808 : Int) ≤
 g_2.snd.snd.fst + (1 : Int) ∧
 g_2.snd.snd.fst + (1 : Int) ≤
 (9223372036854775807 : Int)) ∧
 (((0 : Int) ≤ g_2.snd.snd.fst + (1 : Int) ∧
 g_2.snd.snd.fst + (1 : Int) ≤
 (↑g_1.fst.snd.1.length : Int) ∧
 g_2.fst.fst = g_1.fst.1 ∧
 g_2.fst.snd.snd =
 g.fst.snd.2 ++
 ff
 (List.take
 (g_2.snd.snd.fst +
 (1 : Int)).toNat
 g_1.fst.snd.1) ∧
 g_2.snd.fst ++
 (((0 : Int),
 false ::
 false ::
 false ::
 false ::
 false ::
 false ::
 false ::
 false ::
 ([] :
 List
 Bool)) ::
 ([] :
 List (Int × List Bool))).set
 (0 : Nat)
 ((g_1.fst.snd.fst.getD
 g_2.snd.snd.fst.toNat
 ((0 : Int),
 false ::
 false ::
 false ::
 false ::
 false ::
 false ::
 false ::
 false ::
 ([] :
 List
 Bool))).fst,
 (g_1.fst.snd.fst.getD
 g_2.snd.snd.fst.toNat
 ((0 : Int),
 false ::
 false ::
 false ::
 false ::
 false ::
 false ::
 false ::
 false ::
 ([] :
 List
 Bool))).snd) =
 lf
 (List.take
 (g_2.snd.snd.fst +
 (1 : Int)).toNat
 g_1.fst.snd.1)) ∧
 ((↑g_1.fst.snd.1.length : Int) -
 (g_2.snd.snd.fst + (1 : Int))).toNat <
 ((↑g_1.fst.snd.1.length : Int) -
 g_2.snd.snd.fst).toNat) ∧
 ((True ∧ True) ∧
 True ∧
 True ∧
 (↑g_1.fst.snd.fst.length : Int) =
 (↑g_1.fst.snd.fst.length : Int) ∧
 g_2.snd.snd.fst + (1 : Int) =
 g_2.snd.snd.fst + (1 : Int) ∧
 True) ∧
 ((g_2.fst.fst = g_2.fst.fst ∧
 True ∧ True ∧ True) ∧
 g_2.fst.snd.snd = g_2.fst.snd.snd ∧
 g_2.snd.fst ++
 (((0 : Int),
 false ::
 false ::
 false ::
 false ::
 false ::
 false ::
 false ::
 false ::
 ([] :
 List
 Bool)) ::
 ([] :
 List (Int × List Bool))).set
 (0 : Nat)
 ((g_1.fst.snd.fst.getD
 g_2.snd.snd.fst.toNat
 ((0 : Int),
 false ::
 false ::
 false ::
 false ::
 false ::
 false ::
 false ::
 false ::
 ([] :
 List
 Bool))).fst,
 (g_1.fst.snd.fst.getD
 g_2.snd.snd.fst.toNat
 ((0 : Int),
 false ::
 false ::
 false ::
 false ::
 false ::
 false ::
 false ::
 false ::
 ([] :
 List
 Bool))).snd) =
 g_2.snd.fst ++
 (((0 : Int),
 false ::
 false ::
 false ::
 false ::
 false ::
 false ::
 false ::
 false ::
 ([] :
 List
 Bool)) ::
 ([] :
 List (Int × List Bool))).set
 (0 : Nat)
 ((g_1.fst.snd.fst.getD
 g_2.snd.snd.fst.toNat
 ((0 : Int),
 false ::
 false ::
 false ::
 false ::
 false ::
 false ::
 false ::
 false ::
 ([] :
 List
 Bool))).fst,
 (g_1.fst.snd.fst.getD
 g_2.snd.snd.fst.toNat
 ((0 : Int),
 false ::
 false ::
 false ::
 false ::
 false ::
 false ::
 false ::
 false ::
 ([] :
 List
 Bool))).snd) ∧
 ((x.fst.getD g.snd.snd.snd.fst.toNat
 ((0 : Int), (0 : Int),
 (0 : Int))).fst =
 (x.fst.getD
 g.snd.snd.snd.fst.toNat
 ((0 : Int), (0 : Int),
 (0 : Int))).fst ∧
 (x.fst.getD g.snd.snd.snd.fst.toNat
 ((0 : Int), (0 : Int),
 (0 : Int))).snd.fst =
 (x.fst.getD
 g.snd.snd.snd.fst.toNat
 ((0 : Int), (0 : Int),
 (0 : Int))).snd.fst ∧
 (x.fst.getD
 g.snd.snd.snd.fst.toNat
 ((0 : Int), (0 : Int),
 (0 : Int))).snd.snd =
 (x.fst.getD
 g.snd.snd.snd.fst.toNat
 ((0 : Int), (0 : Int),
 (0 : Int))).snd.snd ∧
 True) ∧
 g.snd.fst = g.snd.fst ∧
 g.snd.snd.fst = g.snd.snd.fst ∧
 ((x.fst.getD
 g.snd.snd.snd.fst.toNat
 ((0 : Int), (0 : Int),
 (0 : Int))).fst =
 (x.fst.getD
 g.snd.snd.snd.fst.toNat
 ((0 : Int), (0 : Int),
 (0 : Int))).fst ∧
 (x.fst.getD
 g.snd.snd.snd.fst.toNat
 ((0 : Int),
 (0 : Int),
 (0 :
 Int))).snd.fst =
 (x.fst.getD
 g.snd.snd.snd.fst.toNat
 ((0 : Int),
 (0 : Int),
 (0 :
 Int))).snd.fst ∧
 (x.fst.getD
 g.snd.snd.snd.fst.toNat
 ((0 : Int),
 (0 : Int),
 (0 :
 Int))).snd.snd =
 (x.fst.getD
 g.snd.snd.snd.fst.toNat
 ((0 : Int),
 (0 : Int),
 (0 :
 Int))).snd.snd ∧
 True) ∧
 g_1.fst.snd.fst =
 g_1.fst.snd.fst ∧
 True) ∧
 (True ∧ True) ∧
 True ∧
 True ∧
 (True ∧ True) ∧
 True ∧
 True ∧
 True ∧
 True ∧
 True ∧
 True ∧
 True ∧
 True ∧
 True ∧
 True ∧
 True ∧
 True ∧
 True ∧
 True ∧
 True ∧
 True ∧
 True ∧
 True ∧
 True ∧
 True ∧
 True ∧
 True ∧
 True ∧
 True ∧
 True ∧
 True ∧
 True ∧
 True ∧
 True ∧
 True ∧
 True ∧
 True ∧
 True ∧
 True ∧
 True ∧
 True ∧
 True ∧
 True ∧
 True ∧
 True ∧
 True ∧
 True ∧
 True ∧
 True ∧
 True ∧
 True ∧
 True ∧
 True ∧
 True ∧
 True ∧
 True ∧
 True ∧
 True ∧
 True ∧
 True ∧
 True ∧
 True ∧
 True ∧
 True ∧
 True ∧
 True ∧
 True ∧
 True ∧
 True ∧
 True ∧
 True ∧
 True ∧
 True ∧
 True ∧
 True ∧
 True ∧
 True ∧
 True ∧
 True ∧
 True ∧
 True ∧
 True ∧
 True ∧
 True ∧
 True ∧
 True ∧
 True ∧
 True ∧
 True ∧
 True ∧
 True ∧
 True ∧
 (↑g.fst.snd.fst.length :
 Int) =
 (↑g.fst.snd.fst.length :
 Int) ∧
 g_1.snd.fst =
 g_1.snd.fst ∧
 false =
 false ∧
 True ∧
 True ∧
 True ∧
 True ∧
 True ∧
 True ∧
 True ∧
 True ∧
 True ∧
 True ∧
 True ∧
 True ∧
 (True ∧
 True) ∧
 True ∧
 True ∧
 True ∧
 True ∧
 True ∧
 True ∧
 True ∧
 (True ∧
 True) ∧
 True ∧
 True ∧
 Value.slice
 none
 (0 :
 Nat)
 (0 :
 Nat) =
 Value.slice
 none
 (0 :
 Nat)
 (0 :
 Nat) ∧
 True ∧
 (True ∧
 True) ∧
 True ∧
 True ∧
 True ∧
 True ∧
 x.fst =
 x.fst ∧
 (↑x.fst.length :
 Int) =
 (↑x.fst.length :
 Int) ∧
 g.snd.snd.snd.fst =
 g.snd.snd.snd.fst ∧
 true =
 true ∧
 True ∧
 ((x.fst.getD
 g.snd.snd.snd.fst.toNat
 ((0 :
 Int),
 (0 :
 Int),
 (0 :
 Int))).fst =
 (x.fst.getD
 g.snd.snd.snd.fst.toNat
 ((0 :
 Int),
 (0 :
 Int),
 (0 :
 Int))).fst ∧
 (x.fst.getD
 g.snd.snd.snd.fst.toNat
 ((0 :
 Int),
 (0 :
 Int),
 (0 :
 Int))).snd.fst =
 (x.fst.getD
 g.snd.snd.snd.fst.toNat
 ((0 :
 Int),
 (0 :
 Int),
 (0 :
 Int))).snd.fst ∧
 (x.fst.getD
 g.snd.snd.snd.fst.toNat
 ((0 :
 Int),
 (0 :
 Int),
 (0 :
 Int))).snd.snd =
 (x.fst.getD
 g.snd.snd.snd.fst.toNat
 ((0 :
 Int),
 (0 :
 Int),
 (0 :
 Int))).snd.snd ∧
 True) ∧
 True ∧
 (True ∧
 True) ∧
 ((x.fst.getD
 g.snd.snd.snd.fst.toNat
 ((0 :
 Int),
 (0 :
 Int),
 (0 :
 Int))).fst =
 (x.fst.getD
 g.snd.snd.snd.fst.toNat
 ((0 :
 Int),
 (0 :
 Int),
 (0 :
 Int))).fst ∧
 (x.fst.getD
 g.snd.snd.snd.fst.toNat
 ((0 :
 Int),
 (0 :
 Int),
 (0 :
 Int))).snd.fst =
 (x.fst.getD
 g.snd.snd.snd.fst.toNat
 ((0 :
 Int),
 (0 :
 Int),
 (0 :
 Int))).snd.fst ∧
 (x.fst.getD
 g.snd.snd.snd.fst.toNat
 ((0 :
 Int),
 (0 :
 Int),
 (0 :
 Int))).snd.snd =
 (x.fst.getD
 g.snd.snd.snd.fst.toNat
 ((0 :
 Int),
 (0 :
 Int),
 (0 :
 Int))).snd.snd ∧
 True) ∧
 True ∧
 True ∧
 True ∧
 True ∧
 True ∧
 True ∧
 True ∧
 True ∧
 True ∧
 True ∧
 True ∧
 True ∧
 True ∧
 True ∧
 True ∧
 True ∧
 True ∧
 True ∧
 True ∧
 True ∧
 True ∧
 True ∧
 True ∧
 True ∧
 True ∧
 True ∧
 True ∧
 True ∧
 True ∧
 True ∧
 True ∧
 True ∧
 True ∧
 True ∧
 True)) ∧
 (decide (g_2.snd.snd.fst < (↑g_1.fst.snd.fst.length : Int)) =
 false →
 (g.snd.fst.length +
 (((0 : Int) :: ([] : List Int)).set (0 : Nat)
 (0 : Int)).length ≤
 (9223372036854775807 : Nat) ∧
 (g.snd.fst.length +
 (((0 : Int) :: ([] : List Int)).set (0 : Nat)
 (0 : Int)).length +
 (g.snd.fst.length +
 (((0 : Int) :: ([] : List Int)).set (0 : Nat)
 (0 : Int)).length) /
 (4 : Nat) +
 (192 : Nat)) *
 (8 : Nat) ≤
 (281474976710656 : Nat)) ∧
 (g.snd.snd.fst.length +
 (((0 : Int) :: ([] : List Int)).set (0 : Nat)
 (↑g_2.fst.snd.snd.length : Int)).length ≤
 (9223372036854775807 : Nat) ∧
 (g.snd.snd.fst.length +
 (((0 : Int) :: ([] : List Int)).set (0 : Nat)
 (↑g_2.fst.snd.snd.length : Int)).length +
 (g.snd.snd.fst.length +
 (((0 : Int) :: ([] : List Int)).set
 (0 : Nat)
 (↑g_2.fst.snd.snd.length :
 Int)).length) /
 (4 : Nat) +
 (192 : Nat)) *
 (8 : Nat) ≤
 (281474976710656 : Nat)) ∧
 ((-9223372036854775808 : Int) ≤
 g.snd.snd.snd.fst + (1 : Int) ∧
 g.snd.snd.snd.fst + (1 : Int) ≤
 (9223372036854775807 : Int)) ∧
 (((0 : Int) ≤ g.snd.snd.snd.fst + (1 : Int) ∧
 g.snd.snd.snd.fst + (1 : Int) ≤
 (↑x.fst.length : Int) ∧
 pl
 (List.take
 (g.snd.snd.snd.fst + (1 : Int)).toNat
 x.fst) =
 ((g_2.fst.fst, g_2.snd.fst,
 g_2.fst.snd.snd),
 g.snd.fst ++
 ((0 : Int) :: ([] : List Int)).set
 (0 : Nat) (0 : Int),
 g.snd.snd.fst ++
 ((0 : Int) :: ([] : List Int)).set
 (0 : Nat)
 (↑g_2.fst.snd.snd.length : Int)) ∧
 (↑g_2.snd.fst.length : Int) +
 (↑g_2.fst.snd.snd.length : Int) ≤
 g.snd.snd.snd.fst + (1 : Int) ∧
 (↑(g.snd.fst ++
 ((0 : Int) ::
 ([] : List Int)).set
 (0 : Nat) (0 : Int)).length :
 Int) =
 g.snd.snd.snd.fst + (1 : Int) ∧
 (↑(g.snd.snd.fst ++
 ((0 : Int) ::
 ([] : List Int)).set
 (0 : Nat)
 (↑g_2.fst.snd.snd.length :
 Int)).length :
 Int) =
 g.snd.snd.snd.fst + (1 : Int)) ∧
 ((↑x.fst.length : Int) -
 (g.snd.snd.snd.fst + (1 : Int))).toNat <
 ((↑x.fst.length : Int) -
 g.snd.snd.snd.fst).toNat) ∧
 ((True ∧ True) ∧
 True ∧
 True ∧
 Value.slice none (0 : Nat) (0 : Nat) =
 Value.slice none (0 : Nat) (0 : Nat) ∧
 x.fst = x.fst ∧
 (↑x.fst.length : Int) =
 (↑x.fst.length : Int) ∧
 g.snd.snd.snd.fst + (1 : Int) =
 g.snd.snd.snd.fst + (1 : Int) ∧
 True) ∧
 ((g_2.fst.fst = g_2.fst.fst ∧ True ∧ True ∧ True) ∧
 g_2.snd.fst = g_2.snd.fst ∧
 g_2.fst.snd.snd = g_2.fst.snd.snd ∧
 g.snd.fst ++
 ((0 : Int) :: ([] : List Int)).set
 (0 : Nat) (0 : Int) =
 g.snd.fst ++
 ((0 : Int) :: ([] : List Int)).set
 (0 : Nat) (0 : Int) ∧
 g.snd.snd.fst ++
 ((0 : Int) :: ([] : List Int)).set
 (0 : Nat)
 (↑g_2.fst.snd.snd.length : Int) =
 g.snd.snd.fst ++
 ((0 : Int) :: ([] : List Int)).set
 (0 : Nat)
 (↑g_2.fst.snd.snd.length : Int) ∧
 True) ∧
 True))) ∧
 (((x.fst.getD g.snd.snd.snd.fst.toNat ((0 : Int), (0 : Int), (0 : Int))).fst ==
 (2 : Int)) =
 false →
 (g.snd.fst.length + (((0 : Int) :: ([] : List Int)).set (0 : Nat) (0 : Int)).length ≤
 (9223372036854775807 : Nat) ∧
 (g.snd.fst.length +
 (((0 : Int) :: ([] : List Int)).set (0 : Nat) (0 : Int)).length +
 (g.snd.fst.length +
 (((0 : Int) :: ([] : List Int)).set (0 : Nat) (0 : Int)).length) /
 (4 : Nat) +
 (192 : Nat)) *
 (8 : Nat) ≤
 (281474976710656 : Nat)) ∧
 (g.snd.snd.fst.length +
 (((0 : Int) :: ([] : List Int)).set (0 : Nat)
 (↑g.fst.snd.snd.length : Int)).length ≤
 (9223372036854775807 : Nat) ∧
 (g.snd.snd.fst.length +
 (((0 : Int) :: ([] : List Int)).set (0 : Nat)
 (↑g.fst.snd.snd.length : Int)).length +
 (g.snd.snd.fst.length +
 (((0 : Int) :: ([] : List Int)).set (0 : Nat)
 (↑g.fst.snd.snd.length : Int)).length) /
 (4 : Nat) +
 (192 : Nat)) *
 (8 : Nat) ≤
 (281474976710656 : Nat)) ∧
 ((-9223372036854775808 : Int) ≤ g.snd.snd.snd.fst + (1 : Int) ∧
 g.snd.snd.snd.fst + (1 : Int) ≤ (9223372036854775807 : Int)) ∧
 (((0 : Int) ≤ g.snd.snd.snd.fst + (1 : Int) ∧
 g.snd.snd.snd.fst + (1 : Int) ≤ (↑x.fst.length : Int) ∧
 pl (List.take (g.snd.snd.snd.fst + (1 : Int)).toNat x.fst) =
 ((g.fst.fst.set
 (x.fst.getD g.snd.snd.snd.fst.toNat
 ((0 : Int), (0 : Int), (0 : Int))).snd.fst.toNat
 ((x.fst.getD g.snd.snd.snd.fst.toNat
 ((0 : Int), (0 : Int), (0 : Int))).fst ==
 (1 : Int)),
 g.fst.snd.fst, g.fst.snd.snd),
 g.snd.fst ++
 ((0 : Int) :: ([] : List Int)).set (0 : Nat) (0 : Int),
 g.snd.snd.fst ++
 ((0 : Int) :: ([] : List Int)).set (0 : Nat)
 (↑g.fst.snd.snd.length : Int)) ∧
 (↑g.fst.snd.fst.length : Int) + (↑g.fst.snd.snd.length : Int) ≤
 g.snd.snd.snd.fst + (1 : Int) ∧
 (↑(g.snd.fst ++
 ((0 : Int) :: ([] : List Int)).set (0 : Nat)
 (0 : Int)).length :
 Int) =
 g.snd.snd.snd.fst + (1 : Int) ∧
 (↑(g.snd.snd.fst ++
 ((0 : Int) :: ([] : List Int)).set (0 : Nat)
 (↑g.fst.snd.snd.length : Int)).length :
 Int) =
 g.snd.snd.snd.fst + (1 : Int)) ∧
 ((↑x.fst.length : Int) - (g.snd.snd.snd.fst + (1 : Int))).toNat <
 ((↑x.fst.length : Int) - g.snd.snd.snd.fst).toNat) ∧
 ((True ∧ True) ∧
 True ∧
 True ∧
 Value.slice none (0 : Nat) (0 : Nat) =
 Value.slice none (0 : Nat) (0 : Nat) ∧
 x.fst = x.fst ∧
 (↑x.fst.length : Int) = (↑x.fst.length : Int) ∧
 g.snd.snd.snd.fst + (1 : Int) = g.snd.snd.snd.fst + (1 : Int) ∧
 True) ∧
 ((g.fst.fst.set
 (x.fst.getD g.snd.snd.snd.fst.toNat
 ((0 : Int), (0 : Int), (0 : Int))).snd.fst.toNat
 ((x.fst.getD g.snd.snd.snd.fst.toNat
 ((0 : Int), (0 : Int), (0 : Int))).fst ==
 (1 : Int)) =
 g.fst.fst.set
 (x.fst.getD g.snd.snd.snd.fst.toNat
 ((0 : Int), (0 : Int), (0 : Int))).snd.fst.toNat
 ((x.fst.getD g.snd.snd.snd.fst.toNat
 ((0 : Int), (0 : Int), (0 : Int))).fst ==
 (1 : Int)) ∧
 True ∧ True ∧ True) ∧
 g.fst.snd.fst = g.fst.snd.fst ∧
 g.fst.snd.snd = g.fst.snd.snd ∧
 g.snd.fst ++
 ((0 : Int) :: ([] : List Int)).set (0 : Nat) (0 : Int) =
 g.snd.fst ++
 ((0 : Int) :: ([] : List Int)).set (0 : Nat) (0 : Int) ∧
 g.snd.snd.fst ++
 ((0 : Int) :: ([] : List Int)).set (0 : Nat)
 (↑g.fst.snd.snd.length : Int) =
 g.snd.snd.fst ++
 ((0 : Int) :: ([] : List Int)).set (0 : Nat)
 (↑g.fst.snd.snd.length : Int) ∧
 True) ∧
 True))) ∧
 (((x.fst.getD g.snd.snd.snd.fst.toNat ((0 : Int), (0 : Int), (0 : Int))).fst == (2 : Int)) = !true →
 ((0 : Int) ≤ (x.fst.getD g.snd.snd.snd.fst.toNat ((0 : Int), (0 : Int), (0 : Int))).snd.fst ∧
 (x.fst.getD g.snd.snd.snd.fst.toNat ((0 : Int), (0 : Int), (0 : Int))).snd.fst <
 (↑(8 : Nat) : Int)) ∧
 (((x.fst.getD g.snd.snd.snd.fst.toNat ((0 : Int), (0 : Int), (0 : Int))).fst == (2 : Int)) =
 true →
 ((((0 : Int) ≤ (0 : Int) ∧
 (0 : Int) ≤ (↑g.fst.snd.1.length : Int) ∧
 g.fst.fst.set
 (x.fst.getD g.snd.snd.snd.fst.toNat
 ((0 : Int), (0 : Int), (0 : Int))).snd.fst.toNat
 ((x.fst.getD g.snd.snd.snd.fst.toNat
 ((0 : Int), (0 : Int), (0 : Int))).fst ==
 (1 : Int)) =
 (List.brecOn.go (motive := fun x ↦ Nat → Bool → List Bool) g.fst.fst
 List.set._f).1
 (x.fst.getD g.snd.snd.snd.fst.toNat
 ((0 : Int), (0 : Int), (0 : Int))).snd.fst.toNat
 ((x.fst.getD g.snd.snd.snd.fst.toNat
 ((0 : Int), (0 : Int), (0 : Int))).fst ==
 (1 : Int)) ∧
 g.fst.snd.fst =
 List.map
 (clr
 (x.fst.getD g.snd.snd.snd.fst.toNat
 ((0 : Int), (0 : Int), (0 : Int))).snd.fst)
 (List.take (Int.toNat (0 : Int)) g.fst.snd.1) ++
 List.drop (Int.toNat (0 : Int)) g.fst.snd.1) ∧
 True) ∧
 ((True ∧ True) ∧
 (True ∧ True) ∧
 (↑g.fst.snd.fst.length : Int) = (↑g.fst.snd.fst.length : Int) ∧
 (0 : Int) = (0 : Int) ∧ True) ∧
 ((g.fst.fst.set
 (x.fst.getD g.snd.snd.snd.fst.toNat
 ((0 : Int), (0 : Int), (0 : Int))).snd.fst.toNat
 ((x.fst.getD g.snd.snd.snd.fst.toNat
 ((0 : Int), (0 : Int), (0 : Int))).fst ==
 (1 : Int)) =
 g.fst.fst.set
 (x.fst.getD g.snd.snd.snd.fst.toNat
 ((0 : Int), (0 : Int), (0 : Int))).snd.fst.toNat
 ((x.fst.getD g.snd.snd.snd.fst.toNat
 ((0 : Int), (0 : Int), (0 : Int))).fst ==
 (1 : Int)) ∧
 True ∧ True ∧ True) ∧
 g.fst.snd.fst = g.fst.snd.fst ∧
 g.snd.fst = g.snd.fst ∧
 g.snd.snd.fst = g.snd.snd.fst ∧
 ((x.fst.getD g.snd.snd.snd.fst.toNat
 ((0 : Int), (0 : Int), (0 : Int))).fst =
 (x.fst.getD g.snd.snd.snd.fst.toNat
 ((0 : Int), (0 : Int), (0 : Int))).fst ∧
 (x.fst.getD g.snd.snd.snd.fst.toNat
 ((0 : Int), (0 : Int), (0 : Int))).snd.fst =
 (x.fst.getD g.snd.snd.snd.fst.toNat
 ((0 : Int), (0 : Int), (0 : Int))).snd.fst ∧
 (x.fst.getD g.snd.snd.snd.fst.toNat
 ((0 : Int), (0 : Int), (0 : Int))).snd.snd =
 (x.fst.getD g.snd.snd.snd.fst.toNat
 ((0 : Int), (0 : Int), (0 : Int))).snd.snd ∧
 True) ∧
 g.fst.snd.snd = g.fst.snd.snd ∧
 ((x.fst.getD g.snd.snd.snd.fst.toNat
 ((0 : Int), (0 : Int), (0 : Int))).fst =
 (x.fst.getD g.snd.snd.snd.fst.toNat
 ((0 : Int), (0 : Int), (0 : Int))).fst ∧
 (x.fst.getD g.snd.snd.snd.fst.toNat
 ((0 : Int), (0 : Int), (0 : Int))).snd.fst =
 (x.fst.getD g.snd.snd.snd.fst.toNat
 ((0 : Int), (0 : Int), (0 : Int))).snd.fst ∧
 (x.fst.getD g.snd.snd.snd.fst.toNat
 ((0 : Int), (0 : Int), (0 : Int))).snd.snd =
 (x.fst.getD g.snd.snd.snd.fst.toNat
 ((0 : Int), (0 : Int), (0 : Int))).snd.snd ∧
 True) ∧
 True) ∧
 True ∧
 True ∧
 True ∧
 True ∧
 True ∧
 True ∧
 (True ∧ True) ∧
 True ∧
 True ∧
 Value.slice none (0 : Nat) (0 : Nat) =
 Value.slice none (0 : Nat) (0 : Nat) ∧
 True ∧
 (True ∧ True) ∧
 True ∧
 True ∧
 True ∧
 True ∧
 x.fst = x.fst ∧
 (↑x.fst.length : Int) = (↑x.fst.length : Int) ∧
 g.snd.snd.snd.fst = g.snd.snd.snd.fst ∧
 true = true ∧
 True ∧
 ((x.fst.getD g.snd.snd.snd.fst.toNat
 ((0 : Int), (0 : Int),
 (0 : Int))).fst =
 (x.fst.getD g.snd.snd.snd.fst.toNat
 ((0 : Int), (0 : Int),
 (0 : Int))).fst ∧
 (x.fst.getD g.snd.snd.snd.fst.toNat
 ((0 : Int), (0 : Int),
 (0 : Int))).snd.fst =
 (x.fst.getD
 g.snd.snd.snd.fst.toNat
 ((0 : Int), (0 : Int),
 (0 : Int))).snd.fst ∧
 (x.fst.getD g.snd.snd.snd.fst.toNat
 ((0 : Int), (0 : Int),
 (0 : Int))).snd.snd =
 (x.fst.getD
 g.snd.snd.snd.fst.toNat
 ((0 : Int), (0 : Int),
 (0 : Int))).snd.snd ∧
 True) ∧
 True ∧
 (True ∧ True) ∧
 ((x.fst.getD g.snd.snd.snd.fst.toNat
 ((0 : Int), (0 : Int),
 (0 : Int))).fst =
 (x.fst.getD
 g.snd.snd.snd.fst.toNat
 ((0 : Int), (0 : Int),
 (0 : Int))).fst ∧
 (x.fst.getD
 g.snd.snd.snd.fst.toNat
 ((0 : Int), (0 : Int),
 (0 :
 Int))).snd.fst =
 (x.fst.getD
 g.snd.snd.snd.fst.toNat
 ((0 : Int), (0 : Int),
 (0 :
 Int))).snd.fst ∧
 (x.fst.getD
 g.snd.snd.snd.fst.toNat
 ((0 : Int),
 (0 : Int),
 (0 :
 Int))).snd.snd =
 (x.fst.getD
 g.snd.snd.snd.fst.toNat
 ((0 : Int),
 (0 : Int),
 (0 :
 Int))).snd.snd ∧
 True) ∧
 True ∧
 True ∧
 True ∧
 True ∧
 True ∧
 True ∧
 True ∧
 True ∧
 True ∧
 True ∧
 True ∧
 True ∧
 True ∧
 True ∧
 True ∧
 True ∧
 True ∧
 True ∧
 True ∧
 True ∧
 True ∧
 True ∧
 True ∧
 True ∧
 True ∧
 True ∧
 True ∧
 True ∧
 True ∧
 True ∧
 True ∧
 True ∧
 True ∧
 True ∧
 True) ∧
 ∀ (g_1 : (List Bool × List (Int × List Bool) × Unit) × Int × Unit),
 (0 : Int) ≤ g_1.snd.fst ∧
 g_1.snd.fst ≤ (↑g.fst.snd.1.length : Int) ∧
 g_1.fst.fst =
 (List.brecOn.go (motive := fun x ↦ Nat → Bool → List Bool) g.fst.fst
 List.set._f).1
 (x.fst.getD g.snd.snd.snd.fst.toNat
 ((0 : Int), (0 : Int), (0 : Int))).snd.fst.toNat
 ((x.fst.getD g.snd.snd.snd.fst.toNat
 ((0 : Int), (0 : Int), (0 : Int))).fst ==
 (1 : Int)) ∧
 g_1.fst.snd.fst =
 List.map
 (clr
 (x.fst.getD g.snd.snd.snd.fst.toNat
 ((0 : Int), (0 : Int), (0 : Int))).snd.fst)
 (List.take g_1.snd.fst.toNat g.fst.snd.1) ++
 List.drop g_1.snd.fst.toNat g.fst.snd.1 →
 ((g_1.fst.fst.length = (8 : Nat) ∧ ∀ (x : Bool), x ∈ g_1.fst.fst → True) ∧
 (g_1.fst.snd.fst.length ≤ (9223372036854775807 : Nat) ∧
 ∀ (x : Int × List Bool),
 x ∈ g_1.fst.snd.fst →
 ((-9223372036854775808 : Int) ≤ x.fst ∧
 x.fst ≤ (9223372036854775807 : Int)) ∧
 x.snd.length = (8 : Nat) ∧ ∀ (x_1 : Bool), x_1 ∈ x.snd → True) ∧
 True) ∧
 ((-9223372036854775808 : Int) ≤ g_1.snd.fst ∧
 g_1.snd.fst ≤ (9223372036854775807 : Int)) ∧
 True →
 (decide (g_1.snd.fst < (↑g.fst.snd.fst.length : Int)) = true →
 ((0 : Int) ≤ g_1.snd.fst ∧ g_1.snd.fst < (↑g_1.fst.snd.fst.length : Int)) ∧
 ((0 : Int) ≤
 (x.fst.getD g.snd.snd.snd.fst.toNat
 ((0 : Int), (0 : Int), (0 : Int))).snd.fst ∧
 (x.fst.getD g.snd.snd.snd.fst.toNat
 ((0 : Int), (0 : Int), (0 : Int))).snd.fst <
 (↑(8 : Nat) : Int)) ∧
 ((-9223372036854775808 : Int) ≤ g_1.snd.fst + (1 : Int) ∧
 g_1.snd.fst + (1 : Int) ≤ (9223372036854775807 : Int)) ∧
 (((0 : Int) ≤ g_1.snd.fst + (1 : Int) ∧
 g_1.snd.fst + (1 : Int) ≤ (↑g.fst.snd.1.length : Int) ∧
 g_1.fst.fst =
 (List.brecOn.go (motive := fun x ↦ Nat → Bool → List Bool)
 g.fst.fst List.set._f).1
 (x.fst.getD g.snd.snd.snd.fst.toNat
 ((0 : Int), (0 : Int), (0 : Int))).snd.fst.toNat
 ((x.fst.getD g.snd.snd.snd.fst.toNat
 ((0 : Int), (0 : Int), (0 : Int))).fst ==
 (1 : Int)) ∧
 g_1.fst.snd.fst.set g_1.snd.fst.toNat
 ((g_1.fst.snd.fst.getD g_1.snd.fst.toNat
 ((0 : Int),
 false ::
 false ::
 false ::
 false ::
 false ::
 false ::
 false ::
 false :: ([] : List Bool))).fst,
 (g_1.fst.snd.fst.getD g_1.snd.fst.toNat
 ((0 : Int),
 false ::
 false ::
 false ::
 false ::
 false ::
 false ::
 false ::
 false ::
 ([] : List Bool))).snd.set
 (x.fst.getD g.snd.snd.snd.fst.toNat
 ((0 : Int), (0 : Int), (0 : Int))).snd.fst.toNat
 false) =
 List.map
 (clr
 (x.fst.getD g.snd.snd.snd.fst.toNat
 ((0 : Int), (0 : Int), (0 : Int))).snd.fst)
 (List.take (g_1.snd.fst + (1 : Int)).toNat g.fst.snd.1) ++
 List.drop (g_1.snd.fst + (1 : Int)).toNat g.fst.snd.1) ∧
 ((↑g.fst.snd.1.length : Int) - (g_1.snd.fst + (1 : Int))).toNat <
 ((↑g.fst.snd.1.length : Int) - g_1.snd.fst).toNat) ∧
 ((True ∧ True) ∧
 (True ∧ True) ∧
 (↑g.fst.snd.fst.length : Int) = (↑g.fst.snd.fst.length : Int) ∧
 g_1.snd.fst + (1 : Int) = g_1.snd.fst + (1 : Int) ∧ True) ∧
 ((g_1.fst.fst = g_1.fst.fst ∧ True ∧ True ∧ True) ∧
 g_1.fst.snd.fst.set g_1.snd.fst.toNat
 ((g_1.fst.snd.fst.getD g_1.snd.fst.toNat
 ((0 : Int),
 false ::
 false ::
 false ::
 false ::
 false ::
 false ::
 false ::
 false :: ([] : List Bool))).fst,
 (g_1.fst.snd.fst.getD g_1.snd.fst.toNat
 ((0 : Int),
 false ::
 false ::
 false ::
 false ::
 false ::
 false ::
 false ::
 false ::
 ([] : List Bool))).snd.set
 (x.fst.getD g.snd.snd.snd.fst.toNat
 ((0 : Int), (0 : Int), (0 : Int))).snd.fst.toNat
 false) =
 g_1.fst.snd.fst.set g_1.snd.fst.toNat
 ((g_1.fst.snd.fst.getD g_1.snd.fst.toNat
 ((0 : Int),
 false ::
 false ::
 false ::
 false ::
 false ::
 false ::
 false ::
 false :: ([] : List Bool))).fst,
 (g_1.fst.snd.fst.getD g_1.snd.fst.toNat
 ((0 : Int),
 false ::
 false ::
 false ::
 false ::
 false ::
 false ::
 false ::
 false ::
 ([] : List Bool))).snd.set
 (x.fst.getD g.snd.snd.snd.fst.toNat
 ((0 : Int), (0 : Int), (0 : Int))).snd.fst.toNat
 false) ∧
 g.snd.fst = g.snd.fst ∧
 g.snd.snd.fst = g.snd.snd.fst ∧
 ((x.fst.getD g.snd.snd.snd.fst.toNat
 ((0 : Int), (0 : Int), (0 : Int))).fst =
 (x.fst.getD g.snd.snd.snd.fst.toNat
 ((0 : Int), (0 : Int), (0 : Int))).fst ∧
 (x.fst.getD g.snd.snd.snd.fst.toNat
 ((0 : Int), (0 : Int), (0 : Int))).snd.fst =
 (x.fst.getD g.snd.snd.snd.fst.toNat
 ((0 : Int), (0 : Int), (0 : Int))).snd.fst ∧
 (x.fst.getD g.snd.snd.snd.fst.toNat
 ((0 : Int), (0 : Int), (0 : Int))).snd.snd =
 (x.fst.getD g.snd.snd.snd.fst.toNat
 ((0 : Int), (0 : Int), (0 : Int))).snd.snd ∧
 True) ∧
 g.fst.snd.snd = g.fst.snd.snd ∧
 ((x.fst.getD g.snd.snd.snd.fst.toNat
 ((0 : Int), (0 : Int), (0 : Int))).fst =
 (x.fst.getD g.snd.snd.snd.fst.toNat
 ((0 : Int), (0 : Int), (0 : Int))).fst ∧
 (x.fst.getD g.snd.snd.snd.fst.toNat
 ((0 : Int), (0 : Int),
 (0 : Int))).snd.fst =
 (x.fst.getD g.snd.snd.snd.fst.toNat
 ((0 : Int), (0 : Int),
 (0 : Int))).snd.fst ∧
 (x.fst.getD g.snd.snd.snd.fst.toNat
 ((0 : Int), (0 : Int),
 (0 : Int))).snd.snd =
 (x.fst.getD g.snd.snd.snd.fst.toNat
 ((0 : Int), (0 : Int),
 (0 : Int))).snd.snd ∧
 True) ∧
 True) ∧
 True ∧
 True ∧
 True ∧
 True ∧
 True ∧
 True ∧
 (True ∧ True) ∧
 True ∧
 True ∧
 Value.slice none (0 : Nat) (0 : Nat) =
 Value.slice none (0 : Nat) (0 : Nat) ∧
 True ∧
 (True ∧ True) ∧
 True ∧
 True ∧
 True ∧
 True ∧
 x.fst = x.fst ∧
 (↑x.fst.length : Int) =
 (↑x.fst.length : Int) ∧
 g.snd.snd.snd.fst =
 g.snd.snd.snd.fst ∧
 true = true ∧
 True ∧
 ((x.fst.getD
 g.snd.snd.snd.fst.toNat
 ((0 : Int),
 (0 : Int),
 (0 :
 Int))).fst =
 (x.fst.getD
 g.snd.snd.snd.fst.toNat
 ((0 : Int),
 (0 : Int),
 (0 :
 Int))).fst ∧
 (x.fst.getD
 g.snd.snd.snd.fst.toNat
 ((0 : Int),
 (0 : Int),
 (0 :
 Int))).snd.fst =
 (x.fst.getD
 g.snd.snd.snd.fst.toNat
 ((0 : Int),
 (0 : Int),
 (0 :
 Int))).snd.fst ∧
 (x.fst.getD
 g.snd.snd.snd.fst.toNat
 ((0 :
 Int),
 (0 :
 Int),
 (0 :
 Int))).snd.snd =
 (x.fst.getD
 g.snd.snd.snd.fst.toNat
 ((0 :
 Int),
 (0 :
 Int),
 (0 :
 Int))).snd.snd ∧
 True) ∧
 True ∧
 (True ∧ True) ∧
 ((x.fst.getD
 g.snd.snd.snd.fst.toNat
 ((0 :
 Int),
 (0 :
 Int),
 (0 :
 Int))).fst =
 (x.fst.getD
 g.snd.snd.snd.fst.toNat
 ((0 :
 Int),
 (0 :
 Int),
 (0 :
 Int))).fst ∧
 (x.fst.getD
 g.snd.snd.snd.fst.toNat
 ((0 :
 Int),
 (0 :
 Int),
 (0 :
 Int))).snd.fst =
 (x.fst.getD
 g.snd.snd.snd.fst.toNat
 ((0 :
 Int),
 (0 :
 Int),
 (0 :
 Int))).snd.fst ∧
 (x.fst.getD
 g.snd.snd.snd.fst.toNat
 ((0 :
 Int),
 (0 :
 Int),
 (0 :
 Int))).snd.snd =
 (x.fst.getD
 g.snd.snd.snd.fst.toNat
 ((0 :
 Int),
 (0 :
 Int),
 (0 :
 Int))).snd.snd ∧
 True) ∧
 True ∧
 True ∧
 True ∧
 True ∧
 True ∧
 True ∧
 True ∧
 True ∧
 True ∧
 True ∧
 True ∧
 True ∧
 True ∧
 True ∧
 True ∧
 True ∧
 True ∧
 True ∧
 True ∧
 True ∧
 True ∧
 True ∧
 True ∧
 True ∧
 True ∧
 True ∧
 True ∧
 True ∧
 True ∧
 True ∧
 True ∧
 True ∧
 True ∧
 True ∧
 True) ∧
 (decide (g_1.snd.fst < (↑g.fst.snd.fst.length : Int)) = false →
 ((((0 : Int) ≤ (0 : Int) ∧
 (0 : Int) ≤ (↑g_1.fst.snd.1.length : Int) ∧
 g_1.fst.fst = g_1.fst.1 ∧
 g.fst.snd.snd =
 g.fst.snd.2 ++
 ff (List.take (Int.toNat (0 : Int)) g_1.fst.snd.1) ∧
 ([] : List (Int × List Bool)) =
 lf (List.take (Int.toNat (0 : Int)) g_1.fst.snd.1)) ∧
 True) ∧
 ((True ∧ True) ∧
 True ∧
 True ∧
 (↑g_1.fst.snd.fst.length : Int) = (↑g_1.fst.snd.fst.length : Int) ∧
 (0 : Int) = (0 : Int) ∧ True) ∧
 ((g_1.fst.fst = g_1.fst.fst ∧ True ∧ True ∧ True) ∧
 g.fst.snd.snd = g.fst.snd.snd ∧
 ([] : List (Int × List Bool)) = ([] : List (Int × List Bool)) ∧
 ((x.fst.getD g.snd.snd.snd.fst.toNat
 ((0 : Int), (0 : Int), (0 : Int))).fst =
 (x.fst.getD g.snd.snd.snd.fst.toNat
 ((0 : Int), (0 : Int), (0 : Int))).fst ∧
 (x.fst.getD g.snd.snd.snd.fst.toNat
 ((0 : Int), (0 : Int), (0 : Int))).snd.fst =
 (x.fst.getD g.snd.snd.snd.fst.toNat
 ((0 : Int), (0 : Int), (0 : Int))).snd.fst ∧
 (x.fst.getD g.snd.snd.snd.fst.toNat
 ((0 : Int), (0 : Int), (0 : Int))).snd.snd =
 (x.fst.getD g.snd.snd.snd.fst.toNat
 ((0 : Int), (0 : Int), (0 : Int))).snd.snd ∧
 True) ∧
 g.snd.fst = g.snd.fst ∧
 g.snd.snd.fst = g.snd.snd.fst ∧
 ((x.fst.getD g.snd.snd.snd.fst.toNat
 ((0 : Int), (0 : Int), (0 : Int))).fst =
 (x.fst.getD g.snd.snd.snd.fst.toNat
 ((0 : Int), (0 : Int), (0 : Int))).fst ∧
 (x.fst.getD g.snd.snd.snd.fst.toNat
 ((0 : Int), (0 : Int), (0 : Int))).snd.fst =
 (x.fst.getD g.snd.snd.snd.fst.toNat
 ((0 : Int), (0 : Int), (0 : Int))).snd.fst ∧
 (x.fst.getD g.snd.snd.snd.fst.toNat
 ((0 : Int), (0 : Int), (0 : Int))).snd.snd =
 (x.fst.getD g.snd.snd.snd.fst.toNat
 ((0 : Int), (0 : Int), (0 : Int))).snd.snd ∧
 True) ∧
 g_1.fst.snd.fst = g_1.fst.snd.fst ∧ True) ∧
 (True ∧ True) ∧
 True ∧
 True ∧
 (True ∧ True) ∧
 True ∧
 True ∧
 True ∧
 True ∧
 True ∧
 True ∧
 True ∧
 True ∧
 True ∧
 True ∧
 True ∧
 True ∧
 True ∧
 True ∧
 True ∧
 True ∧
 True ∧
 True ∧
 True ∧
 True ∧
 True ∧
 True ∧
 True ∧
 True ∧
 True ∧
 True ∧
 True ∧
 True ∧
 True ∧
 True ∧
 True ∧
 True ∧
 True ∧
 True ∧
 True ∧
 True ∧
 True ∧
 True ∧
 True ∧
 True ∧
 True ∧
 True ∧
 True ∧
 True ∧
 True ∧
 True ∧
 True ∧
 True ∧
 True ∧
 True ∧
 True ∧
 True ∧
 True ∧
 True ∧
 True ∧
 True ∧
 True ∧
 True ∧
 True ∧
 True ∧
 True ∧
 True ∧
 True ∧
 True ∧
 True ∧
 True ∧
 True ∧
 True ∧
 True ∧
 True ∧
 True ∧
 True ∧
 True ∧
 True ∧
 True ∧
 True ∧
 True ∧
 True ∧
 True ∧
 True ∧
 True ∧
 True ∧
 True ∧
 True ∧
 True ∧
 True ∧
 True ∧
 (↑g.fst.snd.fst.length :
 Int) =
 (↑g.fst.snd.fst.length :
 Int) ∧
 g_1.snd.fst =
 g_1.snd.fst ∧
 false =
 false ∧
 True ∧
 True ∧
 True ∧
 True ∧
 True ∧
 True ∧
 True ∧
 True ∧
 True ∧
 True ∧
 True ∧
 True ∧
 (True ∧
 True) ∧
 True ∧
 True ∧
 True ∧
 True ∧
 True ∧
 True ∧
 True ∧
 (True ∧
 True) ∧
 True ∧
 True ∧
 Value.slice
 none
 (0 :
 Nat)
 (0 :
 Nat) =
 Value.slice
 none
 (0 :
 Nat)
 (0 :
 Nat) ∧
 True ∧
 (True ∧
 True) ∧
 True ∧
 True ∧
 True ∧
 True ∧
 x.fst =
 x.fst ∧
 (↑x.fst.length :
 Int) =
 (↑x.fst.length :
 Int) ∧
 g.snd.snd.snd.fst =
 g.snd.snd.snd.fst ∧
 true =
 true ∧
 True ∧
 ((x.fst.getD
 g.snd.snd.snd.fst.toNat
 ((0 :
 Int),
 (0 :
 Int),
 (0 :
 Int))).fst =
 (x.fst.getD
 g.snd.snd.snd.fst.toNat
 ((0 :
 Int),
 (0 :
 Int),
 (0 :
 Int))).fst ∧
 (x.fst.getD
 g.snd.snd.snd.fst.toNat
 ((0 :
 Int),
 (0 :
 Int),
 (0 :
 Int))).snd.fst =
 (x.fst.getD
 g.snd.snd.snd.fst.toNat
 ((0 :
 Int),
 (0 :
 Int),
 (0 :
 Int))).snd.fst ∧
 (x.fst.getD
 g.snd.snd.snd.fst.toNat
 ((0 :
 Int),
 (0 :
 Int),
 (0 :
 Int))).snd.snd =
 (x.fst.getD
 g.snd.snd.snd.fst.toNat
 ((0 :
 Int),
 (0 :
 Int),
 (0 :
 Int))).snd.snd ∧
 True) ∧
 True ∧
 (True ∧
 True) ∧
 ((x.fst.getD
 g.snd.snd.snd.fst.toNat
 ((0 :
 Int),
 (0 :
 Int),
 (0 :
 Int))).fst =
 (x.fst.getD
 g.snd.snd.snd.fst.toNat
 ((0 :
 Int),
 (0 :
 Int),
 (0 :
 Int))).fst ∧
 (x.fst.getD
 g.snd.snd.snd.fst.toNat
 ((0 :
 Int),
 (0 :
 Int),
 (0 :
 Int))).snd.fst =
 (x.fst.getD
 g.snd.snd.snd.fst.toNat
 ((0 :
 Int),
 (0 :
 Int),
 (0 :
 Int))).snd.fst ∧
 (x.fst.getD
 g.snd.snd.snd.fst.toNat
 ((0 :
 Int),
 (0 :
 Int),
 (0 :
 Int))).snd.snd =
 (x.fst.getD
 g.snd.snd.snd.fst.toNat
 ((0 :
 Int),
 (0 :
 Int),
 (0 :
 Int))).snd.snd ∧
 True) ∧
 True ∧
 True ∧
 True ∧
 True ∧
 True ∧
 True ∧
 True ∧
 True ∧
 True ∧
 True ∧
 True ∧
 True ∧
 True ∧
 True ∧
 True ∧
 True ∧
 True ∧
 True ∧
 True ∧
 True ∧
 True ∧
 True ∧
 True ∧
 True ∧
 True ∧
 True ∧
 True ∧
 True ∧
 True ∧
 True ∧
 True ∧
 True ∧
 True ∧
 True ∧
 True) ∧
 ∀ (g_2 : (List Bool × Unit × List Int) × List (Int × List Bool) × Int × Unit),
 (0 : Int) ≤ g_2.snd.snd.fst ∧
 g_2.snd.snd.fst ≤ (↑g_1.fst.snd.1.length : Int) ∧
 g_2.fst.fst = g_1.fst.1 ∧
 g_2.fst.snd.snd =
 g.fst.snd.2 ++
 ff (List.take g_2.snd.snd.fst.toNat g_1.fst.snd.1) ∧
 g_2.snd.fst = lf (List.take g_2.snd.snd.fst.toNat g_1.fst.snd.1) →
 ((g_2.fst.fst.length = (8 : Nat) ∧ ∀ (x : Bool), x ∈ g_2.fst.fst → True) ∧
 True ∧
 g_2.fst.snd.snd.length ≤ (9223372036854775807 : Nat) ∧
 ∀ (x : Int),
 x ∈ g_2.fst.snd.snd →
 (-9223372036854775808 : Int) ≤ x ∧
 x ≤ (9223372036854775807 : Int)) ∧
 (g_2.snd.fst.length ≤ (9223372036854775807 : Nat) ∧
 ∀ (x : Int × List Bool),
 x ∈ g_2.snd.fst →
 ((-9223372036854775808 : Int) ≤ x.fst ∧
 x.fst ≤ (9223372036854775807 : Int)) ∧
 x.snd.length = (8 : Nat) ∧
 ∀ (x_1 : Bool), x_1 ∈ x.snd → True) ∧
 ((-9223372036854775808 : Int) ≤ g_2.snd.snd.fst ∧
 g_2.snd.snd.fst ≤ (9223372036854775807 : Int)) ∧
 True →
 (decide (g_2.snd.snd.fst < (↑g_1.fst.snd.fst.length : Int)) = true →
 ((0 : Int) ≤ g_2.snd.snd.fst ∧
 g_2.snd.snd.fst < (↑g_1.fst.snd.fst.length : Int)) ∧
 (deq (Ty.arr (8 : Nat) Ty.bool)
 (g_1.fst.snd.fst.getD g_2.snd.snd.fst.toNat
 ((0 : Int),
 false ::
 false ::
 false ::
 false ::
 false ::
 false ::
 false :: false :: ([] : List Bool))).snd
 (false ::
 false ::
 false ::
 false ::
 false ::
 false :: false :: false :: ([] : List Bool)) =
 true →
 (g_2.fst.snd.snd.length +
 (((0 : Int) :: ([] : List Int)).set (0 : Nat)
 (g_1.fst.snd.fst.getD g_2.snd.snd.fst.toNat
 ((0 : Int),
 false ::
 false ::
 false ::
 false ::
 false ::
 false ::
 false ::
 false ::
 ([] :
 List Bool))).fst).length ≤
 (9223372036854775807 : Nat) ∧
 (g_2.fst.snd.snd.length +
 (((0 : Int) :: ([] : List Int)).set (0 : Nat)
 (g_1.fst.snd.fst.getD g_2.snd.snd.fst.toNat
 ((0 : Int),
 false ::
 false ::
 false ::
 false ::
 false ::
 false ::
 false ::
 false ::
 ([] :
 List
 Bool))).fst).length +
 (g_2.fst.snd.snd.length +
 (((0 : Int) :: ([] : List Int)).set (0 : Nat)
 (g_1.fst.snd.fst.getD
 g_2.snd.snd.fst.toNat
 ((0 : Int),
 false ::
 false ::
 false ::
 false ::
 false ::
 false ::
 false ::
 false ::
 ([] :
 List
 Bool))).fst).length) /
 (4 : Nat) +
 (192 : Nat)) *
 (8 : Nat) ≤
 (281474976710656 : Nat)) ∧
 ((-9223372036854775808 : Int) ≤
 g_2.snd.snd.fst + (1 : Int) ∧
 g_2.snd.snd.fst + (1 : Int) ≤
 (9223372036854775807 : Int)) ∧
 (((0 : Int) ≤ g_2.snd.snd.fst + (1 : Int) ∧
 g_2.snd.snd.fst + (1 : Int) ≤
 (↑g_1.fst.snd.1.length : Int) ∧
 g_2.fst.fst = g_1.fst.1 ∧
 g_2.fst.snd.snd ++
 ((0 : Int) :: ([] : List Int)).set
 (0 : Nat)
 (g_1.fst.snd.fst.getD
 g_2.snd.snd.fst.toNat
 ((0 : Int),
 false ::
 false ::
 false ::
 false ::
 false ::
 false ::
 false ::
 false ::
 ([] :
 List
 Bool))).fst =
 g.fst.snd.2 ++
 ff
 (List.take
 (g_2.snd.snd.fst + (1 : Int)).toNat
 g_1.fst.snd.1) ∧
 g_2.snd.fst =
 lf
 (List.take
 (g_2.snd.snd.fst + (1 : Int)).toNat
 g_1.fst.snd.1)) ∧
 ((↑g_1.fst.snd.1.length : Int) -
 (g_2.snd.snd.fst + (1 : Int))).toNat <
 ((↑g_1.fst.snd.1.length : Int) -
 g_2.snd.snd.fst).toNat) ∧
 ((True ∧ True) ∧
 True ∧
 True ∧
 (↑g_1.fst.snd.fst.length : Int) =
 (↑g_1.fst.snd.fst.length : Int) ∧
 g_2.snd.snd.fst + (1 : Int) =
 g_2.snd.snd.fst + (1 : Int) ∧
 True) ∧
 ((g_2.fst.fst = g_2.fst.fst ∧ True ∧ True ∧ True) ∧
 g_2.fst.snd.snd ++
 ((0 : Int) :: ([] : List Int)).set (0 : Nat)
 (g_1.fst.snd.fst.getD
 g_2.snd.snd.fst.toNat
 ((0 : Int),
 false ::
 false ::
 false ::
 false ::
 false ::
 false ::
 false ::
 false ::
 ([] :
 List Bool))).fst =
 g_2.fst.snd.snd ++
 ((0 : Int) :: ([] : List Int)).set (0 : Nat)
 (g_1.fst.snd.fst.getD
 g_2.snd.snd.fst.toNat
 ((0 : Int),
 false ::
 false ::
 false ::
 false ::
 false ::
 false ::
 false ::
 false ::
 ([] :
 List Bool))).fst ∧
 g_2.snd.fst = g_2.snd.fst ∧
 ((x.fst.getD g.snd.snd.snd.fst.toNat
 ((0 : Int), (0 : Int),
 (0 : Int))).fst =
 (x.fst.getD g.snd.snd.snd.fst.toNat
 ((0 : Int), (0 : Int),
 (0 : Int))).fst ∧
 (x.fst.getD g.snd.snd.snd.fst.toNat
 ((0 : Int), (0 : Int),
 (0 : Int))).snd.fst =
 (x.fst.getD g.snd.snd.snd.fst.toNat
 ((0 : Int), (0 : Int),
 (0 : Int))).snd.fst ∧
 (x.fst.getD g.snd.snd.snd.fst.toNat
 ((0 : Int), (0 : Int),
 (0 : Int))).snd.snd =
 (x.fst.getD g.snd.snd.snd.fst.toNat
 ((0 : Int), (0 : Int),
 (0 : Int))).snd.snd ∧
 True) ∧
 g.snd.fst = g.snd.fst ∧
 g.snd.snd.fst = g.snd.snd.fst ∧
 ((x.fst.getD g.snd.snd.snd.fst.toNat
 ((0 : Int), (0 : Int),
 (0 : Int))).fst =
 (x.fst.getD
 g.snd.snd.snd.fst.toNat
 ((0 : Int), (0 : Int),
 (0 : Int))).fst ∧
 (x.fst.getD g.snd.snd.snd.fst.toNat
 ((0 : Int), (0 : Int),
 (0 : Int))).snd.fst =
 (x.fst.getD
 g.snd.snd.snd.fst.toNat
 ((0 : Int), (0 : Int),
 (0 : Int))).snd.fst ∧
 (x.fst.getD
 g.snd.snd.snd.fst.toNat
 ((0 : Int), (0 : Int),
 (0 : Int))).snd.snd =
 (x.fst.getD
 g.snd.snd.snd.fst.toNat
 ((0 : Int), (0 : Int),
 (0 : Int))).snd.snd ∧
 True) ∧
 g_1.fst.snd.fst = g_1.fst.snd.fst ∧
 True) ∧
 (True ∧ True) ∧
 True ∧
 True ∧
 (True ∧ True) ∧
 True ∧
 True ∧
 True ∧
 True ∧
 True ∧
 True ∧
 True ∧
 True ∧
 True ∧
 True ∧
 True ∧
 True ∧
 True ∧
 True ∧
 True ∧
 True ∧
 True ∧
 True ∧
 True ∧
 True ∧
 True ∧
 True ∧
 True ∧
 True ∧
 True ∧
 True ∧
 True ∧
 True ∧
 True ∧
 True ∧
 True ∧
 True ∧
 True ∧
 True ∧
 True ∧
 True ∧
 True ∧
 True ∧
 True ∧
 True ∧
 True ∧
 True ∧
 True ∧
 True ∧
 True ∧
 True ∧
 True ∧
 True ∧
 True ∧
 True ∧
 True ∧
 True ∧
 True ∧
 True ∧
 True ∧
 True ∧
 True ∧
 True ∧
 True ∧
 True ∧
 True ∧
 True ∧
 True ∧
 True ∧
 True ∧
 True ∧
 True ∧
 True ∧
 True ∧
 True ∧
 True ∧
 True ∧
 True ∧
 True ∧
 True ∧
 True ∧
 True ∧
 True ∧
 True ∧
 True ∧
 True ∧
 True ∧
 True ∧
 True ∧
 True ∧
 True ∧
 True ∧
 (↑g.fst.snd.fst.length :
 Int) =
 (↑g.fst.snd.fst.length :
 Int) ∧
 g_1.snd.fst =
 g_1.snd.fst ∧
 false =
 false ∧
 True ∧
 True ∧
 True ∧
 True ∧
 True ∧
 True ∧
 True ∧
 True ∧
 True ∧
 True ∧
 True ∧
 True ∧
 (True ∧
 True) ∧
 True ∧
 True ∧
 True ∧
 True ∧
 True ∧
 True ∧
 True ∧
 (True ∧
 True) ∧
 True ∧
 True ∧
 Value.slice
 none
 (0 :
 Nat)
 (0 :
 Nat) =
 Value.slice
 none
 (0 :
 Nat)
 (0 :
 Nat) ∧
 True ∧
 (True ∧
 True) ∧
 True ∧
 True ∧
 True ∧
 True ∧
 x.fst =
 x.fst ∧
 (↑x.fst.length :
 Int) =
 (↑x.fst.length :
 Int) ∧
 g.snd.snd.snd.fst =
 g.snd.snd.snd.fst ∧
 true =
 true ∧
 True ∧
 ((x.fst.getD
 g.snd.snd.snd.fst.toNat
 ((0 :
 Int),
 (0 :
 Int),
 (0 :
 Int))).fst =
 (x.fst.getD
 g.snd.snd.snd.fst.toNat
 ((0 :
 Int),
 (0 :
 Int),
 (0 :
 Int))).fst ∧
 (x.fst.getD
 g.snd.snd.snd.fst.toNat
 ((0 :
 Int),
 (0 :
 Int),
 (0 :
 Int))).snd.fst =
 (x.fst.getD
 g.snd.snd.snd.fst.toNat
 ((0 :
 Int),
 (0 :
 Int),
 (0 :
 Int))).snd.fst ∧
 (x.fst.getD
 g.snd.snd.snd.fst.toNat
 ((0 :
 Int),
 (0 :
 Int),
 (0 :
 Int))).snd.snd =
 (x.fst.getD
 g.snd.snd.snd.fst.toNat
 ((0 :
 Int),
 (0 :
 Int),
 (0 :
 Int))).snd.snd ∧
 True) ∧
 True ∧
 (True ∧
 True) ∧
 ((x.fst.getD
 g.snd.snd.snd.fst.toNat
 ((0 :
 Int),
 (0 :
 Int),
 (0 :
 Int))).fst =
 (x.fst.getD
 g.snd.snd.snd.fst.toNat
 ((0 :
 Int),
 (0 :
 Int),
 (0 :
 Int))).fst ∧
 (x.fst.getD
 g.snd.snd.snd.fst.toNat
 ((0 :
 Int),
 (0 :
 Int),
 (0 :
 Int))).snd.fst =
 (x.fst.getD
 g.snd.snd.snd.fst.toNat
 ((0 :
 Int),
 (0 :
 Int),
 (0 :
 Int))).snd.fst ∧
 (x.fst.getD
 g.snd.snd.snd.fst.toNat
 ((0 :
 Int),
 (0 :
 Int),
 (0 :
 Int))).snd.snd =
 (x.fst.getD
 g.snd.snd.snd.fst.toNat
 ((0 :
 Int),
 (0 :
 Int),
 (0 :
 Int))).snd.snd ∧
 True) ∧
 True ∧
 True ∧
 True ∧
 True ∧
 True ∧
 True ∧
 True ∧
 True ∧
 True ∧
 True ∧
 True ∧
 True ∧
 True ∧
 True ∧
 True ∧
 True ∧
 True ∧
 True ∧
 True ∧
 True ∧
 True ∧
 True ∧
 True ∧
 True ∧
 True ∧
 True ∧
 True ∧
 True ∧
 True ∧
 True ∧
 True ∧
 True ∧
 True ∧
 True ∧
 True) ∧
 (deq (Ty.arr (8 : Nat) Ty.bool)
 (g_1.fst.snd.fst.getD g_2.snd.snd.fst.toNat
 ((0 : Int),
 false ::
 false ::
 false ::
 false ::
 false ::
 false ::
 false :: false :: ([] : List Bool))).snd
 (false ::
 false ::
 false ::
 false ::
 false ::
 false :: false :: false :: ([] : List Bool)) =
 false →
 (g_2.snd.fst.length +
 ((((0 : Int),
 false ::
 false ::
 false ::
 false ::
 false ::
 false ::
 false ::
 false :: ([] : List Bool)) ::
 ([] : List (Int × List Bool))).set
 (0 : Nat)
 ((g_1.fst.snd.fst.getD g_2.snd.snd.fst.toNat
 ((0 : Int),
 false ::
 false ::
 false ::
 false ::
 false ::
 false ::
 false ::
 false ::
 ([] : List Bool))).fst,
 (g_1.fst.snd.fst.getD g_2.snd.snd.fst.toNat
 ((0 : Int),
 false ::
 false ::
 false ::
 false ::
 false ::
 false ::
 false ::
 false ::
 ([] :
 List
 Bool))).snd)).length ≤
 (9223372036854775807 : Nat) ∧
 (g_2.snd.fst.length +
 ((((0 : Int),
 false ::
 false ::
 false ::
 false ::
 false ::
 false ::
 false ::
 false ::
 ([] : List Bool)) ::
 ([] : List (Int × List Bool))).set
 (0 : Nat)
 ((g_1.fst.snd.fst.getD g_2.snd.snd.fst.toNat
 ((0 : Int),
 false ::
 false ::
 false ::
 false ::
 false ::
 false ::
 false ::
 false ::
 ([] :
 List Bool))).fst,
 (g_1.fst.snd.fst.getD
 g_2.snd.snd.fst.toNat
 ((0 : Int),
 false ::
 false ::
 false ::
 false ::
 false ::
 false ::
 false ::
 false ::
 ([] :
 List
 Bool))).snd)).length +
 (g_2.snd.fst.length +
 ((((0 : Int),
 false ::
 false ::
 false ::
 false ::
 false ::
 false ::
 false ::
 false ::
 ([] : List Bool)) ::
 ([] : List (Int × List Bool))).set
 (0 : Nat)
 ((g_1.fst.snd.fst.getD
 g_2.snd.snd.fst.toNat
 ((0 : Int),
 false ::
 false ::
 false ::
 false ::
 false ::
 false ::
 false ::
 false ::
 ([] :
 List
 Bool))).fst,
 (g_1.fst.snd.fst.getD
 g_2.snd.snd.fst.toNat
 ((0 : Int),
 false ::
 false ::
 false ::
 false ::
 false ::
 false ::
 false ::
 false ::
 ([] :
 List
 Bool))).snd)).length) /
 (4 : Nat) +
 (192 : Nat)) *
 (16 : Nat) ≤
 (281474976710656 : Nat)) ∧
 ((-9223372036854775808 : Int) ≤
 g_2.snd.snd.fst + (1 : Int) ∧
 g_2.snd.snd.fst + (1 : Int) ≤
 (9223372036854775807 : Int)) ∧
 (((0 : Int) ≤ g_2.snd.snd.fst + (1 : Int) ∧
 g_2.snd.snd.fst + (1 : Int) ≤
 (↑g_1.fst.snd.1.length : Int) ∧
 g_2.fst.fst = g_1.fst.1 ∧
 g_2.fst.snd.snd =
 g.fst.snd.2 ++
 ff
 (List.take
 (g_2.snd.snd.fst + (1 : Int)).toNat
 g_1.fst.snd.1) ∧
 g_2.snd.fst ++
 (((0 : Int),
 false ::
 false ::
 false ::
 false ::
 false ::
 false ::
 false ::
 false ::
 ([] :
 List Bool)) ::
 ([] : List (Int × List Bool))).set
 (0 : Nat)
 ((g_1.fst.snd.fst.getD
 g_2.snd.snd.fst.toNat
 ((0 : Int),
 false ::
 false ::
 false ::
 false ::
 false ::
 false ::
 false ::
 false ::
 ([] :
 List
 Bool))).fst,
 (g_1.fst.snd.fst.getD
 g_2.snd.snd.fst.toNat
 ((0 : Int),
 false ::
 false ::
 false ::
 false ::
 false ::
 false ::
 false ::
 false ::
 ([] :
 List
 Bool))).snd) =
 lf
 (List.take
 (g_2.snd.snd.fst + (1 : Int)).toNat
 g_1.fst.snd.1)) ∧
 ((↑g_1.fst.snd.1.length : Int) -
 (g_2.snd.snd.fst + (1 : Int))).toNat <
 ((↑g_1.fst.snd.1.length : Int) -
 g_2.snd.snd.fst).toNat) ∧
 ((True ∧ True) ∧
 True ∧
 True ∧
 (↑g_1.fst.snd.fst.length : Int) =
 (↑g_1.fst.snd.fst.length : Int) ∧
 g_2.snd.snd.fst + (1 : Int) =
 g_2.snd.snd.fst + (1 : Int) ∧
 True) ∧
 ((g_2.fst.fst = g_2.fst.fst ∧ True ∧ True ∧ True) ∧
 g_2.fst.snd.snd = g_2.fst.snd.snd ∧
 g_2.snd.fst ++
 (((0 : Int),
 false ::
 false ::
 false ::
 false ::
 false ::
 false ::
 false ::
 false ::
 ([] :
 List Bool)) ::
 ([] : List (Int × List Bool))).set
 (0 : Nat)
 ((g_1.fst.snd.fst.getD
 g_2.snd.snd.fst.toNat
 ((0 : Int),
 false ::
 false ::
 false ::
 false ::
 false ::
 false ::
 false ::
 false ::
 ([] :
 List
 Bool))).fst,
 (g_1.fst.snd.fst.getD
 g_2.snd.snd.fst.toNat
 ((0 : Int),
 false ::
 false ::
 false ::
 false ::
 false ::
 false ::
 false ::
 false ::
 ([] :
 List
 Bool))).snd) =
 g_2.snd.fst ++
 (((0 : Int),
 false ::
 false ::
 false ::
 false ::
 false ::
 false ::
 false ::
 false ::
 ([] :
 List Bool)) ::
 ([] : List (Int × List Bool))).set
 (0 : Nat)
 ((g_1.fst.snd.fst.getD
 g_2.snd.snd.fst.toNat
 ((0 : Int),
 false ::
 false ::
 false ::
 false ::
 false ::
 false ::
 false ::
 false ::
 ([] :
 List
 Bool))).fst,
 (g_1.fst.snd.fst.getD
 g_2.snd.snd.fst.toNat
 ((0 : Int),
 false ::
 false ::
 false ::
 false ::
 false ::
 false ::
 false ::
 false ::
 ([] :
 List
 Bool))).snd) ∧
 ((x.fst.getD g.snd.snd.snd.fst.toNat
 ((0 : Int), (0 : Int),
 (0 : Int))).fst =
 (x.fst.getD g.snd.snd.snd.fst.toNat
 ((0 : Int), (0 : Int),
 (0 : Int))).fst ∧
 (x.fst.getD g.snd.snd.snd.fst.toNat
 ((0 : Int), (0 : Int),
 (0 : Int))).snd.fst =
 (x.fst.getD g.snd.snd.snd.fst.toNat
 ((0 : Int), (0 : Int),
 (0 : Int))).snd.fst ∧
 (x.fst.getD g.snd.snd.snd.fst.toNat
 ((0 : Int), (0 : Int),
 (0 : Int))).snd.snd =
 (x.fst.getD g.snd.snd.snd.fst.toNat
 ((0 : Int), (0 : Int),
 (0 : Int))).snd.snd ∧
 True) ∧
 g.snd.fst = g.snd.fst ∧
 g.snd.snd.fst = g.snd.snd.fst ∧
 ((x.fst.getD g.snd.snd.snd.fst.toNat
 ((0 : Int), (0 : Int),
 (0 : Int))).fst =
 (x.fst.getD
 g.snd.snd.snd.fst.toNat
 ((0 : Int), (0 : Int),
 (0 : Int))).fst ∧
 (x.fst.getD g.snd.snd.snd.fst.toNat
 ((0 : Int), (0 : Int),
 (0 : Int))).snd.fst =
 (x.fst.getD
 g.snd.snd.snd.fst.toNat
 ((0 : Int), (0 : Int),
 (0 : Int))).snd.fst ∧
 (x.fst.getD
 g.snd.snd.snd.fst.toNat
 ((0 : Int), (0 : Int),
 (0 : Int))).snd.snd =
 (x.fst.getD
 g.snd.snd.snd.fst.toNat
 ((0 : Int), (0 : Int),
 (0 : Int))).snd.snd ∧
 True) ∧
 g_1.fst.snd.fst = g_1.fst.snd.fst ∧
 True) ∧
 (True ∧ True) ∧
 True ∧
 True ∧
 (True ∧ True) ∧
 True ∧
 True ∧
 True ∧
 True ∧
 True ∧
 True ∧
 True ∧
 True ∧
 True ∧
 True ∧
 True ∧
 True ∧
 True ∧
 True ∧
 True ∧
 True ∧
 True ∧
 True ∧
 True ∧
 True ∧
 True ∧
 True ∧
 True ∧
 True ∧
 True ∧
 True ∧
 True ∧
 True ∧
 True ∧
 True ∧
 True ∧
 True ∧
 True ∧
 True ∧
 True ∧
 True ∧
 True ∧
 True ∧
 True ∧
 True ∧
 True ∧
 True ∧
 True ∧
 True ∧
 True ∧
 True ∧
 True ∧
 True ∧
 True ∧
 True ∧
 True ∧
 True ∧
 True ∧
 True ∧
 True ∧
 True ∧
 True ∧
 True ∧
 True ∧
 True ∧
 True ∧
 True ∧
 True ∧
 True ∧
 True ∧
 True ∧
 True ∧
 True ∧
 True ∧
 True ∧
 True ∧
 True ∧
 True ∧
 True ∧
 True ∧
 True ∧
 True ∧
 True ∧
 True ∧
 True ∧
 True ∧
 True ∧
 True ∧
 True ∧
 True ∧
 True ∧
 True ∧
 (↑g.fst.snd.fst.length :
 Int) =
 (↑g.fst.snd.fst.length :
 Int) ∧
 g_1.snd.fst =
 g_1.snd.fst ∧
 false =
 false ∧
 True ∧
 True ∧
 True ∧
 True ∧
 True ∧
 True ∧
 True ∧
 True ∧
 True ∧
 True ∧
 True ∧
 True ∧
 (True ∧
 True) ∧
 True ∧
 True ∧
 True ∧
 True ∧
 True ∧
 True ∧
 True ∧
 (True ∧
 True) ∧
 True ∧
 True ∧
 Value.slice
 none
 (0 :
 Nat)
 (0 :
 Nat) =
 Value.slice
 none
 (0 :
 Nat)
 (0 :
 Nat) ∧
 True ∧
 (True ∧
 True) ∧
 True ∧
 True ∧
 True ∧
 True ∧
 x.fst =
 x.fst ∧
 (↑x.fst.length :
 Int) =
 (↑x.fst.length :
 Int) ∧
 g.snd.snd.snd.fst =
 g.snd.snd.snd.fst ∧
 true =
 true ∧
 True ∧
 ((x.fst.getD
 g.snd.snd.snd.fst.toNat
 ((0 :
 Int),
 (0 :
 Int),
 (0 :
 Int))).fst =
 (x.fst.getD
 g.snd.snd.snd.fst.toNat
 ((0 :
 Int),
 (0 :
 Int),
 (0 :
 Int))).fst ∧
 (x.fst.getD
 g.snd.snd.snd.fst.toNat
 ((0 :
 Int),
 (0 :
 Int),
 (0 :
 Int))).snd.fst =
 (x.fst.getD
 g.snd.snd.snd.fst.toNat
 ((0 :
 Int),
 (0 :
 Int),
 (0 :
 Int))).snd.fst ∧
 (x.fst.getD
 g.snd.snd.snd.fst.toNat
 ((0 :
 Int),
 (0 :
 Int),
 (0 :
 Int))).snd.snd =
 (x.fst.getD
 g.snd.snd.snd.fst.toNat
 ((0 :
 Int),
 (0 :
 Int),
 (0 :
 Int))).snd.snd ∧
 True) ∧
 True ∧
 (True ∧
 True) ∧
 ((x.fst.getD
 g.snd.snd.snd.fst.toNat
 ((0 :
 Int),
 (0 :
 Int),
 (0 :
 Int))).fst =
 (x.fst.getD
 g.snd.snd.snd.fst.toNat
 ((0 :
 Int),
 (0 :
 Int),
 (0 :
 Int))).fst ∧
 (x.fst.getD
 g.snd.snd.snd.fst.toNat
 ((0 :
 Int),
 (0 :
 Int),
 (0 :
 Int))).snd.fst =
 (x.fst.getD
 g.snd.snd.snd.fst.toNat
 ((0 :
 Int),
 (0 :
 Int),
 (0 :
 Int))).snd.fst ∧
 (x.fst.getD
 g.snd.snd.snd.fst.toNat
 ((0 :
 Int),
 (0 :
 Int),
 (0 :
 Int))).snd.snd =
 (x.fst.getD
 g.snd.snd.snd.fst.toNat
 ((0 :
 Int),
 (0 :
 Int),
 (0 :
 Int))).snd.snd ∧
 True) ∧
 True ∧
 True ∧
 True ∧
 True ∧
 True ∧
 True ∧
 True ∧
 True ∧
 True ∧
 True ∧
 True ∧
 True ∧
 True ∧
 True ∧
 True ∧
 True ∧
 True ∧
 True ∧
 True ∧
 True ∧
 True ∧
 True ∧
 True ∧
 True ∧
 True ∧
 True ∧
 True ∧
 True ∧
 True ∧
 True ∧
 True ∧
 True ∧
 True ∧
 True ∧
 True)) ∧
 (decide (g_2.snd.snd.fst < (↑g_1.fst.snd.fst.length : Int)) = false →
 (g.snd.fst.length +
 (((0 : Int) :: ([] : List Int)).set (0 : Nat)
 (0 : Int)).length ≤
 (9223372036854775807 : Nat) ∧
 (g.snd.fst.length +
 (((0 : Int) :: ([] : List Int)).set (0 : Nat)
 (0 : Int)).length +
 (g.snd.fst.length +
 (((0 : Int) :: ([] : List Int)).set (0 : Nat)
 (0 : Int)).length) /
 (4 : Nat) +
 (192 : Nat)) *
 (8 : Nat) ≤
 (281474976710656 : Nat)) ∧
 (g.snd.snd.fst.length +
 (((0 : Int) :: ([] : List Int)).set (0 : Nat)
 (↑g_2.fst.snd.snd.length : Int)).length ≤
 (9223372036854775807 : Nat) ∧
 (g.snd.snd.fst.length +
 (((0 : Int) :: ([] : List Int)).set (0 : Nat)
 (↑g_2.fst.snd.snd.length : Int)).length +
 (g.snd.snd.fst.length +
 (((0 : Int) :: ([] : List Int)).set (0 : Nat)
 (↑g_2.fst.snd.snd.length : Int)).length) /
 (4 : Nat) +
 (192 : Nat)) *
 (8 : Nat) ≤
 (281474976710656 : Nat)) ∧
 ((-9223372036854775808 : Int) ≤ g.snd.snd.snd.fst + (1 : Int) ∧
 g.snd.snd.snd.fst + (1 : Int) ≤
 (9223372036854775807 : Int)) ∧
 (((0 : Int) ≤ g.snd.snd.snd.fst + (1 : Int) ∧
 g.snd.snd.snd.fst + (1 : Int) ≤ (↑x.fst.length : Int) ∧
 pl
 (List.take (g.snd.snd.snd.fst + (1 : Int)).toNat
 x.fst) =
 ((g_2.fst.fst, g_2.snd.fst, g_2.fst.snd.snd),
 g.snd.fst ++
 ((0 : Int) :: ([] : List Int)).set (0 : Nat)
 (0 : Int),
 g.snd.snd.fst ++
 ((0 : Int) :: ([] : List Int)).set (0 : Nat)
 (↑g_2.fst.snd.snd.length : Int)) ∧
 (↑g_2.snd.fst.length : Int) +
 (↑g_2.fst.snd.snd.length : Int) ≤
 g.snd.snd.snd.fst + (1 : Int) ∧
 (↑(g.snd.fst ++
 ((0 : Int) :: ([] : List Int)).set
 (0 : Nat) (0 : Int)).length :
 Int) =
 g.snd.snd.snd.fst + (1 : Int) ∧
 (↑(g.snd.snd.fst ++
 ((0 : Int) :: ([] : List Int)).set
 (0 : Nat)
 (↑g_2.fst.snd.snd.length :
 Int)).length :
 Int) =
 g.snd.snd.snd.fst + (1 : Int)) ∧
 ((↑x.fst.length : Int) -
 (g.snd.snd.snd.fst + (1 : Int))).toNat <
 ((↑x.fst.length : Int) - g.snd.snd.snd.fst).toNat) ∧
 ((True ∧ True) ∧
 True ∧
 True ∧
 Value.slice none (0 : Nat) (0 : Nat) =
 Value.slice none (0 : Nat) (0 : Nat) ∧
 x.fst = x.fst ∧
 (↑x.fst.length : Int) = (↑x.fst.length : Int) ∧
 g.snd.snd.snd.fst + (1 : Int) =
 g.snd.snd.snd.fst + (1 : Int) ∧
 True) ∧
 ((g_2.fst.fst = g_2.fst.fst ∧ True ∧ True ∧ True) ∧
 g_2.snd.fst = g_2.snd.fst ∧
 g_2.fst.snd.snd = g_2.fst.snd.snd ∧
 g.snd.fst ++
 ((0 : Int) :: ([] : List Int)).set (0 : Nat)
 (0 : Int) =
 g.snd.fst ++
 ((0 : Int) :: ([] : List Int)).set (0 : Nat)
 (0 : Int) ∧
 g.snd.snd.fst ++
 ((0 : Int) :: ([] : List Int)).set
 (0 : Nat)
 (↑g_2.fst.snd.snd.length : Int) =
 g.snd.snd.fst ++
 ((0 : Int) :: ([] : List Int)).set
 (0 : Nat)
 (↑g_2.fst.snd.snd.length : Int) ∧
 True) ∧
 True))) ∧
 (((x.fst.getD g.snd.snd.snd.fst.toNat ((0 : Int), (0 : Int), (0 : Int))).fst == (2 : Int)) =
 false →
 (g.snd.fst.length + (((0 : Int) :: ([] : List Int)).set (0 : Nat) (0 : Int)).length ≤
 (9223372036854775807 : Nat) ∧
 (g.snd.fst.length + (((0 : Int) :: ([] : List Int)).set (0 : Nat) (0 : Int)).length +
 (g.snd.fst.length +
 (((0 : Int) :: ([] : List Int)).set (0 : Nat) (0 : Int)).length) /
 (4 : Nat) +
 (192 : Nat)) *
 (8 : Nat) ≤
 (281474976710656 : Nat)) ∧
 (g.snd.snd.fst.length +
 (((0 : Int) :: ([] : List Int)).set (0 : Nat)
 (↑g.fst.snd.snd.length : Int)).length ≤
 (9223372036854775807 : Nat) ∧
 (g.snd.snd.fst.length +
 (((0 : Int) :: ([] : List Int)).set (0 : Nat)
 (↑g.fst.snd.snd.length : Int)).length +
 (g.snd.snd.fst.length +
 (((0 : Int) :: ([] : List Int)).set (0 : Nat)
 (↑g.fst.snd.snd.length : Int)).length) /
 (4 : Nat) +
 (192 : Nat)) *
 (8 : Nat) ≤
 (281474976710656 : Nat)) ∧
 ((-9223372036854775808 : Int) ≤ g.snd.snd.snd.fst + (1 : Int) ∧
 g.snd.snd.snd.fst + (1 : Int) ≤ (9223372036854775807 : Int)) ∧
 (((0 : Int) ≤ g.snd.snd.snd.fst + (1 : Int) ∧
 g.snd.snd.snd.fst + (1 : Int) ≤ (↑x.fst.length : Int) ∧
 pl (List.take (g.snd.snd.snd.fst + (1 : Int)).toNat x.fst) =
 ((g.fst.fst.set
 (x.fst.getD g.snd.snd.snd.fst.toNat
 ((0 : Int), (0 : Int), (0 : Int))).snd.fst.toNat
 ((x.fst.getD g.snd.snd.snd.fst.toNat
 ((0 : Int), (0 : Int), (0 : Int))).fst ==
 (1 : Int)),
 g.fst.snd.fst, g.fst.snd.snd),
 g.snd.fst ++ ((0 : Int) :: ([] : List Int)).set (0 : Nat) (0 : Int),
 g.snd.snd.fst ++
 ((0 : Int) :: ([] : List Int)).set (0 : Nat)
 (↑g.fst.snd.snd.length : Int)) ∧
 (↑g.fst.snd.fst.length : Int) + (↑g.fst.snd.snd.length : Int) ≤
 g.snd.snd.snd.fst + (1 : Int) ∧
 (↑(g.snd.fst ++
 ((0 : Int) :: ([] : List Int)).set (0 : Nat)
 (0 : Int)).length :
 Int) =
 g.snd.snd.snd.fst + (1 : Int) ∧
 (↑(g.snd.snd.fst ++
 ((0 : Int) :: ([] : List Int)).set (0 : Nat)
 (↑g.fst.snd.snd.length : Int)).length :
 Int) =
 g.snd.snd.snd.fst + (1 : Int)) ∧
 ((↑x.fst.length : Int) - (g.snd.snd.snd.fst + (1 : Int))).toNat <
 ((↑x.fst.length : Int) - g.snd.snd.snd.fst).toNat) ∧
 ((True ∧ True) ∧
 True ∧
 True ∧
 Value.slice none (0 : Nat) (0 : Nat) =
 Value.slice none (0 : Nat) (0 : Nat) ∧
 x.fst = x.fst ∧
 (↑x.fst.length : Int) = (↑x.fst.length : Int) ∧
 g.snd.snd.snd.fst + (1 : Int) = g.snd.snd.snd.fst + (1 : Int) ∧
 True) ∧
 ((g.fst.fst.set
 (x.fst.getD g.snd.snd.snd.fst.toNat
 ((0 : Int), (0 : Int), (0 : Int))).snd.fst.toNat
 ((x.fst.getD g.snd.snd.snd.fst.toNat
 ((0 : Int), (0 : Int), (0 : Int))).fst ==
 (1 : Int)) =
 g.fst.fst.set
 (x.fst.getD g.snd.snd.snd.fst.toNat
 ((0 : Int), (0 : Int), (0 : Int))).snd.fst.toNat
 ((x.fst.getD g.snd.snd.snd.fst.toNat
 ((0 : Int), (0 : Int), (0 : Int))).fst ==
 (1 : Int)) ∧
 True ∧ True ∧ True) ∧
 g.fst.snd.fst = g.fst.snd.fst ∧
 g.fst.snd.snd = g.fst.snd.snd ∧
 g.snd.fst ++ ((0 : Int) :: ([] : List Int)).set (0 : Nat) (0 : Int) =
 g.snd.fst ++ ((0 : Int) :: ([] : List Int)).set (0 : Nat) (0 : Int) ∧
 g.snd.snd.fst ++
 ((0 : Int) :: ([] : List Int)).set (0 : Nat)
 (↑g.fst.snd.snd.length : Int) =
 g.snd.snd.fst ++
 ((0 : Int) :: ([] : List Int)).set (0 : Nat)
 (↑g.fst.snd.snd.length : Int) ∧
 True) ∧
 True)))) ∧
 (((x.fst.getD g.snd.snd.snd.fst.toNat ((0 : Int), (0 : Int), (0 : Int))).fst == (1 : Int)) = !true →
 (((x.fst.getD g.snd.snd.snd.fst.toNat ((0 : Int), (0 : Int), (0 : Int))).fst == (2 : Int)) = true →
 ((0 : Int) ≤ (x.fst.getD g.snd.snd.snd.fst.toNat ((0 : Int), (0 : Int), (0 : Int))).snd.fst ∧
 (x.fst.getD g.snd.snd.snd.fst.toNat ((0 : Int), (0 : Int), (0 : Int))).snd.fst <
 (↑(8 : Nat) : Int)) ∧
 ((!g.fst.fst.getD (x.fst.getD g.snd.snd.snd.fst.toNat ((0 : Int), (0 : Int), (0 : Int))).snd.fst.toNat
 false) =
 true →
 (g.snd.fst.length + (((0 : Int) :: ([] : List Int)).set (0 : Nat) (3 : Int)).length ≤
 (9223372036854775807 : Nat) ∧
 (g.snd.fst.length + (((0 : Int) :: ([] : List Int)).set (0 : Nat) (3 : Int)).length +
 (g.snd.fst.length + (((0 : Int) :: ([] : List Int)).set (0 : Nat) (3 : Int)).length) /
 (4 : Nat) +
 (192 : Nat)) *
 (8 : Nat) ≤
 (281474976710656 : Nat)) ∧
 (g.snd.snd.fst.length +
 (((0 : Int) :: ([] : List Int)).set (0 : Nat) (↑g.fst.snd.snd.length : Int)).length ≤
 (9223372036854775807 : Nat) ∧
 (g.snd.snd.fst.length +
 (((0 : Int) :: ([] : List Int)).set (0 : Nat)
 (↑g.fst.snd.snd.length : Int)).length +
 (g.snd.snd.fst.length +
 (((0 : Int) :: ([] : List Int)).set (0 : Nat)
 (↑g.fst.snd.snd.length : Int)).length) /
 (4 : Nat) +
 (192 : Nat)) *
 (8 : Nat) ≤
 (281474976710656 : Nat)) ∧
 ((-9223372036854775808 : Int) ≤ g.snd.snd.snd.fst + (1 : Int) ∧
 g.snd.snd.snd.fst + (1 : Int) ≤ (9223372036854775807 : Int)) ∧
 (((0 : Int) ≤ g.snd.snd.snd.fst + (1 : Int) ∧
 g.snd.snd.snd.fst + (1 : Int) ≤ (↑x.fst.length : Int) ∧
 pl (List.take (g.snd.snd.snd.fst + (1 : Int)).toNat x.fst) =
 ((g.fst.fst, g.fst.snd.fst, g.fst.snd.snd),
 g.snd.fst ++ ((0 : Int) :: ([] : List Int)).set (0 : Nat) (3 : Int),
 g.snd.snd.fst ++
 ((0 : Int) :: ([] : List Int)).set (0 : Nat)
 (↑g.fst.snd.snd.length : Int)) ∧
 (↑g.fst.snd.fst.length : Int) + (↑g.fst.snd.snd.length : Int) ≤
 g.snd.snd.snd.fst + (1 : Int) ∧
 (↑(g.snd.fst ++ ((0 : Int) :: ([] : List Int)).set (0 : Nat) (3 : Int)).length :
 Int) =
 g.snd.snd.snd.fst + (1 : Int) ∧
 (↑(g.snd.snd.fst ++
 ((0 : Int) :: ([] : List Int)).set (0 : Nat)
 (↑g.fst.snd.snd.length : Int)).length :
 Int) =
 g.snd.snd.snd.fst + (1 : Int)) ∧
 ((↑x.fst.length : Int) - (g.snd.snd.snd.fst + (1 : Int))).toNat <
 ((↑x.fst.length : Int) - g.snd.snd.snd.fst).toNat) ∧
 ((True ∧ True) ∧
 True ∧
 True ∧
 Value.slice none (0 : Nat) (0 : Nat) = Value.slice none (0 : Nat) (0 : Nat) ∧
 x.fst = x.fst ∧
 (↑x.fst.length : Int) = (↑x.fst.length : Int) ∧
 g.snd.snd.snd.fst + (1 : Int) = g.snd.snd.snd.fst + (1 : Int) ∧ True) ∧
 ((g.fst.fst = g.fst.fst ∧ True ∧ True ∧ True) ∧
 g.fst.snd.fst = g.fst.snd.fst ∧
 g.fst.snd.snd = g.fst.snd.snd ∧
 g.snd.fst ++ ((0 : Int) :: ([] : List Int)).set (0 : Nat) (3 : Int) =
 g.snd.fst ++ ((0 : Int) :: ([] : List Int)).set (0 : Nat) (3 : Int) ∧
 g.snd.snd.fst ++
 ((0 : Int) :: ([] : List Int)).set (0 : Nat)
 (↑g.fst.snd.snd.length : Int) =
 g.snd.snd.fst ++
 ((0 : Int) :: ([] : List Int)).set (0 : Nat)
 (↑g.fst.snd.snd.length : Int) ∧
 True) ∧
 True) ∧
 ((!g.fst.fst.getD
 (x.fst.getD g.snd.snd.snd.fst.toNat ((0 : Int), (0 : Int), (0 : Int))).snd.fst.toNat
 false) =
 false →
 ((0 : Int) ≤ (x.fst.getD g.snd.snd.snd.fst.toNat ((0 : Int), (0 : Int), (0 : Int))).snd.fst ∧
 (x.fst.getD g.snd.snd.snd.fst.toNat ((0 : Int), (0 : Int), (0 : Int))).snd.fst <
 (↑(8 : Nat) : Int)) ∧
 (((x.fst.getD g.snd.snd.snd.fst.toNat ((0 : Int), (0 : Int), (0 : Int))).fst == (2 : Int)) =
 true →
 ((((0 : Int) ≤ (0 : Int) ∧
 (0 : Int) ≤ (↑g.fst.snd.1.length : Int) ∧
 g.fst.fst.set
 (x.fst.getD g.snd.snd.snd.fst.toNat
 ((0 : Int), (0 : Int), (0 : Int))).snd.fst.toNat
 ((x.fst.getD g.snd.snd.snd.fst.toNat
 ((0 : Int), (0 : Int), (0 : Int))).fst ==
 (1 : Int)) =
 (List.brecOn.go (motive := fun x ↦ Nat → Bool → List Bool) g.fst.fst
 List.set._f).1
 (x.fst.getD g.snd.snd.snd.fst.toNat
 ((0 : Int), (0 : Int), (0 : Int))).snd.fst.toNat
 ((x.fst.getD g.snd.snd.snd.fst.toNat
 ((0 : Int), (0 : Int), (0 : Int))).fst ==
 (1 : Int)) ∧
 g.fst.snd.fst =
 List.map
 (clr
 (x.fst.getD g.snd.snd.snd.fst.toNat
 ((0 : Int), (0 : Int), (0 : Int))).snd.fst)
 (List.take (Int.toNat (0 : Int)) g.fst.snd.1) ++
 List.drop (Int.toNat (0 : Int)) g.fst.snd.1) ∧
 True) ∧
 ((True ∧ True) ∧
 (True ∧ True) ∧
 (↑g.fst.snd.fst.length : Int) = (↑g.fst.snd.fst.length : Int) ∧
 (0 : Int) = (0 : Int) ∧ True) ∧
 ((g.fst.fst.set
 (x.fst.getD g.snd.snd.snd.fst.toNat
 ((0 : Int), (0 : Int), (0 : Int))).snd.fst.toNat
 ((x.fst.getD g.snd.snd.snd.fst.toNat
 ((0 : Int), (0 : Int), (0 : Int))).fst ==
 (1 : Int)) =
 g.fst.fst.set
 (x.fst.getD g.snd.snd.snd.fst.toNat
 ((0 : Int), (0 : Int), (0 : Int))).snd.fst.toNat
 ((x.fst.getD g.snd.snd.snd.fst.toNat
 ((0 : Int), (0 : Int), (0 : Int))).fst ==
 (1 : Int)) ∧
 True ∧ True ∧ True) ∧
 g.fst.snd.fst = g.fst.snd.fst ∧
 g.snd.fst = g.snd.fst ∧
 g.snd.snd.fst = g.snd.snd.fst ∧
 ((x.fst.getD g.snd.snd.snd.fst.toNat
 ((0 : Int), (0 : Int), (0 : Int))).fst =
 (x.fst.getD g.snd.snd.snd.fst.toNat
 ((0 : Int), (0 : Int), (0 : Int))).fst ∧
 (x.fst.getD g.snd.snd.snd.fst.toNat
 ((0 : Int), (0 : Int), (0 : Int))).snd.fst =
 (x.fst.getD g.snd.snd.snd.fst.toNat
 ((0 : Int), (0 : Int), (0 : Int))).snd.fst ∧
 (x.fst.getD g.snd.snd.snd.fst.toNat
 ((0 : Int), (0 : Int), (0 : Int))).snd.snd =
 (x.fst.getD g.snd.snd.snd.fst.toNat
 ((0 : Int), (0 : Int), (0 : Int))).snd.snd ∧
 True) ∧
 g.fst.snd.snd = g.fst.snd.snd ∧
 ((x.fst.getD g.snd.snd.snd.fst.toNat
 ((0 : Int), (0 : Int), (0 : Int))).fst =
 (x.fst.getD g.snd.snd.snd.fst.toNat
 ((0 : Int), (0 : Int), (0 : Int))).fst ∧
 (x.fst.getD g.snd.snd.snd.fst.toNat
 ((0 : Int), (0 : Int), (0 : Int))).snd.fst =
 (x.fst.getD g.snd.snd.snd.fst.toNat
 ((0 : Int), (0 : Int), (0 : Int))).snd.fst ∧
 (x.fst.getD g.snd.snd.snd.fst.toNat
 ((0 : Int), (0 : Int), (0 : Int))).snd.snd =
 (x.fst.getD g.snd.snd.snd.fst.toNat
 ((0 : Int), (0 : Int), (0 : Int))).snd.snd ∧
 True) ∧
 True) ∧
 True ∧
 True ∧
 True ∧
 True ∧
 True ∧
 True ∧
 (True ∧ True) ∧
 True ∧
 True ∧
 Value.slice none (0 : Nat) (0 : Nat) =
 Value.slice none (0 : Nat) (0 : Nat) ∧
 True ∧
 (True ∧ True) ∧
 True ∧
 True ∧
 True ∧
 True ∧
 x.fst = x.fst ∧
 (↑x.fst.length : Int) = (↑x.fst.length : Int) ∧
 g.snd.snd.snd.fst = g.snd.snd.snd.fst ∧
 true = true ∧
 True ∧
 ((x.fst.getD g.snd.snd.snd.fst.toNat
 ((0 : Int), (0 : Int),
 (0 : Int))).fst =
 (x.fst.getD g.snd.snd.snd.fst.toNat
 ((0 : Int), (0 : Int),
 (0 : Int))).fst ∧
 (x.fst.getD g.snd.snd.snd.fst.toNat
 ((0 : Int), (0 : Int),
 (0 : Int))).snd.fst =
 (x.fst.getD
 g.snd.snd.snd.fst.toNat
 ((0 : Int), (0 : Int),
 (0 : Int))).snd.fst ∧
 (x.fst.getD g.snd.snd.snd.fst.toNat
 ((0 : Int), (0 : Int),
 (0 : Int))).snd.snd =
 (x.fst.getD
 g.snd.snd.snd.fst.toNat
 ((0 : Int), (0 : Int),
 (0 : Int))).snd.snd ∧
 True) ∧
 True ∧
 (True ∧ True) ∧
 ((x.fst.getD g.snd.snd.snd.fst.toNat
 ((0 : Int), (0 : Int),
 (0 : Int))).fst =
 (x.fst.getD
 g.snd.snd.snd.fst.toNat
 ((0 : Int), (0 : Int),
 (0 : Int))).fst ∧
 (x.fst.getD
 g.snd.snd.snd.fst.toNat
 ((0 : Int), (0 : Int),
 (0 :
 Int))).snd.fst =
 (x.fst.getD
 g.snd.snd.snd.fst.toNat
 ((0 : Int), (0 : Int),
 (0 :
 Int))).snd.fst ∧
 (x.fst.getD
 g.snd.snd.snd.fst.toNat
 ((0 : Int),
 (0 : Int),
 (0 :
 Int))).snd.snd =
 (x.fst.getD
 g.snd.snd.snd.fst.toNat
 ((0 : Int),
 (0 : Int),
 (0 :
 Int))).snd.snd ∧
 True) ∧
 True ∧
 True ∧
 True ∧
 True ∧
 True ∧
 True ∧
 True ∧
 True ∧
 True ∧
 True ∧
 True ∧
 True ∧
 True ∧
 True ∧
 True ∧
 True ∧
 True ∧
 True ∧
 True ∧
 True ∧
 True ∧
 True ∧
 True ∧
 True ∧
 True ∧
 True ∧
 True ∧
 True ∧
 True ∧
 True ∧
 True ∧
 True ∧
 True ∧
 True ∧
 True) ∧
 ∀ (g_1 : (List Bool × List (Int × List Bool) × Unit) × Int × Unit),
 (0 : Int) ≤ g_1.snd.fst ∧
 g_1.snd.fst ≤ (↑g.fst.snd.1.length : Int) ∧
 g_1.fst.fst =
 (List.brecOn.go (motive := fun x ↦ Nat → Bool → List Bool) g.fst.fst
 List.set._f).1
 (x.fst.getD g.snd.snd.snd.fst.toNat
 ((0 : Int), (0 : Int), (0 : Int))).snd.fst.toNat
 ((x.fst.getD g.snd.snd.snd.fst.toNat
 ((0 : Int), (0 : Int), (0 : Int))).fst ==
 (1 : Int)) ∧
 g_1.fst.snd.fst =
 List.map
 (clr
 (x.fst.getD g.snd.snd.snd.fst.toNat
 ((0 : Int), (0 : Int), (0 : Int))).snd.fst)
 (List.take g_1.snd.fst.toNat g.fst.snd.1) ++
 List.drop g_1.snd.fst.toNat g.fst.snd.1 →
 ((g_1.fst.fst.length = (8 : Nat) ∧ ∀ (x : Bool), x ∈ g_1.fst.fst → True) ∧
 (g_1.fst.snd.fst.length ≤ (9223372036854775807 : Nat) ∧
 ∀ (x : Int × List Bool),
 x ∈ g_1.fst.snd.fst →
 ((-9223372036854775808 : Int) ≤ x.fst ∧
 x.fst ≤ (9223372036854775807 : Int)) ∧
 x.snd.length = (8 : Nat) ∧ ∀ (x_1 : Bool), x_1 ∈ x.snd → True) ∧
 True) ∧
 ((-9223372036854775808 : Int) ≤ g_1.snd.fst ∧
 g_1.snd.fst ≤ (9223372036854775807 : Int)) ∧
 True →
 (decide (g_1.snd.fst < (↑g.fst.snd.fst.length : Int)) = true →
 ((0 : Int) ≤ g_1.snd.fst ∧ g_1.snd.fst < (↑g_1.fst.snd.fst.length : Int)) ∧
 ((0 : Int) ≤
 (x.fst.getD g.snd.snd.snd.fst.toNat
 ((0 : Int), (0 : Int), (0 : Int))).snd.fst ∧
 (x.fst.getD g.snd.snd.snd.fst.toNat
 ((0 : Int), (0 : Int), (0 : Int))).snd.fst <
 (↑(8 : Nat) : Int)) ∧
 ((-9223372036854775808 : Int) ≤ g_1.snd.fst + (1 : Int) ∧
 g_1.snd.fst + (1 : Int) ≤ (9223372036854775807 : Int)) ∧
 (((0 : Int) ≤ g_1.snd.fst + (1 : Int) ∧
 g_1.snd.fst + (1 : Int) ≤ (↑g.fst.snd.1.length : Int) ∧
 g_1.fst.fst =
 (List.brecOn.go (motive := fun x ↦ Nat → Bool → List Bool)
 g.fst.fst List.set._f).1
 (x.fst.getD g.snd.snd.snd.fst.toNat
 ((0 : Int), (0 : Int), (0 : Int))).snd.fst.toNat
 ((x.fst.getD g.snd.snd.snd.fst.toNat
 ((0 : Int), (0 : Int), (0 : Int))).fst ==
 (1 : Int)) ∧
 g_1.fst.snd.fst.set g_1.snd.fst.toNat
 ((g_1.fst.snd.fst.getD g_1.snd.fst.toNat
 ((0 : Int),
 false ::
 false ::
 false ::
 false ::
 false ::
 false ::
 false ::
 false :: ([] : List Bool))).fst,
 (g_1.fst.snd.fst.getD g_1.snd.fst.toNat
 ((0 : Int),
 false ::
 false ::
 false ::
 false ::
 false ::
 false ::
 false ::
 false ::
 ([] : List Bool))).snd.set
 (x.fst.getD g.snd.snd.snd.fst.toNat
 ((0 : Int), (0 : Int), (0 : Int))).snd.fst.toNat
 false) =
 List.map
 (clr
 (x.fst.getD g.snd.snd.snd.fst.toNat
 ((0 : Int), (0 : Int), (0 : Int))).snd.fst)
 (List.take (g_1.snd.fst + (1 : Int)).toNat g.fst.snd.1) ++
 List.drop (g_1.snd.fst + (1 : Int)).toNat g.fst.snd.1) ∧
 ((↑g.fst.snd.1.length : Int) - (g_1.snd.fst + (1 : Int))).toNat <
 ((↑g.fst.snd.1.length : Int) - g_1.snd.fst).toNat) ∧
 ((True ∧ True) ∧
 (True ∧ True) ∧
 (↑g.fst.snd.fst.length : Int) = (↑g.fst.snd.fst.length : Int) ∧
 g_1.snd.fst + (1 : Int) = g_1.snd.fst + (1 : Int) ∧ True) ∧
 ((g_1.fst.fst = g_1.fst.fst ∧ True ∧ True ∧ True) ∧
 g_1.fst.snd.fst.set g_1.snd.fst.toNat
 ((g_1.fst.snd.fst.getD g_1.snd.fst.toNat
 ((0 : Int),
 false ::
 false ::
 false ::
 false ::
 false ::
 false ::
 false ::
 false :: ([] : List Bool))).fst,
 (g_1.fst.snd.fst.getD g_1.snd.fst.toNat
 ((0 : Int),
 false ::
 false ::
 false ::
 false ::
 false ::
 false ::
 false ::
 false ::
 ([] : List Bool))).snd.set
 (x.fst.getD g.snd.snd.snd.fst.toNat
 ((0 : Int), (0 : Int), (0 : Int))).snd.fst.toNat
 false) =
 g_1.fst.snd.fst.set g_1.snd.fst.toNat
 ((g_1.fst.snd.fst.getD g_1.snd.fst.toNat
 ((0 : Int),
 false ::
 false ::
 false ::
 false ::
 false ::
 false ::
 false ::
 false :: ([] : List Bool))).fst,
 (g_1.fst.snd.fst.getD g_1.snd.fst.toNat
 ((0 : Int),
 false ::
 false ::
 false ::
 false ::
 false ::
 false ::
 false ::
 false ::
 ([] : List Bool))).snd.set
 (x.fst.getD g.snd.snd.snd.fst.toNat
 ((0 : Int), (0 : Int), (0 : Int))).snd.fst.toNat
 false) ∧
 g.snd.fst = g.snd.fst ∧
 g.snd.snd.fst = g.snd.snd.fst ∧
 ((x.fst.getD g.snd.snd.snd.fst.toNat
 ((0 : Int), (0 : Int), (0 : Int))).fst =
 (x.fst.getD g.snd.snd.snd.fst.toNat
 ((0 : Int), (0 : Int), (0 : Int))).fst ∧
 (x.fst.getD g.snd.snd.snd.fst.toNat
 ((0 : Int), (0 : Int), (0 : Int))).snd.fst =
 (x.fst.getD g.snd.snd.snd.fst.toNat
 ((0 : Int), (0 : Int), (0 : Int))).snd.fst ∧
 (x.fst.getD g.snd.snd.snd.fst.toNat
 ((0 : Int), (0 : Int), (0 : Int))).snd.snd =
 (x.fst.getD g.snd.snd.snd.fst.toNat
 ((0 : Int), (0 : Int), (0 : Int))).snd.snd ∧
 True) ∧
 g.fst.snd.snd = g.fst.snd.snd ∧
 ((x.fst.getD g.snd.snd.snd.fst.toNat
 ((0 : Int), (0 : Int), (0 : Int))).fst =
 (x.fst.getD g.snd.snd.snd.fst.toNat
 ((0 : Int), (0 : Int), (0 : Int))).fst ∧
 (x.fst.getD g.snd.snd.snd.fst.toNat
 ((0 : Int), (0 : Int),
 (0 : Int))).snd.fst =
 (x.fst.getD g.snd.snd.snd.fst.toNat
 ((0 : Int), (0 : Int),
 (0 : Int))).snd.fst ∧
 (x.fst.getD g.snd.snd.snd.fst.toNat
 ((0 : Int), (0 : Int),
 (0 : Int))).snd.snd =
 (x.fst.getD g.snd.snd.snd.fst.toNat
 ((0 : Int), (0 : Int),
 (0 : Int))).snd.snd ∧
 True) ∧
 True) ∧
 True ∧
 True ∧
 True ∧
 True ∧
 True ∧
 True ∧
 (True ∧ True) ∧
 True ∧
 True ∧
 Value.slice none (0 : Nat) (0 : Nat) =
 Value.slice none (0 : Nat) (0 : Nat) ∧
 True ∧
 (True ∧ True) ∧
 True ∧
 True ∧
 True ∧
 True ∧
 x.fst = x.fst ∧
 (↑x.fst.length : Int) =
 (↑x.fst.length : Int) ∧
 g.snd.snd.snd.fst =
 g.snd.snd.snd.fst ∧
 true = true ∧
 True ∧
 ((x.fst.getD
 g.snd.snd.snd.fst.toNat
 ((0 : Int),
 (0 : Int),
 (0 :
 Int))).fst =
 (x.fst.getD
 g.snd.snd.snd.fst.toNat
 ((0 : Int),
 (0 : Int),
 (0 :
 Int))).fst ∧
 (x.fst.getD
 g.snd.snd.snd.fst.toNat
 ((0 : Int),
 (0 : Int),
 (0 :
 Int))).snd.fst =
 (x.fst.getD
 g.snd.snd.snd.fst.toNat
 ((0 : Int),
 (0 : Int),
 (0 :
 Int))).snd.fst ∧
 (x.fst.getD
 g.snd.snd.snd.fst.toNat
 ((0 :
 Int),
 (0 :
 Int),
 (0 :
 Int))).snd.snd =
 (x.fst.getD
 g.snd.snd.snd.fst.toNat
 ((0 :
 Int),
 (0 :
 Int),
 (0 :
 Int))).snd.snd ∧
 True) ∧
 True ∧
 (True ∧ True) ∧
 ((x.fst.getD
 g.snd.snd.snd.fst.toNat
 ((0 :
 Int),
 (0 :
 Int),
 (0 :
 Int))).fst =
 (x.fst.getD
 g.snd.snd.snd.fst.toNat
 ((0 :
 Int),
 (0 :
 Int),
 (0 :
 Int))).fst ∧
 (x.fst.getD
 g.snd.snd.snd.fst.toNat
 ((0 :
 Int),
 (0 :
 Int),
 (0 :
 Int))).snd.fst =
 (x.fst.getD
 g.snd.snd.snd.fst.toNat
 ((0 :
 Int),
 (0 :
 Int),
 (0 :
 Int))).snd.fst ∧
 (x.fst.getD
 g.snd.snd.snd.fst.toNat
 ((0 :
 Int),
 (0 :
 Int),
 (0 :
 Int))).snd.snd =
 (x.fst.getD
 g.snd.snd.snd.fst.toNat
 ((0 :
 Int),
 (0 :
 Int),
 (0 :
 Int))).snd.snd ∧
 True) ∧
 True ∧
 True ∧
 True ∧
 True ∧
 True ∧
 True ∧
 True ∧
 True ∧
 True ∧
 True ∧
 True ∧
 True ∧
 True ∧
 True ∧
 True ∧
 True ∧
 True ∧
 True ∧
 True ∧
 True ∧
 True ∧
 True ∧
 True ∧
 True ∧
 True ∧
 True ∧
 True ∧
 True ∧
 True ∧
 True ∧
 True ∧
 True ∧
 True ∧
 True ∧
 True) ∧
 (decide (g_1.snd.fst < (↑g.fst.snd.fst.length : Int)) = false →
 ((((0 : Int) ≤ (0 : Int) ∧
 (0 : Int) ≤ (↑g_1.fst.snd.1.length : Int) ∧
 g_1.fst.fst = g_1.fst.1 ∧
 g.fst.snd.snd =
 g.fst.snd.2 ++
 ff (List.take (Int.toNat (0 : Int)) g_1.fst.snd.1) ∧
 ([] : List (Int × List Bool)) =
 lf (List.take (Int.toNat (0 : Int)) g_1.fst.snd.1)) ∧
 True) ∧
 ((True ∧ True) ∧
 True ∧
 True ∧
 (↑g_1.fst.snd.fst.length : Int) = (↑g_1.fst.snd.fst.length : Int) ∧
 (0 : Int) = (0 : Int) ∧ True) ∧
 ((g_1.fst.fst = g_1.fst.fst ∧ True ∧ True ∧ True) ∧
 g.fst.snd.snd = g.fst.snd.snd ∧
 ([] : List (Int × List Bool)) = ([] : List (Int × List Bool)) ∧
 ((x.fst.getD g.snd.snd.snd.fst.toNat
 ((0 : Int), (0 : Int), (0 : Int))).fst =
 (x.fst.getD g.snd.snd.snd.fst.toNat
 ((0 : Int), (0 : Int), (0 : Int))).fst ∧
 (x.fst.getD g.snd.snd.snd.fst.toNat
 ((0 : Int), (0 : Int), (0 : Int))).snd.fst =
 (x.fst.getD g.snd.snd.snd.fst.toNat
 ((0 : Int), (0 : Int), (0 : Int))).snd.fst ∧
 (x.fst.getD g.snd.snd.snd.fst.toNat
 ((0 : Int), (0 : Int), (0 : Int))).snd.snd =
 (x.fst.getD g.snd.snd.snd.fst.toNat
 ((0 : Int), (0 : Int), (0 : Int))).snd.snd ∧
 True) ∧
 g.snd.fst = g.snd.fst ∧
 g.snd.snd.fst = g.snd.snd.fst ∧
 ((x.fst.getD g.snd.snd.snd.fst.toNat
 ((0 : Int), (0 : Int), (0 : Int))).fst =
 (x.fst.getD g.snd.snd.snd.fst.toNat
 ((0 : Int), (0 : Int), (0 : Int))).fst ∧
 (x.fst.getD g.snd.snd.snd.fst.toNat
 ((0 : Int), (0 : Int), (0 : Int))).snd.fst =
 (x.fst.getD g.snd.snd.snd.fst.toNat
 ((0 : Int), (0 : Int), (0 : Int))).snd.fst ∧
 (x.fst.getD g.snd.snd.snd.fst.toNat
 ((0 : Int), (0 : Int), (0 : Int))).snd.snd =
 (x.fst.getD g.snd.snd.snd.fst.toNat
 ((0 : Int), (0 : Int), (0 : Int))).snd.snd ∧
 True) ∧
 g_1.fst.snd.fst = g_1.fst.snd.fst ∧ True) ∧
 (True ∧ True) ∧
 True ∧
 True ∧
 (True ∧ True) ∧
 True ∧
 True ∧
 True ∧
 True ∧
 True ∧
 True ∧
 True ∧
 True ∧
 True ∧
 True ∧
 True ∧
 True ∧
 True ∧
 True ∧
 True ∧
 True ∧
 True ∧
 True ∧
 True ∧
 True ∧
 True ∧
 True ∧
 True ∧
 True ∧
 True ∧
 True ∧
 True ∧
 True ∧
 True ∧
 True ∧
 True ∧
 True ∧
 True ∧
 True ∧
 True ∧
 True ∧
 True ∧
 True ∧
 True ∧
 True ∧
 True ∧
 True ∧
 True ∧
 True ∧
 True ∧
 True ∧
 True ∧
 True ∧
 True ∧
 True ∧
 True ∧
 True ∧
 True ∧
 True ∧
 True ∧
 True ∧
 True ∧
 True ∧
 True ∧
 True ∧
 True ∧
 True ∧
 True ∧
 True ∧
 True ∧
 True ∧
 True ∧
 True ∧
 True ∧
 True ∧
 True ∧
 True ∧
 True ∧
 True ∧
 True ∧
 True ∧
 True ∧
 True ∧
 True ∧
 True ∧
 True ∧
 True ∧
 True ∧
 True ∧
 True ∧
 True ∧
 True ∧
 (↑g.fst.snd.fst.length :
 Int) =
 (↑g.fst.snd.fst.length :
 Int) ∧
 g_1.snd.fst =
 g_1.snd.fst ∧
 false =
 false ∧
 True ∧
 True ∧
 True ∧
 True ∧
 True ∧
 True ∧
 True ∧
 True ∧
 True ∧
 True ∧
 True ∧
 True ∧
 (True ∧
 True) ∧
 True ∧
 True ∧
 True ∧
 True ∧
 True ∧
 True ∧
 True ∧
 (True ∧
 True) ∧
 True ∧
 True ∧
 Value.slice
 none
 (0 :
 Nat)
 (0 :
 Nat) =
 Value.slice
 none
 (0 :
 Nat)
 (0 :
 Nat) ∧
 True ∧
 (True ∧
 True) ∧
 True ∧
 True ∧
 True ∧
 True ∧
 x.fst =
 x.fst ∧
 (↑x.fst.length :
 Int) =
 (↑x.fst.length :
 Int) ∧
 g.snd.snd.snd.fst =
 g.snd.snd.snd.fst ∧
 true =
 true ∧
 True ∧
 ((x.fst.getD
 g.snd.snd.snd.fst.toNat
 ((0 :
 Int),
 (0 :
 Int),
 (0 :
 Int))).fst =
 (x.fst.getD
 g.snd.snd.snd.fst.toNat
 ((0 :
 Int),
 (0 :
 Int),
 (0 :
 Int))).fst ∧
 (x.fst.getD
 g.snd.snd.snd.fst.toNat
 ((0 :
 Int),
 (0 :
 Int),
 (0 :
 Int))).snd.fst =
 (x.fst.getD
 g.snd.snd.snd.fst.toNat
 ((0 :
 Int),
 (0 :
 Int),
 (0 :
 Int))).snd.fst ∧
 (x.fst.getD
 g.snd.snd.snd.fst.toNat
 ((0 :
 Int),
 (0 :
 Int),
 (0 :
 Int))).snd.snd =
 (x.fst.getD
 g.snd.snd.snd.fst.toNat
 ((0 :
 Int),
 (0 :
 Int),
 (0 :
 Int))).snd.snd ∧
 True) ∧
 True ∧
 (True ∧
 True) ∧
 ((x.fst.getD
 g.snd.snd.snd.fst.toNat
 ((0 :
 Int),
 (0 :
 Int),
 (0 :
 Int))).fst =
 (x.fst.getD
 g.snd.snd.snd.fst.toNat
 ((0 :
 Int),
 (0 :
 Int),
 (0 :
 Int))).fst ∧
 (x.fst.getD
 g.snd.snd.snd.fst.toNat
 ((0 :
 Int),
 (0 :
 Int),
 (0 :
 Int))).snd.fst =
 (x.fst.getD
 g.snd.snd.snd.fst.toNat
 ((0 :
 Int),
 (0 :
 Int),
 (0 :
 Int))).snd.fst ∧
 (x.fst.getD
 g.snd.snd.snd.fst.toNat
 ((0 :
 Int),
 (0 :
 Int),
 (0 :
 Int))).snd.snd =
 (x.fst.getD
 g.snd.snd.snd.fst.toNat
 ((0 :
 Int),
 (0 :
 Int),
 (0 :
 Int))).snd.snd ∧
 True) ∧
 True ∧
 True ∧
 True ∧
 True ∧
 True ∧
 True ∧
 True ∧
 True ∧
 True ∧
 True ∧
 True ∧
 True ∧
 True ∧
 True ∧
 True ∧
 True ∧
 True ∧
 True ∧
 True ∧
 True ∧
 True ∧
 True ∧
 True ∧
 True ∧
 True ∧
 True ∧
 True ∧
 True ∧
 True ∧
 True ∧
 True ∧
 True ∧
 True ∧
 True ∧
 True) ∧
 ∀ (g_2 : (List Bool × Unit × List Int) × List (Int × List Bool) × Int × Unit),
 (0 : Int) ≤ g_2.snd.snd.fst ∧
 g_2.snd.snd.fst ≤ (↑g_1.fst.snd.1.length : Int) ∧
 g_2.fst.fst = g_1.fst.1 ∧
 g_2.fst.snd.snd =
 g.fst.snd.2 ++
 ff (List.take g_2.snd.snd.fst.toNat g_1.fst.snd.1) ∧
 g_2.snd.fst = lf (List.take g_2.snd.snd.fst.toNat g_1.fst.snd.1) →
 ((g_2.fst.fst.length = (8 : Nat) ∧ ∀ (x : Bool), x ∈ g_2.fst.fst → True) ∧
 True ∧
 g_2.fst.snd.snd.length ≤ (9223372036854775807 : Nat) ∧
 ∀ (x : Int),
 x ∈ g_2.fst.snd.snd →
 (-9223372036854775808 : Int) ≤ x ∧
 x ≤ (9223372036854775807 : Int)) ∧
 (g_2.snd.fst.length ≤ (9223372036854775807 : Nat) ∧
 ∀ (x : Int × List Bool),
 x ∈ g_2.snd.fst →
 ((-9223372036854775808 : Int) ≤ x.fst ∧
 x.fst ≤ (9223372036854775807 : Int)) ∧
 x.snd.length = (8 : Nat) ∧
 ∀ (x_1 : Bool), x_1 ∈ x.snd → True) ∧
 ((-9223372036854775808 : Int) ≤ g_2.snd.snd.fst ∧
 g_2.snd.snd.fst ≤ (9223372036854775807 : Int)) ∧
 True →
 (decide (g_2.snd.snd.fst < (↑g_1.fst.snd.fst.length : Int)) = true →
 ((0 : Int) ≤ g_2.snd.snd.fst ∧
 g_2.snd.snd.fst < (↑g_1.fst.snd.fst.length : Int)) ∧
 (deq (Ty.arr (8 : Nat) Ty.bool)
 (g_1.fst.snd.fst.getD g_2.snd.snd.fst.toNat
 ((0 : Int),
 false ::
 false ::
 false ::
 false ::
 false ::
 false ::
 false :: false :: ([] : List Bool))).snd
 (false ::
 false ::
 false ::
 false ::
 false ::
 false :: false :: false :: ([] : List Bool)) =
 true →
 (g_2.fst.snd.snd.length +
 (((0 : Int) :: ([] : List Int)).set (0 : Nat)
 (g_1.fst.snd.fst.getD g_2.snd.snd.fst.toNat
 ((0 : Int),
 false ::
 false ::
 false ::
 false ::
 false ::
 false ::
 false ::
 false ::
 ([] :
 List Bool))).fst).length ≤
 (9223372036854775807 : Nat) ∧
 (g_2.fst.snd.snd.length +
 (((0 : Int) :: ([] : List Int)).set (0 : Nat)
 (g_1.fst.snd.fst.getD g_2.snd.snd.fst.toNat
 ((0 : Int),
 false ::
 false ::
 false ::
 false ::
 false ::
 false ::
 false ::
 false ::
 ([] :
 List
 Bool))).fst).length +
 (g_2.fst.snd.snd.length +
 (((0 : Int) :: ([] : List Int)).set (0 : Nat)
 (g_1.fst.snd.fst.getD
 g_2.snd.snd.fst.toNat
 ((0 : Int),
 false ::
 false ::
 false ::
 false ::
 false ::
 false ::
 false ::
 false ::
 ([] :
 List
 Bool))).fst).length) /
 (4 : Nat) +
 (192 : Nat)) *
 (8 : Nat) ≤
 (281474976710656 : Nat)) ∧
 ((-9223372036854775808 : Int) ≤
 g_2.snd.snd.fst + (1 : Int) ∧
 g_2.snd.snd.fst + (1 : Int) ≤
 (9223372036854775807 : Int)) ∧
 (((0 : Int) ≤ g_2.snd.snd.fst + (1 : Int) ∧
 g_2.snd.snd.fst + (1 : Int) ≤
 (↑g_1.fst.snd.1.length : Int) ∧
 g_2.fst.fst = g_1.fst.1 ∧
 g_2.fst.snd.snd ++
 ((0 : Int) :: ([] : List Int)).set
 (0 : Nat)
 (g_1.fst.snd.fst.getD
 g_2.snd.snd.fst.toNat
 ((0 : Int),
 false ::
 false ::
 false ::
 false ::
 false ::
 false ::
 false ::
 false ::
 ([] :
 List
 Bool))).fst =
 g.fst.snd.2 ++
 ff
 (List.take
 (g_2.snd.snd.fst + (1 : Int)).toNat
 g_1.fst.snd.1) ∧
 g_2.snd.fst =
 lf
 (List.take
 (g_2.snd.snd.fst + (1 : Int)).toNat
 g_1.fst.snd.1)) ∧
 ((↑g_1.fst.snd.1.length : Int) -
 (g_2.snd.snd.fst + (1 : Int))).toNat <
 ((↑g_1.fst.snd.1.length : Int) -
 g_2.snd.snd.fst).toNat) ∧
 ((True ∧ True) ∧
 True ∧
 True ∧
 (↑g_1.fst.snd.fst.length : Int) =
 (↑g_1.fst.snd.fst.length : Int) ∧
 g_2.snd.snd.fst + (1 : Int) =
 g_2.snd.snd.fst + (1 : Int) ∧
 True) ∧
 ((g_2.fst.fst = g_2.fst.fst ∧ True ∧ True ∧ True) ∧
 g_2.fst.snd.snd ++
 ((0 : Int) :: ([] : List Int)).set (0 : Nat)
 (g_1.fst.snd.fst.getD
 g_2.snd.snd.fst.toNat
 ((0 : Int),
 false ::
 false ::
 false ::
 false ::
 false ::
 false ::
 false ::
 false ::
 ([] :
 List Bool))).fst =
 g_2.fst.snd.snd ++
 ((0 : Int) :: ([] : List Int)).set (0 : Nat)
 (g_1.fst.snd.fst.getD
 g_2.snd.snd.fst.toNat
 ((0 : Int),
 false ::
 false ::
 false ::
 false ::
 false ::
 false ::
 false ::
 false ::
 ([] :
 List Bool))).fst ∧
 g_2.snd.fst = g_2.snd.fst ∧
 ((x.fst.getD g.snd.snd.snd.fst.toNat
 ((0 : Int), (0 : Int),
 (0 : Int))).fst =
 (x.fst.getD g.snd.snd.snd.fst.toNat
 ((0 : Int), (0 : Int),
 (0 : Int))).fst ∧
 (x.fst.getD g.snd.snd.snd.fst.toNat
 ((0 : Int), (0 : Int),
 (0 : Int))).snd.fst =
 (x.fst.getD g.snd.snd.snd.fst.toNat
 ((0 : Int), (0 : Int),
 (0 : Int))).snd.fst ∧
 (x.fst.getD g.snd.snd.snd.fst.toNat
 ((0 : Int), (0 : Int),
 (0 : Int))).snd.snd =
 (x.fst.getD g.snd.snd.snd.fst.toNat
 ((0 : Int), (0 : Int),
 (0 : Int))).snd.snd ∧
 True) ∧
 g.snd.fst = g.snd.fst ∧
 g.snd.snd.fst = g.snd.snd.fst ∧
 ((x.fst.getD g.snd.snd.snd.fst.toNat
 ((0 : Int), (0 : Int),
 (0 : Int))).fst =
 (x.fst.getD
 g.snd.snd.snd.fst.toNat
 ((0 : Int), (0 : Int),
 (0 : Int))).fst ∧
 (x.fst.getD g.snd.snd.snd.fst.toNat
 ((0 : Int), (0 : Int),
 (0 : Int))).snd.fst =
 (x.fst.getD
 g.snd.snd.snd.fst.toNat
 ((0 : Int), (0 : Int),
 (0 : Int))).snd.fst ∧
 (x.fst.getD
 g.snd.snd.snd.fst.toNat
 ((0 : Int), (0 : Int),
 (0 : Int))).snd.snd =
 (x.fst.getD
 g.snd.snd.snd.fst.toNat
 ((0 : Int), (0 : Int),
 (0 : Int))).snd.snd ∧
 True) ∧
 g_1.fst.snd.fst = g_1.fst.snd.fst ∧
 True) ∧
 (True ∧ True) ∧
 True ∧
 True ∧
 (True ∧ True) ∧
 True ∧
 True ∧
 True ∧
 True ∧
 True ∧
 True ∧
 True ∧
 True ∧
 True ∧
 True ∧
 True ∧
 True ∧
 True ∧
 True ∧
 True ∧
 True ∧
 True ∧
 True ∧
 True ∧
 True ∧
 True ∧
 True ∧
 True ∧
 True ∧
 True ∧
 True ∧
 True ∧
 True ∧
 True ∧
 True ∧
 True ∧
 True ∧
 True ∧
 True ∧
 True ∧
 True ∧
 True ∧
 True ∧
 True ∧
 True ∧
 True ∧
 True ∧
 True ∧
 True ∧
 True ∧
 True ∧
 True ∧
 True ∧
 True ∧
 True ∧
 True ∧
 True ∧
 True ∧
 True ∧
 True ∧
 True ∧
 True ∧
 True ∧
 True ∧
 True ∧
 True ∧
 True ∧
 True ∧
 True ∧
 True ∧
 True ∧
 True ∧
 True ∧
 True ∧
 True ∧
 True ∧
 True ∧
 True ∧
 True ∧
 True ∧
 True ∧
 True ∧
 True ∧
 True ∧
 True ∧
 True ∧
 True ∧
 True ∧
 True ∧
 True ∧
 True ∧
 True ∧
 (↑g.fst.snd.fst.length :
 Int) =
 (↑g.fst.snd.fst.length :
 Int) ∧
 g_1.snd.fst =
 g_1.snd.fst ∧
 false =
 false ∧
 True ∧
 True ∧
 True ∧
 True ∧
 True ∧
 True ∧
 True ∧
 True ∧
 True ∧
 True ∧
 True ∧
 True ∧
 (True ∧
 True) ∧
 True ∧
 True ∧
 True ∧
 True ∧
 True ∧
 True ∧
 True ∧
 (True ∧
 True) ∧
 True ∧
 True ∧
 Value.slice
 none
 (0 :
 Nat)
 (0 :
 Nat) =
 Value.slice
 none
 (0 :
 Nat)
 (0 :
 Nat) ∧
 True ∧
 (True ∧
 True) ∧
 True ∧
 True ∧
 True ∧
 True ∧
 x.fst =
 x.fst ∧
 (↑x.fst.length :
 Int) =
 (↑x.fst.length :
 Int) ∧
 g.snd.snd.snd.fst =
 g.snd.snd.snd.fst ∧
 true =
 true ∧
 True ∧
 ((x.fst.getD
 g.snd.snd.snd.fst.toNat
 ((0 :
 Int),
 (0 :
 Int),
 (0 :
 Int))).fst =
 (x.fst.getD
 g.snd.snd.snd.fst.toNat
 ((0 :
 Int),
 (0 :
 Int),
 (0 :
 Int))).fst ∧
 (x.fst.getD
 g.snd.snd.snd.fst.toNat
 ((0 :
 Int),
 (0 :
 Int),
 (0 :
 Int))).snd.fst =
 (x.fst.getD
 g.snd.snd.snd.fst.toNat
 ((0 :
 Int),
 (0 :
 Int),
 (0 :
 Int))).snd.fst ∧
 (x.fst.getD
 g.snd.snd.snd.fst.toNat
 ((0 :
 Int),
 (0 :
 Int),
 (0 :
 Int))).snd.snd =
 (x.fst.getD
 g.snd.snd.snd.fst.toNat
 ((0 :
 Int),
 (0 :
 Int),
 (0 :
 Int))).snd.snd ∧
 True) ∧
 True ∧
 (True ∧
 True) ∧
 ((x.fst.getD
 g.snd.snd.snd.fst.toNat
 ((0 :
 Int),
 (0 :
 Int),
 (0 :
 Int))).fst =
 (x.fst.getD
 g.snd.snd.snd.fst.toNat
 ((0 :
 Int),
 (0 :
 Int),
 (0 :
 Int))).fst ∧
 (x.fst.getD
 g.snd.snd.snd.fst.toNat
 ((0 :
 Int),
 (0 :
 Int),
 (0 :
 Int))).snd.fst =
 (x.fst.getD
 g.snd.snd.snd.fst.toNat
 ((0 :
 Int),
 (0 :
 Int),
 (0 :
 Int))).snd.fst ∧
 (x.fst.getD
 g.snd.snd.snd.fst.toNat
 ((0 :
 Int),
 (0 :
 Int),
 (0 :
 Int))).snd.snd =
 (x.fst.getD
 g.snd.snd.snd.fst.toNat
 ((0 :
 Int),
 (0 :
 Int),
 (0 :
 Int))).snd.snd ∧
 True) ∧
 True ∧
 True ∧
 True ∧
 True ∧
 True ∧
 True ∧
 True ∧
 True ∧
 True ∧
 True ∧
 True ∧
 True ∧
 True ∧
 True ∧
 True ∧
 True ∧
 True ∧
 True ∧
 True ∧
 True ∧
 True ∧
 True ∧
 True ∧
 True ∧
 True ∧
 True ∧
 True ∧
 True ∧
 True ∧
 True ∧
 True ∧
 True ∧
 True ∧
 True ∧
 True) ∧
 (deq (Ty.arr (8 : Nat) Ty.bool)
 (g_1.fst.snd.fst.getD g_2.snd.snd.fst.toNat
 ((0 : Int),
 false ::
 false ::
 false ::
 false ::
 false ::
 false ::
 false :: false :: ([] : List Bool))).snd
 (false ::
 false ::
 false ::
 false ::
 false ::
 false :: false :: false :: ([] : List Bool)) =
 false →
 (g_2.snd.fst.length +
 ((((0 : Int),
 false ::
 false ::
 false ::
 false ::
 false ::
 false ::
 false ::
 false :: ([] : List Bool)) ::
 ([] : List (Int × List Bool))).set
 (0 : Nat)
 ((g_1.fst.snd.fst.getD g_2.snd.snd.fst.toNat
 ((0 : Int),
 false ::
 false ::
 false ::
 false ::
 false ::
 false ::
 false ::
 false ::
 ([] : List Bool))).fst,
 (g_1.fst.snd.fst.getD g_2.snd.snd.fst.toNat
 ((0 : Int),
 false ::
 false ::
 false ::
 false ::
 false ::
 false ::
 false ::
 false ::
 ([] :
 List
 Bool))).snd)).length ≤
 (9223372036854775807 : Nat) ∧
 (g_2.snd.fst.length +
 ((((0 : Int),
 false ::
 false ::
 false ::
 false ::
 false ::
 false ::
 false ::
 false ::
 ([] : List Bool)) ::
 ([] : List (Int × List Bool))).set
 (0 : Nat)
 ((g_1.fst.snd.fst.getD g_2.snd.snd.fst.toNat
 ((0 : Int),
 false ::
 false ::
 false ::
 false ::
 false ::
 false ::
 false ::
 false ::
 ([] :
 List Bool))).fst,
 (g_1.fst.snd.fst.getD
 g_2.snd.snd.fst.toNat
 ((0 : Int),
 false ::
 false ::
 false ::
 false ::
 false ::
 false ::
 false ::
 false ::
 ([] :
 List
 Bool))).snd)).length +
 (g_2.snd.fst.length +
 ((((0 : Int),
 false ::
 false ::
 false ::
 false ::
 false ::
 false ::
 false ::
 false ::
 ([] : List Bool)) ::
 ([] : List (Int × List Bool))).set
 (0 : Nat)
 ((g_1.fst.snd.fst.getD
 g_2.snd.snd.fst.toNat
 ((0 : Int),
 false ::
 false ::
 false ::
 false ::
 false ::
 false ::
 false ::
 false ::
 ([] :
 List
 Bool))).fst,
 (g_1.fst.snd.fst.getD
 g_2.snd.snd.fst.toNat
 ((0 : Int),
 false ::
 false ::
 false ::
 false ::
 false ::
 false ::
 false ::
 false ::
 ([] :
 List
 Bool))).snd)).length) /
 (4 : Nat) +
 (192 : Nat)) *
 (16 : Nat) ≤
 (281474976710656 : Nat)) ∧
 ((-9223372036854775808 : Int) ≤
 g_2.snd.snd.fst + (1 : Int) ∧
 g_2.snd.snd.fst + (1 : Int) ≤
 (9223372036854775807 : Int)) ∧
 (((0 : Int) ≤ g_2.snd.snd.fst + (1 : Int) ∧
 g_2.snd.snd.fst + (1 : Int) ≤
 (↑g_1.fst.snd.1.length : Int) ∧
 g_2.fst.fst = g_1.fst.1 ∧
 g_2.fst.snd.snd =
 g.fst.snd.2 ++
 ff
 (List.take
 (g_2.snd.snd.fst + (1 : Int)).toNat
 g_1.fst.snd.1) ∧
 g_2.snd.fst ++
 (((0 : Int),
 false ::
 false ::
 false ::
 false ::
 false ::
 false ::
 false ::
 false ::
 ([] :
 List Bool)) ::
 ([] : List (Int × List Bool))).set
 (0 : Nat)
 ((g_1.fst.snd.fst.getD
 g_2.snd.snd.fst.toNat
 ((0 : Int),
 false ::
 false ::
 false ::
 false ::
 false ::
 false ::
 false ::
 false ::
 ([] :
 List
 Bool))).fst,
 (g_1.fst.snd.fst.getD
 g_2.snd.snd.fst.toNat
 ((0 : Int),
 false ::
 false ::
 false ::
 false ::
 false ::
 false ::
 false ::
 false ::
 ([] :
 List
 Bool))).snd) =
 lf
 (List.take
 (g_2.snd.snd.fst + (1 : Int)).toNat
 g_1.fst.snd.1)) ∧
 ((↑g_1.fst.snd.1.length : Int) -
 (g_2.snd.snd.fst + (1 : Int))).toNat <
 ((↑g_1.fst.snd.1.length : Int) -
 g_2.snd.snd.fst).toNat) ∧
 ((True ∧ True) ∧
 True ∧
 True ∧
 (↑g_1.fst.snd.fst.length : Int) =
 (↑g_1.fst.snd.fst.length : Int) ∧
 g_2.snd.snd.fst + (1 : Int) =
 g_2.snd.snd.fst + (1 : Int) ∧
 True) ∧
 ((g_2.fst.fst = g_2.fst.fst ∧ True ∧ True ∧ True) ∧
 g_2.fst.snd.snd = g_2.fst.snd.snd ∧
 g_2.snd.fst ++
 (((0 : Int),
 false ::
 false ::
 false ::
 false ::
 false ::
 false ::
 false ::
 false ::
 ([] :
 List Bool)) ::
 ([] : List (Int × List Bool))).set
 (0 : Nat)
 ((g_1.fst.snd.fst.getD
 g_2.snd.snd.fst.toNat
 ((0 : Int),
 false ::
 false ::
 false ::
 false ::
 false ::
 false ::
 false ::
 false ::
 ([] :
 List
 Bool))).fst,
 (g_1.fst.snd.fst.getD
 g_2.snd.snd.fst.toNat
 ((0 : Int),
 false ::
 false ::
 false ::
 false ::
 false ::
 false ::
 false ::
 false ::
 ([] :
 List
 Bool))).snd) =
 g_2.snd.fst ++
 (((0 : Int),
 false ::
 false ::
 false ::
 false ::
 false ::
 false ::
 false ::
 false ::
 ([] :
 List Bool)) ::
 ([] : List (Int × List Bool))).set
 (0 : Nat)
 ((g_1.fst.snd.fst.getD
 g_2.snd.snd.fst.toNat
 ((0 : Int),
 false ::
 false ::
 false ::
 false ::
 false ::
 false ::
 false ::
 false ::
 ([] :
 List
 Bool))).fst,
 (g_1.fst.snd.fst.getD
 g_2.snd.snd.fst.toNat
 ((0 : Int),
 false ::
 false ::
 false ::
 false ::
 false ::
 false ::
 false ::
 false ::
 ([] :
 List
 Bool))).snd) ∧
 ((x.fst.getD g.snd.snd.snd.fst.toNat
 ((0 : Int), (0 : Int),
 (0 : Int))).fst =
 (x.fst.getD g.snd.snd.snd.fst.toNat
 ((0 : Int), (0 : Int),
 (0 : Int))).fst ∧
 (x.fst.getD g.snd.snd.snd.fst.toNat
 ((0 : Int), (0 : Int),
 (0 : Int))).snd.fst =
 (x.fst.getD g.snd.snd.snd.fst.toNat
 ((0 : Int), (0 : Int),
 (0 : Int))).snd.fst ∧
 (x.fst.getD g.snd.snd.snd.fst.toNat
 ((0 : Int), (0 : Int),
 (0 : Int))).snd.snd =
 (x.fst.getD g.snd.snd.snd.fst.toNat
 ((0 : Int), (0 : Int),
 (0 : Int))).snd.snd ∧
 True) ∧
 g.snd.fst = g.snd.fst ∧
 g.snd.snd.fst = g.snd.snd.fst ∧
 ((x.fst.getD g.snd.snd.snd.fst.toNat
 ((0 : Int), (0 : Int),
 (0 : Int))).fst =
 (x.fst.getD
 g.snd.snd.snd.fst.toNat
 ((0 : Int), (0 : Int),
 (0 : Int))).fst ∧
 (x.fst.getD g.snd.snd.snd.fst.toNat
 ((0 : Int), (0 : Int),
 (0 : Int))).snd.fst =
 (x.fst.getD
 g.snd.snd.snd.fst.toNat
 ((0 : Int), (0 : Int),
 (0 : Int))).snd.fst ∧
 (x.fst.getD
 g.snd.snd.snd.fst.toNat
 ((0 : Int), (0 : Int),
 (0 : Int))).snd.snd =
 (x.fst.getD
 g.snd.snd.snd.fst.toNat
 ((0 : Int), (0 : Int),
 (0 : Int))).snd.snd ∧
 True) ∧
 g_1.fst.snd.fst = g_1.fst.snd.fst ∧
 True) ∧
 (True ∧ True) ∧
 True ∧
 True ∧
 (True ∧ True) ∧
 True ∧
 True ∧
 True ∧
 True ∧
 True ∧
 True ∧
 True ∧
 True ∧
 True ∧
 True ∧
 True ∧
 True ∧
 True ∧
 True ∧
 True ∧
 True ∧
 True ∧
 True ∧
 True ∧
 True ∧
 True ∧
 True ∧
 True ∧
 True ∧
 True ∧
 True ∧
 True ∧
 True ∧
 True ∧
 True ∧
 True ∧
 True ∧
 True ∧
 True ∧
 True ∧
 True ∧
 True ∧
 True ∧
 True ∧
 True ∧
 True ∧
 True ∧
 True ∧
 True ∧
 True ∧
 True ∧
 True ∧
 True ∧
 True ∧
 True ∧
 True ∧
 True ∧
 True ∧
 True ∧
 True ∧
 True ∧
 True ∧
 True ∧
 True ∧
 True ∧
 True ∧
 True ∧
 True ∧
 True ∧
 True ∧
 True ∧
 True ∧
 True ∧
 True ∧
 True ∧
 True ∧
 True ∧
 True ∧
 True ∧
 True ∧
 True ∧
 True ∧
 True ∧
 True ∧
 True ∧
 True ∧
 True ∧
 True ∧
 True ∧
 True ∧
 True ∧
 True ∧
 (↑g.fst.snd.fst.length :
 Int) =
 (↑g.fst.snd.fst.length :
 Int) ∧
 g_1.snd.fst =
 g_1.snd.fst ∧
 false =
 false ∧
 True ∧
 True ∧
 True ∧
 True ∧
 True ∧
 True ∧
 True ∧
 True ∧
 True ∧
 True ∧
 True ∧
 True ∧
 (True ∧
 True) ∧
 True ∧
 True ∧
 True ∧
 True ∧
 True ∧
 True ∧
 True ∧
 (True ∧
 True) ∧
 True ∧
 True ∧
 Value.slice
 none
 (0 :
 Nat)
 (0 :
 Nat) =
 Value.slice
 none
 (0 :
 Nat)
 (0 :
 Nat) ∧
 True ∧
 (True ∧
 True) ∧
 True ∧
 True ∧
 True ∧
 True ∧
 x.fst =
 x.fst ∧
 (↑x.fst.length :
 Int) =
 (↑x.fst.length :
 Int) ∧
 g.snd.snd.snd.fst =
 g.snd.snd.snd.fst ∧
 true =
 true ∧
 True ∧
 ((x.fst.getD
 g.snd.snd.snd.fst.toNat
 ((0 :
 Int),
 (0 :
 Int),
 (0 :
 Int))).fst =
 (x.fst.getD
 g.snd.snd.snd.fst.toNat
 ((0 :
 Int),
 (0 :
 Int),
 (0 :
 Int))).fst ∧
 (x.fst.getD
 g.snd.snd.snd.fst.toNat
 ((0 :
 Int),
 (0 :
 Int),
 (0 :
 Int))).snd.fst =
 (x.fst.getD
 g.snd.snd.snd.fst.toNat
 ((0 :
 Int),
 (0 :
 Int),
 (0 :
 Int))).snd.fst ∧
 (x.fst.getD
 g.snd.snd.snd.fst.toNat
 ((0 :
 Int),
 (0 :
 Int),
 (0 :
 Int))).snd.snd =
 (x.fst.getD
 g.snd.snd.snd.fst.toNat
 ((0 :
 Int),
 (0 :
 Int),
 (0 :
 Int))).snd.snd ∧
 True) ∧
 True ∧
 (True ∧
 True) ∧
 ((x.fst.getD
 g.snd.snd.snd.fst.toNat
 ((0 :
 Int),
 (0 :
 Int),
 (0 :
 Int))).fst =
 (x.fst.getD
 g.snd.snd.snd.fst.toNat
 ((0 :
 Int),
 (0 :
 Int),
 (0 :
 Int))).fst ∧
 (x.fst.getD
 g.snd.snd.snd.fst.toNat
 ((0 :
 Int),
 (0 :
 Int),
 (0 :
 Int))).snd.fst =
 (x.fst.getD
 g.snd.snd.snd.fst.toNat
 ((0 :
 Int),
 (0 :
 Int),
 (0 :
 Int))).snd.fst ∧
 (x.fst.getD
 g.snd.snd.snd.fst.toNat
 ((0 :
 Int),
 (0 :
 Int),
 (0 :
 Int))).snd.snd =
 (x.fst.getD
 g.snd.snd.snd.fst.toNat
 ((0 :
 Int),
 (0 :
 Int),
 (0 :
 Int))).snd.snd ∧
 True) ∧
 True ∧
 True ∧
 True ∧
 True ∧
 True ∧
 True ∧
 True ∧
 True ∧
 True ∧
 True ∧
 True ∧
 True ∧
 True ∧
 True ∧
 True ∧
 True ∧
 True ∧
 True ∧
 True ∧
 True ∧
 True ∧
 True ∧
 True ∧
 True ∧
 True ∧
 True ∧
 True ∧
 True ∧
 True ∧
 True ∧
 True ∧
 True ∧
 True ∧
 True ∧
 True)) ∧
 (decide (g_2.snd.snd.fst < (↑g_1.fst.snd.fst.length : Int)) = false →
 (g.snd.fst.length +
 (((0 : Int) :: ([] : List Int)).set (0 : Nat)
 (0 : Int)).length ≤
 (9223372036854775807 : Nat) ∧
 (g.snd.fst.length +
 (((0 : Int) :: ([] : List Int)).set (0 : Nat)
 (0 : Int)).length +
 (g.snd.fst.length +
 (((0 : Int) :: ([] : List Int)).set (0 : Nat)
 (0 : Int)).length) /
 (4 : Nat) +
 (192 : Nat)) *
 (8 : Nat) ≤
 (281474976710656 : Nat)) ∧
 (g.snd.snd.fst.length +
 (((0 : Int) :: ([] : List Int)).set (0 : Nat)
 (↑g_2.fst.snd.snd.length : Int)).length ≤
 (9223372036854775807 : Nat) ∧
 (g.snd.snd.fst.length +
 (((0 : Int) :: ([] : List Int)).set (0 : Nat)
 (↑g_2.fst.snd.snd.length : Int)).length +
 (g.snd.snd.fst.length +
 (((0 : Int) :: ([] : List Int)).set (0 : Nat)
 (↑g_2.fst.snd.snd.length : Int)).length) /
 (4 : Nat) +
 (192 : Nat)) *
 (8 : Nat) ≤
 (281474976710656 : Nat)) ∧
 ((-9223372036854775808 : Int) ≤ g.snd.snd.snd.fst + (1 : Int) ∧
 g.snd.snd.snd.fst + (1 : Int) ≤
 (9223372036854775807 : Int)) ∧
 (((0 : Int) ≤ g.snd.snd.snd.fst + (1 : Int) ∧
 g.snd.snd.snd.fst + (1 : Int) ≤ (↑x.fst.length : Int) ∧
 pl
 (List.take (g.snd.snd.snd.fst + (1 : Int)).toNat
 x.fst) =
 ((g_2.fst.fst, g_2.snd.fst, g_2.fst.snd.snd),
 g.snd.fst ++
 ((0 : Int) :: ([] : List Int)).set (0 : Nat)
 (0 : Int),
 g.snd.snd.fst ++
 ((0 : Int) :: ([] : List Int)).set (0 : Nat)
 (↑g_2.fst.snd.snd.length : Int)) ∧
 (↑g_2.snd.fst.length : Int) +
 (↑g_2.fst.snd.snd.length : Int) ≤
 g.snd.snd.snd.fst + (1 : Int) ∧
 (↑(g.snd.fst ++
 ((0 : Int) :: ([] : List Int)).set
 (0 : Nat) (0 : Int)).length :
 Int) =
 g.snd.snd.snd.fst + (1 : Int) ∧
 (↑(g.snd.snd.fst ++
 ((0 : Int) :: ([] : List Int)).set
 (0 : Nat)
 (↑g_2.fst.snd.snd.length :
 Int)).length :
 Int) =
 g.snd.snd.snd.fst + (1 : Int)) ∧
 ((↑x.fst.length : Int) -
 (g.snd.snd.snd.fst + (1 : Int))).toNat <
 ((↑x.fst.length : Int) - g.snd.snd.snd.fst).toNat) ∧
 ((True ∧ True) ∧
 True ∧
 True ∧
 Value.slice none (0 : Nat) (0 : Nat) =
 Value.slice none (0 : Nat) (0 : Nat) ∧
 x.fst = x.fst ∧
 (↑x.fst.length : Int) = (↑x.fst.length : Int) ∧
 g.snd.snd.snd.fst + (1 : Int) =
 g.snd.snd.snd.fst + (1 : Int) ∧
 True) ∧
 ((g_2.fst.fst = g_2.fst.fst ∧ True ∧ True ∧ True) ∧
 g_2.snd.fst = g_2.snd.fst ∧
 g_2.fst.snd.snd = g_2.fst.snd.snd ∧
 g.snd.fst ++
 ((0 : Int) :: ([] : List Int)).set (0 : Nat)
 (0 : Int) =
 g.snd.fst ++
 ((0 : Int) :: ([] : List Int)).set (0 : Nat)
 (0 : Int) ∧
 g.snd.snd.fst ++
 ((0 : Int) :: ([] : List Int)).set
 (0 : Nat)
 (↑g_2.fst.snd.snd.length : Int) =
 g.snd.snd.fst ++
 ((0 : Int) :: ([] : List Int)).set
 (0 : Nat)
 (↑g_2.fst.snd.snd.length : Int) ∧
 True) ∧
 True))) ∧
 (((x.fst.getD g.snd.snd.snd.fst.toNat ((0 : Int), (0 : Int), (0 : Int))).fst == (2 : Int)) =
 false →
 (g.snd.fst.length + (((0 : Int) :: ([] : List Int)).set (0 : Nat) (0 : Int)).length ≤
 (9223372036854775807 : Nat) ∧
 (g.snd.fst.length + (((0 : Int) :: ([] : List Int)).set (0 : Nat) (0 : Int)).length +
 (g.snd.fst.length +
 (((0 : Int) :: ([] : List Int)).set (0 : Nat) (0 : Int)).length) /
 (4 : Nat) +
 (192 : Nat)) *
 (8 : Nat) ≤
 (281474976710656 : Nat)) ∧
 (g.snd.snd.fst.length +
 (((0 : Int) :: ([] : List Int)).set (0 : Nat)
 (↑g.fst.snd.snd.length : Int)).length ≤
 (9223372036854775807 : Nat) ∧
 (g.snd.snd.fst.length +
 (((0 : Int) :: ([] : List Int)).set (0 : Nat)
 (↑g.fst.snd.snd.length : Int)).length +
 (g.snd.snd.fst.length +
 (((0 : Int) :: ([] : List Int)).set (0 : Nat)
 (↑g.fst.snd.snd.length : Int)).length) /
 (4 : Nat) +
 (192 : Nat)) *
 (8 : Nat) ≤
 (281474976710656 : Nat)) ∧
 ((-9223372036854775808 : Int) ≤ g.snd.snd.snd.fst + (1 : Int) ∧
 g.snd.snd.snd.fst + (1 : Int) ≤ (9223372036854775807 : Int)) ∧
 (((0 : Int) ≤ g.snd.snd.snd.fst + (1 : Int) ∧
 g.snd.snd.snd.fst + (1 : Int) ≤ (↑x.fst.length : Int) ∧
 pl (List.take (g.snd.snd.snd.fst + (1 : Int)).toNat x.fst) =
 ((g.fst.fst.set
 (x.fst.getD g.snd.snd.snd.fst.toNat
 ((0 : Int), (0 : Int), (0 : Int))).snd.fst.toNat
 ((x.fst.getD g.snd.snd.snd.fst.toNat
 ((0 : Int), (0 : Int), (0 : Int))).fst ==
 (1 : Int)),
 g.fst.snd.fst, g.fst.snd.snd),
 g.snd.fst ++ ((0 : Int) :: ([] : List Int)).set (0 : Nat) (0 : Int),
 g.snd.snd.fst ++
 ((0 : Int) :: ([] : List Int)).set (0 : Nat)
 (↑g.fst.snd.snd.length : Int)) ∧
 (↑g.fst.snd.fst.length : Int) + (↑g.fst.snd.snd.length : Int) ≤
 g.snd.snd.snd.fst + (1 : Int) ∧
 (↑(g.snd.fst ++
 ((0 : Int) :: ([] : List Int)).set (0 : Nat)
 (0 : Int)).length :
 Int) =
 g.snd.snd.snd.fst + (1 : Int) ∧
 (↑(g.snd.snd.fst ++
 ((0 : Int) :: ([] : List Int)).set (0 : Nat)
 (↑g.fst.snd.snd.length : Int)).length :
 Int) =
 g.snd.snd.snd.fst + (1 : Int)) ∧
 ((↑x.fst.length : Int) - (g.snd.snd.snd.fst + (1 : Int))).toNat <
 ((↑x.fst.length : Int) - g.snd.snd.snd.fst).toNat) ∧
 ((True ∧ True) ∧
 True ∧
 True ∧
 Value.slice none (0 : Nat) (0 : Nat) =
 Value.slice none (0 : Nat) (0 : Nat) ∧
 x.fst = x.fst ∧
 (↑x.fst.length : Int) = (↑x.fst.length : Int) ∧
 g.snd.snd.snd.fst + (1 : Int) = g.snd.snd.snd.fst + (1 : Int) ∧
 True) ∧
 ((g.fst.fst.set
 (x.fst.getD g.snd.snd.snd.fst.toNat
 ((0 : Int), (0 : Int), (0 : Int))).snd.fst.toNat
 ((x.fst.getD g.snd.snd.snd.fst.toNat
 ((0 : Int), (0 : Int), (0 : Int))).fst ==
 (1 : Int)) =
 g.fst.fst.set
 (x.fst.getD g.snd.snd.snd.fst.toNat
 ((0 : Int), (0 : Int), (0 : Int))).snd.fst.toNat
 ((x.fst.getD g.snd.snd.snd.fst.toNat
 ((0 : Int), (0 : Int), (0 : Int))).fst ==
 (1 : Int)) ∧
 True ∧ True ∧ True) ∧
 g.fst.snd.fst = g.fst.snd.fst ∧
 g.fst.snd.snd = g.fst.snd.snd ∧
 g.snd.fst ++ ((0 : Int) :: ([] : List Int)).set (0 : Nat) (0 : Int) =
 g.snd.fst ++ ((0 : Int) :: ([] : List Int)).set (0 : Nat) (0 : Int) ∧
 g.snd.snd.fst ++
 ((0 : Int) :: ([] : List Int)).set (0 : Nat)
 (↑g.fst.snd.snd.length : Int) =
 g.snd.snd.fst ++
 ((0 : Int) :: ([] : List Int)).set (0 : Nat)
 (↑g.fst.snd.snd.length : Int) ∧
 True) ∧
 True))) ∧
 (((x.fst.getD g.snd.snd.snd.fst.toNat ((0 : Int), (0 : Int), (0 : Int))).fst == (2 : Int)) = !true →
 ((0 : Int) ≤ (x.fst.getD g.snd.snd.snd.fst.toNat ((0 : Int), (0 : Int), (0 : Int))).snd.fst ∧
 (x.fst.getD g.snd.snd.snd.fst.toNat ((0 : Int), (0 : Int), (0 : Int))).snd.fst <
 (↑(8 : Nat) : Int)) ∧
 (((x.fst.getD g.snd.snd.snd.fst.toNat ((0 : Int), (0 : Int), (0 : Int))).fst == (2 : Int)) = true →
 ((((0 : Int) ≤ (0 : Int) ∧
 (0 : Int) ≤ (↑g.fst.snd.1.length : Int) ∧
 g.fst.fst.set
 (x.fst.getD g.snd.snd.snd.fst.toNat
 ((0 : Int), (0 : Int), (0 : Int))).snd.fst.toNat
 ((x.fst.getD g.snd.snd.snd.fst.toNat ((0 : Int), (0 : Int), (0 : Int))).fst ==
 (1 : Int)) =
 (List.brecOn.go (motive := fun x ↦ Nat → Bool → List Bool) g.fst.fst List.set._f).1
 (x.fst.getD g.snd.snd.snd.fst.toNat
 ((0 : Int), (0 : Int), (0 : Int))).snd.fst.toNat
 ((x.fst.getD g.snd.snd.snd.fst.toNat ((0 : Int), (0 : Int), (0 : Int))).fst ==
 (1 : Int)) ∧
 g.fst.snd.fst =
 List.map
 (clr
 (x.fst.getD g.snd.snd.snd.fst.toNat
 ((0 : Int), (0 : Int), (0 : Int))).snd.fst)
 (List.take (Int.toNat (0 : Int)) g.fst.snd.1) ++
 List.drop (Int.toNat (0 : Int)) g.fst.snd.1) ∧
 True) ∧
 ((True ∧ True) ∧
 (True ∧ True) ∧
 (↑g.fst.snd.fst.length : Int) = (↑g.fst.snd.fst.length : Int) ∧
 (0 : Int) = (0 : Int) ∧ True) ∧
 ((g.fst.fst.set
 (x.fst.getD g.snd.snd.snd.fst.toNat
 ((0 : Int), (0 : Int), (0 : Int))).snd.fst.toNat
 ((x.fst.getD g.snd.snd.snd.fst.toNat ((0 : Int), (0 : Int), (0 : Int))).fst ==
 (1 : Int)) =
 g.fst.fst.set
 (x.fst.getD g.snd.snd.snd.fst.toNat
 ((0 : Int), (0 : Int), (0 : Int))).snd.fst.toNat
 ((x.fst.getD g.snd.snd.snd.fst.toNat ((0 : Int), (0 : Int), (0 : Int))).fst ==
 (1 : Int)) ∧
 True ∧ True ∧ True) ∧
 g.fst.snd.fst = g.fst.snd.fst ∧
 g.snd.fst = g.snd.fst ∧
 g.snd.snd.fst = g.snd.snd.fst ∧
 ((x.fst.getD g.snd.snd.snd.fst.toNat ((0 : Int), (0 : Int), (0 : Int))).fst =
 (x.fst.getD g.snd.snd.snd.fst.toNat ((0 : Int), (0 : Int), (0 : Int))).fst ∧
 (x.fst.getD g.snd.snd.snd.fst.toNat
 ((0 : Int), (0 : Int), (0 : Int))).snd.fst =
 (x.fst.getD g.snd.snd.snd.fst.toNat
 ((0 : Int), (0 : Int), (0 : Int))).snd.fst ∧
 (x.fst.getD g.snd.snd.snd.fst.toNat
 ((0 : Int), (0 : Int), (0 : Int))).snd.snd =
 (x.fst.getD g.snd.snd.snd.fst.toNat
 ((0 : Int), (0 : Int), (0 : Int))).snd.snd ∧
 True) ∧
 g.fst.snd.snd = g.fst.snd.snd ∧
 ((x.fst.getD g.snd.snd.snd.fst.toNat ((0 : Int), (0 : Int), (0 : Int))).fst =
 (x.fst.getD g.snd.snd.snd.fst.toNat
 ((0 : Int), (0 : Int), (0 : Int))).fst ∧
 (x.fst.getD g.snd.snd.snd.fst.toNat
 ((0 : Int), (0 : Int), (0 : Int))).snd.fst =
 (x.fst.getD g.snd.snd.snd.fst.toNat
 ((0 : Int), (0 : Int), (0 : Int))).snd.fst ∧
 (x.fst.getD g.snd.snd.snd.fst.toNat
 ((0 : Int), (0 : Int), (0 : Int))).snd.snd =
 (x.fst.getD g.snd.snd.snd.fst.toNat
 ((0 : Int), (0 : Int), (0 : Int))).snd.snd ∧
 True) ∧
 True) ∧
 True ∧
 True ∧
 True ∧
 True ∧
 True ∧
 True ∧
 (True ∧ True) ∧
 True ∧
 True ∧
 Value.slice none (0 : Nat) (0 : Nat) =
 Value.slice none (0 : Nat) (0 : Nat) ∧
 True ∧
 (True ∧ True) ∧
 True ∧
 True ∧
 True ∧
 True ∧
 x.fst = x.fst ∧
 (↑x.fst.length : Int) = (↑x.fst.length : Int) ∧
 g.snd.snd.snd.fst = g.snd.snd.snd.fst ∧
 true = true ∧
 True ∧
 ((x.fst.getD g.snd.snd.snd.fst.toNat
 ((0 : Int), (0 : Int),
 (0 : Int))).fst =
 (x.fst.getD g.snd.snd.snd.fst.toNat
 ((0 : Int), (0 : Int),
 (0 : Int))).fst ∧
 (x.fst.getD g.snd.snd.snd.fst.toNat
 ((0 : Int), (0 : Int),
 (0 : Int))).snd.fst =
 (x.fst.getD g.snd.snd.snd.fst.toNat
 ((0 : Int), (0 : Int),
 (0 : Int))).snd.fst ∧
 (x.fst.getD g.snd.snd.snd.fst.toNat
 ((0 : Int), (0 : Int),
 (0 : Int))).snd.snd =
 (x.fst.getD g.snd.snd.snd.fst.toNat
 ((0 : Int), (0 : Int),
 (0 : Int))).snd.snd ∧
 True) ∧
 True ∧
 (True ∧ True) ∧
 ((x.fst.getD g.snd.snd.snd.fst.toNat
 ((0 : Int), (0 : Int),
 (0 : Int))).fst =
 (x.fst.getD g.snd.snd.snd.fst.toNat
 ((0 : Int), (0 : Int),
 (0 : Int))).fst ∧
 (x.fst.getD g.snd.snd.snd.fst.toNat
 ((0 : Int), (0 : Int),
 (0 : Int))).snd.fst =
 (x.fst.getD
 g.snd.snd.snd.fst.toNat
 ((0 : Int), (0 : Int),
 (0 : Int))).snd.fst ∧
 (x.fst.getD g.snd.snd.snd.fst.toNat
 ((0 : Int), (0 : Int),
 (0 : Int))).snd.snd =
 (x.fst.getD
 g.snd.snd.snd.fst.toNat
 ((0 : Int), (0 : Int),
 (0 : Int))).snd.snd ∧
 True) ∧
 True ∧
 True ∧
 True ∧
 True ∧
 True ∧
 True ∧
 True ∧
 True ∧
 True ∧
 True ∧
 True ∧
 True ∧
 True ∧
 True ∧
 True ∧
 True ∧
 True ∧
 True ∧
 True ∧
 True ∧
 True ∧
 True ∧
 True ∧
 True ∧
 True ∧
 True ∧
 True ∧
 True ∧
 True ∧
 True ∧
 True ∧
 True ∧
 True ∧
 True ∧
 True) ∧
 ∀ (g_1 : (List Bool × List (Int × List Bool) × Unit) × Int × Unit),
 (0 : Int) ≤ g_1.snd.fst ∧
 g_1.snd.fst ≤ (↑g.fst.snd.1.length : Int) ∧
 g_1.fst.fst =
 (List.brecOn.go (motive := fun x ↦ Nat → Bool → List Bool) g.fst.fst List.set._f).1
 (x.fst.getD g.snd.snd.snd.fst.toNat
 ((0 : Int), (0 : Int), (0 : Int))).snd.fst.toNat
 ((x.fst.getD g.snd.snd.snd.fst.toNat ((0 : Int), (0 : Int), (0 : Int))).fst ==
 (1 : Int)) ∧
 g_1.fst.snd.fst =
 List.map
 (clr
 (x.fst.getD g.snd.snd.snd.fst.toNat
 ((0 : Int), (0 : Int), (0 : Int))).snd.fst)
 (List.take g_1.snd.fst.toNat g.fst.snd.1) ++
 List.drop g_1.snd.fst.toNat g.fst.snd.1 →
 ((g_1.fst.fst.length = (8 : Nat) ∧ ∀ (x : Bool), x ∈ g_1.fst.fst → True) ∧
 (g_1.fst.snd.fst.length ≤ (9223372036854775807 : Nat) ∧
 ∀ (x : Int × List Bool),
 x ∈ g_1.fst.snd.fst →
 ((-9223372036854775808 : Int) ≤ x.fst ∧ x.fst ≤ (9223372036854775807 : Int)) ∧
 x.snd.length = (8 : Nat) ∧ ∀ (x_1 : Bool), x_1 ∈ x.snd → True) ∧
 True) ∧
 ((-9223372036854775808 : Int) ≤ g_1.snd.fst ∧
 g_1.snd.fst ≤ (9223372036854775807 : Int)) ∧
 True →
 (decide (g_1.snd.fst < (↑g.fst.snd.fst.length : Int)) = true →
 ((0 : Int) ≤ g_1.snd.fst ∧ g_1.snd.fst < (↑g_1.fst.snd.fst.length : Int)) ∧
 ((0 : Int) ≤
 (x.fst.getD g.snd.snd.snd.fst.toNat
 ((0 : Int), (0 : Int), (0 : Int))).snd.fst ∧
 (x.fst.getD g.snd.snd.snd.fst.toNat ((0 : Int), (0 : Int), (0 : Int))).snd.fst <
 (↑(8 : Nat) : Int)) ∧
 ((-9223372036854775808 : Int) ≤ g_1.snd.fst + (1 : Int) ∧
 g_1.snd.fst + (1 : Int) ≤ (9223372036854775807 : Int)) ∧
 (((0 : Int) ≤ g_1.snd.fst + (1 : Int) ∧
 g_1.snd.fst + (1 : Int) ≤ (↑g.fst.snd.1.length : Int) ∧
 g_1.fst.fst =
 (List.brecOn.go (motive := fun x ↦ Nat → Bool → List Bool) g.fst.fst
 List.set._f).1
 (x.fst.getD g.snd.snd.snd.fst.toNat
 ((0 : Int), (0 : Int), (0 : Int))).snd.fst.toNat
 ((x.fst.getD g.snd.snd.snd.fst.toNat
 ((0 : Int), (0 : Int), (0 : Int))).fst ==
 (1 : Int)) ∧
 g_1.fst.snd.fst.set g_1.snd.fst.toNat
 ((g_1.fst.snd.fst.getD g_1.snd.fst.toNat
 ((0 : Int),
 false ::
 false ::
 false ::
 false ::
 false ::
 false ::
 false :: false :: ([] : List Bool))).fst,
 (g_1.fst.snd.fst.getD g_1.snd.fst.toNat
 ((0 : Int),
 false ::
 false ::
 false ::
 false ::
 false ::
 false ::
 false ::
 false :: ([] : List Bool))).snd.set
 (x.fst.getD g.snd.snd.snd.fst.toNat
 ((0 : Int), (0 : Int), (0 : Int))).snd.fst.toNat
 false) =
 List.map
 (clr
 (x.fst.getD g.snd.snd.snd.fst.toNat
 ((0 : Int), (0 : Int), (0 : Int))).snd.fst)
 (List.take (g_1.snd.fst + (1 : Int)).toNat g.fst.snd.1) ++
 List.drop (g_1.snd.fst + (1 : Int)).toNat g.fst.snd.1) ∧
 ((↑g.fst.snd.1.length : Int) - (g_1.snd.fst + (1 : Int))).toNat <
 ((↑g.fst.snd.1.length : Int) - g_1.snd.fst).toNat) ∧
 ((True ∧ True) ∧
 (True ∧ True) ∧
 (↑g.fst.snd.fst.length : Int) = (↑g.fst.snd.fst.length : Int) ∧
 g_1.snd.fst + (1 : Int) = g_1.snd.fst + (1 : Int) ∧ True) ∧
 ((g_1.fst.fst = g_1.fst.fst ∧ True ∧ True ∧ True) ∧
 g_1.fst.snd.fst.set g_1.snd.fst.toNat
 ((g_1.fst.snd.fst.getD g_1.snd.fst.toNat
 ((0 : Int),
 false ::
 false ::
 false ::
 false ::
 false ::
 false ::
 false :: false :: ([] : List Bool))).fst,
 (g_1.fst.snd.fst.getD g_1.snd.fst.toNat
 ((0 : Int),
 false ::
 false ::
 false ::
 false ::
 false ::
 false ::
 false ::
 false :: ([] : List Bool))).snd.set
 (x.fst.getD g.snd.snd.snd.fst.toNat
 ((0 : Int), (0 : Int), (0 : Int))).snd.fst.toNat
 false) =
 g_1.fst.snd.fst.set g_1.snd.fst.toNat
 ((g_1.fst.snd.fst.getD g_1.snd.fst.toNat
 ((0 : Int),
 false ::
 false ::
 false ::
 false ::
 false ::
 false ::
 false :: false :: ([] : List Bool))).fst,
 (g_1.fst.snd.fst.getD g_1.snd.fst.toNat
 ((0 : Int),
 false ::
 false ::
 false ::
 false ::
 false ::
 false ::
 false ::
 false :: ([] : List Bool))).snd.set
 (x.fst.getD g.snd.snd.snd.fst.toNat
 ((0 : Int), (0 : Int), (0 : Int))).snd.fst.toNat
 false) ∧
 g.snd.fst = g.snd.fst ∧
 g.snd.snd.fst = g.snd.snd.fst ∧
 ((x.fst.getD g.snd.snd.snd.fst.toNat
 ((0 : Int), (0 : Int), (0 : Int))).fst =
 (x.fst.getD g.snd.snd.snd.fst.toNat
 ((0 : Int), (0 : Int), (0 : Int))).fst ∧
 (x.fst.getD g.snd.snd.snd.fst.toNat
 ((0 : Int), (0 : Int), (0 : Int))).snd.fst =
 (x.fst.getD g.snd.snd.snd.fst.toNat
 ((0 : Int), (0 : Int), (0 : Int))).snd.fst ∧
 (x.fst.getD g.snd.snd.snd.fst.toNat
 ((0 : Int), (0 : Int), (0 : Int))).snd.snd =
 (x.fst.getD g.snd.snd.snd.fst.toNat
 ((0 : Int), (0 : Int), (0 : Int))).snd.snd ∧
 True) ∧
 g.fst.snd.snd = g.fst.snd.snd ∧
 ((x.fst.getD g.snd.snd.snd.fst.toNat
 ((0 : Int), (0 : Int), (0 : Int))).fst =
 (x.fst.getD g.snd.snd.snd.fst.toNat
 ((0 : Int), (0 : Int), (0 : Int))).fst ∧
 (x.fst.getD g.snd.snd.snd.fst.toNat
 ((0 : Int), (0 : Int), (0 : Int))).snd.fst =
 (x.fst.getD g.snd.snd.snd.fst.toNat
 ((0 : Int), (0 : Int), (0 : Int))).snd.fst ∧
 (x.fst.getD g.snd.snd.snd.fst.toNat
 ((0 : Int), (0 : Int), (0 : Int))).snd.snd =
 (x.fst.getD g.snd.snd.snd.fst.toNat
 ((0 : Int), (0 : Int), (0 : Int))).snd.snd ∧
 True) ∧
 True) ∧
 True ∧
 True ∧
 True ∧
 True ∧
 True ∧
 True ∧
 (True ∧ True) ∧
 True ∧
 True ∧
 Value.slice none (0 : Nat) (0 : Nat) =
 Value.slice none (0 : Nat) (0 : Nat) ∧
 True ∧
 (True ∧ True) ∧
 True ∧
 True ∧
 True ∧
 True ∧
 x.fst = x.fst ∧
 (↑x.fst.length : Int) =
 (↑x.fst.length : Int) ∧
 g.snd.snd.snd.fst =
 g.snd.snd.snd.fst ∧
 true = true ∧
 True ∧
 ((x.fst.getD
 g.snd.snd.snd.fst.toNat
 ((0 : Int), (0 : Int),
 (0 : Int))).fst =
 (x.fst.getD
 g.snd.snd.snd.fst.toNat
 ((0 : Int), (0 : Int),
 (0 : Int))).fst ∧
 (x.fst.getD
 g.snd.snd.snd.fst.toNat
 ((0 : Int),
 (0 : Int),
 (0 :
 Int))).snd.fst =
 (x.fst.getD
 g.snd.snd.snd.fst.toNat
 ((0 : Int),
 (0 : Int),
 (0 :
 Int))).snd.fst ∧
 (x.fst.getD
 g.snd.snd.snd.fst.toNat
 ((0 : Int),
 (0 : Int),
 (0 :
 Int))).snd.snd =
 (x.fst.getD
 g.snd.snd.snd.fst.toNat
 ((0 : Int),
 (0 : Int),
 (0 :
 Int))).snd.snd ∧
 True) ∧
 True ∧
 (True ∧ True) ∧
 ((x.fst.getD
 g.snd.snd.snd.fst.toNat
 ((0 : Int),
 (0 : Int),
 (0 :
 Int))).fst =
 (x.fst.getD
 g.snd.snd.snd.fst.toNat
 ((0 : Int),
 (0 : Int),
 (0 :
 Int))).fst ∧
 (x.fst.getD
 g.snd.snd.snd.fst.toNat
 ((0 : Int),
 (0 : Int),
 (0 :
 Int))).snd.fst =
 (x.fst.getD
 g.snd.snd.snd.fst.toNat
 ((0 : Int),
 (0 : Int),
 (0 :
 Int))).snd.fst ∧
 (x.fst.getD
 g.snd.snd.snd.fst.toNat
 ((0 :
 Int),
 (0 :
 Int),
 (0 :
 Int))).snd.snd =
 (x.fst.getD
 g.snd.snd.snd.fst.toNat
 ((0 :
 Int),
 (0 :
 Int),
 (0 :
 Int))).snd.snd ∧
 True) ∧
 True ∧
 True ∧
 True ∧
 True ∧
 True ∧
 True ∧
 True ∧
 True ∧
 True ∧
 True ∧
 True ∧
 True ∧
 True ∧
 True ∧
 True ∧
 True ∧
 True ∧
 True ∧
 True ∧
 True ∧
 True ∧
 True ∧
 True ∧
 True ∧
 True ∧
 True ∧
 True ∧
 True ∧
 True ∧
 True ∧
 True ∧
 True ∧
 True ∧
 True ∧
 True) ∧
 (decide (g_1.snd.fst < (↑g.fst.snd.fst.length : Int)) = false →
 ((((0 : Int) ≤ (0 : Int) ∧
 (0 : Int) ≤ (↑g_1.fst.snd.1.length : Int) ∧
 g_1.fst.fst = g_1.fst.1 ∧
 g.fst.snd.snd =
 g.fst.snd.2 ++ ff (List.take (Int.toNat (0 : Int)) g_1.fst.snd.1) ∧
 ([] : List (Int × List Bool)) =
 lf (List.take (Int.toNat (0 : Int)) g_1.fst.snd.1)) ∧
 True) ∧
 ((True ∧ True) ∧
 True ∧
 True ∧
 (↑g_1.fst.snd.fst.length : Int) = (↑g_1.fst.snd.fst.length : Int) ∧
 (0 : Int) = (0 : Int) ∧ True) ∧
 ((g_1.fst.fst = g_1.fst.fst ∧ True ∧ True ∧ True) ∧
 g.fst.snd.snd = g.fst.snd.snd ∧
 ([] : List (Int × List Bool)) = ([] : List (Int × List Bool)) ∧
 ((x.fst.getD g.snd.snd.snd.fst.toNat
 ((0 : Int), (0 : Int), (0 : Int))).fst =
 (x.fst.getD g.snd.snd.snd.fst.toNat
 ((0 : Int), (0 : Int), (0 : Int))).fst ∧
 (x.fst.getD g.snd.snd.snd.fst.toNat
 ((0 : Int), (0 : Int), (0 : Int))).snd.fst =
 (x.fst.getD g.snd.snd.snd.fst.toNat
 ((0 : Int), (0 : Int), (0 : Int))).snd.fst ∧
 (x.fst.getD g.snd.snd.snd.fst.toNat
 ((0 : Int), (0 : Int), (0 : Int))).snd.snd =
 (x.fst.getD g.snd.snd.snd.fst.toNat
 ((0 : Int), (0 : Int), (0 : Int))).snd.snd ∧
 True) ∧
 g.snd.fst = g.snd.fst ∧
 g.snd.snd.fst = g.snd.snd.fst ∧
 ((x.fst.getD g.snd.snd.snd.fst.toNat
 ((0 : Int), (0 : Int), (0 : Int))).fst =
 (x.fst.getD g.snd.snd.snd.fst.toNat
 ((0 : Int), (0 : Int), (0 : Int))).fst ∧
 (x.fst.getD g.snd.snd.snd.fst.toNat
 ((0 : Int), (0 : Int), (0 : Int))).snd.fst =
 (x.fst.getD g.snd.snd.snd.fst.toNat
 ((0 : Int), (0 : Int), (0 : Int))).snd.fst ∧
 (x.fst.getD g.snd.snd.snd.fst.toNat
 ((0 : Int), (0 : Int), (0 : Int))).snd.snd =
 (x.fst.getD g.snd.snd.snd.fst.toNat
 ((0 : Int), (0 : Int), (0 : Int))).snd.snd ∧
 True) ∧
 g_1.fst.snd.fst = g_1.fst.snd.fst ∧ True) ∧
 (True ∧ True) ∧
 True ∧
 True ∧
 (True ∧ True) ∧
 True ∧
 True ∧
 True ∧
 True ∧
 True ∧
 True ∧
 True ∧
 True ∧
 True ∧
 True ∧
 True ∧
 True ∧
 True ∧
 True ∧
 True ∧
 True ∧
 True ∧
 True ∧
 True ∧
 True ∧
 True ∧
 True ∧
 True ∧
 True ∧
 True ∧
 True ∧
 True ∧
 True ∧
 True ∧
 True ∧
 True ∧
 True ∧
 True ∧
 True ∧
 True ∧
 True ∧
 True ∧
 True ∧
 True ∧
 True ∧
 True ∧
 True ∧
 True ∧
 True ∧
 True ∧
 True ∧
 True ∧
 True ∧
 True ∧
 True ∧
 True ∧
 True ∧
 True ∧
 True ∧
 True ∧
 True ∧
 True ∧
 True ∧
 True ∧
 True ∧
 True ∧
 True ∧
 True ∧
 True ∧
 True ∧
 True ∧
 True ∧
 True ∧
 True ∧
 True ∧
 True ∧
 True ∧
 True ∧
 True ∧
 True ∧
 True ∧
 True ∧
 True ∧
 True ∧
 True ∧
 True ∧
 True ∧
 True ∧
 True ∧
 True ∧
 True ∧
 True ∧
 (↑g.fst.snd.fst.length :
 Int) =
 (↑g.fst.snd.fst.length :
 Int) ∧
 g_1.snd.fst =
 g_1.snd.fst ∧
 false =
 false ∧
 True ∧
 True ∧
 True ∧
 True ∧
 True ∧
 True ∧
 True ∧
 True ∧
 True ∧
 True ∧
 True ∧
 True ∧
 (True ∧
 True) ∧
 True ∧
 True ∧
 True ∧
 True ∧
 True ∧
 True ∧
 True ∧
 (True ∧
 True) ∧
 True ∧
 True ∧
 Value.slice
 none
 (0 :
 Nat)
 (0 :
 Nat) =
 Value.slice
 none
 (0 :
 Nat)
 (0 :
 Nat) ∧
 True ∧
 (True ∧
 True) ∧
 True ∧
 True ∧
 True ∧
 True ∧
 x.fst =
 x.fst ∧
 (↑x.fst.length :
 Int) =
 (↑x.fst.length :
 Int) ∧
 g.snd.snd.snd.fst =
 g.snd.snd.snd.fst ∧
 true =
 true ∧
 True ∧
 ((x.fst.getD
 g.snd.snd.snd.fst.toNat
 ((0 :
 Int),
 (0 :
 Int),
 (0 :
 Int))).fst =
 (x.fst.getD
 g.snd.snd.snd.fst.toNat
 ((0 :
 Int),
 (0 :
 Int),
 (0 :
 Int))).fst ∧
 (x.fst.getD
 g.snd.snd.snd.fst.toNat
 ((0 :
 Int),
 (0 :
 Int),
 (0 :
 Int))).snd.fst =
 (x.fst.getD
 g.snd.snd.snd.fst.toNat
 ((0 :
 Int),
 (0 :
 Int),
 (0 :
 Int))).snd.fst ∧
 (x.fst.getD
 g.snd.snd.snd.fst.toNat
 ((0 :
 Int),
 (0 :
 Int),
 (0 :
 Int))).snd.snd =
 (x.fst.getD
 g.snd.snd.snd.fst.toNat
 ((0 :
 Int),
 (0 :
 Int),
 (0 :
 Int))).snd.snd ∧
 True) ∧
 True ∧
 (True ∧
 True) ∧
 ((x.fst.getD
 g.snd.snd.snd.fst.toNat
 ((0 :
 Int),
 (0 :
 Int),
 (0 :
 Int))).fst =
 (x.fst.getD
 g.snd.snd.snd.fst.toNat
 ((0 :
 Int),
 (0 :
 Int),
 (0 :
 Int))).fst ∧
 (x.fst.getD
 g.snd.snd.snd.fst.toNat
 ((0 :
 Int),
 (0 :
 Int),
 (0 :
 Int))).snd.fst =
 (x.fst.getD
 g.snd.snd.snd.fst.toNat
 ((0 :
 Int),
 (0 :
 Int),
 (0 :
 Int))).snd.fst ∧
 (x.fst.getD
 g.snd.snd.snd.fst.toNat
 ((0 :
 Int),
 (0 :
 Int),
 (0 :
 Int))).snd.snd =
 (x.fst.getD
 g.snd.snd.snd.fst.toNat
 ((0 :
 Int),
 (0 :
 Int),
 (0 :
 Int))).snd.snd ∧
 True) ∧
 True ∧
 True ∧
 True ∧
 True ∧
 True ∧
 True ∧
 True ∧
 True ∧
 True ∧
 True ∧
 True ∧
 True ∧
 True ∧
 True ∧
 True ∧
 True ∧
 True ∧
 True ∧
 True ∧
 True ∧
 True ∧
 True ∧
 True ∧
 True ∧
 True ∧
 True ∧
 True ∧
 True ∧
 True ∧
 True ∧
 True ∧
 True ∧
 True ∧
 True ∧
 True) ∧
 ∀ (g_2 : (List Bool × Unit × List Int) × List (Int × List Bool) × Int × Unit),
 (0 : Int) ≤ g_2.snd.snd.fst ∧
 g_2.snd.snd.fst ≤ (↑g_1.fst.snd.1.length : Int) ∧
 g_2.fst.fst = g_1.fst.1 ∧
 g_2.fst.snd.snd =
 g.fst.snd.2 ++ ff (List.take g_2.snd.snd.fst.toNat g_1.fst.snd.1) ∧
 g_2.snd.fst = lf (List.take g_2.snd.snd.fst.toNat g_1.fst.snd.1) →
 ((g_2.fst.fst.length = (8 : Nat) ∧ ∀ (x : Bool), x ∈ g_2.fst.fst → True) ∧
 True ∧
 g_2.fst.snd.snd.length ≤ (9223372036854775807 : Nat) ∧
 ∀ (x : Int),
 x ∈ g_2.fst.snd.snd →
 (-9223372036854775808 : Int) ≤ x ∧
 x ≤ (9223372036854775807 : Int)) ∧
 (g_2.snd.fst.length ≤ (9223372036854775807 : Nat) ∧
 ∀ (x : Int × List Bool),
 x ∈ g_2.snd.fst →
 ((-9223372036854775808 : Int) ≤ x.fst ∧
 x.fst ≤ (9223372036854775807 : Int)) ∧
 x.snd.length = (8 : Nat) ∧ ∀ (x_1 : Bool), x_1 ∈ x.snd → True) ∧
 ((-9223372036854775808 : Int) ≤ g_2.snd.snd.fst ∧
 g_2.snd.snd.fst ≤ (9223372036854775807 : Int)) ∧
 True →
 (decide (g_2.snd.snd.fst < (↑g_1.fst.snd.fst.length : Int)) = true →
 ((0 : Int) ≤ g_2.snd.snd.fst ∧
 g_2.snd.snd.fst < (↑g_1.fst.snd.fst.length : Int)) ∧
 (deq (Ty.arr (8 : Nat) Ty.bool)
 (g_1.fst.snd.fst.getD g_2.snd.snd.fst.toNat
 ((0 : Int),
 false ::
 false ::
 false ::
 false ::
 false ::
 false ::
 false :: false :: ([] : List Bool))).snd
 (false ::
 false ::
 false ::
 false ::
 false :: false :: false :: false :: ([] : List Bool)) =
 true →
 (g_2.fst.snd.snd.length +
 (((0 : Int) :: ([] : List Int)).set (0 : Nat)
 (g_1.fst.snd.fst.getD g_2.snd.snd.fst.toNat
 ((0 : Int),
 false ::
 false ::
 false ::
 false ::
 false ::
 false ::
 false ::
 false ::
 ([] : List Bool))).fst).length ≤
 (9223372036854775807 : Nat) ∧
 (g_2.fst.snd.snd.length +
 (((0 : Int) :: ([] : List Int)).set (0 : Nat)
 (g_1.fst.snd.fst.getD g_2.snd.snd.fst.toNat
 ((0 : Int),
 false ::
 false ::
 false ::
 false ::
 false ::
 false ::
 false ::
 false ::
 ([] :
 List Bool))).fst).length +
 (g_2.fst.snd.snd.length +
 (((0 : Int) :: ([] : List Int)).set (0 : Nat)
 (g_1.fst.snd.fst.getD g_2.snd.snd.fst.toNat
 ((0 : Int),
 false ::
 false ::
 false ::
 false ::
 false ::
 false ::
 false ::
 false ::
 ([] :
 List
 Bool))).fst).length) /
 (4 : Nat) +
 (192 : Nat)) *
 (8 : Nat) ≤
 (281474976710656 : Nat)) ∧
 ((-9223372036854775808 : Int) ≤ g_2.snd.snd.fst + (1 : Int) ∧
 g_2.snd.snd.fst + (1 : Int) ≤ (9223372036854775807 : Int)) ∧
 (((0 : Int) ≤ g_2.snd.snd.fst + (1 : Int) ∧
 g_2.snd.snd.fst + (1 : Int) ≤
 (↑g_1.fst.snd.1.length : Int) ∧
 g_2.fst.fst = g_1.fst.1 ∧
 g_2.fst.snd.snd ++
 ((0 : Int) :: ([] : List Int)).set (0 : Nat)
 (g_1.fst.snd.fst.getD g_2.snd.snd.fst.toNat
 ((0 : Int),
 false ::
 false ::
 false ::
 false ::
 false ::
 false ::
 false ::
 false ::
 ([] : List Bool))).fst =
 g.fst.snd.2 ++
 ff
 (List.take (g_2.snd.snd.fst + (1 : Int)).toNat
 g_1.fst.snd.1) ∧
 g_2.snd.fst =
 lf
 (List.take (g_2.snd.snd.fst + (1 : Int)).toNat
 g_1.fst.snd.1)) ∧
 ((↑g_1.fst.snd.1.length : Int) -
 (g_2.snd.snd.fst + (1 : Int))).toNat <
 ((↑g_1.fst.snd.1.length : Int) - g_2.snd.snd.fst).toNat) ∧
 ((True ∧ True) ∧
 True ∧
 True ∧
 (↑g_1.fst.snd.fst.length : Int) =
 (↑g_1.fst.snd.fst.length : Int) ∧
 g_2.snd.snd.fst + (1 : Int) =
 g_2.snd.snd.fst + (1 : Int) ∧
 True) ∧
 ((g_2.fst.fst = g_2.fst.fst ∧ True ∧ True ∧ True) ∧
 g_2.fst.snd.snd ++
 ((0 : Int) :: ([] : List Int)).set (0 : Nat)
 (g_1.fst.snd.fst.getD g_2.snd.snd.fst.toNat
 ((0 : Int),
 false ::
 false ::
 false ::
 false ::
 false ::
 false ::
 false ::
 false ::
 ([] : List Bool))).fst =
 g_2.fst.snd.snd ++
 ((0 : Int) :: ([] : List Int)).set (0 : Nat)
 (g_1.fst.snd.fst.getD g_2.snd.snd.fst.toNat
 ((0 : Int),
 false ::
 false ::
 false ::
 false ::
 false ::
 false ::
 false ::
 false ::
 ([] : List Bool))).fst ∧
 g_2.snd.fst = g_2.snd.fst ∧
 ((x.fst.getD g.snd.snd.snd.fst.toNat
 ((0 : Int), (0 : Int), (0 : Int))).fst =
 (x.fst.getD g.snd.snd.snd.fst.toNat
 ((0 : Int), (0 : Int), (0 : Int))).fst ∧
 (x.fst.getD g.snd.snd.snd.fst.toNat
 ((0 : Int), (0 : Int),
 (0 : Int))).snd.fst =
 (x.fst.getD g.snd.snd.snd.fst.toNat
 ((0 : Int), (0 : Int),
 (0 : Int))).snd.fst ∧
 (x.fst.getD g.snd.snd.snd.fst.toNat
 ((0 : Int), (0 : Int),
 (0 : Int))).snd.snd =
 (x.fst.getD g.snd.snd.snd.fst.toNat
 ((0 : Int), (0 : Int),
 (0 : Int))).snd.snd ∧
 True) ∧
 g.snd.fst = g.snd.fst ∧
 g.snd.snd.fst = g.snd.snd.fst ∧
 ((x.fst.getD g.snd.snd.snd.fst.toNat
 ((0 : Int), (0 : Int),
 (0 : Int))).fst =
 (x.fst.getD g.snd.snd.snd.fst.toNat
 ((0 : Int), (0 : Int),
 (0 : Int))).fst ∧
 (x.fst.getD g.snd.snd.snd.fst.toNat
 ((0 : Int), (0 : Int),
 (0 : Int))).snd.fst =
 (x.fst.getD g.snd.snd.snd.fst.toNat
 ((0 : Int), (0 : Int),
 (0 : Int))).snd.fst ∧
 (x.fst.getD g.snd.snd.snd.fst.toNat
 ((0 : Int), (0 : Int),
 (0 : Int))).snd.snd =
 (x.fst.getD g.snd.snd.snd.fst.toNat
 ((0 : Int), (0 : Int),
 (0 : Int))).snd.snd ∧
 True) ∧
 g_1.fst.snd.fst = g_1.fst.snd.fst ∧ True) ∧
 (True ∧ True) ∧
 True ∧
 True ∧
 (True ∧ True) ∧
 True ∧
 True ∧
 True ∧
 True ∧
 True ∧
 True ∧
 True ∧
 True ∧
 True ∧
 True ∧
 True ∧
 True ∧
 True ∧
 True ∧
 True ∧
 True ∧
 True ∧
 True ∧
 True ∧
 True ∧
 True ∧
 True ∧
 True ∧
 True ∧
 True ∧
 True ∧
 True ∧
 True ∧
 True ∧
 True ∧
 True ∧
 True ∧
 True ∧
 True ∧
 True ∧
 True ∧
 True ∧
 True ∧
 True ∧
 True ∧
 True ∧
 True ∧
 True ∧
 True ∧
 True ∧
 True ∧
 True ∧
 True ∧
 True ∧
 True ∧
 True ∧
 True ∧
 True ∧
 True ∧
 True ∧
 True ∧
 True ∧
 True ∧
 True ∧
 True ∧
 True ∧
 True ∧
 True ∧
 True ∧
 True ∧
 True ∧
 True ∧
 True ∧
 True ∧
 True ∧
 True ∧
 True ∧
 True ∧
 True ∧
 True ∧
 True ∧
 True ∧
 True ∧
 True ∧
 True ∧
 True ∧
 True ∧
 True ∧
 True ∧
 True ∧
 True ∧
 True ∧
 (↑g.fst.snd.fst.length :
 Int) =
 (↑g.fst.snd.fst.length :
 Int) ∧
 g_1.snd.fst =
 g_1.snd.fst ∧
 false =
 false ∧
 True ∧
 True ∧
 True ∧
 True ∧
 True ∧
 True ∧
 True ∧
 True ∧
 True ∧
 True ∧
 True ∧
 True ∧
 (True ∧
 True) ∧
 True ∧
 True ∧
 True ∧
 True ∧
 True ∧
 True ∧
 True ∧
 (True ∧
 True) ∧
 True ∧
 True ∧
 Value.slice
 none
 (0 :
 Nat)
 (0 :
 Nat) =
 Value.slice
 none
 (0 :
 Nat)
 (0 :
 Nat) ∧
 True ∧
 (True ∧
 True) ∧
 True ∧
 True ∧
 True ∧
 True ∧
 x.fst =
 x.fst ∧
 (↑x.fst.length :
 Int) =
 (↑x.fst.length :
 Int) ∧
 g.snd.snd.snd.fst =
 g.snd.snd.snd.fst ∧
 true =
 true ∧
 True ∧
 ((x.fst.getD
 g.snd.snd.snd.fst.toNat
 ((0 :
 Int),
 (0 :
 Int),
 (0 :
 Int))).fst =
 (x.fst.getD
 g.snd.snd.snd.fst.toNat
 ((0 :
 Int),
 (0 :
 Int),
 (0 :
 Int))).fst ∧
 (x.fst.getD
 g.snd.snd.snd.fst.toNat
 ((0 :
 Int),
 (0 :
 Int),
 (0 :
 Int))).snd.fst =
 (x.fst.getD
 g.snd.snd.snd.fst.toNat
 ((0 :
 Int),
 (0 :
 Int),
 (0 :
 Int))).snd.fst ∧
 (x.fst.getD
 g.snd.snd.snd.fst.toNat
 ((0 :
 Int),
 (0 :
 Int),
 (0 :
 Int))).snd.snd =
 (x.fst.getD
 g.snd.snd.snd.fst.toNat
 ((0 :
 Int),
 (0 :
 Int),
 (0 :
 Int))).snd.snd ∧
 True) ∧
 True ∧
 (True ∧
 True) ∧
 ((x.fst.getD
 g.snd.snd.snd.fst.toNat
 ((0 :
 Int),
 (0 :
 Int),
 (0 :
 Int))).fst =
 (x.fst.getD
 g.snd.snd.snd.fst.toNat
 ((0 :
 Int),
 (0 :
 Int),
 (0 :
 Int))).fst ∧
 (x.fst.getD
 g.snd.snd.snd.fst.toNat
 ((0 :
 Int),
 (0 :
 Int),
 (0 :
 Int))).snd.fst =
 (x.fst.getD
 g.snd.snd.snd.fst.toNat
 ((0 :
 Int),
 (0 :
 Int),
 (0 :
 Int))).snd.fst ∧
 (x.fst.getD
 g.snd.snd.snd.fst.toNat
 ((0 :
 Int),
 (0 :
 Int),
 (0 :
 Int))).snd.snd =
 (x.fst.getD
 g.snd.snd.snd.fst.toNat
 ((0 :
 Int),
 (0 :
 Int),
 (0 :
 Int))).snd.snd ∧
 True) ∧
 True ∧
 True ∧
 True ∧
 True ∧
 True ∧
 True ∧
 True ∧
 True ∧
 True ∧
 True ∧
 True ∧
 True ∧
 True ∧
 True ∧
 True ∧
 True ∧
 True ∧
 True ∧
 True ∧
 True ∧
 True ∧
 True ∧
 True ∧
 True ∧
 True ∧
 True ∧
 True ∧
 True ∧
 True ∧
 True ∧
 True ∧
 True ∧
 True ∧
 True ∧
 True) ∧
 (deq (Ty.arr (8 : Nat) Ty.bool)
 (g_1.fst.snd.fst.getD g_2.snd.snd.fst.toNat
 ((0 : Int),
 false ::
 false ::
 false ::
 false ::
 false ::
 false ::
 false :: false :: ([] : List Bool))).snd
 (false ::
 false ::
 false ::
 false ::
 false :: false :: false :: false :: ([] : List Bool)) =
 false →
 (g_2.snd.fst.length +
 ((((0 : Int),
 false ::
 false ::
 false ::
 false ::
 false ::
 false ::
 false :: false :: ([] : List Bool)) ::
 ([] : List (Int × List Bool))).set
 (0 : Nat)
 ((g_1.fst.snd.fst.getD g_2.snd.snd.fst.toNat
 ((0 : Int),
 false ::
 false ::
 false ::
 false ::
 false ::
 false ::
 false ::
 false :: ([] : List Bool))).fst,
 (g_1.fst.snd.fst.getD g_2.snd.snd.fst.toNat
 ((0 : Int),
 false ::
 false ::
 false ::
 false ::
 false ::
 false ::
 false ::
 false ::
 ([] :
 List Bool))).snd)).length ≤
 (9223372036854775807 : Nat) ∧
 (g_2.snd.fst.length +
 ((((0 : Int),
 false ::
 false ::
 false ::
 false ::
 false ::
 false ::
 false ::
 false :: ([] : List Bool)) ::
 ([] : List (Int × List Bool))).set
 (0 : Nat)
 ((g_1.fst.snd.fst.getD g_2.snd.snd.fst.toNat
 ((0 : Int),
 false ::
 false ::
 false ::
 false ::
 false ::
 false ::
 false ::
 false ::
 ([] : List Bool))).fst,
 (g_1.fst.snd.fst.getD g_2.snd.snd.fst.toNat
 ((0 : Int),
 false ::
 false ::
 false ::
 false ::
 false ::
 false ::
 false ::
 false ::
 ([] :
 List
 Bool))).snd)).length +
 (g_2.snd.fst.length +
 ((((0 : Int),
 false ::
 false ::
 false ::
 false ::
 false ::
 false ::
 false ::
 false ::
 ([] : List Bool)) ::
 ([] : List (Int × List Bool))).set
 (0 : Nat)
 ((g_1.fst.snd.fst.getD g_2.snd.snd.fst.toNat
 ((0 : Int),
 false ::
 false ::
 false ::
 false ::
 false ::
 false ::
 false ::
 false ::
 ([] : List Bool))).fst,
 (g_1.fst.snd.fst.getD g_2.snd.snd.fst.toNat
 ((0 : Int),
 false ::
 false ::
 false ::
 false ::
 false ::
 false ::
 false ::
 false ::
 ([] :
 List
 Bool))).snd)).length) /
 (4 : Nat) +
 (192 : Nat)) *
 (16 : Nat) ≤
 (281474976710656 : Nat)) ∧
 ((-9223372036854775808 : Int) ≤ g_2.snd.snd.fst + (1 : Int) ∧
 g_2.snd.snd.fst + (1 : Int) ≤ (9223372036854775807 : Int)) ∧
 (((0 : Int) ≤ g_2.snd.snd.fst + (1 : Int) ∧
 g_2.snd.snd.fst + (1 : Int) ≤
 (↑g_1.fst.snd.1.length : Int) ∧
 g_2.fst.fst = g_1.fst.1 ∧
 g_2.fst.snd.snd =
 g.fst.snd.2 ++
 ff
 (List.take (g_2.snd.snd.fst + (1 : Int)).toNat
 g_1.fst.snd.1) ∧
 g_2.snd.fst ++
 (((0 : Int),
 false ::
 false ::
 false ::
 false ::
 false ::
 false ::
 false ::
 false ::
 ([] : List Bool)) ::
 ([] : List (Int × List Bool))).set
 (0 : Nat)
 ((g_1.fst.snd.fst.getD g_2.snd.snd.fst.toNat
 ((0 : Int),
 false ::
 false ::
 false ::
 false ::
 false ::
 false ::
 false ::
 false ::
 ([] :
 List Bool))).fst,
 (g_1.fst.snd.fst.getD g_2.snd.snd.fst.toNat
 ((0 : Int),
 false ::
 false ::
 false ::
 false ::
 false ::
 false ::
 false ::
 false ::
 ([] :
 List Bool))).snd) =
 lf
 (List.take (g_2.snd.snd.fst + (1 : Int)).toNat
 g_1.fst.snd.1)) ∧
 ((↑g_1.fst.snd.1.length : Int) -
 (g_2.snd.snd.fst + (1 : Int))).toNat <
 ((↑g_1.fst.snd.1.length : Int) - g_2.snd.snd.fst).toNat) ∧
 ((True ∧ True) ∧
 True ∧
 True ∧
 (↑g_1.fst.snd.fst.length : Int) =
 (↑g_1.fst.snd.fst.length : Int) ∧
 g_2.snd.snd.fst + (1 : Int) =
 g_2.snd.snd.fst + (1 : Int) ∧
 True) ∧
 ((g_2.fst.fst = g_2.fst.fst ∧ True ∧ True ∧ True) ∧
 g_2.fst.snd.snd = g_2.fst.snd.snd ∧
 g_2.snd.fst ++
 (((0 : Int),
 false ::
 false ::
 false ::
 false ::
 false ::
 false ::
 false ::
 false ::
 ([] : List Bool)) ::
 ([] : List (Int × List Bool))).set
 (0 : Nat)
 ((g_1.fst.snd.fst.getD g_2.snd.snd.fst.toNat
 ((0 : Int),
 false ::
 false ::
 false ::
 false ::
 false ::
 false ::
 false ::
 false ::
 ([] :
 List Bool))).fst,
 (g_1.fst.snd.fst.getD g_2.snd.snd.fst.toNat
 ((0 : Int),
 false ::
 false ::
 false ::
 false ::
 false ::
 false ::
 false ::
 false ::
 ([] :
 List Bool))).snd) =
 g_2.snd.fst ++
 (((0 : Int),
 false ::
 false ::
 false ::
 false ::
 false ::
 false ::
 false ::
 false ::
 ([] : List Bool)) ::
 ([] : List (Int × List Bool))).set
 (0 : Nat)
 ((g_1.fst.snd.fst.getD g_2.snd.snd.fst.toNat
 ((0 : Int),
 false ::
 false ::
 false ::
 false ::
 false ::
 false ::
 false ::
 false ::
 ([] :
 List Bool))).fst,
 (g_1.fst.snd.fst.getD g_2.snd.snd.fst.toNat
 ((0 : Int),
 false ::
 false ::
 false ::
 false ::
 false ::
 false ::
 false ::
 false ::
 ([] :
 List Bool))).snd) ∧
 ((x.fst.getD g.snd.snd.snd.fst.toNat
 ((0 : Int), (0 : Int), (0 : Int))).fst =
 (x.fst.getD g.snd.snd.snd.fst.toNat
 ((0 : Int), (0 : Int), (0 : Int))).fst ∧
 (x.fst.getD g.snd.snd.snd.fst.toNat
 ((0 : Int), (0 : Int),
 (0 : Int))).snd.fst =
 (x.fst.getD g.snd.snd.snd.fst.toNat
 ((0 : Int), (0 : Int),
 (0 : Int))).snd.fst ∧
 (x.fst.getD g.snd.snd.snd.fst.toNat
 ((0 : Int), (0 : Int),
 (0 : Int))).snd.snd =
 (x.fst.getD g.snd.snd.snd.fst.toNat
 ((0 : Int), (0 : Int),
 (0 : Int))).snd.snd ∧
 True) ∧
 g.snd.fst = g.snd.fst ∧
 g.snd.snd.fst = g.snd.snd.fst ∧
 ((x.fst.getD g.snd.snd.snd.fst.toNat
 ((0 : Int), (0 : Int),
 (0 : Int))).fst =
 (x.fst.getD g.snd.snd.snd.fst.toNat
 ((0 : Int), (0 : Int),
 (0 : Int))).fst ∧
 (x.fst.getD g.snd.snd.snd.fst.toNat
 ((0 : Int), (0 : Int),
 (0 : Int))).snd.fst =
 (x.fst.getD g.snd.snd.snd.fst.toNat
 ((0 : Int), (0 : Int),
 (0 : Int))).snd.fst ∧
 (x.fst.getD g.snd.snd.snd.fst.toNat
 ((0 : Int), (0 : Int),
 (0 : Int))).snd.snd =
 (x.fst.getD g.snd.snd.snd.fst.toNat
 ((0 : Int), (0 : Int),
 (0 : Int))).snd.snd ∧
 True) ∧
 g_1.fst.snd.fst = g_1.fst.snd.fst ∧ True) ∧
 (True ∧ True) ∧
 True ∧
 True ∧
 (True ∧ True) ∧
 True ∧
 True ∧
 True ∧
 True ∧
 True ∧
 True ∧
 True ∧
 True ∧
 True ∧
 True ∧
 True ∧
 True ∧
 True ∧
 True ∧
 True ∧
 True ∧
 True ∧
 True ∧
 True ∧
 True ∧
 True ∧
 True ∧
 True ∧
 True ∧
 True ∧
 True ∧
 True ∧
 True ∧
 True ∧
 True ∧
 True ∧
 True ∧
 True ∧
 True ∧
 True ∧
 True ∧
 True ∧
 True ∧
 True ∧
 True ∧
 True ∧
 True ∧
 True ∧
 True ∧
 True ∧
 True ∧
 True ∧
 True ∧
 True ∧
 True ∧
 True ∧
 True ∧
 True ∧
 True ∧
 True ∧
 True ∧
 True ∧
 True ∧
 True ∧
 True ∧
 True ∧
 True ∧
 True ∧
 True ∧
 True ∧
 True ∧
 True ∧
 True ∧
 True ∧
 True ∧
 True ∧
 True ∧
 True ∧
 True ∧
 True ∧
 True ∧
 True ∧
 True ∧
 True ∧
 True ∧
 True ∧
 True ∧
 True ∧
 True ∧
 True ∧
 True ∧
 True ∧
 (↑g.fst.snd.fst.length :
 Int) =
 (↑g.fst.snd.fst.length :
 Int) ∧
 g_1.snd.fst =
 g_1.snd.fst ∧
 false =
 false ∧
 True ∧
 True ∧
 True ∧
 True ∧
 True ∧
 True ∧
 True ∧
 True ∧
 True ∧
 True ∧
 True ∧
 True ∧
 (True ∧
 True) ∧
 True ∧
 True ∧
 True ∧
 True ∧
 True ∧
 True ∧
 True ∧
 (True ∧
 True) ∧
 True ∧
 True ∧
 Value.slice
 none
 (0 :
 Nat)
 (0 :
 Nat) =
 Value.slice
 none
 (0 :
 Nat)
 (0 :
 Nat) ∧
 True ∧
 (True ∧
 True) ∧
 True ∧
 True ∧
 True ∧
 True ∧
 x.fst =
 x.fst ∧
 (↑x.fst.length :
 Int) =
 (↑x.fst.length :
 Int) ∧
 g.snd.snd.snd.fst =
 g.snd.snd.snd.fst ∧
 true =
 true ∧
 True ∧
 ((x.fst.getD
 g.snd.snd.snd.fst.toNat
 ((0 :
 Int),
 (0 :
 Int),
 (0 :
 Int))).fst =
 (x.fst.getD
 g.snd.snd.snd.fst.toNat
 ((0 :
 Int),
 (0 :
 Int),
 (0 :
 Int))).fst ∧
 (x.fst.getD
 g.snd.snd.snd.fst.toNat
 ((0 :
 Int),
 (0 :
 Int),
 (0 :
 Int))).snd.fst =
 (x.fst.getD
 g.snd.snd.snd.fst.toNat
 ((0 :
 Int),
 (0 :
 Int),
 (0 :
 Int))).snd.fst ∧
 (x.fst.getD
 g.snd.snd.snd.fst.toNat
 ((0 :
 Int),
 (0 :
 Int),
 (0 :
 Int))).snd.snd =
 (x.fst.getD
 g.snd.snd.snd.fst.toNat
 ((0 :
 Int),
 (0 :
 Int),
 (0 :
 Int))).snd.snd ∧
 True) ∧
 True ∧
 (True ∧
 True) ∧
 ((x.fst.getD
 g.snd.snd.snd.fst.toNat
 ((0 :
 Int),
 (0 :
 Int),
 (0 :
 Int))).fst =
 (x.fst.getD
 g.snd.snd.snd.fst.toNat
 ((0 :
 Int),
 (0 :
 Int),
 (0 :
 Int))).fst ∧
 (x.fst.getD
 g.snd.snd.snd.fst.toNat
 ((0 :
 Int),
 (0 :
 Int),
 (0 :
 Int))).snd.fst =
 (x.fst.getD
 g.snd.snd.snd.fst.toNat
 ((0 :
 Int),
 (0 :
 Int),
 (0 :
 Int))).snd.fst ∧
 (x.fst.getD
 g.snd.snd.snd.fst.toNat
 ((0 :
 Int),
 (0 :
 Int),
 (0 :
 Int))).snd.snd =
 (x.fst.getD
 g.snd.snd.snd.fst.toNat
 ((0 :
 Int),
 (0 :
 Int),
 (0 :
 Int))).snd.snd ∧
 True) ∧
 True ∧
 True ∧
 True ∧
 True ∧
 True ∧
 True ∧
 True ∧
 True ∧
 True ∧
 True ∧
 True ∧
 True ∧
 True ∧
 True ∧
 True ∧
 True ∧
 True ∧
 True ∧
 True ∧
 True ∧
 True ∧
 True ∧
 True ∧
 True ∧
 True ∧
 True ∧
 True ∧
 True ∧
 True ∧
 True ∧
 True ∧
 True ∧
 True ∧
 True ∧
 True)) ∧
 (decide (g_2.snd.snd.fst < (↑g_1.fst.snd.fst.length : Int)) = false →
 (g.snd.fst.length +
 (((0 : Int) :: ([] : List Int)).set (0 : Nat) (0 : Int)).length ≤
 (9223372036854775807 : Nat) ∧
 (g.snd.fst.length +
 (((0 : Int) :: ([] : List Int)).set (0 : Nat)
 (0 : Int)).length +
 (g.snd.fst.length +
 (((0 : Int) :: ([] : List Int)).set (0 : Nat)
 (0 : Int)).length) /
 (4 : Nat) +
 (192 : Nat)) *
 (8 : Nat) ≤
 (281474976710656 : Nat)) ∧
 (g.snd.snd.fst.length +
 (((0 : Int) :: ([] : List Int)).set (0 : Nat)
 (↑g_2.fst.snd.snd.length : Int)).length ≤
 (9223372036854775807 : Nat) ∧
 (g.snd.snd.fst.length +
 (((0 : Int) :: ([] : List Int)).set (0 : Nat)
 (↑g_2.fst.snd.snd.length : Int)).length +
 (g.snd.snd.fst.length +
 (((0 : Int) :: ([] : List Int)).set (0 : Nat)
 (↑g_2.fst.snd.snd.length : Int)).length) /
 (4 : Nat) +
 (192 : Nat)) *
 (8 : Nat) ≤
 (281474976710656 : Nat)) ∧
 ((-9223372036854775808 : Int) ≤ g.snd.snd.snd.fst + (1 : Int) ∧
 g.snd.snd.snd.fst + (1 : Int) ≤ (9223372036854775807 : Int)) ∧
 (((0 : Int) ≤ g.snd.snd.snd.fst + (1 : Int) ∧
 g.snd.snd.snd.fst + (1 : Int) ≤ (↑x.fst.length : Int) ∧
 pl (List.take (g.snd.snd.snd.fst + (1 : Int)).toNat x.fst) =
 ((g_2.fst.fst, g_2.snd.fst, g_2.fst.snd.snd),
 g.snd.fst ++
 ((0 : Int) :: ([] : List Int)).set (0 : Nat)
 (0 : Int),
 g.snd.snd.fst ++
 ((0 : Int) :: ([] : List Int)).set (0 : Nat)
 (↑g_2.fst.snd.snd.length : Int)) ∧
 (↑g_2.snd.fst.length : Int) +
 (↑g_2.fst.snd.snd.length : Int) ≤
 g.snd.snd.snd.fst + (1 : Int) ∧
 (↑(g.snd.fst ++
 ((0 : Int) :: ([] : List Int)).set (0 : Nat)
 (0 : Int)).length :
 Int) =
 g.snd.snd.snd.fst + (1 : Int) ∧
 (↑(g.snd.snd.fst ++
 ((0 : Int) :: ([] : List Int)).set (0 : Nat)
 (↑g_2.fst.snd.snd.length : Int)).length :
 Int) =
 g.snd.snd.snd.fst + (1 : Int)) ∧
 ((↑x.fst.length : Int) -
 (g.snd.snd.snd.fst + (1 : Int))).toNat <
 ((↑x.fst.length : Int) - g.snd.snd.snd.fst).toNat) ∧
 ((True ∧ True) ∧
 True ∧
 True ∧
 Value.slice none (0 : Nat) (0 : Nat) =
 Value.slice none (0 : Nat) (0 : Nat) ∧
 x.fst = x.fst ∧
 (↑x.fst.length : Int) = (↑x.fst.length : Int) ∧
 g.snd.snd.snd.fst + (1 : Int) =
 g.snd.snd.snd.fst + (1 : Int) ∧
 True) ∧
 ((g_2.fst.fst = g_2.fst.fst ∧ True ∧ True ∧ True) ∧
 g_2.snd.fst = g_2.snd.fst ∧
 g_2.fst.snd.snd = g_2.fst.snd.snd ∧
 g.snd.fst ++
 ((0 : Int) :: ([] : List Int)).set (0 : Nat)
 (0 : Int) =
 g.snd.fst ++
 ((0 : Int) :: ([] : List Int)).set (0 : Nat)
 (0 : Int) ∧
 g.snd.snd.fst ++
 ((0 : Int) :: ([] : List Int)).set (0 : Nat)
 (↑g_2.fst.snd.snd.length : Int) =
 g.snd.snd.fst ++
 ((0 : Int) :: ([] : List Int)).set (0 : Nat)
 (↑g_2.fst.snd.snd.length : Int) ∧
 True) ∧
 True))) ∧
 (((x.fst.getD g.snd.snd.snd.fst.toNat ((0 : Int), (0 : Int), (0 : Int))).fst == (2 : Int)) = false →
 (g.snd.fst.length + (((0 : Int) :: ([] : List Int)).set (0 : Nat) (0 : Int)).length ≤
 (9223372036854775807 : Nat) ∧
 (g.snd.fst.length + (((0 : Int) :: ([] : List Int)).set (0 : Nat) (0 : Int)).length +
 (g.snd.fst.length + (((0 : Int) :: ([] : List Int)).set (0 : Nat) (0 : Int)).length) /
 (4 : Nat) +
 (192 : Nat)) *
 (8 : Nat) ≤
 (281474976710656 : Nat)) ∧
 (g.snd.snd.fst.length +
 (((0 : Int) :: ([] : List Int)).set (0 : Nat) (↑g.fst.snd.snd.length : Int)).length ≤
 (9223372036854775807 : Nat) ∧
 (g.snd.snd.fst.length +
 (((0 : Int) :: ([] : List Int)).set (0 : Nat)
 (↑g.fst.snd.snd.length : Int)).length +
 (g.snd.snd.fst.length +
 (((0 : Int) :: ([] : List Int)).set (0 : Nat)
 (↑g.fst.snd.snd.length : Int)).length) /
 (4 : Nat) +
 (192 : Nat)) *
 (8 : Nat) ≤
 (281474976710656 : Nat)) ∧
 ((-9223372036854775808 : Int) ≤ g.snd.snd.snd.fst + (1 : Int) ∧
 g.snd.snd.snd.fst + (1 : Int) ≤ (9223372036854775807 : Int)) ∧
 (((0 : Int) ≤ g.snd.snd.snd.fst + (1 : Int) ∧
 g.snd.snd.snd.fst + (1 : Int) ≤ (↑x.fst.length : Int) ∧
 pl (List.take (g.snd.snd.snd.fst + (1 : Int)).toNat x.fst) =
 ((g.fst.fst.set
 (x.fst.getD g.snd.snd.snd.fst.toNat
 ((0 : Int), (0 : Int), (0 : Int))).snd.fst.toNat
 ((x.fst.getD g.snd.snd.snd.fst.toNat
 ((0 : Int), (0 : Int), (0 : Int))).fst ==
 (1 : Int)),
 g.fst.snd.fst, g.fst.snd.snd),
 g.snd.fst ++ ((0 : Int) :: ([] : List Int)).set (0 : Nat) (0 : Int),
 g.snd.snd.fst ++
 ((0 : Int) :: ([] : List Int)).set (0 : Nat)
 (↑g.fst.snd.snd.length : Int)) ∧
 (↑g.fst.snd.fst.length : Int) + (↑g.fst.snd.snd.length : Int) ≤
 g.snd.snd.snd.fst + (1 : Int) ∧
 (↑(g.snd.fst ++ ((0 : Int) :: ([] : List Int)).set (0 : Nat) (0 : Int)).length :
 Int) =
 g.snd.snd.snd.fst + (1 : Int) ∧
 (↑(g.snd.snd.fst ++
 ((0 : Int) :: ([] : List Int)).set (0 : Nat)
 (↑g.fst.snd.snd.length : Int)).length :
 Int) =
 g.snd.snd.snd.fst + (1 : Int)) ∧
 ((↑x.fst.length : Int) - (g.snd.snd.snd.fst + (1 : Int))).toNat <
 ((↑x.fst.length : Int) - g.snd.snd.snd.fst).toNat) ∧
 ((True ∧ True) ∧
 True ∧
 True ∧
 Value.slice none (0 : Nat) (0 : Nat) = Value.slice none (0 : Nat) (0 : Nat) ∧
 x.fst = x.fst ∧
 (↑x.fst.length : Int) = (↑x.fst.length : Int) ∧
 g.snd.snd.snd.fst + (1 : Int) = g.snd.snd.snd.fst + (1 : Int) ∧ True) ∧
 ((g.fst.fst.set
 (x.fst.getD g.snd.snd.snd.fst.toNat
 ((0 : Int), (0 : Int), (0 : Int))).snd.fst.toNat
 ((x.fst.getD g.snd.snd.snd.fst.toNat ((0 : Int), (0 : Int), (0 : Int))).fst ==
 (1 : Int)) =
 g.fst.fst.set
 (x.fst.getD g.snd.snd.snd.fst.toNat
 ((0 : Int), (0 : Int), (0 : Int))).snd.fst.toNat
 ((x.fst.getD g.snd.snd.snd.fst.toNat ((0 : Int), (0 : Int), (0 : Int))).fst ==
 (1 : Int)) ∧
 True ∧ True ∧ True) ∧
 g.fst.snd.fst = g.fst.snd.fst ∧
 g.fst.snd.snd = g.fst.snd.snd ∧
 g.snd.fst ++ ((0 : Int) :: ([] : List Int)).set (0 : Nat) (0 : Int) =
 g.snd.fst ++ ((0 : Int) :: ([] : List Int)).set (0 : Nat) (0 : Int) ∧
 g.snd.snd.fst ++
 ((0 : Int) :: ([] : List Int)).set (0 : Nat)
 (↑g.fst.snd.snd.length : Int) =
 g.snd.snd.fst ++
 ((0 : Int) :: ([] : List Int)).set (0 : Nat)
 (↑g.fst.snd.snd.length : Int) ∧
 True) ∧
 True))))))) ∧
 (decide (g.snd.snd.snd.fst < (↑x.fst.length : Int)) = false →
 ((((0 : Int) ≤ (0 : Int) ∧
 (0 : Int) ≤ (↑g.fst.snd.1.length : Int) ∧
 ([] : List Int) = List.map (fun r ↦ r.fst) (List.take (Int.toNat (0 : Int)) g.fst.snd.1)) ∧
 True) ∧
 ((True ∧ True) ∧
 True ∧ True ∧ True ∧ True ∧ (↑g.fst.snd.fst.length : Int) = (↑g.fst.snd.fst.length : Int) ∧ (0 : Int) = (0 : Int) ∧ True) ∧
 (([] : List Int) = ([] : List Int) ∧
 (g.fst.fst = g.fst.fst ∧ True ∧ True ∧ True) ∧
 g.fst.snd.fst = g.fst.snd.fst ∧
 g.fst.snd.snd = g.fst.snd.snd ∧ g.snd.fst = g.snd.fst ∧ g.snd.snd.fst = g.snd.snd.fst ∧ True) ∧
 True) ∧
 ∀ (g_1 : List Int × Int × Unit),
 (0 : Int) ≤ g_1.snd.fst ∧
 g_1.snd.fst ≤ (↑g.fst.snd.1.length : Int) ∧ g_1.fst = List.map (fun r ↦ r.fst) (List.take g_1.snd.fst.toNat g.fst.snd.1) →
 (g_1.fst.length ≤ (9223372036854775807 : Nat) ∧
 ∀ (x : Int), x ∈ g_1.fst → (-9223372036854775808 : Int) ≤ x ∧ x ≤ (9223372036854775807 : Int)) ∧
 ((-9223372036854775808 : Int) ≤ g_1.snd.fst ∧ g_1.snd.fst ≤ (9223372036854775807 : Int)) ∧ True →
 (decide (g_1.snd.fst < (↑g.fst.snd.fst.length : Int)) = true →
 ((0 : Int) ≤ g_1.snd.fst ∧ g_1.snd.fst < (↑g.fst.snd.fst.length : Int)) ∧
 (g_1.fst.length +
 (((0 : Int) :: ([] : List Int)).set (0 : Nat)
 (g.fst.snd.fst.getD g_1.snd.fst.toNat
 ((0 : Int),
 false :: false :: false :: false :: false :: false :: false :: false :: ([] : List Bool))).fst).length ≤
 (9223372036854775807 : Nat) ∧
 (g_1.fst.length +
 (((0 : Int) :: ([] : List Int)).set (0 : Nat)
 (g.fst.snd.fst.getD g_1.snd.fst.toNat
 ((0 : Int),
 false ::
 false :: false :: false :: false :: false :: false :: false :: ([] : List Bool))).fst).length +
 (g_1.fst.length +
 (((0 : Int) :: ([] : List Int)).set (0 : Nat)
 (g.fst.snd.fst.getD g_1.snd.fst.toNat
 ((0 : Int),
 false ::
 false :: false :: false :: false :: false :: false :: false :: ([] : List Bool))).fst).length) /
 (4 : Nat) +
 (192 : Nat)) *
 (8 : Nat) ≤
 (281474976710656 : Nat)) ∧
 ((-9223372036854775808 : Int) ≤ g_1.snd.fst + (1 : Int) ∧ g_1.snd.fst + (1 : Int) ≤ (9223372036854775807 : Int)) ∧
 (((0 : Int) ≤ g_1.snd.fst + (1 : Int) ∧
 g_1.snd.fst + (1 : Int) ≤ (↑g.fst.snd.1.length : Int) ∧
 g_1.fst ++
 ((0 : Int) :: ([] : List Int)).set (0 : Nat)
 (g.fst.snd.fst.getD g_1.snd.fst.toNat
 ((0 : Int),
 false :: false :: false :: false :: false :: false :: false :: false :: ([] : List Bool))).fst =
 List.map (fun r ↦ r.fst) (List.take (g_1.snd.fst + (1 : Int)).toNat g.fst.snd.1)) ∧
 ((↑g.fst.snd.1.length : Int) - (g_1.snd.fst + (1 : Int))).toNat <
 ((↑g.fst.snd.1.length : Int) - g_1.snd.fst).toNat) ∧
 ((True ∧ True) ∧
 True ∧
 True ∧
 True ∧
 True ∧
 (↑g.fst.snd.fst.length : Int) = (↑g.fst.snd.fst.length : Int) ∧
 g_1.snd.fst + (1 : Int) = g_1.snd.fst + (1 : Int) ∧ True) ∧
 (g_1.fst ++
 ((0 : Int) :: ([] : List Int)).set (0 : Nat)
 (g.fst.snd.fst.getD g_1.snd.fst.toNat
 ((0 : Int),
 false :: false :: false :: false :: false :: false :: false :: false :: ([] : List Bool))).fst =
 g_1.fst ++
 ((0 : Int) :: ([] : List Int)).set (0 : Nat)
 (g.fst.snd.fst.getD g_1.snd.fst.toNat
 ((0 : Int),
 false :: false :: false :: false :: false :: false :: false :: false :: ([] : List Bool))).fst ∧
 (g.fst.fst = g.fst.fst ∧ True ∧ True ∧ True) ∧
 g.fst.snd.fst = g.fst.snd.fst ∧
 g.fst.snd.snd = g.fst.snd.snd ∧ g.snd.fst = g.snd.fst ∧ g.snd.snd.fst = g.snd.snd.fst ∧ True) ∧
 True) ∧
 (decide (g_1.snd.fst < (↑g.fst.snd.fst.length : Int)) = false →
 g.snd.fst = (play x.fst).fst ∧
 g.snd.snd.fst = (play x.fst).snd.fst ∧ g.fst.snd.snd = (play x.fst).snd.snd.fst ∧ g_1.fst = (play x.fst).snd.snd.snd.fst))

theorem E_play_eq (x : HL (cPlay : Ctr).as) : vc (fx_play x) 3 19 Try.f19 (cPlay) x = E_play x := by kernel_rfl

end Go.Proofs.Ytmcepjbbbkgfcaa.Grace
