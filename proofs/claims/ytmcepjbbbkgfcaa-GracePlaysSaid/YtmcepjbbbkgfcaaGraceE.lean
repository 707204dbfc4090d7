/-
  The conditions that the executor comes to, written out (by a tool of ours), and that they are the conditions (by the kernel).
-/
import Derived.Test.YtmcepjbbbkgfcaaGraceE0
namespace Go.Proofs.Ytmcepjbbbkgfcaa.Grace
open Go.Sx
set_option maxRecDepth 100000

def E_xplay (x : List (Int × Int × Int) × Unit) : Prop :=
 ((((0 : Int) ≤ (0 : Int) ∧
 (0 : Int) ≤ (↑x.fst.length : Int) ∧
 (pl (List.take (Int.toNat (0 : Int)) x.fst)).snd = (([] : List Int), ([] : List Int)) ∧
 (pl (List.take (Int.toNat (0 : Int)) x.fst)).fst.snd.snd = ([] : List Int) ∧
 Rel (0 : Int) (pl (List.take (Int.toNat (0 : Int)) x.fst)).fst
 ((((((((((0 : Int) ::
 (0 : Int) ::
 (0 : Int) ::
 (0 : Int) :: (0 : Int) :: (0 : Int) :: (0 : Int) :: (0 : Int) :: ([] : List Int)).set
 (0 : Nat) (-1 : Int)).set
 (1 : Nat) (-1 : Int)).set
 (2 : Nat) (-1 : Int)).set
 (3 : Nat) (-1 : Int)).set
 (4 : Nat) (-1 : Int)).set
 (5 : Nat) (-1 : Int)).set
 (6 : Nat) (-1 : Int)).set
 (7 : Nat) (-1 : Int))
 ([] : List (Int × Int)) ∧
 (↑([] : List (Int × Int)).length : Int) + (↑([] : List Int).length : Int) ≤ (0 : Int) ∧
 (↑([] : List Int).length : Int) = (0 : Int) ∧ (↑([] : List Int).length : Int) = (0 : Int)) ∧
 True) ∧
 ((True ∧ True) ∧
 True ∧
 True ∧
 True ∧
 True ∧
 Value.slice none (0 : Nat) (0 : Nat) = Value.slice none (0 : Nat) (0 : Nat) ∧
 x.fst = x.fst ∧ (↑x.fst.length : Int) = (↑x.fst.length : Int) ∧ (0 : Int) = (0 : Int) ∧ True) ∧
 (((((((((((0 : Int) :: (0 : Int) :: (0 : Int) :: (0 : Int) :: (0 : Int) :: (0 : Int) :: (0 : Int) :: (0 : Int) :: ([] : List Int)).set (0 : Nat)
 (-1 : Int)).set
 (1 : Nat) (-1 : Int)).set
 (2 : Nat) (-1 : Int)).set
 (3 : Nat) (-1 : Int)).set
 (4 : Nat) (-1 : Int)).set
 (5 : Nat) (-1 : Int)).set
 (6 : Nat) (-1 : Int)).set
 (7 : Nat) (-1 : Int) =
 (((((((((0 : Int) :: (0 : Int) :: (0 : Int) :: (0 : Int) :: (0 : Int) :: (0 : Int) :: (0 : Int) :: (0 : Int) :: ([] : List Int)).set
 (0 : Nat) (-1 : Int)).set
 (1 : Nat) (-1 : Int)).set
 (2 : Nat) (-1 : Int)).set
 (3 : Nat) (-1 : Int)).set
 (4 : Nat) (-1 : Int)).set
 (5 : Nat) (-1 : Int)).set
 (6 : Nat) (-1 : Int)).set
 (7 : Nat) (-1 : Int) ∧
 True) ∧
 ([] : List (Int × Int)) = ([] : List (Int × Int)) ∧
 ([] : List Int) = ([] : List Int) ∧ ([] : List Int) = ([] : List Int) ∧ ([] : List Int) = ([] : List Int) ∧ True) ∧
 True) ∧
 ∀ (g : List Int × List (Int × Int) × List Int × List Int × List Int × Int × Unit),
 (0 : Int) ≤ g.snd.snd.snd.snd.snd.fst ∧
 g.snd.snd.snd.snd.snd.fst ≤ (↑x.fst.length : Int) ∧
 (pl (List.take g.snd.snd.snd.snd.snd.fst.toNat x.fst)).snd = (g.snd.snd.fst, g.snd.snd.snd.fst) ∧
 (pl (List.take g.snd.snd.snd.snd.snd.fst.toNat x.fst)).fst.snd.snd = g.snd.snd.snd.snd.fst ∧
 Rel g.snd.snd.snd.snd.snd.fst (pl (List.take g.snd.snd.snd.snd.snd.fst.toNat x.fst)).fst g.fst g.snd.fst ∧
 (↑g.snd.fst.length : Int) + (↑g.snd.snd.snd.snd.fst.length : Int) ≤ g.snd.snd.snd.snd.snd.fst ∧
 (↑g.snd.snd.fst.length : Int) = g.snd.snd.snd.snd.snd.fst ∧ (↑g.snd.snd.snd.fst.length : Int) = g.snd.snd.snd.snd.snd.fst →
 (g.fst.length = (8 : Nat) ∧ ∀ (x : Int), x ∈ g.fst → (-9223372036854775808 : Int) ≤ x ∧ x ≤ (9223372036854775807 : Int)) ∧
 (g.snd.fst.length ≤ (9223372036854775807 : Nat) ∧
 ∀ (x : Int × Int),
 x ∈ g.snd.fst →
 ((-9223372036854775808 : Int) ≤ x.fst ∧ x.fst ≤ (9223372036854775807 : Int)) ∧
 (-9223372036854775808 : Int) ≤ x.snd ∧ x.snd ≤ (9223372036854775807 : Int)) ∧
 (g.snd.snd.fst.length ≤ (9223372036854775807 : Nat) ∧
 ∀ (x : Int), x ∈ g.snd.snd.fst → (-9223372036854775808 : Int) ≤ x ∧ x ≤ (9223372036854775807 : Int)) ∧
 (g.snd.snd.snd.fst.length ≤ (9223372036854775807 : Nat) ∧
 ∀ (x : Int), x ∈ g.snd.snd.snd.fst → (-9223372036854775808 : Int) ≤ x ∧ x ≤ (9223372036854775807 : Int)) ∧
 (g.snd.snd.snd.snd.fst.length ≤ (9223372036854775807 : Nat) ∧
 ∀ (x : Int), x ∈ g.snd.snd.snd.snd.fst → (-9223372036854775808 : Int) ≤ x ∧ x ≤ (9223372036854775807 : Int)) ∧
 ((-9223372036854775808 : Int) ≤ g.snd.snd.snd.snd.snd.fst ∧ g.snd.snd.snd.snd.snd.fst ≤ (9223372036854775807 : Int)) ∧ True →
 (decide (g.snd.snd.snd.snd.snd.fst < (↑x.fst.length : Int)) = true →
 ((0 : Int) ≤ g.snd.snd.snd.snd.snd.fst ∧ g.snd.snd.snd.snd.snd.fst < (↑x.fst.length : Int)) ∧
 ((((0 : Int) ≤ (0 : Int) ∧
 (0 : Int) ≤ (↑g.snd.1.length : Int) ∧
 false =
 heldx (List.take (Int.toNat (0 : Int)) g.snd.1)
 (x.fst.getD g.snd.snd.snd.snd.snd.fst.toNat ((0 : Int), (0 : Int), (0 : Int))).snd.snd) ∧
 True) ∧
 ((True ∧ True) ∧
 True ∧
 True ∧
 True ∧
 True ∧
 Value.slice none (0 : Nat) (0 : Nat) = Value.slice none (0 : Nat) (0 : Nat) ∧
 g.snd.snd.snd.snd.snd.fst = g.snd.snd.snd.snd.snd.fst ∧
 (True ∧ True) ∧
 (0 : Int) = (0 : Int) ∧
 false = false ∧
 x.fst = x.fst ∧
 (↑x.fst.length : Int) = (↑x.fst.length : Int) ∧
 g.snd.snd.snd.snd.snd.fst = g.snd.snd.snd.snd.snd.fst ∧
 True ∧ (↑g.snd.fst.length : Int) = (↑g.snd.fst.length : Int) ∧ (0 : Int) = (0 : Int) ∧ True) ∧
 ((g.fst = g.fst ∧ True) ∧
 g.snd.fst = g.snd.fst ∧
 g.snd.snd.fst = g.snd.snd.fst ∧
 g.snd.snd.snd.fst = g.snd.snd.snd.fst ∧
 g.snd.snd.snd.snd.fst = g.snd.snd.snd.snd.fst ∧
 ((x.fst.getD g.snd.snd.snd.snd.snd.fst.toNat ((0 : Int), (0 : Int), (0 : Int))).fst =
 (x.fst.getD g.snd.snd.snd.snd.snd.fst.toNat ((0 : Int), (0 : Int), (0 : Int))).fst ∧
 (x.fst.getD g.snd.snd.snd.snd.snd.fst.toNat ((0 : Int), (0 : Int), (0 : Int))).snd.fst =
 (x.fst.getD g.snd.snd.snd.snd.snd.fst.toNat ((0 : Int), (0 : Int), (0 : Int))).snd.fst ∧
 (x.fst.getD g.snd.snd.snd.snd.snd.fst.toNat ((0 : Int), (0 : Int), (0 : Int))).snd.snd =
 (x.fst.getD g.snd.snd.snd.snd.snd.fst.toNat ((0 : Int), (0 : Int), (0 : Int))).snd.snd ∧
 True) ∧
 True) ∧
 True) ∧
 ∀ (g_1 : Bool × Int × Unit),
 (0 : Int) ≤ g_1.snd.fst ∧
 g_1.snd.fst ≤ (↑g.snd.1.length : Int) ∧
 g_1.fst =
 heldx (List.take g_1.snd.fst.toNat g.snd.1)
 (x.fst.getD g.snd.snd.snd.snd.snd.fst.toNat ((0 : Int), (0 : Int), (0 : Int))).snd.snd →
 True ∧ ((-9223372036854775808 : Int) ≤ g_1.snd.fst ∧ g_1.snd.fst ≤ (9223372036854775807 : Int)) ∧ True →
 (decide (g_1.snd.fst < (↑g.snd.fst.length : Int)) = true →
 ((0 : Int) ≤ g_1.snd.fst ∧ g_1.snd.fst < (↑g.snd.fst.length : Int)) ∧
 ((!g_1.fst) = true → (!g_1.fst) = true) ∧
 ((!g_1.fst) = true → (!g_1.fst) = true) ∧
 ((!g_1.fst) = true → (!g_1.fst) = true ∧ (!g_1.fst) = true) ∧
 (g_1.fst = false → (!g_1.fst) = true) ∧
 ((-9223372036854775808 : Int) ≤ g_1.snd.fst + (1 : Int) ∧ g_1.snd.fst + (1 : Int) ≤ (9223372036854775807 : Int)) ∧
 (((0 : Int) ≤ g_1.snd.fst + (1 : Int) ∧
 g_1.snd.fst + (1 : Int) ≤ (↑g.snd.1.length : Int) ∧
 (g_1.fst ||
 (g.snd.fst.getD g_1.snd.fst.toNat ((0 : Int), (0 : Int))).fst ==
 (x.fst.getD g.snd.snd.snd.snd.snd.fst.toNat ((0 : Int), (0 : Int), (0 : Int))).snd.snd) =
 heldx (List.take (g_1.snd.fst + (1 : Int)).toNat g.snd.1)
 (x.fst.getD g.snd.snd.snd.snd.snd.fst.toNat ((0 : Int), (0 : Int), (0 : Int))).snd.snd) ∧
 ((↑g.snd.1.length : Int) - (g_1.snd.fst + (1 : Int))).toNat <
 ((↑g.snd.1.length : Int) - g_1.snd.fst).toNat) ∧
 ((True ∧ True) ∧
 True ∧
 True ∧
 True ∧
 True ∧
 Value.slice none (0 : Nat) (0 : Nat) = Value.slice none (0 : Nat) (0 : Nat) ∧
 g.snd.snd.snd.snd.snd.fst = g.snd.snd.snd.snd.snd.fst ∧
 (True ∧ True) ∧
 (0 : Int) = (0 : Int) ∧
 (g_1.fst ||
 (g.snd.fst.getD g_1.snd.fst.toNat ((0 : Int), (0 : Int))).fst ==
 (x.fst.getD g.snd.snd.snd.snd.snd.fst.toNat
 ((0 : Int), (0 : Int), (0 : Int))).snd.snd) =
 (g_1.fst ||
 (g.snd.fst.getD g_1.snd.fst.toNat ((0 : Int), (0 : Int))).fst ==
 (x.fst.getD g.snd.snd.snd.snd.snd.fst.toNat
 ((0 : Int), (0 : Int), (0 : Int))).snd.snd) ∧
 x.fst = x.fst ∧
 (↑x.fst.length : Int) = (↑x.fst.length : Int) ∧
 g.snd.snd.snd.snd.snd.fst = g.snd.snd.snd.snd.snd.fst ∧
 True ∧
 (↑g.snd.fst.length : Int) = (↑g.snd.fst.length : Int) ∧
 g_1.snd.fst + (1 : Int) = g_1.snd.fst + (1 : Int) ∧ True) ∧
 ((g.fst = g.fst ∧ True) ∧
 g.snd.fst = g.snd.fst ∧
 g.snd.snd.fst = g.snd.snd.fst ∧
 g.snd.snd.snd.fst = g.snd.snd.snd.fst ∧
 g.snd.snd.snd.snd.fst = g.snd.snd.snd.snd.fst ∧
 ((x.fst.getD g.snd.snd.snd.snd.snd.fst.toNat ((0 : Int), (0 : Int), (0 : Int))).fst =
 (x.fst.getD g.snd.snd.snd.snd.snd.fst.toNat ((0 : Int), (0 : Int), (0 : Int))).fst ∧
 (x.fst.getD g.snd.snd.snd.snd.snd.fst.toNat ((0 : Int), (0 : Int), (0 : Int))).snd.fst =
 (x.fst.getD g.snd.snd.snd.snd.snd.fst.toNat ((0 : Int), (0 : Int), (0 : Int))).snd.fst ∧
 (x.fst.getD g.snd.snd.snd.snd.snd.fst.toNat ((0 : Int), (0 : Int), (0 : Int))).snd.snd =
 (x.fst.getD g.snd.snd.snd.snd.snd.fst.toNat
 ((0 : Int), (0 : Int), (0 : Int))).snd.snd ∧
 True) ∧
 True) ∧
 True) ∧
 (decide (g_1.snd.fst < (↑g.snd.fst.length : Int)) = false →
 (((!decide ((x.fst.getD g.snd.snd.snd.snd.snd.fst.toNat ((0 : Int), (0 : Int), (0 : Int))).fst < (1 : Int))) = true →
 (!decide ((x.fst.getD g.snd.snd.snd.snd.snd.fst.toNat ((0 : Int), (0 : Int), (0 : Int))).fst < (1 : Int))) = true) ∧
 ((!decide ((x.fst.getD g.snd.snd.snd.snd.snd.fst.toNat ((0 : Int), (0 : Int), (0 : Int))).fst < (1 : Int))) = true →
 (!decide ((x.fst.getD g.snd.snd.snd.snd.snd.fst.toNat ((0 : Int), (0 : Int), (0 : Int))).fst < (1 : Int))) = true) ∧
 (decide ((x.fst.getD g.snd.snd.snd.snd.snd.fst.toNat ((0 : Int), (0 : Int), (0 : Int))).fst < (1 : Int)) = false →
 (!decide ((x.fst.getD g.snd.snd.snd.snd.snd.fst.toNat ((0 : Int), (0 : Int), (0 : Int))).fst < (1 : Int))) =
 true) ∧
 ((decide ((x.fst.getD g.snd.snd.snd.snd.snd.fst.toNat ((0 : Int), (0 : Int), (0 : Int))).fst < (1 : Int)) ||
 decide ((3 : Int) < (x.fst.getD g.snd.snd.snd.snd.snd.fst.toNat ((0 : Int), (0 : Int), (0 : Int))).fst)) =
 true →
 ((g.fst, g.snd.fst, (5 : Int)) =
 xw g.1 g.snd.1
 ((x.fst.getD g.snd.snd.snd.snd.snd.fst.toNat ((0 : Int), (0 : Int), (0 : Int))).fst,
 (x.fst.getD g.snd.snd.snd.snd.snd.fst.toNat ((0 : Int), (0 : Int), (0 : Int))).snd.fst,
 (x.fst.getD g.snd.snd.snd.snd.snd.fst.toNat ((0 : Int), (0 : Int), (0 : Int))).snd.snd)
 g.snd.snd.snd.snd.snd.1 ∧
 True) ∧
 ((True ∧ True) ∧
 True ∧
 True ∧
 True ∧
 True ∧
 Value.slice none (0 : Nat) (0 : Nat) = Value.slice none (0 : Nat) (0 : Nat) ∧
 (5 : Int) = (5 : Int) ∧
 x.fst = x.fst ∧
 (↑x.fst.length : Int) = (↑x.fst.length : Int) ∧
 g.snd.snd.snd.snd.snd.fst = g.snd.snd.snd.snd.snd.fst ∧ True) ∧
 ((g.fst = g.fst ∧ True) ∧
 g.snd.fst = g.snd.fst ∧
 g.snd.snd.fst = g.snd.snd.fst ∧
 g.snd.snd.snd.fst = g.snd.snd.snd.fst ∧ g.snd.snd.snd.snd.fst = g.snd.snd.snd.snd.fst ∧ True) ∧
 True) ∧
 ((decide ((x.fst.getD g.snd.snd.snd.snd.snd.fst.toNat ((0 : Int), (0 : Int), (0 : Int))).fst < (1 : Int)) ||
 decide ((3 : Int) < (x.fst.getD g.snd.snd.snd.snd.snd.fst.toNat ((0 : Int), (0 : Int), (0 : Int))).fst)) =
 false →
 (((x.fst.getD g.snd.snd.snd.snd.snd.fst.toNat ((0 : Int), (0 : Int), (0 : Int))).fst == (3 : Int)) = true →
 ((x.fst.getD g.snd.snd.snd.snd.snd.fst.toNat ((0 : Int), (0 : Int), (0 : Int))).fst == (3 : Int)) = true) ∧
 (((x.fst.getD g.snd.snd.snd.snd.snd.fst.toNat ((0 : Int), (0 : Int), (0 : Int))).fst == (3 : Int) &&
 g_1.fst) =
 true →
 ((g.fst, g.snd.fst, (6 : Int)) =
 xw g.1 g.snd.1
 ((x.fst.getD g.snd.snd.snd.snd.snd.fst.toNat ((0 : Int), (0 : Int), (0 : Int))).fst,
 (x.fst.getD g.snd.snd.snd.snd.snd.fst.toNat ((0 : Int), (0 : Int), (0 : Int))).snd.fst,
 (x.fst.getD g.snd.snd.snd.snd.snd.fst.toNat ((0 : Int), (0 : Int), (0 : Int))).snd.snd)
 g.snd.snd.snd.snd.snd.1 ∧
 True) ∧
 ((True ∧ True) ∧
 True ∧
 True ∧
 True ∧
 True ∧
 Value.slice none (0 : Nat) (0 : Nat) = Value.slice none (0 : Nat) (0 : Nat) ∧
 (6 : Int) = (6 : Int) ∧
 x.fst = x.fst ∧
 (↑x.fst.length : Int) = (↑x.fst.length : Int) ∧
 g.snd.snd.snd.snd.snd.fst = g.snd.snd.snd.snd.snd.fst ∧ True) ∧
 ((g.fst = g.fst ∧ True) ∧
 g.snd.fst = g.snd.fst ∧
 g.snd.snd.fst = g.snd.snd.fst ∧
 g.snd.snd.snd.fst = g.snd.snd.snd.fst ∧
 g.snd.snd.snd.snd.fst = g.snd.snd.snd.snd.fst ∧ True) ∧
 True) ∧
 (((x.fst.getD g.snd.snd.snd.snd.snd.fst.toNat ((0 : Int), (0 : Int), (0 : Int))).fst == (3 : Int) &&
 g_1.fst) =
 false →
 (((x.fst.getD g.snd.snd.snd.snd.snd.fst.toNat ((0 : Int), (0 : Int), (0 : Int))).fst == (3 : Int)) =
 true →
 (g.snd.fst.length +
 ((((0 : Int), (0 : Int)) :: ([] : List (Int × Int))).set (0 : Nat)
 ((x.fst.getD g.snd.snd.snd.snd.snd.fst.toNat ((0 : Int), (0 : Int), (0 : Int))).snd.snd,
 g.snd.snd.snd.snd.snd.fst)).length ≤
 (9223372036854775807 : Nat) ∧
 (g.snd.fst.length +
 ((((0 : Int), (0 : Int)) :: ([] : List (Int × Int))).set (0 : Nat)
 ((x.fst.getD g.snd.snd.snd.snd.snd.fst.toNat
 ((0 : Int), (0 : Int), (0 : Int))).snd.snd,
 g.snd.snd.snd.snd.snd.fst)).length +
 (g.snd.fst.length +
 ((((0 : Int), (0 : Int)) :: ([] : List (Int × Int))).set (0 : Nat)
 ((x.fst.getD g.snd.snd.snd.snd.snd.fst.toNat
 ((0 : Int), (0 : Int), (0 : Int))).snd.snd,
 g.snd.snd.snd.snd.snd.fst)).length) /
 (4 : Nat) +
 (192 : Nat)) *
 (16 : Nat) ≤
 (281474976710656 : Nat)) ∧
 ((g.fst,
 g.snd.fst ++
 (((0 : Int), (0 : Int)) :: ([] : List (Int × Int))).set (0 : Nat)
 ((x.fst.getD g.snd.snd.snd.snd.snd.fst.toNat ((0 : Int), (0 : Int), (0 : Int))).snd.snd,
 g.snd.snd.snd.snd.snd.fst),
 (0 : Int)) =
 xw g.1 g.snd.1
 ((x.fst.getD g.snd.snd.snd.snd.snd.fst.toNat ((0 : Int), (0 : Int), (0 : Int))).fst,
 (x.fst.getD g.snd.snd.snd.snd.snd.fst.toNat ((0 : Int), (0 : Int), (0 : Int))).snd.fst,
 (x.fst.getD g.snd.snd.snd.snd.snd.fst.toNat ((0 : Int), (0 : Int), (0 : Int))).snd.snd)
 g.snd.snd.snd.snd.snd.1 ∧
 True) ∧
 ((True ∧ True) ∧
 True ∧
 True ∧
 True ∧
 True ∧
 Value.slice none (0 : Nat) (0 : Nat) = Value.slice none (0 : Nat) (0 : Nat) ∧
 (0 : Int) = (0 : Int) ∧
 x.fst = x.fst ∧
 (↑x.fst.length : Int) = (↑x.fst.length : Int) ∧
 g.snd.snd.snd.snd.snd.fst = g.snd.snd.snd.snd.snd.fst ∧ True) ∧
 ((g.fst = g.fst ∧ True) ∧
 g.snd.fst ++
 (((0 : Int), (0 : Int)) :: ([] : List (Int × Int))).set (0 : Nat)
 ((x.fst.getD g.snd.snd.snd.snd.snd.fst.toNat
 ((0 : Int), (0 : Int), (0 : Int))).snd.snd,
 g.snd.snd.snd.snd.snd.fst) =
 g.snd.fst ++
 (((0 : Int), (0 : Int)) :: ([] : List (Int × Int))).set (0 : Nat)
 ((x.fst.getD g.snd.snd.snd.snd.snd.fst.toNat
 ((0 : Int), (0 : Int), (0 : Int))).snd.snd,
 g.snd.snd.snd.snd.snd.fst) ∧
 g.snd.snd.fst = g.snd.snd.fst ∧
 g.snd.snd.snd.fst = g.snd.snd.snd.fst ∧
 g.snd.snd.snd.snd.fst = g.snd.snd.snd.snd.fst ∧ True) ∧
 True) ∧
 (((x.fst.getD g.snd.snd.snd.snd.snd.fst.toNat ((0 : Int), (0 : Int), (0 : Int))).fst == (3 : Int)) =
 false →
 ((!decide
 ((x.fst.getD g.snd.snd.snd.snd.snd.fst.toNat ((0 : Int), (0 : Int), (0 : Int))).snd.fst <
 (0 : Int))) =
 true →
 (!decide
 ((x.fst.getD g.snd.snd.snd.snd.snd.fst.toNat ((0 : Int), (0 : Int), (0 : Int))).snd.fst <
 (0 : Int))) =
 true) ∧
 ((!decide
 ((x.fst.getD g.snd.snd.snd.snd.snd.fst.toNat ((0 : Int), (0 : Int), (0 : Int))).snd.fst <
 (0 : Int))) =
 true →
 (!decide
 ((x.fst.getD g.snd.snd.snd.snd.snd.fst.toNat ((0 : Int), (0 : Int), (0 : Int))).snd.fst <
 (0 : Int))) =
 true) ∧
 (decide
 ((x.fst.getD g.snd.snd.snd.snd.snd.fst.toNat ((0 : Int), (0 : Int), (0 : Int))).snd.fst <
 (0 : Int)) =
 false →
 (!decide
 ((x.fst.getD g.snd.snd.snd.snd.snd.fst.toNat
 ((0 : Int), (0 : Int), (0 : Int))).snd.fst <
 (0 : Int))) =
 true) ∧
 ((decide
 ((x.fst.getD g.snd.snd.snd.snd.snd.fst.toNat
 ((0 : Int), (0 : Int), (0 : Int))).snd.fst <
 (0 : Int)) ||
 decide
 ((7 : Int) <
 (x.fst.getD g.snd.snd.snd.snd.snd.fst.toNat
 ((0 : Int), (0 : Int), (0 : Int))).snd.fst)) =
 true →
 ((g.fst, g.snd.fst, (2 : Int)) =
 xw g.1 g.snd.1
 ((x.fst.getD g.snd.snd.snd.snd.snd.fst.toNat ((0 : Int), (0 : Int), (0 : Int))).fst,
 (x.fst.getD g.snd.snd.snd.snd.snd.fst.toNat
 ((0 : Int), (0 : Int), (0 : Int))).snd.fst,
 (x.fst.getD g.snd.snd.snd.snd.snd.fst.toNat
 ((0 : Int), (0 : Int), (0 : Int))).snd.snd)
 g.snd.snd.snd.snd.snd.1 ∧
 True) ∧
 ((True ∧ True) ∧
 True ∧
 True ∧
 True ∧
 True ∧
 Value.slice none (0 : Nat) (0 : Nat) = Value.slice none (0 : Nat) (0 : Nat) ∧
 (2 : Int) = (2 : Int) ∧
 x.fst = x.fst ∧
 (↑x.fst.length : Int) = (↑x.fst.length : Int) ∧
 g.snd.snd.snd.snd.snd.fst = g.snd.snd.snd.snd.snd.fst ∧ True) ∧
 ((g.fst = g.fst ∧ True) ∧
 g.snd.fst = g.snd.fst ∧
 g.snd.snd.fst = g.snd.snd.fst ∧
 g.snd.snd.snd.fst = g.snd.snd.snd.fst ∧
 g.snd.snd.snd.snd.fst = g.snd.snd.snd.snd.fst ∧ True) ∧
 True) ∧
 ((decide
 ((x.fst.getD g.snd.snd.snd.snd.snd.fst.toNat
 ((0 : Int), (0 : Int), (0 : Int))).snd.fst <
 (0 : Int)) ||
 decide
 ((7 : Int) <
 (x.fst.getD g.snd.snd.snd.snd.snd.fst.toNat
 ((0 : Int), (0 : Int), (0 : Int))).snd.fst)) =
 false →
 (((x.fst.getD g.snd.snd.snd.snd.snd.fst.toNat ((0 : Int), (0 : Int), (0 : Int))).fst ==
 (1 : Int)) =
 true →
 ((x.fst.getD g.snd.snd.snd.snd.snd.fst.toNat ((0 : Int), (0 : Int), (0 : Int))).fst ==
 (1 : Int)) =
 true) ∧
 (((x.fst.getD g.snd.snd.snd.snd.snd.fst.toNat ((0 : Int), (0 : Int), (0 : Int))).fst ==
 (1 : Int)) =
 true →
 ((x.fst.getD g.snd.snd.snd.snd.snd.fst.toNat ((0 : Int), (0 : Int), (0 : Int))).fst ==
 (1 : Int)) =
 true ∧
 (0 : Int) ≤
 (x.fst.getD g.snd.snd.snd.snd.snd.fst.toNat
 ((0 : Int), (0 : Int), (0 : Int))).snd.fst ∧
 (x.fst.getD g.snd.snd.snd.snd.snd.fst.toNat
 ((0 : Int), (0 : Int), (0 : Int))).snd.fst <
 (↑(8 : Nat) : Int)) ∧
 (((x.fst.getD g.snd.snd.snd.snd.snd.fst.toNat ((0 : Int), (0 : Int), (0 : Int))).fst ==
 (1 : Int)) =
 true →
 ((x.fst.getD g.snd.snd.snd.snd.snd.fst.toNat
 ((0 : Int), (0 : Int), (0 : Int))).fst ==
 (1 : Int)) =
 true) ∧
 (((x.fst.getD g.snd.snd.snd.snd.snd.fst.toNat
 ((0 : Int), (0 : Int), (0 : Int))).fst ==
 (1 : Int)) =
 true →
 ((x.fst.getD g.snd.snd.snd.snd.snd.fst.toNat
 ((0 : Int), (0 : Int), (0 : Int))).fst ==
 (1 : Int)) =
 true) ∧
 (((x.fst.getD g.snd.snd.snd.snd.snd.fst.toNat
 ((0 : Int), (0 : Int), (0 : Int))).fst ==
 (1 : Int)) =
 true →
 ((x.fst.getD g.snd.snd.snd.snd.snd.fst.toNat
 ((0 : Int), (0 : Int), (0 : Int))).fst ==
 (1 : Int)) =
 true) ∧
 (((x.fst.getD g.snd.snd.snd.snd.snd.fst.toNat
 ((0 : Int), (0 : Int), (0 : Int))).fst ==
 (1 : Int) &&
 decide
 ((0 : Int) ≤
 g.fst.getD
 (x.fst.getD g.snd.snd.snd.snd.snd.fst.toNat
 ((0 : Int), (0 : Int), (0 : Int))).snd.fst.toNat
 (0 : Int))) =
 true →
 ((g.fst, g.snd.fst, (6 : Int)) =
 xw g.1 g.snd.1
 ((x.fst.getD g.snd.snd.snd.snd.snd.fst.toNat
 ((0 : Int), (0 : Int), (0 : Int))).fst,
 (x.fst.getD g.snd.snd.snd.snd.snd.fst.toNat
 ((0 : Int), (0 : Int), (0 : Int))).snd.fst,
 (x.fst.getD g.snd.snd.snd.snd.snd.fst.toNat
 ((0 : Int), (0 : Int), (0 : Int))).snd.snd)
 g.snd.snd.snd.snd.snd.1 ∧
 True) ∧
 ((True ∧ True) ∧
 True ∧
 True ∧
 True ∧
 True ∧
 Value.slice none (0 : Nat) (0 : Nat) =
 Value.slice none (0 : Nat) (0 : Nat) ∧
 (6 : Int) = (6 : Int) ∧
 x.fst = x.fst ∧
 (↑x.fst.length : Int) = (↑x.fst.length : Int) ∧
 g.snd.snd.snd.snd.snd.fst = g.snd.snd.snd.snd.snd.fst ∧
 True) ∧
 ((g.fst = g.fst ∧ True) ∧
 g.snd.fst = g.snd.fst ∧
 g.snd.snd.fst = g.snd.snd.fst ∧
 g.snd.snd.snd.fst = g.snd.snd.snd.fst ∧
 g.snd.snd.snd.snd.fst = g.snd.snd.snd.snd.fst ∧ True) ∧
 True) ∧
 (((x.fst.getD g.snd.snd.snd.snd.snd.fst.toNat
 ((0 : Int), (0 : Int), (0 : Int))).fst ==
 (1 : Int) &&
 decide
 ((0 : Int) ≤
 g.fst.getD
 (x.fst.getD g.snd.snd.snd.snd.snd.fst.toNat
 ((0 : Int), (0 : Int), (0 : Int))).snd.fst.toNat
 (0 : Int))) =
 false →
 (((x.fst.getD g.snd.snd.snd.snd.snd.fst.toNat
 ((0 : Int), (0 : Int), (0 : Int))).fst ==
 (1 : Int)) =
 true →
 ((0 : Int) ≤
 (x.fst.getD g.snd.snd.snd.snd.snd.fst.toNat
 ((0 : Int), (0 : Int), (0 : Int))).snd.fst ∧
 (x.fst.getD g.snd.snd.snd.snd.snd.fst.toNat
 ((0 : Int), (0 : Int), (0 : Int))).snd.fst <
 (↑(8 : Nat) : Int)) ∧
 ((g.fst.set
 (x.fst.getD g.snd.snd.snd.snd.snd.fst.toNat
 ((0 : Int), (0 : Int), (0 : Int))).snd.fst.toNat
 g.snd.snd.snd.snd.snd.fst,
 g.snd.fst, (0 : Int)) =
 xw g.1 g.snd.1
 ((x.fst.getD g.snd.snd.snd.snd.snd.fst.toNat
 ((0 : Int), (0 : Int), (0 : Int))).fst,
 (x.fst.getD g.snd.snd.snd.snd.snd.fst.toNat
 ((0 : Int), (0 : Int), (0 : Int))).snd.fst,
 (x.fst.getD g.snd.snd.snd.snd.snd.fst.toNat
 ((0 : Int), (0 : Int), (0 : Int))).snd.snd)
 g.snd.snd.snd.snd.snd.1 ∧
 True) ∧
 ((True ∧ True) ∧
 True ∧
 True ∧
 True ∧
 True ∧
 Value.slice none (0 : Nat) (0 : Nat) =
 Value.slice none (0 : Nat) (0 : Nat) ∧
 (0 : Int) = (0 : Int) ∧
 x.fst = x.fst ∧
 (↑x.fst.length : Int) = (↑x.fst.length : Int) ∧
 g.snd.snd.snd.snd.snd.fst =
 g.snd.snd.snd.snd.snd.fst ∧
 True) ∧
 ((g.fst.set
 (x.fst.getD g.snd.snd.snd.snd.snd.fst.toNat
 ((0 : Int), (0 : Int), (0 : Int))).snd.fst.toNat
 g.snd.snd.snd.snd.snd.fst =
 g.fst.set
 (x.fst.getD g.snd.snd.snd.snd.snd.fst.toNat
 ((0 : Int), (0 : Int), (0 : Int))).snd.fst.toNat
 g.snd.snd.snd.snd.snd.fst ∧
 True) ∧
 g.snd.fst = g.snd.fst ∧
 g.snd.snd.fst = g.snd.snd.fst ∧
 g.snd.snd.snd.fst = g.snd.snd.snd.fst ∧
 g.snd.snd.snd.snd.fst = g.snd.snd.snd.snd.fst ∧ True) ∧
 True) ∧
 (((x.fst.getD g.snd.snd.snd.snd.snd.fst.toNat
 ((0 : Int), (0 : Int), (0 : Int))).fst ==
 (1 : Int)) =
 false →
 ((0 : Int) ≤
 (x.fst.getD g.snd.snd.snd.snd.snd.fst.toNat
 ((0 : Int), (0 : Int), (0 : Int))).snd.fst ∧
 (x.fst.getD g.snd.snd.snd.snd.snd.fst.toNat
 ((0 : Int), (0 : Int), (0 : Int))).snd.fst <
 (↑(8 : Nat) : Int)) ∧
 (decide
 (g.fst.getD
 (x.fst.getD g.snd.snd.snd.snd.snd.fst.toNat
 ((0 : Int), (0 : Int), (0 : Int))).snd.fst.toNat
 (0 : Int) <
 (0 : Int)) =
 true →
 ((g.fst, g.snd.fst, (3 : Int)) =
 xw g.1 g.snd.1
 ((x.fst.getD g.snd.snd.snd.snd.snd.fst.toNat
 ((0 : Int), (0 : Int), (0 : Int))).fst,
 (x.fst.getD g.snd.snd.snd.snd.snd.fst.toNat
 ((0 : Int), (0 : Int), (0 : Int))).snd.fst,
 (x.fst.getD g.snd.snd.snd.snd.snd.fst.toNat
 ((0 : Int), (0 : Int), (0 : Int))).snd.snd)
 g.snd.snd.snd.snd.snd.1 ∧
 True) ∧
 ((True ∧ True) ∧
 True ∧
 True ∧
 True ∧
 True ∧
 Value.slice none (0 : Nat) (0 : Nat) =
 Value.slice none (0 : Nat) (0 : Nat) ∧
 (3 : Int) = (3 : Int) ∧
 x.fst = x.fst ∧
 (↑x.fst.length : Int) = (↑x.fst.length : Int) ∧
 g.snd.snd.snd.snd.snd.fst =
 g.snd.snd.snd.snd.snd.fst ∧
 True) ∧
 ((g.fst = g.fst ∧ True) ∧
 g.snd.fst = g.snd.fst ∧
 g.snd.snd.fst = g.snd.snd.fst ∧
 g.snd.snd.snd.fst = g.snd.snd.snd.fst ∧
 g.snd.snd.snd.snd.fst = g.snd.snd.snd.snd.fst ∧
 True) ∧
 True) ∧
 (decide
 (g.fst.getD
 (x.fst.getD g.snd.snd.snd.snd.snd.fst.toNat
 ((0 : Int), (0 : Int), (0 : Int))).snd.fst.toNat
 (0 : Int) <
 (0 : Int)) =
 false →
 ((0 : Int) ≤
 (x.fst.getD g.snd.snd.snd.snd.snd.fst.toNat
 ((0 : Int), (0 : Int), (0 : Int))).snd.fst ∧
 (x.fst.getD g.snd.snd.snd.snd.snd.fst.toNat
 ((0 : Int), (0 : Int), (0 : Int))).snd.fst <
 (↑(8 : Nat) : Int)) ∧
 ((g.fst.set
 (x.fst.getD g.snd.snd.snd.snd.snd.fst.toNat
 ((0 : Int), (0 : Int), (0 : Int))).snd.fst.toNat
 (-1 : Int),
 g.snd.fst, (0 : Int)) =
 xw g.1 g.snd.1
 ((x.fst.getD g.snd.snd.snd.snd.snd.fst.toNat
 ((0 : Int), (0 : Int), (0 : Int))).fst,
 (x.fst.getD g.snd.snd.snd.snd.snd.fst.toNat
 ((0 : Int), (0 : Int), (0 : Int))).snd.fst,
 (x.fst.getD g.snd.snd.snd.snd.snd.fst.toNat
 ((0 : Int), (0 : Int), (0 : Int))).snd.snd)
 g.snd.snd.snd.snd.snd.1 ∧
 True) ∧
 ((True ∧ True) ∧
 True ∧
 True ∧
 True ∧
 True ∧
 Value.slice none (0 : Nat) (0 : Nat) =
 Value.slice none (0 : Nat) (0 : Nat) ∧
 (0 : Int) = (0 : Int) ∧
 x.fst = x.fst ∧
 (↑x.fst.length : Int) =
 (↑x.fst.length : Int) ∧
 g.snd.snd.snd.snd.snd.fst =
 g.snd.snd.snd.snd.snd.fst ∧
 True) ∧
 ((g.fst.set
 (x.fst.getD g.snd.snd.snd.snd.snd.fst.toNat
 ((0 : Int), (0 : Int),
 (0 : Int))).snd.fst.toNat
 (-1 : Int) =
 g.fst.set
 (x.fst.getD g.snd.snd.snd.snd.snd.fst.toNat
 ((0 : Int), (0 : Int),
 (0 : Int))).snd.fst.toNat
 (-1 : Int) ∧
 True) ∧
 g.snd.fst = g.snd.fst ∧
 g.snd.snd.fst = g.snd.snd.fst ∧
 g.snd.snd.snd.fst = g.snd.snd.snd.fst ∧
 g.snd.snd.snd.snd.fst = g.snd.snd.snd.snd.fst ∧
 True) ∧
 True)))))))) ∧
 ∀ (g_2 : List Int × List (Int × Int) × Int × Unit),
 (g_2.fst, g_2.snd.fst, g_2.snd.snd.fst) =
 xw g.1 g.snd.1
 ((x.fst.getD g.snd.snd.snd.snd.snd.fst.toNat ((0 : Int), (0 : Int), (0 : Int))).fst,
 (x.fst.getD g.snd.snd.snd.snd.snd.fst.toNat ((0 : Int), (0 : Int), (0 : Int))).snd.fst,
 (x.fst.getD g.snd.snd.snd.snd.snd.fst.toNat ((0 : Int), (0 : Int), (0 : Int))).snd.snd)
 g.snd.snd.snd.snd.snd.1 →
 (g_2.fst.length = (8 : Nat) ∧
 ∀ (x : Int), x ∈ g_2.fst → (-9223372036854775808 : Int) ≤ x ∧ x ≤ (9223372036854775807 : Int)) ∧
 (g_2.snd.fst.length ≤ (9223372036854775807 : Nat) ∧
 ∀ (x : Int × Int),
 x ∈ g_2.snd.fst →
 ((-9223372036854775808 : Int) ≤ x.fst ∧ x.fst ≤ (9223372036854775807 : Int)) ∧
 (-9223372036854775808 : Int) ≤ x.snd ∧ x.snd ≤ (9223372036854775807 : Int)) ∧
 ((-9223372036854775808 : Int) ≤ g_2.snd.snd.fst ∧ g_2.snd.snd.fst ≤ (9223372036854775807 : Int)) ∧ True →
 ((((0 : Int) ≤ (0 : Int) ∧
 (0 : Int) ≤ (↑g_2.snd.1.length : Int) ∧
 g.snd.snd.snd.snd.fst = g.snd.snd.snd.snd.1 ++ xf g_2.1 (List.take (Int.toNat (0 : Int)) g_2.snd.1) ∧
 ([] : List (Int × Int)) = xl g_2.1 (List.take (Int.toNat (0 : Int)) g_2.snd.1)) ∧
 True) ∧
 ((True ∧ True) ∧
 True ∧
 True ∧
 True ∧
 Value.slice none (0 : Nat) (0 : Nat) = Value.slice none (0 : Nat) (0 : Nat) ∧
 g_2.snd.snd.fst = g_2.snd.snd.fst ∧
 True ∧
 x.fst = x.fst ∧
 (↑x.fst.length : Int) = (↑x.fst.length : Int) ∧
 g.snd.snd.snd.snd.snd.fst = g.snd.snd.snd.snd.snd.fst ∧
 True ∧
 (↑g_2.snd.fst.length : Int) = (↑g_2.snd.fst.length : Int) ∧
 (0 : Int) = (0 : Int) ∧ True) ∧
 (g.snd.snd.snd.snd.fst = g.snd.snd.snd.snd.fst ∧
 ([] : List (Int × Int)) = ([] : List (Int × Int)) ∧
 (g_2.fst = g_2.fst ∧ True) ∧
 g.snd.snd.fst = g.snd.snd.fst ∧
 g.snd.snd.snd.fst = g.snd.snd.snd.fst ∧ g_2.snd.fst = g_2.snd.fst ∧ True) ∧
 True) ∧
 ∀ (g_3 : List Int × List (Int × Int) × Int × Unit),
 (0 : Int) ≤ g_3.snd.snd.fst ∧
 g_3.snd.snd.fst ≤ (↑g_2.snd.1.length : Int) ∧
 g_3.fst = g.snd.snd.snd.snd.1 ++ xf g_2.1 (List.take g_3.snd.snd.fst.toNat g_2.snd.1) ∧
 g_3.snd.fst = xl g_2.1 (List.take g_3.snd.snd.fst.toNat g_2.snd.1) →
 (g_3.fst.length ≤ (9223372036854775807 : Nat) ∧
 ∀ (x : Int), x ∈ g_3.fst → (-9223372036854775808 : Int) ≤ x ∧ x ≤ (9223372036854775807 : Int)) ∧
 (g_3.snd.fst.length ≤ (9223372036854775807 : Nat) ∧
 ∀ (x : Int × Int),
 x ∈ g_3.snd.fst →
 ((-9223372036854775808 : Int) ≤ x.fst ∧ x.fst ≤ (9223372036854775807 : Int)) ∧
 (-9223372036854775808 : Int) ≤ x.snd ∧ x.snd ≤ (9223372036854775807 : Int)) ∧
 ((-9223372036854775808 : Int) ≤ g_3.snd.snd.fst ∧ g_3.snd.snd.fst ≤ (9223372036854775807 : Int)) ∧
 True →
 (decide (g_3.snd.snd.fst < (↑g_2.snd.fst.length : Int)) = true →
 ((0 : Int) ≤ g_3.snd.snd.fst ∧ g_3.snd.snd.fst < (↑g_2.snd.fst.length : Int)) ∧
 ((((0 : Int) ≤ (0 : Int) ∧
 (0 : Int) ≤ (8 : Int) ∧
 false =
 seen (List.take (Int.toNat (0 : Int)) g_2.1)
 (g_2.snd.fst.getD g_3.snd.snd.fst.toNat ((0 : Int), (0 : Int))).snd) ∧
 True) ∧
 ((True ∧ True) ∧
 True ∧
 True ∧
 True ∧
 Value.slice none (0 : Nat) (0 : Nat) = Value.slice none (0 : Nat) (0 : Nat) ∧
 g_2.snd.snd.fst = g_2.snd.snd.fst ∧
 True ∧
 (True ∧ True) ∧
 false = false ∧
 x.fst = x.fst ∧
 (↑x.fst.length : Int) = (↑x.fst.length : Int) ∧
 g.snd.snd.snd.snd.snd.fst = g.snd.snd.snd.snd.snd.fst ∧
 True ∧
 (↑g_2.snd.fst.length : Int) = (↑g_2.snd.fst.length : Int) ∧
 g_3.snd.snd.fst = g_3.snd.snd.fst ∧
 (g_2.fst = g_2.fst ∧ True) ∧ (0 : Int) = (0 : Int) ∧ True) ∧
 ((g_2.fst = g_2.fst ∧ True) ∧
 g.snd.snd.fst = g.snd.snd.fst ∧
 g.snd.snd.snd.fst = g.snd.snd.snd.fst ∧
 g_3.fst = g_3.fst ∧
 g_3.snd.fst = g_3.snd.fst ∧
 ((g_2.snd.fst.getD g_3.snd.snd.fst.toNat ((0 : Int), (0 : Int))).fst =
 (g_2.snd.fst.getD g_3.snd.snd.fst.toNat ((0 : Int), (0 : Int))).fst ∧
 (g_2.snd.fst.getD g_3.snd.snd.fst.toNat ((0 : Int), (0 : Int))).snd =
 (g_2.snd.fst.getD g_3.snd.snd.fst.toNat ((0 : Int), (0 : Int))).snd ∧
 True) ∧
 g_2.snd.fst = g_2.snd.fst ∧ True) ∧
 True) ∧
 ∀ (g_4 : Bool × Int × Unit),
 (0 : Int) ≤ g_4.snd.fst ∧
 g_4.snd.fst ≤ (8 : Int) ∧
 g_4.fst =
 seen (List.take g_4.snd.fst.toNat g_2.1)
 (g_2.snd.fst.getD g_3.snd.snd.fst.toNat ((0 : Int), (0 : Int))).snd →
 True ∧
 ((-9223372036854775808 : Int) ≤ g_4.snd.fst ∧ g_4.snd.fst ≤ (9223372036854775807 : Int)) ∧
 True →
 (decide (g_4.snd.fst < (8 : Int)) = true →
 ((0 : Int) ≤ g_4.snd.fst ∧ g_4.snd.fst < (↑(8 : Nat) : Int)) ∧
 ((!g_4.fst) = true → (!g_4.fst) = true) ∧
 ((!g_4.fst) = true → (!g_4.fst) = true) ∧
 ((!g_4.fst && decide ((0 : Int) ≤ g_2.fst.getD g_4.snd.fst.toNat (0 : Int))) =
 true →
 (!g_4.fst && decide ((0 : Int) ≤ g_2.fst.getD g_4.snd.fst.toNat (0 : Int))) =
 true) ∧
 ((!g_4.fst && decide ((0 : Int) ≤ g_2.fst.getD g_4.snd.fst.toNat (0 : Int))) =
 true →
 (!g_4.fst && decide ((0 : Int) ≤ g_2.fst.getD g_4.snd.fst.toNat (0 : Int))) =
 true ∧
 (!g_4.fst &&
 decide ((0 : Int) ≤ g_2.fst.getD g_4.snd.fst.toNat (0 : Int))) =
 true) ∧
 ((!g_4.fst) = true →
 (!g_4.fst) = true ∧
 (decide ((0 : Int) ≤ g_2.fst.getD g_4.snd.fst.toNat (0 : Int)) = true →
 (!g_4.fst &&
 decide ((0 : Int) ≤ g_2.fst.getD g_4.snd.fst.toNat (0 : Int))) =
 true)) ∧
 (g_4.fst = false → (!g_4.fst) = true) ∧
 ((-9223372036854775808 : Int) ≤ g_4.snd.fst + (1 : Int) ∧
 g_4.snd.fst + (1 : Int) ≤ (9223372036854775807 : Int)) ∧
 (((0 : Int) ≤ g_4.snd.fst + (1 : Int) ∧
 g_4.snd.fst + (1 : Int) ≤ (8 : Int) ∧
 (g_4.fst ||
 decide
 ((0 : Int) ≤ g_2.fst.getD g_4.snd.fst.toNat (0 : Int)) &&
 decide
 (g_2.fst.getD g_4.snd.fst.toNat (0 : Int) <
 (g_2.snd.fst.getD g_3.snd.snd.fst.toNat
 ((0 : Int), (0 : Int))).snd)) =
 seen (List.take (g_4.snd.fst + (1 : Int)).toNat g_2.1)
 (g_2.snd.fst.getD g_3.snd.snd.fst.toNat
 ((0 : Int), (0 : Int))).snd) ∧
 ((8 : Int) - (g_4.snd.fst + (1 : Int))).toNat <
 ((8 : Int) - g_4.snd.fst).toNat) ∧
 ((True ∧ True) ∧
 True ∧
 True ∧
 True ∧
 Value.slice none (0 : Nat) (0 : Nat) =
 Value.slice none (0 : Nat) (0 : Nat) ∧
 g_2.snd.snd.fst = g_2.snd.snd.fst ∧
 True ∧
 (True ∧ True) ∧
 (g_4.fst ||
 decide
 ((0 : Int) ≤
 g_2.fst.getD g_4.snd.fst.toNat
 (0 : Int)) &&
 decide
 (g_2.fst.getD g_4.snd.fst.toNat (0 : Int) <
 (g_2.snd.fst.getD g_3.snd.snd.fst.toNat
 ((0 : Int), (0 : Int))).snd)) =
 (g_4.fst ||
 decide
 ((0 : Int) ≤
 g_2.fst.getD g_4.snd.fst.toNat
 (0 : Int)) &&
 decide
 (g_2.fst.getD g_4.snd.fst.toNat (0 : Int) <
 (g_2.snd.fst.getD g_3.snd.snd.fst.toNat
 ((0 : Int), (0 : Int))).snd)) ∧
 x.fst = x.fst ∧
 (↑x.fst.length : Int) = (↑x.fst.length : Int) ∧
 g.snd.snd.snd.snd.snd.fst =
 g.snd.snd.snd.snd.snd.fst ∧
 True ∧
 (↑g_2.snd.fst.length : Int) =
 (↑g_2.snd.fst.length : Int) ∧
 g_3.snd.snd.fst = g_3.snd.snd.fst ∧
 (g_2.fst = g_2.fst ∧ True) ∧
 g_4.snd.fst + (1 : Int) =
 g_4.snd.fst + (1 : Int) ∧
 True) ∧
 ((g_2.fst = g_2.fst ∧ True) ∧
 g.snd.snd.fst = g.snd.snd.fst ∧
 g.snd.snd.snd.fst = g.snd.snd.snd.fst ∧
 g_3.fst = g_3.fst ∧
 g_3.snd.fst = g_3.snd.fst ∧
 ((g_2.snd.fst.getD g_3.snd.snd.fst.toNat
 ((0 : Int), (0 : Int))).fst =
 (g_2.snd.fst.getD g_3.snd.snd.fst.toNat
 ((0 : Int), (0 : Int))).fst ∧
 (g_2.snd.fst.getD g_3.snd.snd.fst.toNat
 ((0 : Int), (0 : Int))).snd =
 (g_2.snd.fst.getD g_3.snd.snd.fst.toNat
 ((0 : Int), (0 : Int))).snd ∧
 True) ∧
 g_2.snd.fst = g_2.snd.fst ∧ True) ∧
 True) ∧
 (decide (g_4.snd.fst < (8 : Int)) = false →
 (g_4.fst = true →
 (g_3.snd.fst.length +
 ((((0 : Int), (0 : Int)) :: ([] : List (Int × Int))).set (0 : Nat)
 ((g_2.snd.fst.getD g_3.snd.snd.fst.toNat ((0 : Int), (0 : Int))).fst,
 (g_2.snd.fst.getD g_3.snd.snd.fst.toNat
 ((0 : Int), (0 : Int))).snd)).length ≤
 (9223372036854775807 : Nat) ∧
 (g_3.snd.fst.length +
 ((((0 : Int), (0 : Int)) :: ([] : List (Int × Int))).set (0 : Nat)
 ((g_2.snd.fst.getD g_3.snd.snd.fst.toNat
 ((0 : Int), (0 : Int))).fst,
 (g_2.snd.fst.getD g_3.snd.snd.fst.toNat
 ((0 : Int), (0 : Int))).snd)).length +
 (g_3.snd.fst.length +
 ((((0 : Int), (0 : Int)) :: ([] : List (Int × Int))).set (0 : Nat)
 ((g_2.snd.fst.getD g_3.snd.snd.fst.toNat
 ((0 : Int), (0 : Int))).fst,
 (g_2.snd.fst.getD g_3.snd.snd.fst.toNat
 ((0 : Int), (0 : Int))).snd)).length) /
 (4 : Nat) +
 (192 : Nat)) *
 (16 : Nat) ≤
 (281474976710656 : Nat)) ∧
 ((-9223372036854775808 : Int) ≤ g_3.snd.snd.fst + (1 : Int) ∧
 g_3.snd.snd.fst + (1 : Int) ≤ (9223372036854775807 : Int)) ∧
 (((0 : Int) ≤ g_3.snd.snd.fst + (1 : Int) ∧
 g_3.snd.snd.fst + (1 : Int) ≤ (↑g_2.snd.1.length : Int) ∧
 g_3.fst =
 g.snd.snd.snd.snd.1 ++
 xf g_2.1 (List.take (g_3.snd.snd.fst + (1 : Int)).toNat g_2.snd.1) ∧
 g_3.snd.fst ++
 (((0 : Int), (0 : Int)) :: ([] : List (Int × Int))).set (0 : Nat)
 ((g_2.snd.fst.getD g_3.snd.snd.fst.toNat
 ((0 : Int), (0 : Int))).fst,
 (g_2.snd.fst.getD g_3.snd.snd.fst.toNat
 ((0 : Int), (0 : Int))).snd) =
 xl g_2.1 (List.take (g_3.snd.snd.fst + (1 : Int)).toNat g_2.snd.1)) ∧
 ((↑g_2.snd.1.length : Int) - (g_3.snd.snd.fst + (1 : Int))).toNat <
 ((↑g_2.snd.1.length : Int) - g_3.snd.snd.fst).toNat) ∧
 ((True ∧ True) ∧
 True ∧
 True ∧
 True ∧
 Value.slice none (0 : Nat) (0 : Nat) =
 Value.slice none (0 : Nat) (0 : Nat) ∧
 g_2.snd.snd.fst = g_2.snd.snd.fst ∧
 True ∧
 x.fst = x.fst ∧
 (↑x.fst.length : Int) = (↑x.fst.length : Int) ∧
 g.snd.snd.snd.snd.snd.fst = g.snd.snd.snd.snd.snd.fst ∧
 True ∧
 (↑g_2.snd.fst.length : Int) =
 (↑g_2.snd.fst.length : Int) ∧
 g_3.snd.snd.fst + (1 : Int) =
 g_3.snd.snd.fst + (1 : Int) ∧
 True) ∧
 (g_3.fst = g_3.fst ∧
 g_3.snd.fst ++
 (((0 : Int), (0 : Int)) :: ([] : List (Int × Int))).set (0 : Nat)
 ((g_2.snd.fst.getD g_3.snd.snd.fst.toNat
 ((0 : Int), (0 : Int))).fst,
 (g_2.snd.fst.getD g_3.snd.snd.fst.toNat
 ((0 : Int), (0 : Int))).snd) =
 g_3.snd.fst ++
 (((0 : Int), (0 : Int)) :: ([] : List (Int × Int))).set (0 : Nat)
 ((g_2.snd.fst.getD g_3.snd.snd.fst.toNat
 ((0 : Int), (0 : Int))).fst,
 (g_2.snd.fst.getD g_3.snd.snd.fst.toNat
 ((0 : Int), (0 : Int))).snd) ∧
 (g_2.fst = g_2.fst ∧ True) ∧
 g.snd.snd.fst = g.snd.snd.fst ∧
 g.snd.snd.snd.fst = g.snd.snd.snd.fst ∧
 g_2.snd.fst = g_2.snd.fst ∧ True) ∧
 True) ∧
 (g_4.fst = false →
 (g_3.fst.length +
 (((0 : Int) :: ([] : List Int)).set (0 : Nat)
 (g_2.snd.fst.getD g_3.snd.snd.fst.toNat
 ((0 : Int), (0 : Int))).fst).length ≤
 (9223372036854775807 : Nat) ∧
 (g_3.fst.length +
 (((0 : Int) :: ([] : List Int)).set (0 : Nat)
 (g_2.snd.fst.getD g_3.snd.snd.fst.toNat
 ((0 : Int), (0 : Int))).fst).length +
 (g_3.fst.length +
 (((0 : Int) :: ([] : List Int)).set (0 : Nat)
 (g_2.snd.fst.getD g_3.snd.snd.fst.toNat
 ((0 : Int), (0 : Int))).fst).length) /
 (4 : Nat) +
 (192 : Nat)) *
 (8 : Nat) ≤
 (281474976710656 : Nat)) ∧
 ((-9223372036854775808 : Int) ≤ g_3.snd.snd.fst + (1 : Int) ∧
 g_3.snd.snd.fst + (1 : Int) ≤ (9223372036854775807 : Int)) ∧
 (((0 : Int) ≤ g_3.snd.snd.fst + (1 : Int) ∧
 g_3.snd.snd.fst + (1 : Int) ≤ (↑g_2.snd.1.length : Int) ∧
 g_3.fst ++
 ((0 : Int) :: ([] : List Int)).set (0 : Nat)
 (g_2.snd.fst.getD g_3.snd.snd.fst.toNat
 ((0 : Int), (0 : Int))).fst =
 g.snd.snd.snd.snd.1 ++
 xf g_2.1 (List.take (g_3.snd.snd.fst + (1 : Int)).toNat g_2.snd.1) ∧
 g_3.snd.fst =
 xl g_2.1 (List.take (g_3.snd.snd.fst + (1 : Int)).toNat g_2.snd.1)) ∧
 ((↑g_2.snd.1.length : Int) - (g_3.snd.snd.fst + (1 : Int))).toNat <
 ((↑g_2.snd.1.length : Int) - g_3.snd.snd.fst).toNat) ∧
 ((True ∧ True) ∧
 True ∧
 True ∧
 True ∧
 Value.slice none (0 : Nat) (0 : Nat) =
 Value.slice none (0 : Nat) (0 : Nat) ∧
 g_2.snd.snd.fst = g_2.snd.snd.fst ∧
 True ∧
 x.fst = x.fst ∧
 (↑x.fst.length : Int) = (↑x.fst.length : Int) ∧
 g.snd.snd.snd.snd.snd.fst = g.snd.snd.snd.snd.snd.fst ∧
 True ∧
 (↑g_2.snd.fst.length : Int) =
 (↑g_2.snd.fst.length : Int) ∧
 g_3.snd.snd.fst + (1 : Int) =
 g_3.snd.snd.fst + (1 : Int) ∧
 True) ∧
 (g_3.fst ++
 ((0 : Int) :: ([] : List Int)).set (0 : Nat)
 (g_2.snd.fst.getD g_3.snd.snd.fst.toNat
 ((0 : Int), (0 : Int))).fst =
 g_3.fst ++
 ((0 : Int) :: ([] : List Int)).set (0 : Nat)
 (g_2.snd.fst.getD g_3.snd.snd.fst.toNat
 ((0 : Int), (0 : Int))).fst ∧
 g_3.snd.fst = g_3.snd.fst ∧
 (g_2.fst = g_2.fst ∧ True) ∧
 g.snd.snd.fst = g.snd.snd.fst ∧
 g.snd.snd.snd.fst = g.snd.snd.snd.fst ∧
 g_2.snd.fst = g_2.snd.fst ∧ True) ∧
 True))) ∧
 (decide (g_3.snd.snd.fst < (↑g_2.snd.fst.length : Int)) = false →
 (g.snd.snd.fst.length + (((0 : Int) :: ([] : List Int)).set (0 : Nat) g_2.snd.snd.fst).length ≤
 (9223372036854775807 : Nat) ∧
 (g.snd.snd.fst.length + (((0 : Int) :: ([] : List Int)).set (0 : Nat) g_2.snd.snd.fst).length +
 (g.snd.snd.fst.length +
 (((0 : Int) :: ([] : List Int)).set (0 : Nat) g_2.snd.snd.fst).length) /
 (4 : Nat) +
 (192 : Nat)) *
 (8 : Nat) ≤
 (281474976710656 : Nat)) ∧
 (g.snd.snd.snd.fst.length +
 (((0 : Int) :: ([] : List Int)).set (0 : Nat) (↑g_3.fst.length : Int)).length ≤
 (9223372036854775807 : Nat) ∧
 (g.snd.snd.snd.fst.length +
 (((0 : Int) :: ([] : List Int)).set (0 : Nat) (↑g_3.fst.length : Int)).length +
 (g.snd.snd.snd.fst.length +
 (((0 : Int) :: ([] : List Int)).set (0 : Nat) (↑g_3.fst.length : Int)).length) /
 (4 : Nat) +
 (192 : Nat)) *
 (8 : Nat) ≤
 (281474976710656 : Nat)) ∧
 ((-9223372036854775808 : Int) ≤ g.snd.snd.snd.snd.snd.fst + (1 : Int) ∧
 g.snd.snd.snd.snd.snd.fst + (1 : Int) ≤ (9223372036854775807 : Int)) ∧
 (((0 : Int) ≤ g.snd.snd.snd.snd.snd.fst + (1 : Int) ∧
 g.snd.snd.snd.snd.snd.fst + (1 : Int) ≤ (↑x.fst.length : Int) ∧
 (pl (List.take (g.snd.snd.snd.snd.snd.fst + (1 : Int)).toNat x.fst)).snd =
 (g.snd.snd.fst ++ ((0 : Int) :: ([] : List Int)).set (0 : Nat) g_2.snd.snd.fst,
 g.snd.snd.snd.fst ++
 ((0 : Int) :: ([] : List Int)).set (0 : Nat) (↑g_3.fst.length : Int)) ∧
 (pl (List.take (g.snd.snd.snd.snd.snd.fst + (1 : Int)).toNat x.fst)).fst.snd.snd =
 g_3.fst ∧
 Rel (g.snd.snd.snd.snd.snd.fst + (1 : Int))
 (pl (List.take (g.snd.snd.snd.snd.snd.fst + (1 : Int)).toNat x.fst)).fst g_2.fst
 g_3.snd.fst ∧
 (↑g_3.snd.fst.length : Int) + (↑g_3.fst.length : Int) ≤
 g.snd.snd.snd.snd.snd.fst + (1 : Int) ∧
 (↑(g.snd.snd.fst ++
 ((0 : Int) :: ([] : List Int)).set (0 : Nat) g_2.snd.snd.fst).length :
 Int) =
 g.snd.snd.snd.snd.snd.fst + (1 : Int) ∧
 (↑(g.snd.snd.snd.fst ++
 ((0 : Int) :: ([] : List Int)).set (0 : Nat)
 (↑g_3.fst.length : Int)).length :
 Int) =
 g.snd.snd.snd.snd.snd.fst + (1 : Int)) ∧
 ((↑x.fst.length : Int) - (g.snd.snd.snd.snd.snd.fst + (1 : Int))).toNat <
 ((↑x.fst.length : Int) - g.snd.snd.snd.snd.snd.fst).toNat) ∧
 ((True ∧ True) ∧
 True ∧
 True ∧
 True ∧
 True ∧
 Value.slice none (0 : Nat) (0 : Nat) = Value.slice none (0 : Nat) (0 : Nat) ∧
 x.fst = x.fst ∧
 (↑x.fst.length : Int) = (↑x.fst.length : Int) ∧
 g.snd.snd.snd.snd.snd.fst + (1 : Int) =
 g.snd.snd.snd.snd.snd.fst + (1 : Int) ∧
 True) ∧
 ((g_2.fst = g_2.fst ∧ True) ∧
 g_3.snd.fst = g_3.snd.fst ∧
 g.snd.snd.fst ++ ((0 : Int) :: ([] : List Int)).set (0 : Nat) g_2.snd.snd.fst =
 g.snd.snd.fst ++ ((0 : Int) :: ([] : List Int)).set (0 : Nat) g_2.snd.snd.fst ∧
 g.snd.snd.snd.fst ++
 ((0 : Int) :: ([] : List Int)).set (0 : Nat) (↑g_3.fst.length : Int) =
 g.snd.snd.snd.fst ++
 ((0 : Int) :: ([] : List Int)).set (0 : Nat) (↑g_3.fst.length : Int) ∧
 g_3.fst = g_3.fst ∧ True) ∧
 True))) ∧
 (decide (g.snd.snd.snd.snd.snd.fst < (↑x.fst.length : Int)) = false →
 ((((0 : Int) ≤ (0 : Int) ∧
 (0 : Int) ≤ (↑g.snd.1.length : Int) ∧ ([] : List Int) = List.map (fun r ↦ r.fst) (List.take (Int.toNat (0 : Int)) g.snd.1)) ∧
 True) ∧
 (True ∧ True ∧ True ∧ True ∧ True ∧ (↑g.snd.fst.length : Int) = (↑g.snd.fst.length : Int) ∧ (0 : Int) = (0 : Int) ∧ True) ∧
 (([] : List Int) = ([] : List Int) ∧
 g.snd.snd.fst = g.snd.snd.fst ∧
 g.snd.snd.snd.fst = g.snd.snd.snd.fst ∧ g.snd.snd.snd.snd.fst = g.snd.snd.snd.snd.fst ∧ g.snd.fst = g.snd.fst ∧ True) ∧
 True) ∧
 ∀ (g_1 : List Int × Int × Unit),
 (0 : Int) ≤ g_1.snd.fst ∧
 g_1.snd.fst ≤ (↑g.snd.1.length : Int) ∧ g_1.fst = List.map (fun r ↦ r.fst) (List.take g_1.snd.fst.toNat g.snd.1) →
 (g_1.fst.length ≤ (9223372036854775807 : Nat) ∧
 ∀ (x : Int), x ∈ g_1.fst → (-9223372036854775808 : Int) ≤ x ∧ x ≤ (9223372036854775807 : Int)) ∧
 ((-9223372036854775808 : Int) ≤ g_1.snd.fst ∧ g_1.snd.fst ≤ (9223372036854775807 : Int)) ∧ True →
 (decide (g_1.snd.fst < (↑g.snd.fst.length : Int)) = true →
 ((0 : Int) ≤ g_1.snd.fst ∧ g_1.snd.fst < (↑g.snd.fst.length : Int)) ∧
 (g_1.fst.length +
 (((0 : Int) :: ([] : List Int)).set (0 : Nat)
 (g.snd.fst.getD g_1.snd.fst.toNat ((0 : Int), (0 : Int))).fst).length ≤
 (9223372036854775807 : Nat) ∧
 (g_1.fst.length +
 (((0 : Int) :: ([] : List Int)).set (0 : Nat)
 (g.snd.fst.getD g_1.snd.fst.toNat ((0 : Int), (0 : Int))).fst).length +
 (g_1.fst.length +
 (((0 : Int) :: ([] : List Int)).set (0 : Nat)
 (g.snd.fst.getD g_1.snd.fst.toNat ((0 : Int), (0 : Int))).fst).length) /
 (4 : Nat) +
 (192 : Nat)) *
 (8 : Nat) ≤
 (281474976710656 : Nat)) ∧
 ((-9223372036854775808 : Int) ≤ g_1.snd.fst + (1 : Int) ∧ g_1.snd.fst + (1 : Int) ≤ (9223372036854775807 : Int)) ∧
 (((0 : Int) ≤ g_1.snd.fst + (1 : Int) ∧
 g_1.snd.fst + (1 : Int) ≤ (↑g.snd.1.length : Int) ∧
 g_1.fst ++
 ((0 : Int) :: ([] : List Int)).set (0 : Nat) (g.snd.fst.getD g_1.snd.fst.toNat ((0 : Int), (0 : Int))).fst =
 List.map (fun r ↦ r.fst) (List.take (g_1.snd.fst + (1 : Int)).toNat g.snd.1)) ∧
 ((↑g.snd.1.length : Int) - (g_1.snd.fst + (1 : Int))).toNat < ((↑g.snd.1.length : Int) - g_1.snd.fst).toNat) ∧
 (True ∧
 True ∧
 True ∧
 True ∧
 True ∧
 (↑g.snd.fst.length : Int) = (↑g.snd.fst.length : Int) ∧
 g_1.snd.fst + (1 : Int) = g_1.snd.fst + (1 : Int) ∧ True) ∧
 (g_1.fst ++
 ((0 : Int) :: ([] : List Int)).set (0 : Nat) (g.snd.fst.getD g_1.snd.fst.toNat ((0 : Int), (0 : Int))).fst =
 g_1.fst ++
 ((0 : Int) :: ([] : List Int)).set (0 : Nat) (g.snd.fst.getD g_1.snd.fst.toNat ((0 : Int), (0 : Int))).fst ∧
 g.snd.snd.fst = g.snd.snd.fst ∧
 g.snd.snd.snd.fst = g.snd.snd.snd.fst ∧
 g.snd.snd.snd.snd.fst = g.snd.snd.snd.snd.fst ∧ g.snd.fst = g.snd.fst ∧ True) ∧
 True) ∧
 (decide (g_1.snd.fst < (↑g.snd.fst.length : Int)) = false →
 g.snd.snd.fst = (play x.fst).fst ∧
 g.snd.snd.snd.fst = (play x.fst).snd.fst ∧
 g.snd.snd.snd.snd.fst = (play x.fst).snd.snd.fst ∧ g_1.fst = (play x.fst).snd.snd.snd.fst))

theorem E_xplay_eq (x : HL (cPlay : Ctr).as) : vc (fx_xplay x) 1 20 Try.f20 (cPlay) x = E_xplay x := by kernel_rfl

def E_plays (x : List (Int × Int × Int) × Unit) : Prop :=
 Holds (x.fst.length * (24 : Nat) ≤ (140737488355328 : Nat)) ∧
 Holds (x.fst.length * (24 : Nat) ≤ (140737488355328 : Nat)) ∧
 Holds True ∧
 (decide ((play x.fst).fst = (play x.fst).fst) = true →
 (decide ((play x.fst).fst = (play x.fst).fst) = true ∧ decide ((play x.fst).fst = (play x.fst).fst) = true) ∧ Holds True) ∧
 (decide ((play x.fst).fst = (play x.fst).fst) = true → decide ((play x.fst).fst = (play x.fst).fst) = true) ∧
 ((decide ((play x.fst).fst = (play x.fst).fst) && decide ((play x.fst).snd.fst = (play x.fst).snd.fst)) = true →
 ((decide ((play x.fst).fst = (play x.fst).fst) && decide ((play x.fst).snd.fst = (play x.fst).snd.fst)) = true ∧
 (decide ((play x.fst).fst = (play x.fst).fst) && decide ((play x.fst).snd.fst = (play x.fst).snd.fst)) = true) ∧
 Holds True) ∧
 ((decide ((play x.fst).fst = (play x.fst).fst) && decide ((play x.fst).snd.fst = (play x.fst).snd.fst)) = true →
 (decide ((play x.fst).fst = (play x.fst).fst) && decide ((play x.fst).snd.fst = (play x.fst).snd.fst)) = true) ∧
 ((decide ((play x.fst).fst = (play x.fst).fst) && decide ((play x.fst).snd.fst = (play x.fst).snd.fst) &&
 decide ((play x.fst).snd.snd.fst = (play x.fst).snd.snd.fst)) =
 true →
 ((decide ((play x.fst).fst = (play x.fst).fst) && decide ((play x.fst).snd.fst = (play x.fst).snd.fst) &&
 decide ((play x.fst).snd.snd.fst = (play x.fst).snd.snd.fst)) =
 true ∧
 (decide ((play x.fst).fst = (play x.fst).fst) && decide ((play x.fst).snd.fst = (play x.fst).snd.fst) &&
 decide ((play x.fst).snd.snd.fst = (play x.fst).snd.snd.fst)) =
 true) ∧
 Holds True) ∧
 ((decide ((play x.fst).fst = (play x.fst).fst) && decide ((play x.fst).snd.fst = (play x.fst).snd.fst) &&
 decide ((play x.fst).snd.snd.fst = (play x.fst).snd.snd.fst)) =
 true →
 (decide ((play x.fst).fst = (play x.fst).fst) && decide ((play x.fst).snd.fst = (play x.fst).snd.fst) &&
 decide ((play x.fst).snd.snd.fst = (play x.fst).snd.snd.fst)) =
 true) ∧
 (decide ((play x.fst).fst = (play x.fst).fst) && decide ((play x.fst).snd.fst = (play x.fst).snd.fst) &&
 decide ((play x.fst).snd.snd.fst = (play x.fst).snd.snd.fst) &&
 decide ((play x.fst).snd.snd.snd.fst = (play x.fst).snd.snd.snd.fst)) =
 true

theorem E_plays_eq (x : HL (cLaw : Ctr).as) : vc (fx_plays x) 1 4 Try.f4 (cLaw) x = E_plays x := by kernel_rfl

end Go.Proofs.Ytmcepjbbbkgfcaa.Grace
