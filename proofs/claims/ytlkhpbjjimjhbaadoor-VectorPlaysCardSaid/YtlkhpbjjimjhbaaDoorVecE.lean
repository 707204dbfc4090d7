/-
  The conditions that the executor comes to, written out (by a tool of ours), and that they are the conditions (by the kernel).
-/
import Derived.Test.YtlkhpbjjimjhbaaDoorVecE0
namespace Go.Proofs.YtlkhpbjjimjhbaaDoor.Vec
open Go.Sx
set_option maxRecDepth 100000

def E_dplay (x : Int × Int × List (Int × Int × Int) × Unit) : Prop :=
 ((!decide (x.fst < (1 : Int))) = true → (!decide (x.fst < (1 : Int))) = true) ∧
 (decide (x.fst < (1 : Int)) = false → (!decide (x.fst < (1 : Int))) = true) ∧
 ((!(decide (x.fst < (1 : Int)) || decide ((8 : Int) < x.fst))) = true → (!(decide (x.fst < (1 : Int)) || decide ((8 : Int) < x.fst))) = true) ∧
 ((decide (x.fst < (1 : Int)) || decide ((8 : Int) < x.fst)) = false → (!(decide (x.fst < (1 : Int)) || decide ((8 : Int) < x.fst))) = true) ∧
 ((!(decide (x.fst < (1 : Int)) || decide ((8 : Int) < x.fst) || decide (x.snd.fst < (0 : Int)))) = true →
 (!(decide (x.fst < (1 : Int)) || decide ((8 : Int) < x.fst) || decide (x.snd.fst < (0 : Int)))) = true) ∧
 ((decide (x.fst < (1 : Int)) || decide ((8 : Int) < x.fst) || decide (x.snd.fst < (0 : Int))) = false →
 (!(decide (x.fst < (1 : Int)) || decide ((8 : Int) < x.fst) || decide (x.snd.fst < (0 : Int)))) = true) ∧
 ((decide (x.fst < (1 : Int)) || decide ((8 : Int) < x.fst) || decide (x.snd.fst < (0 : Int)) || decide ((2000 : Int) < x.snd.fst)) =
 true →
 ([] : List Int) = (playV x).fst ∧ ([] : List (Int × Int)) = (playV x).snd.fst ∧ (2 : Int) = (playV x).snd.snd.fst) ∧
 ((decide (x.fst < (1 : Int)) || decide ((8 : Int) < x.fst) || decide (x.snd.fst < (0 : Int)) || decide ((2000 : Int) < x.snd.fst)) =
 false →
 (((0 : Int) ≤ x.snd.fst ∧ x.snd.fst ≤ x.snd.fst) ∧
 x.snd.fst * (↑(16 : Nat) : Int) ≤ (140737488355328 : Int) ∧ x.snd.fst ≤ (9223372036854775807 : Int)) ∧
 ((((0 : Int) ≤ (0 : Int) ∧
 (0 : Int) ≤ (↑x.snd.snd.fst.length : Int) ∧
 plV x.fst x.snd.fst (List.take (Int.toNat (0 : Int)) x.snd.snd.fst) =
 (List.replicate x.snd.fst.toNat ((0 : Int), (0 : Int)), ([] : List Int)) ∧
 (↑([] : List Int).length : Int) = (0 : Int) ∧
 ∀ (s : Int × Int), s ∈ List.replicate x.snd.fst.toNat ((0 : Int), (0 : Int)) → okSlot x.fst s) ∧
 True) ∧
 (x.snd.fst = x.snd.fst ∧
 (True ∧ True) ∧
 True ∧
 True ∧
 x.snd.snd.fst = x.snd.snd.fst ∧
 (↑x.snd.snd.fst.length : Int) = (↑x.snd.snd.fst.length : Int) ∧ (0 : Int) = (0 : Int) ∧ True) ∧
 ((True ∧ True) ∧
 List.replicate x.snd.fst.toNat ((0 : Int), (0 : Int)) = List.replicate x.snd.fst.toNat ((0 : Int), (0 : Int)) ∧
 ([] : List Int) = ([] : List Int) ∧ (True ∧ (True ∧ True) ∧ (True ∧ True) ∧ True) ∧ (x.fst = x.fst ∧ True) ∧ True) ∧
 True) ∧
 ∀ (g : List (Int × Int) × List Int × Int × Unit),
 ((0 : Int) ≤ g.snd.snd.fst ∧
 g.snd.snd.fst ≤ (↑x.snd.snd.fst.length : Int) ∧
 plV x.fst x.snd.fst (List.take g.snd.snd.fst.toNat x.snd.snd.fst) = (g.fst, g.snd.fst) ∧
 (↑g.snd.fst.length : Int) = g.snd.snd.fst ∧ ∀ (s : Int × Int), s ∈ g.fst → okSlot x.fst s) →
 (g.fst.length ≤ (9223372036854775807 : Nat) ∧
 ∀ (x : Int × Int),
 x ∈ g.fst →
 ((-9223372036854775808 : Int) ≤ x.fst ∧ x.fst ≤ (9223372036854775807 : Int)) ∧
 (-9223372036854775808 : Int) ≤ x.snd ∧ x.snd ≤ (9223372036854775807 : Int)) ∧
 (g.snd.fst.length ≤ (9223372036854775807 : Nat) ∧
 ∀ (x : Int), x ∈ g.snd.fst → (-9223372036854775808 : Int) ≤ x ∧ x ≤ (9223372036854775807 : Int)) ∧
 ((-9223372036854775808 : Int) ≤ g.snd.snd.fst ∧ g.snd.snd.fst ≤ (9223372036854775807 : Int)) ∧ True →
 (decide (g.snd.snd.fst < (↑x.snd.snd.fst.length : Int)) = true →
 ((0 : Int) ≤ g.snd.snd.fst ∧ g.snd.snd.fst < (↑x.snd.snd.fst.length : Int)) ∧
 ((((x.snd.snd.fst.getD g.snd.snd.fst.toNat ((0 : Int), (0 : Int), (0 : Int))).fst != (1 : Int)) = true →
 ((x.snd.snd.fst.getD g.snd.snd.fst.toNat ((0 : Int), (0 : Int), (0 : Int))).fst != (1 : Int)) = true) ∧
 (((x.snd.snd.fst.getD g.snd.snd.fst.toNat ((0 : Int), (0 : Int), (0 : Int))).fst != (1 : Int)) = true →
 ((x.snd.snd.fst.getD g.snd.snd.fst.toNat ((0 : Int), (0 : Int), (0 : Int))).fst != (1 : Int)) = true) ∧
 (((x.snd.snd.fst.getD g.snd.snd.fst.toNat ((0 : Int), (0 : Int), (0 : Int))).fst != (1 : Int)) = true →
 ((x.snd.snd.fst.getD g.snd.snd.fst.toNat ((0 : Int), (0 : Int), (0 : Int))).fst != (1 : Int)) = true) ∧
 (((x.snd.snd.fst.getD g.snd.snd.fst.toNat ((0 : Int), (0 : Int), (0 : Int))).fst != (1 : Int) &&
 (x.snd.snd.fst.getD g.snd.snd.fst.toNat ((0 : Int), (0 : Int), (0 : Int))).fst != (2 : Int)) =
 true →
 ((x.snd.snd.fst.getD g.snd.snd.fst.toNat ((0 : Int), (0 : Int), (0 : Int))).fst != (1 : Int) &&
 (x.snd.snd.fst.getD g.snd.snd.fst.toNat ((0 : Int), (0 : Int), (0 : Int))).fst != (2 : Int)) =
 true) ∧
 (((x.snd.snd.fst.getD g.snd.snd.fst.toNat ((0 : Int), (0 : Int), (0 : Int))).fst != (1 : Int) &&
 (x.snd.snd.fst.getD g.snd.snd.fst.toNat ((0 : Int), (0 : Int), (0 : Int))).fst != (2 : Int)) =
 true →
 ((x.snd.snd.fst.getD g.snd.snd.fst.toNat ((0 : Int), (0 : Int), (0 : Int))).fst != (1 : Int) &&
 (x.snd.snd.fst.getD g.snd.snd.fst.toNat ((0 : Int), (0 : Int), (0 : Int))).fst != (2 : Int)) =
 true) ∧
 (((x.snd.snd.fst.getD g.snd.snd.fst.toNat ((0 : Int), (0 : Int), (0 : Int))).fst != (1 : Int) &&
 (x.snd.snd.fst.getD g.snd.snd.fst.toNat ((0 : Int), (0 : Int), (0 : Int))).fst != (2 : Int)) =
 true →
 ((x.snd.snd.fst.getD g.snd.snd.fst.toNat ((0 : Int), (0 : Int), (0 : Int))).fst != (1 : Int) &&
 (x.snd.snd.fst.getD g.snd.snd.fst.toNat ((0 : Int), (0 : Int), (0 : Int))).fst != (2 : Int)) =
 true) ∧
 (((x.snd.snd.fst.getD g.snd.snd.fst.toNat ((0 : Int), (0 : Int), (0 : Int))).fst != (1 : Int) &&
 (x.snd.snd.fst.getD g.snd.snd.fst.toNat ((0 : Int), (0 : Int), (0 : Int))).fst != (2 : Int) &&
 (x.snd.snd.fst.getD g.snd.snd.fst.toNat ((0 : Int), (0 : Int), (0 : Int))).fst != (3 : Int)) =
 true →
 ((g.fst, (5 : Int)) =
 stepV x.fst g.fst
 ((x.snd.snd.fst.getD g.snd.snd.fst.toNat ((0 : Int), (0 : Int), (0 : Int))).fst,
 (x.snd.snd.fst.getD g.snd.snd.fst.toNat ((0 : Int), (0 : Int), (0 : Int))).snd.fst,
 (x.snd.snd.fst.getD g.snd.snd.fst.toNat ((0 : Int), (0 : Int), (0 : Int))).snd.snd) ∧
 True) ∧
 (x.snd.fst = x.snd.fst ∧
 (True ∧ True) ∧
 True ∧
 True ∧
 (5 : Int) = (5 : Int) ∧
 x.snd.snd.fst = x.snd.snd.fst ∧
 (↑x.snd.snd.fst.length : Int) = (↑x.snd.snd.fst.length : Int) ∧
 g.snd.snd.fst = g.snd.snd.fst ∧ True) ∧
 ((True ∧ True) ∧
 g.fst = g.fst ∧
 (True ∧ (True ∧ True) ∧ (True ∧ True) ∧ True) ∧
 (x.fst = x.fst ∧ True) ∧ g.snd.fst = g.snd.fst ∧ True) ∧
 True) ∧
 (((x.snd.snd.fst.getD g.snd.snd.fst.toNat ((0 : Int), (0 : Int), (0 : Int))).fst != (1 : Int) &&
 (x.snd.snd.fst.getD g.snd.snd.fst.toNat ((0 : Int), (0 : Int), (0 : Int))).fst != (2 : Int) &&
 (x.snd.snd.fst.getD g.snd.snd.fst.toNat ((0 : Int), (0 : Int), (0 : Int))).fst != (3 : Int)) =
 false →
 ((!decide
 ((x.snd.snd.fst.getD g.snd.snd.fst.toNat ((0 : Int), (0 : Int), (0 : Int))).snd.fst <
 (0 : Int))) =
 true →
 (!decide
 ((x.snd.snd.fst.getD g.snd.snd.fst.toNat ((0 : Int), (0 : Int), (0 : Int))).snd.fst <
 (0 : Int))) =
 true) ∧
 ((!decide
 ((x.snd.snd.fst.getD g.snd.snd.fst.toNat ((0 : Int), (0 : Int), (0 : Int))).snd.fst <
 (0 : Int))) =
 true →
 (!decide
 ((x.snd.snd.fst.getD g.snd.snd.fst.toNat ((0 : Int), (0 : Int), (0 : Int))).snd.fst <
 (0 : Int))) =
 true ∧
 (!decide
 ((x.snd.snd.fst.getD g.snd.snd.fst.toNat ((0 : Int), (0 : Int), (0 : Int))).snd.fst <
 (0 : Int))) =
 true) ∧
 (decide
 ((x.snd.snd.fst.getD g.snd.snd.fst.toNat ((0 : Int), (0 : Int), (0 : Int))).snd.fst <
 (0 : Int)) =
 false →
 (!decide
 ((x.snd.snd.fst.getD g.snd.snd.fst.toNat ((0 : Int), (0 : Int), (0 : Int))).snd.fst <
 (0 : Int))) =
 true) ∧
 ((decide
 ((x.snd.snd.fst.getD g.snd.snd.fst.toNat
 ((0 : Int), (0 : Int), (0 : Int))).snd.fst <
 (0 : Int)) ||
 decide
 (x.snd.fst ≤
 (x.snd.snd.fst.getD g.snd.snd.fst.toNat
 ((0 : Int), (0 : Int), (0 : Int))).snd.fst)) =
 true →
 ((g.fst, (2 : Int)) =
 stepV x.fst g.fst
 ((x.snd.snd.fst.getD g.snd.snd.fst.toNat ((0 : Int), (0 : Int), (0 : Int))).fst,
 (x.snd.snd.fst.getD g.snd.snd.fst.toNat
 ((0 : Int), (0 : Int), (0 : Int))).snd.fst,
 (x.snd.snd.fst.getD g.snd.snd.fst.toNat
 ((0 : Int), (0 : Int), (0 : Int))).snd.snd) ∧
 True) ∧
 (x.snd.fst = x.snd.fst ∧
 (True ∧ True) ∧
 True ∧
 True ∧
 (2 : Int) = (2 : Int) ∧
 x.snd.snd.fst = x.snd.snd.fst ∧
 (↑x.snd.snd.fst.length : Int) = (↑x.snd.snd.fst.length : Int) ∧
 g.snd.snd.fst = g.snd.snd.fst ∧ True) ∧
 ((True ∧ True) ∧
 g.fst = g.fst ∧
 (True ∧ (True ∧ True) ∧ (True ∧ True) ∧ True) ∧
 (x.fst = x.fst ∧ True) ∧ g.snd.fst = g.snd.fst ∧ True) ∧
 True) ∧
 ((decide
 ((x.snd.snd.fst.getD g.snd.snd.fst.toNat
 ((0 : Int), (0 : Int), (0 : Int))).snd.fst <
 (0 : Int)) ||
 decide
 (x.snd.fst ≤
 (x.snd.snd.fst.getD g.snd.snd.fst.toNat
 ((0 : Int), (0 : Int), (0 : Int))).snd.fst)) =
 false →
 (((x.snd.snd.fst.getD g.snd.snd.fst.toNat ((0 : Int), (0 : Int), (0 : Int))).fst ==
 (1 : Int)) =
 true →
 ((x.snd.snd.fst.getD g.snd.snd.fst.toNat ((0 : Int), (0 : Int), (0 : Int))).fst ==
 (1 : Int)) =
 true) ∧
 (((x.snd.snd.fst.getD g.snd.snd.fst.toNat ((0 : Int), (0 : Int), (0 : Int))).fst ==
 (1 : Int)) =
 true →
 (((x.snd.snd.fst.getD g.snd.snd.fst.toNat ((0 : Int), (0 : Int), (0 : Int))).fst ==
 (1 : Int)) =
 true ∧
 ((x.snd.snd.fst.getD g.snd.snd.fst.toNat
 ((0 : Int), (0 : Int), (0 : Int))).fst ==
 (1 : Int)) =
 true) ∧
 (0 : Int) ≤
 (x.snd.snd.fst.getD g.snd.snd.fst.toNat
 ((0 : Int), (0 : Int), (0 : Int))).snd.fst ∧
 (x.snd.snd.fst.getD g.snd.snd.fst.toNat
 ((0 : Int), (0 : Int), (0 : Int))).snd.fst <
 (↑g.fst.length : Int)) ∧
 (((x.snd.snd.fst.getD g.snd.snd.fst.toNat ((0 : Int), (0 : Int), (0 : Int))).fst ==
 (1 : Int)) =
 true →
 ((x.snd.snd.fst.getD g.snd.snd.fst.toNat ((0 : Int), (0 : Int), (0 : Int))).fst ==
 (1 : Int)) =
 true) ∧
 (((x.snd.snd.fst.getD g.snd.snd.fst.toNat ((0 : Int), (0 : Int), (0 : Int))).fst ==
 (1 : Int)) =
 true →
 ((x.snd.snd.fst.getD g.snd.snd.fst.toNat
 ((0 : Int), (0 : Int), (0 : Int))).fst ==
 (1 : Int)) =
 true) ∧
 (((x.snd.snd.fst.getD g.snd.snd.fst.toNat
 ((0 : Int), (0 : Int), (0 : Int))).fst ==
 (1 : Int)) =
 true →
 ((x.snd.snd.fst.getD g.snd.snd.fst.toNat
 ((0 : Int), (0 : Int), (0 : Int))).fst ==
 (1 : Int)) =
 true) ∧
 (((x.snd.snd.fst.getD g.snd.snd.fst.toNat
 ((0 : Int), (0 : Int), (0 : Int))).fst ==
 (1 : Int)) =
 true →
 ((x.snd.snd.fst.getD g.snd.snd.fst.toNat
 ((0 : Int), (0 : Int), (0 : Int))).fst ==
 (1 : Int)) =
 true) ∧
 (((x.snd.snd.fst.getD g.snd.snd.fst.toNat
 ((0 : Int), (0 : Int), (0 : Int))).fst ==
 (1 : Int) &&
 decide
 ((0 : Int) <
 (g.fst.getD
 (x.snd.snd.fst.getD g.snd.snd.fst.toNat
 ((0 : Int), (0 : Int), (0 : Int))).snd.fst.toNat
 ((0 : Int), (0 : Int))).snd)) =
 true →
 ((g.fst, (6 : Int)) =
 stepV x.fst g.fst
 ((x.snd.snd.fst.getD g.snd.snd.fst.toNat
 ((0 : Int), (0 : Int), (0 : Int))).fst,
 (x.snd.snd.fst.getD g.snd.snd.fst.toNat
 ((0 : Int), (0 : Int), (0 : Int))).snd.fst,
 (x.snd.snd.fst.getD g.snd.snd.fst.toNat
 ((0 : Int), (0 : Int), (0 : Int))).snd.snd) ∧
 True) ∧
 (x.snd.fst = x.snd.fst ∧
 (True ∧ True) ∧
 True ∧
 True ∧
 (6 : Int) = (6 : Int) ∧
 x.snd.snd.fst = x.snd.snd.fst ∧
 (↑x.snd.snd.fst.length : Int) =
 (↑x.snd.snd.fst.length : Int) ∧
 g.snd.snd.fst = g.snd.snd.fst ∧ True) ∧
 ((True ∧ True) ∧
 g.fst = g.fst ∧
 (True ∧ (True ∧ True) ∧ (True ∧ True) ∧ True) ∧
 (x.fst = x.fst ∧ True) ∧ g.snd.fst = g.snd.fst ∧ True) ∧
 True) ∧
 (((x.snd.snd.fst.getD g.snd.snd.fst.toNat
 ((0 : Int), (0 : Int), (0 : Int))).fst ==
 (1 : Int) &&
 decide
 ((0 : Int) <
 (g.fst.getD
 (x.snd.snd.fst.getD g.snd.snd.fst.toNat
 ((0 : Int), (0 : Int), (0 : Int))).snd.fst.toNat
 ((0 : Int), (0 : Int))).snd)) =
 false →
 (((x.snd.snd.fst.getD g.snd.snd.fst.toNat
 ((0 : Int), (0 : Int), (0 : Int))).fst !=
 (1 : Int)) =
 true →
 ((x.snd.snd.fst.getD g.snd.snd.fst.toNat
 ((0 : Int), (0 : Int), (0 : Int))).fst !=
 (1 : Int)) =
 true) ∧
 (((x.snd.snd.fst.getD g.snd.snd.fst.toNat
 ((0 : Int), (0 : Int), (0 : Int))).fst !=
 (1 : Int)) =
 true →
 (((x.snd.snd.fst.getD g.snd.snd.fst.toNat
 ((0 : Int), (0 : Int), (0 : Int))).fst !=
 (1 : Int)) =
 true ∧
 ((x.snd.snd.fst.getD g.snd.snd.fst.toNat
 ((0 : Int), (0 : Int), (0 : Int))).fst !=
 (1 : Int)) =
 true) ∧
 (0 : Int) ≤
 (x.snd.snd.fst.getD g.snd.snd.fst.toNat
 ((0 : Int), (0 : Int), (0 : Int))).snd.fst ∧
 (x.snd.snd.fst.getD g.snd.snd.fst.toNat
 ((0 : Int), (0 : Int), (0 : Int))).snd.fst <
 (↑g.fst.length : Int)) ∧
 (((x.snd.snd.fst.getD g.snd.snd.fst.toNat
 ((0 : Int), (0 : Int), (0 : Int))).fst !=
 (1 : Int)) =
 true →
 ((x.snd.snd.fst.getD g.snd.snd.fst.toNat
 ((0 : Int), (0 : Int), (0 : Int))).fst !=
 (1 : Int)) =
 true) ∧
 (((x.snd.snd.fst.getD g.snd.snd.fst.toNat
 ((0 : Int), (0 : Int), (0 : Int))).fst !=
 (1 : Int)) =
 true →
 ((x.snd.snd.fst.getD g.snd.snd.fst.toNat
 ((0 : Int), (0 : Int), (0 : Int))).fst !=
 (1 : Int)) =
 true) ∧
 (((x.snd.snd.fst.getD g.snd.snd.fst.toNat
 ((0 : Int), (0 : Int), (0 : Int))).fst !=
 (1 : Int)) =
 true →
 ((x.snd.snd.fst.getD g.snd.snd.fst.toNat
 ((0 : Int), (0 : Int), (0 : Int))).fst !=
 (1 : Int)) =
 true) ∧
 (((x.snd.snd.fst.getD g.snd.snd.fst.toNat
 ((0 : Int), (0 : Int), (0 : Int))).fst !=
 (1 : Int)) =
 true →
 ((x.snd.snd.fst.getD g.snd.snd.fst.toNat
 ((0 : Int), (0 : Int), (0 : Int))).fst !=
 (1 : Int)) =
 true) ∧
 (((x.snd.snd.fst.getD g.snd.snd.fst.toNat
 ((0 : Int), (0 : Int), (0 : Int))).fst !=
 (1 : Int) &&
 (g.fst.getD
 (x.snd.snd.fst.getD g.snd.snd.fst.toNat
 ((0 : Int), (0 : Int),
 (0 : Int))).snd.fst.toNat
 ((0 : Int), (0 : Int))).snd ==
 (0 : Int)) =
 true →
 ((g.fst, (3 : Int)) =
 stepV x.fst g.fst
 ((x.snd.snd.fst.getD g.snd.snd.fst.toNat
 ((0 : Int), (0 : Int), (0 : Int))).fst,
 (x.snd.snd.fst.getD g.snd.snd.fst.toNat
 ((0 : Int), (0 : Int),
 (0 : Int))).snd.fst,
 (x.snd.snd.fst.getD g.snd.snd.fst.toNat
 ((0 : Int), (0 : Int),
 (0 : Int))).snd.snd) ∧
 True) ∧
 (x.snd.fst = x.snd.fst ∧
 (True ∧ True) ∧
 True ∧
 True ∧
 (3 : Int) = (3 : Int) ∧
 x.snd.snd.fst = x.snd.snd.fst ∧
 (↑x.snd.snd.fst.length : Int) =
 (↑x.snd.snd.fst.length : Int) ∧
 g.snd.snd.fst = g.snd.snd.fst ∧ True) ∧
 ((True ∧ True) ∧
 g.fst = g.fst ∧
 (True ∧ (True ∧ True) ∧ (True ∧ True) ∧ True) ∧
 (x.fst = x.fst ∧ True) ∧
 g.snd.fst = g.snd.fst ∧ True) ∧
 True) ∧
 (((x.snd.snd.fst.getD g.snd.snd.fst.toNat
 ((0 : Int), (0 : Int), (0 : Int))).fst !=
 (1 : Int) &&
 (g.fst.getD
 (x.snd.snd.fst.getD g.snd.snd.fst.toNat
 ((0 : Int), (0 : Int),
 (0 : Int))).snd.fst.toNat
 ((0 : Int), (0 : Int))).snd ==
 (0 : Int)) =
 false →
 (((x.snd.snd.fst.getD g.snd.snd.fst.toNat
 ((0 : Int), (0 : Int), (0 : Int))).fst ==
 (2 : Int)) =
 true →
 ((0 : Int) ≤
 (x.snd.snd.fst.getD g.snd.snd.fst.toNat
 ((0 : Int), (0 : Int),
 (0 : Int))).snd.fst ∧
 (x.snd.snd.fst.getD g.snd.snd.fst.toNat
 ((0 : Int), (0 : Int),
 (0 : Int))).snd.fst <
 (↑g.fst.length : Int)) ∧
 ((g.fst.set
 (x.snd.snd.fst.getD g.snd.snd.fst.toNat
 ((0 : Int), (0 : Int),
 (0 : Int))).snd.fst.toNat
 ((0 : Int), (0 : Int)),
 (0 : Int)) =
 stepV x.fst g.fst
 ((x.snd.snd.fst.getD g.snd.snd.fst.toNat
 ((0 : Int), (0 : Int),
 (0 : Int))).fst,
 (x.snd.snd.fst.getD g.snd.snd.fst.toNat
 ((0 : Int), (0 : Int),
 (0 : Int))).snd.fst,
 (x.snd.snd.fst.getD g.snd.snd.fst.toNat
 ((0 : Int), (0 : Int),
 (0 : Int))).snd.snd) ∧
 True) ∧
 (x.snd.fst = x.snd.fst ∧
 (True ∧ True) ∧
 True ∧
 True ∧
 (0 : Int) = (0 : Int) ∧
 x.snd.snd.fst = x.snd.snd.fst ∧
 (↑x.snd.snd.fst.length : Int) =
 (↑x.snd.snd.fst.length : Int) ∧
 g.snd.snd.fst = g.snd.snd.fst ∧
 True) ∧
 ((True ∧ True) ∧
 g.fst.set
 (x.snd.snd.fst.getD
 g.snd.snd.fst.toNat
 ((0 : Int), (0 : Int),
 (0 : Int))).snd.fst.toNat
 ((0 : Int), (0 : Int)) =
 g.fst.set
 (x.snd.snd.fst.getD
 g.snd.snd.fst.toNat
 ((0 : Int), (0 : Int),
 (0 : Int))).snd.fst.toNat
 ((0 : Int), (0 : Int)) ∧
 (True ∧
 (True ∧ True) ∧
 (True ∧ True) ∧ True) ∧
 (x.fst = x.fst ∧ True) ∧
 g.snd.fst = g.snd.fst ∧ True) ∧
 True) ∧
 (((x.snd.snd.fst.getD g.snd.snd.fst.toNat
 ((0 : Int), (0 : Int), (0 : Int))).fst ==
 (2 : Int)) =
 false →
 ((((x.snd.snd.fst.getD g.snd.snd.fst.toNat
 ((0 : Int), (0 : Int),
 (0 : Int))).fst ==
 (3 : Int)) =
 true →
 ((0 : Int) ≤
 (x.snd.snd.fst.getD g.snd.snd.fst.toNat
 ((0 : Int), (0 : Int),
 (0 : Int))).snd.fst ∧
 (x.snd.snd.fst.getD g.snd.snd.fst.toNat
 ((0 : Int), (0 : Int),
 (0 : Int))).snd.fst <
 (↑g.fst.length : Int)) ∧
 (((g.fst.getD
 (x.snd.snd.fst.getD
 g.snd.snd.fst.toNat
 ((0 : Int), (0 : Int),
 (0 : Int))).snd.fst.toNat
 ((0 : Int), (0 : Int))).fst =
 if
 (x.snd.snd.fst.getD
 g.snd.snd.fst.toNat
 ((0 : Int), (0 : Int),
 (0 : Int))).fst =
 (3 : Int) then
 (g.fst.getD
 (x.snd.snd.fst.getD
 g.snd.snd.fst.toNat
 ((0 : Int), (0 : Int),
 (0 :
 Int))).snd.fst.toNat
 ((0 : Int), (0 : Int))).fst
 else (-1 : Int)) ∧
 True) ∧
 (x.snd.fst = x.snd.fst ∧
 (True ∧ True) ∧
 True ∧
 True ∧
 (True ∧ True) ∧
 (0 : Int) = (0 : Int) ∧
 (g.fst.getD
 (x.snd.snd.fst.getD
 g.snd.snd.fst.toNat
 ((0 : Int),
 (0 : Int),
 (0 :
 Int))).snd.fst.toNat
 ((0 : Int),
 (0 : Int))).fst =
 (g.fst.getD
 (x.snd.snd.fst.getD
 g.snd.snd.fst.toNat
 ((0 : Int),
 (0 : Int),
 (0 :
 Int))).snd.fst.toNat
 ((0 : Int),
 (0 : Int))).fst ∧
 x.snd.snd.fst =
 x.snd.snd.fst ∧
 (↑x.snd.snd.fst.length :
 Int) =
 (↑x.snd.snd.fst.length :
 Int) ∧
 g.snd.snd.fst =
 g.snd.snd.fst ∧
 True) ∧
 ((True ∧ True) ∧
 g.fst = g.fst ∧
 (True ∧
 (True ∧ True) ∧
 (True ∧ True) ∧ True) ∧
 (x.fst = x.fst ∧ True) ∧
 g.snd.fst = g.snd.fst ∧
 ((x.snd.snd.fst.getD
 g.snd.snd.fst.toNat
 ((0 : Int),
 (0 : Int),
 (0 : Int))).fst =
 (x.snd.snd.fst.getD
 g.snd.snd.fst.toNat
 ((0 : Int),
 (0 : Int),
 (0 : Int))).fst ∧
 (x.snd.snd.fst.getD
 g.snd.snd.fst.toNat
 ((0 : Int),
 (0 : Int),
 (0 :
 Int))).snd.fst =
 (x.snd.snd.fst.getD
 g.snd.snd.fst.toNat
 ((0 : Int),
 (0 : Int),
 (0 :
 Int))).snd.fst ∧
 (x.snd.snd.fst.getD
 g.snd.snd.fst.toNat
 ((0 : Int),
 (0 : Int),
 (0 :
 Int))).snd.snd =
 (x.snd.snd.fst.getD
 g.snd.snd.fst.toNat
 ((0 : Int),
 (0 : Int),
 (0 :
 Int))).snd.snd ∧
 True) ∧
 True) ∧
 True) ∧
 (((x.snd.snd.fst.getD g.snd.snd.fst.toNat
 ((0 : Int), (0 : Int),
 (0 : Int))).fst ==
 (3 : Int)) =
 false →
 (((-1 : Int) =
 if
 (x.snd.snd.fst.getD
 g.snd.snd.fst.toNat
 ((0 : Int), (0 : Int),
 (0 : Int))).fst =
 (3 : Int) then
 (g.fst.getD
 (x.snd.snd.fst.getD
 g.snd.snd.fst.toNat
 ((0 : Int), (0 : Int),
 (0 : Int))).snd.fst.toNat
 ((0 : Int), (0 : Int))).fst
 else (-1 : Int)) ∧
 True) ∧
 (x.snd.fst = x.snd.fst ∧
 (True ∧ True) ∧
 True ∧
 True ∧
 (True ∧ True) ∧
 (0 : Int) = (0 : Int) ∧
 (-1 : Int) = (-1 : Int) ∧
 x.snd.snd.fst =
 x.snd.snd.fst ∧
 (↑x.snd.snd.fst.length :
 Int) =
 (↑x.snd.snd.fst.length :
 Int) ∧
 g.snd.snd.fst =
 g.snd.snd.fst ∧
 True) ∧
 ((True ∧ True) ∧
 g.fst = g.fst ∧
 (True ∧
 (True ∧ True) ∧
 (True ∧ True) ∧ True) ∧
 (x.fst = x.fst ∧ True) ∧
 g.snd.fst = g.snd.fst ∧
 ((x.snd.snd.fst.getD
 g.snd.snd.fst.toNat
 ((0 : Int), (0 : Int),
 (0 : Int))).fst =
 (x.snd.snd.fst.getD
 g.snd.snd.fst.toNat
 ((0 : Int), (0 : Int),
 (0 : Int))).fst ∧
 (x.snd.snd.fst.getD
 g.snd.snd.fst.toNat
 ((0 : Int),
 (0 : Int),
 (0 :
 Int))).snd.fst =
 (x.snd.snd.fst.getD
 g.snd.snd.fst.toNat
 ((0 : Int),
 (0 : Int),
 (0 :
 Int))).snd.fst ∧
 (x.snd.snd.fst.getD
 g.snd.snd.fst.toNat
 ((0 : Int),
 (0 : Int),
 (0 :
 Int))).snd.snd =
 (x.snd.snd.fst.getD
 g.snd.snd.fst.toNat
 ((0 : Int),
 (0 : Int),
 (0 :
 Int))).snd.snd ∧
 True) ∧
 True) ∧
 True)) ∧
 ∀ (g_1 : Int × Unit),
 (g_1.fst =
 if
 (x.snd.snd.fst.getD g.snd.snd.fst.toNat
 ((0 : Int), (0 : Int),
 (0 : Int))).fst =
 (3 : Int) then
 (g.fst.getD
 (x.snd.snd.fst.getD g.snd.snd.fst.toNat
 ((0 : Int), (0 : Int),
 (0 : Int))).snd.fst.toNat
 ((0 : Int), (0 : Int))).fst
 else (-1 : Int)) →
 ((-9223372036854775808 : Int) ≤ g_1.fst ∧
 g_1.fst ≤ (9223372036854775807 : Int)) ∧
 True →
 ((((0 : Int) ≤ (0 : Int) ∧
 (0 : Int) ≤ x.fst ∧
 ((-1 : Int), (1000 : Int)) =
 bst
 (okc
 (x.snd.snd.fst.getD
 g.snd.snd.fst.toNat
 ((0 : Int), (0 : Int),
 (0 : Int))).snd.snd
 g_1.fst)
 (fun c ↦ cntS g.fst (↑c : Int))
 (Int.toNat (0 : Int))) ∧
 True) ∧
 ((x.snd.snd.fst.getD g.snd.snd.fst.toNat
 ((0 : Int), (0 : Int),
 (0 : Int))).snd.snd =
 (x.snd.snd.fst.getD
 g.snd.snd.fst.toNat
 ((0 : Int), (0 : Int),
 (0 : Int))).snd.snd ∧
 g_1.fst = g_1.fst ∧
 (True ∧ True) ∧
 (True ∧ True) ∧
 (-1 : Int) = (-1 : Int) ∧
 (1000 : Int) = (1000 : Int) ∧
 x.fst = x.fst ∧
 (0 : Int) = (0 : Int) ∧
 True) ∧
 ((True ∧ True) ∧
 g.fst = g.fst ∧
 (True ∧
 (True ∧ True) ∧
 (True ∧ True) ∧ True) ∧
 (x.fst = x.fst ∧ True) ∧
 g.snd.fst = g.snd.fst ∧
 ((x.snd.snd.fst.getD
 g.snd.snd.fst.toNat
 ((0 : Int),
 (0 : Int),
 (0 :
 Int))).fst =
 (x.snd.snd.fst.getD
 g.snd.snd.fst.toNat
 ((0 : Int),
 (0 : Int),
 (0 :
 Int))).fst ∧
 (x.snd.snd.fst.getD
 g.snd.snd.fst.toNat
 ((0 : Int),
 (0 : Int),
 (0 :
 Int))).snd.fst =
 (x.snd.snd.fst.getD
 g.snd.snd.fst.toNat
 ((0 : Int),
 (0 : Int),
 (0 :
 Int))).snd.fst ∧
 (x.snd.snd.fst.getD
 g.snd.snd.fst.toNat
 ((0 : Int),
 (0 : Int),
 (0 :
 Int))).snd.snd =
 (x.snd.snd.fst.getD
 g.snd.snd.fst.toNat
 ((0 : Int),
 (0 : Int),
 (0 :
 Int))).snd.snd ∧
 True) ∧
 ((0 : Int) = (0 : Int) ∧
 (0 : Int) =
 (0 : Int) ∧
 True) ∧
 True) ∧
 True ∧
 x.snd.fst = x.snd.fst ∧
 True ∧
 True ∧
 True ∧
 True ∧
 True ∧
 True ∧
 True ∧
 (True ∧ True) ∧
 True ∧
 True ∧
 True ∧
 (True ∧
 True) ∧
 (0 :
 Int) =
 (0 :
 Int) ∧
 g_1.fst =
 g_1.fst ∧
 True ∧
 True ∧
 True ∧
 True ∧
 True ∧
 True ∧
 True ∧
 True ∧
 True ∧
 True ∧
 True ∧
 True ∧
 True ∧
 True ∧
 True ∧
 True ∧
 True ∧
 True ∧
 True ∧
 x.snd.snd.fst =
 x.snd.snd.fst ∧
 (↑x.snd.snd.fst.length :
 Int) =
 (↑x.snd.snd.fst.length :
 Int) ∧
 g.snd.snd.fst =
 g.snd.snd.fst ∧
 True ∧
 True ∧
 True ∧
 True ∧
 True ∧
 True ∧
 True ∧
 True ∧
 True ∧
 True ∧
 True ∧
 True ∧
 True ∧
 True ∧
 (True ∧
 True) ∧
 (x.snd.snd.fst.getD
 g.snd.snd.fst.toNat
 ((0 :
 Int),
 (0 :
 Int),
 (0 :
 Int))).snd.snd =
 (x.snd.snd.fst.getD
 g.snd.snd.fst.toNat
 ((0 :
 Int),
 (0 :
 Int),
 (0 :
 Int))).snd.snd ∧
 g_1.fst =
 g_1.fst ∧
 True ∧
 True ∧
 True ∧
 True ∧
 True ∧
 True ∧
 True ∧
 True ∧
 True ∧
 True ∧
 True ∧
 True ∧
 True ∧
 True ∧
 True ∧
 True ∧
 True ∧
 True ∧
 True ∧
 True ∧
 True ∧
 True ∧
 True ∧
 True ∧
 True ∧
 True ∧
 True ∧
 True ∧
 True ∧
 True ∧
 True ∧
 True ∧
 True ∧
 True ∧
 True ∧
 True ∧
 True ∧
 True ∧
 True ∧
 True ∧
 True ∧
 True ∧
 True ∧
 True ∧
 True ∧
 True ∧
 True ∧
 True ∧
 True ∧
 True ∧
 True ∧
 True ∧
 True ∧
 True ∧
 True ∧
 True ∧
 True ∧
 True ∧
 True ∧
 True ∧
 True ∧
 True ∧
 True ∧
 True ∧
 True ∧
 True ∧
 True ∧
 True ∧
 True ∧
 True ∧
 True ∧
 True ∧
 True ∧
 True ∧
 True ∧
 True) ∧
 ∀ (g_2 : Int × Int × Int × Unit),
 (0 : Int) ≤ g_2.snd.snd.fst ∧
 g_2.snd.snd.fst ≤ x.fst ∧
 (g_2.fst, g_2.snd.fst) =
 bst
 (okc
 (x.snd.snd.fst.getD
 g.snd.snd.fst.toNat
 ((0 : Int), (0 : Int),
 (0 : Int))).snd.snd
 g_1.fst)
 (fun c ↦ cntS g.fst (↑c : Int))
 g_2.snd.snd.fst.toNat →
 ((-9223372036854775808 : Int) ≤
 g_2.fst ∧
 g_2.fst ≤
 (9223372036854775807 : Int)) ∧
 ((-9223372036854775808 : Int) ≤
 g_2.snd.fst ∧
 g_2.snd.fst ≤
 (9223372036854775807 : Int)) ∧
 ((-9223372036854775808 : Int) ≤
 g_2.snd.snd.fst ∧
 g_2.snd.snd.fst ≤
 (9223372036854775807 :
 Int)) ∧
 True →
 (decide (g_2.snd.snd.fst < x.fst) =
 true →
 ((((0 : Int) ≤ (0 : Int) ∧
 (0 : Int) ≤
 (↑g.fst.length :
 Int) ∧
 (0 : Int) =
 cntS
 (List.take
 (Int.toNat
 (0 : Int))
 g.fst)
 g_2.snd.snd.fst) ∧
 True) ∧
 ((x.snd.snd.fst.getD
 g.snd.snd.fst.toNat
 ((0 : Int),
 (0 : Int),
 (0 :
 Int))).snd.snd =
 (x.snd.snd.fst.getD
 g.snd.snd.fst.toNat
 ((0 : Int),
 (0 : Int),
 (0 :
 Int))).snd.snd ∧
 g_1.fst = g_1.fst ∧
 (True ∧ True) ∧
 (True ∧ True) ∧
 g_2.fst = g_2.fst ∧
 g_2.snd.fst =
 g_2.snd.fst ∧
 g_2.snd.snd.fst =
 g_2.snd.snd.fst ∧
 (0 : Int) =
 (0 :
 Int) ∧
 x.fst =
 x.fst ∧
 g_2.snd.snd.fst =
 g_2.snd.snd.fst ∧
 True ∧
 (↑g.fst.length :
 Int) =
 (↑g.fst.length :
 Int) ∧
 (0 :
 Int) =
 (0 :
 Int) ∧
 True) ∧
 ((True ∧ True) ∧
 g.fst = g.fst ∧
 (True ∧
 (True ∧ True) ∧
 (True ∧ True) ∧
 True) ∧
 (x.fst = x.fst ∧
 True) ∧
 g.snd.fst =
 g.snd.fst ∧
 ((x.snd.snd.fst.getD
 g.snd.snd.fst.toNat
 ((0 :
 Int),
 (0 :
 Int),
 (0 :
 Int))).fst =
 (x.snd.snd.fst.getD
 g.snd.snd.fst.toNat
 ((0 :
 Int),
 (0 :
 Int),
 (0 :
 Int))).fst ∧
 (x.snd.snd.fst.getD
 g.snd.snd.fst.toNat
 ((0 :
 Int),
 (0 :
 Int),
 (0 :
 Int))).snd.fst =
 (x.snd.snd.fst.getD
 g.snd.snd.fst.toNat
 ((0 :
 Int),
 (0 :
 Int),
 (0 :
 Int))).snd.fst ∧
 (x.snd.snd.fst.getD
 g.snd.snd.fst.toNat
 ((0 :
 Int),
 (0 :
 Int),
 (0 :
 Int))).snd.snd =
 (x.snd.snd.fst.getD
 g.snd.snd.fst.toNat
 ((0 :
 Int),
 (0 :
 Int),
 (0 :
 Int))).snd.snd ∧
 True) ∧
 ((0 : Int) =
 (0 :
 Int) ∧
 (0 :
 Int) =
 (0 :
 Int) ∧
 True) ∧
 True) ∧
 True ∧
 x.snd.fst = x.snd.fst ∧
 True ∧
 True ∧
 True ∧
 True ∧
 True ∧
 True ∧
 True ∧
 (True ∧
 True) ∧
 True ∧
 True ∧
 True ∧
 (True ∧
 True) ∧
 (0 :
 Int) =
 (0 :
 Int) ∧
 g_1.fst =
 g_1.fst ∧
 True ∧
 True ∧
 True ∧
 True ∧
 True ∧
 True ∧
 True ∧
 True ∧
 True ∧
 True ∧
 True ∧
 True ∧
 True ∧
 True ∧
 True ∧
 True ∧
 True ∧
 True ∧
 True ∧
 x.snd.snd.fst =
 x.snd.snd.fst ∧
 (↑x.snd.snd.fst.length :
 Int) =
 (↑x.snd.snd.fst.length :
 Int) ∧
 g.snd.snd.fst =
 g.snd.snd.fst ∧
 True ∧
 True ∧
 True ∧
 True ∧
 True ∧
 True ∧
 True ∧
 True ∧
 True ∧
 True ∧
 True ∧
 True ∧
 True ∧
 True ∧
 (True ∧
 True) ∧
 (x.snd.snd.fst.getD
 g.snd.snd.fst.toNat
 ((0 :
 Int),
 (0 :
 Int),
 (0 :
 Int))).snd.snd =
 (x.snd.snd.fst.getD
 g.snd.snd.fst.toNat
 ((0 :
 Int),
 (0 :
 Int),
 (0 :
 Int))).snd.snd ∧
 g_1.fst =
 g_1.fst ∧
 True ∧
 True ∧
 True ∧
 True ∧
 True ∧
 True ∧
 True ∧
 True ∧
 True ∧
 True ∧
 True ∧
 True ∧
 True ∧
 True ∧
 True ∧
 True ∧
 True ∧
 True ∧
 True ∧
 True ∧
 True ∧
 True ∧
 True ∧
 True ∧
 True ∧
 True ∧
 True ∧
 True ∧
 True ∧
 True ∧
 True ∧
 True ∧
 True ∧
 True ∧
 True ∧
 True ∧
 True ∧
 True ∧
 True ∧
 True ∧
 True ∧
 True ∧
 True ∧
 True ∧
 True ∧
 True ∧
 True ∧
 True ∧
 True ∧
 True ∧
 True ∧
 True ∧
 True ∧
 True ∧
 True ∧
 True ∧
 True ∧
 True ∧
 True ∧
 True ∧
 True ∧
 True ∧
 True ∧
 True ∧
 True ∧
 True ∧
 True ∧
 True ∧
 True ∧
 True ∧
 True ∧
 True ∧
 True ∧
 True ∧
 True ∧
 True) ∧
 ∀ (g_3 : Int × Int × Unit),
 (0 : Int) ≤ g_3.snd.fst ∧
 g_3.snd.fst ≤
 (↑g.fst.length :
 Int) ∧
 g_3.fst =
 cntS
 (List.take
 g_3.snd.fst.toNat
 g.fst)
 g_2.snd.snd.fst →
 ((-9223372036854775808 :
 Int) ≤
 g_3.fst ∧
 g_3.fst ≤
 (9223372036854775807 :
 Int)) ∧
 ((-9223372036854775808 :
 Int) ≤
 g_3.snd.fst ∧
 g_3.snd.fst ≤
 (9223372036854775807 :
 Int)) ∧
 True →
 (decide
 (g_3.snd.fst <
 (↑g.fst.length :
 Int)) =
 true →
 ((0 : Int) ≤
 g_3.snd.fst ∧
 g_3.snd.fst <
 (↑g.fst.length :
 Int)) ∧
 (decide
 ((0 : Int) <
 (g.fst.getD
 g_3.snd.fst.toNat
 ((0 :
 Int),
 (0 :
 Int))).snd) =
 true →
 decide
 ((0 : Int) <
 (g.fst.getD
 g_3.snd.fst.toNat
 ((0 :
 Int),
 (0 :
 Int))).snd) =
 true) ∧
 (decide
 ((0 :
 Int) <
 (g.fst.getD
 g_3.snd.fst.toNat
 ((0 :
 Int),
 (0 :
 Int))).snd) =
 true →
 decide
 ((0 :
 Int) <
 (g.fst.getD
 g_3.snd.fst.toNat
 ((0 :
 Int),
 (0 :
 Int))).snd) =
 true ∧
 decide
 ((0 :
 Int) <
 (g.fst.getD
 g_3.snd.fst.toNat
 ((0 :
 Int),
 (0 :
 Int))).snd) =
 true) ∧
 (decide
 ((0 :
 Int) <
 (g.fst.getD
 g_3.snd.fst.toNat
 ((0 :
 Int),
 (0 :
 Int))).snd) =
 true →
 decide
 ((0 :
 Int) <
 (g.fst.getD
 g_3.snd.fst.toNat
 ((0 :
 Int),
 (0 :
 Int))).snd) =
 true) ∧
 ((decide
 ((0 :
 Int) <
 (g.fst.getD
 g_3.snd.fst.toNat
 ((0 :
 Int),
 (0 :
 Int))).snd) &&
 (g.fst.getD
 g_3.snd.fst.toNat
 ((0 :
 Int),
 (0 :
 Int))).fst ==
 g_2.snd.snd.fst) =
 true →
 ((-9223372036854775808 :
 Int) ≤
 g_3.fst +
 (1 :
 Int) ∧
 g_3.fst +
 (1 :
 Int) ≤
 (9223372036854775807 :
 Int)) ∧
 ((-9223372036854775808 :
 Int) ≤
 g_3.snd.fst +
 (1 :
 Int) ∧
 g_3.snd.fst +
 (1 :
 Int) ≤
 (9223372036854775807 :
 Int)) ∧
 (((0 :
 Int) ≤
 g_3.snd.fst +
 (1 :
 Int) ∧
 g_3.snd.fst +
 (1 :
 Int) ≤
 (↑g.fst.length :
 Int) ∧
 g_3.fst +
 (1 :
 Int) =
 cntS
 (List.take
 (g_3.snd.fst +
 (1 :
 Int)).toNat
 g.fst)
 g_2.snd.snd.fst) ∧
 ((↑g.fst.length :
 Int) -
 (g_3.snd.fst +
 (1 :
 Int))).toNat <
 ((↑g.fst.length :
 Int) -
 g_3.snd.fst).toNat) ∧
 ((x.snd.snd.fst.getD
 g.snd.snd.fst.toNat
 ((0 :
 Int),
 (0 :
 Int),
 (0 :
 Int))).snd.snd =
 (x.snd.snd.fst.getD
 g.snd.snd.fst.toNat
 ((0 :
 Int),
 (0 :
 Int),
 (0 :
 Int))).snd.snd ∧
 g_1.fst =
 g_1.fst ∧
 (True ∧
 True) ∧
 (True ∧
 True) ∧
 g_2.fst =
 g_2.fst ∧
 g_2.snd.fst =
 g_2.snd.fst ∧
 g_2.snd.snd.fst =
 g_2.snd.snd.fst ∧
 g_3.fst +
 (1 :
 Int) =
 g_3.fst +
 (1 :
 Int) ∧
 x.fst =
 x.fst ∧
 g_2.snd.snd.fst =
 g_2.snd.snd.fst ∧
 True ∧
 (↑g.fst.length :
 Int) =
 (↑g.fst.length :
 Int) ∧
 g_3.snd.fst +
 (1 :
 Int) =
 g_3.snd.fst +
 (1 :
 Int) ∧
 True) ∧
 ((True ∧
 True) ∧
 g.fst =
 g.fst ∧
 (True ∧
 (True ∧
 True) ∧
 (True ∧
 True) ∧
 True) ∧
 (x.fst =
 x.fst ∧
 True) ∧
 g.snd.fst =
 g.snd.fst ∧
 ((x.snd.snd.fst.getD
 g.snd.snd.fst.toNat
 ((0 :
 Int),
 (0 :
 Int),
 (0 :
 Int))).fst =
 (x.snd.snd.fst.getD
 g.snd.snd.fst.toNat
 ((0 :
 Int),
 (0 :
 Int),
 (0 :
 Int))).fst ∧
 (x.snd.snd.fst.getD
 g.snd.snd.fst.toNat
 ((0 :
 Int),
 (0 :
 Int),
 (0 :
 Int))).snd.fst =
 (x.snd.snd.fst.getD
 g.snd.snd.fst.toNat
 ((0 :
 Int),
 (0 :
 Int),
 (0 :
 Int))).snd.fst ∧
 (x.snd.snd.fst.getD
 g.snd.snd.fst.toNat
 ((0 :
 Int),
 (0 :
 Int),
 (0 :
 Int))).snd.snd =
 (x.snd.snd.fst.getD
 g.snd.snd.fst.toNat
 ((0 :
 Int),
 (0 :
 Int),
 (0 :
 Int))).snd.snd ∧
 True) ∧
 ((0 :
 Int) =
 (0 :
 Int) ∧
 (0 :
 Int) =
 (0 :
 Int) ∧
 True) ∧
 True) ∧
 True ∧
 x.snd.fst =
 x.snd.fst ∧
 True ∧
 True ∧
 True ∧
 True ∧
 True ∧
 True ∧
 True ∧
 (True ∧
 True) ∧
 True ∧
 True ∧
 True ∧
 (True ∧
 True) ∧
 (0 :
 Int) =
 (0 :
 Int) ∧
 g_1.fst =
 g_1.fst ∧
 True ∧
 True ∧
 True ∧
 True ∧
 True ∧
 True ∧
 True ∧
 True ∧
 True ∧
 True ∧
 True ∧
 True ∧
 True ∧
 True ∧
 True ∧
 True ∧
 True ∧
 True ∧
 True ∧
 x.snd.snd.fst =
 x.snd.snd.fst ∧
 (↑x.snd.snd.fst.length :
 Int) =
 (↑x.snd.snd.fst.length :
 Int) ∧
 g.snd.snd.fst =
 g.snd.snd.fst ∧
 True ∧
 True ∧
 True ∧
 True ∧
 True ∧
 True ∧
 True ∧
 True ∧
 True ∧
 True ∧
 True ∧
 True ∧
 True ∧
 True ∧
 (True ∧
 True) ∧
 (x.snd.snd.fst.getD
 g.snd.snd.fst.toNat
 ((0 :
 Int),
 (0 :
 Int),
 (0 :
 Int))).snd.snd =
 (x.snd.snd.fst.getD
 g.snd.snd.fst.toNat
 ((0 :
 Int),
 (0 :
 Int),
 (0 :
 Int))).snd.snd ∧
 g_1.fst =
 g_1.fst ∧
 True ∧
 True ∧
 True ∧
 True ∧
 True ∧
 True ∧
 True ∧
 True ∧
 True ∧
 True ∧
 True ∧
 True ∧
 True ∧
 True ∧
 True ∧
 True ∧
 True ∧
 True ∧
 True ∧
 True ∧
 True ∧
 True ∧
 True ∧
 True ∧
 True ∧
 True ∧
 True ∧
 True ∧
 True ∧
 True ∧
 True ∧
 True ∧
 True ∧
 True ∧
 True ∧
 True ∧
 True ∧
 True ∧
 True ∧
 True ∧
 True ∧
 True ∧
 True ∧
 True ∧
 True ∧
 True ∧
 True ∧
 True ∧
 True ∧
 True ∧
 True ∧
 True ∧
 True ∧
 True ∧
 True ∧
 True ∧
 True ∧
 True ∧
 True ∧
 True ∧
 True ∧
 True ∧
 True ∧
 True ∧
 True ∧
 True ∧
 True ∧
 True ∧
 True ∧
 True ∧
 True ∧
 True ∧
 True ∧
 True ∧
 True ∧
 True) ∧
 ((decide
 ((0 :
 Int) <
 (g.fst.getD
 g_3.snd.fst.toNat
 ((0 :
 Int),
 (0 :
 Int))).snd) &&
 (g.fst.getD
 g_3.snd.fst.toNat
 ((0 :
 Int),
 (0 :
 Int))).fst ==
 g_2.snd.snd.fst) =
 false →
 ((-9223372036854775808 :
 Int) ≤
 g_3.snd.fst +
 (1 :
 Int) ∧
 g_3.snd.fst +
 (1 :
 Int) ≤
 (9223372036854775807 :
 Int)) ∧
 (((0 :
 Int) ≤
 g_3.snd.fst +
 (1 :
 Int) ∧
 g_3.snd.fst +
 (1 :
 Int) ≤
 (↑g.fst.length :
 Int) ∧
 g_3.fst =
 cntS
 (List.take
 (g_3.snd.fst +
 (1 :
 Int)).toNat
 g.fst)
 g_2.snd.snd.fst) ∧
 ((↑g.fst.length :
 Int) -
 (g_3.snd.fst +
 (1 :
 Int))).toNat <
 ((↑g.fst.length :
 Int) -
 g_3.snd.fst).toNat) ∧
 ((x.snd.snd.fst.getD
 g.snd.snd.fst.toNat
 ((0 :
 Int),
 (0 :
 Int),
 (0 :
 Int))).snd.snd =
 (x.snd.snd.fst.getD
 g.snd.snd.fst.toNat
 ((0 :
 Int),
 (0 :
 Int),
 (0 :
 Int))).snd.snd ∧
 g_1.fst =
 g_1.fst ∧
 (True ∧
 True) ∧
 (True ∧
 True) ∧
 g_2.fst =
 g_2.fst ∧
 g_2.snd.fst =
 g_2.snd.fst ∧
 g_2.snd.snd.fst =
 g_2.snd.snd.fst ∧
 g_3.fst =
 g_3.fst ∧
 x.fst =
 x.fst ∧
 g_2.snd.snd.fst =
 g_2.snd.snd.fst ∧
 True ∧
 (↑g.fst.length :
 Int) =
 (↑g.fst.length :
 Int) ∧
 g_3.snd.fst +
 (1 :
 Int) =
 g_3.snd.fst +
 (1 :
 Int) ∧
 True) ∧
 ((True ∧
 True) ∧
 g.fst =
 g.fst ∧
 (True ∧
 (True ∧
 True) ∧
 (True ∧
 True) ∧
 True) ∧
 (x.fst =
 x.fst ∧
 True) ∧
 g.snd.fst =
 g.snd.fst ∧
 ((x.snd.snd.fst.getD
 g.snd.snd.fst.toNat
 ((0 :
 Int),
 (0 :
 Int),
 (0 :
 Int))).fst =
 (x.snd.snd.fst.getD
 g.snd.snd.fst.toNat
 ((0 :
 Int),
 (0 :
 Int),
 (0 :
 Int))).fst ∧
 (x.snd.snd.fst.getD
 g.snd.snd.fst.toNat
 ((0 :
 Int),
 (0 :
 Int),
 (0 :
 Int))).snd.fst =
 (x.snd.snd.fst.getD
 g.snd.snd.fst.toNat
 ((0 :
 Int),
 (0 :
 Int),
 (0 :
 Int))).snd.fst ∧
 (x.snd.snd.fst.getD
 g.snd.snd.fst.toNat
 ((0 :
 Int),
 (0 :
 Int),
 (0 :
 Int))).snd.snd =
 (x.snd.snd.fst.getD
 g.snd.snd.fst.toNat
 ((0 :
 Int),
 (0 :
 Int),
 (0 :
 Int))).snd.snd ∧
 True) ∧
 ((0 :
 Int) =
 (0 :
 Int) ∧
 (0 :
 Int) =
 (0 :
 Int) ∧
 True) ∧
 True) ∧
 True ∧
 x.snd.fst =
 x.snd.fst ∧
 True ∧
 True ∧
 True ∧
 True ∧
 True ∧
 True ∧
 True ∧
 (True ∧
 True) ∧
 True ∧
 True ∧
 True ∧
 (True ∧
 True) ∧
 (0 :
 Int) =
 (0 :
 Int) ∧
 g_1.fst =
 g_1.fst ∧
 True ∧
 True ∧
 True ∧
 True ∧
 True ∧
 True ∧
 True ∧
 True ∧
 True ∧
 True ∧
 True ∧
 True ∧
 True ∧
 True ∧
 True ∧
 True ∧
 True ∧
 True ∧
 True ∧
 x.snd.snd.fst =
 x.snd.snd.fst ∧
 (↑x.snd.snd.fst.length :
 Int) =
 (↑x.snd.snd.fst.length :
 Int) ∧
 g.snd.snd.fst =
 g.snd.snd.fst ∧
 True ∧
 True ∧
 True ∧
 True ∧
 True ∧
 True ∧
 True ∧
 True ∧
 True ∧
 True ∧
 True ∧
 True ∧
 True ∧
 True ∧
 (True ∧
 True) ∧
 (x.snd.snd.fst.getD
 g.snd.snd.fst.toNat
 ((0 :
 Int),
 (0 :
 Int),
 (0 :
 Int))).snd.snd =
 (x.snd.snd.fst.getD
 g.snd.snd.fst.toNat
 ((0 :
 Int),
 (0 :
 Int),
 (0 :
 Int))).snd.snd ∧
 g_1.fst =
 g_1.fst ∧
 True ∧
 True ∧
 True ∧
 True ∧
 True ∧
 True ∧
 True ∧
 True ∧
 True ∧
 True ∧
 True ∧
 True ∧
 True ∧
 True ∧
 True ∧
 True ∧
 True ∧
 True ∧
 True ∧
 True ∧
 True ∧
 True ∧
 True ∧
 True ∧
 True ∧
 True ∧
 True ∧
 True ∧
 True ∧
 True ∧
 True ∧
 True ∧
 True ∧
 True ∧
 True ∧
 True ∧
 True ∧
 True ∧
 True ∧
 True ∧
 True ∧
 True ∧
 True ∧
 True ∧
 True ∧
 True ∧
 True ∧
 True ∧
 True ∧
 True ∧
 True ∧
 True ∧
 True ∧
 True ∧
 True ∧
 True ∧
 True ∧
 True ∧
 True ∧
 True ∧
 True ∧
 True ∧
 True ∧
 True ∧
 True ∧
 True ∧
 True ∧
 True ∧
 True ∧
 True ∧
 True ∧
 True ∧
 True ∧
 True ∧
 True ∧
 True)) ∧
 (decide
 (g_3.snd.fst <
 (↑g.fst.length :
 Int)) =
 false →
 ((g_2.snd.snd.fst !=
 g_1.fst) =
 true →
 (g_2.snd.snd.fst !=
 g_1.fst) =
 true) ∧
 ((g_2.snd.snd.fst !=
 g_1.fst) =
 true →
 ((g_2.snd.snd.fst !=
 g_1.fst) =
 true ∧
 (g_2.snd.snd.fst !=
 g_1.fst) =
 true) ∧
 (0 : Int) ≤
 g_2.snd.snd.fst) ∧
 ((g_2.snd.snd.fst !=
 g_1.fst) =
 true →
 (g_2.snd.snd.fst !=
 g_1.fst) =
 true ∧
 (0 : Int) ≤
 IntKind.u64.wrap
 (x.snd.snd.fst.getD
 g.snd.snd.fst.toNat
 ((0 :
 Int),
 (0 :
 Int),
 (0 :
 Int))).snd.snd /
 (2 :
 Int) ^
 min
 g_2.snd.snd.fst.toNat
 IntKind.u64.bits ∧
 (0 :
 Int) <
 (2 :
 Int)) ∧
 ((g_2.snd.snd.fst !=
 g_1.fst) =
 true →
 (g_2.snd.snd.fst !=
 g_1.fst) =
 true) ∧
 ((g_2.snd.snd.fst !=
 g_1.fst) =
 true →
 (g_2.snd.snd.fst !=
 g_1.fst) =
 true) ∧
 ((g_2.snd.snd.fst !=
 g_1.fst &&
 IntKind.u64.wrap
 (x.snd.snd.fst.getD
 g.snd.snd.fst.toNat
 ((0 :
 Int),
 (0 :
 Int),
 (0 :
 Int))).snd.snd /
 (2 :
 Int) ^
 min
 g_2.snd.snd.fst.toNat
 IntKind.u64.bits %
 (2 :
 Int) ==
 (1 :
 Int)) =
 true →
 (g_2.snd.snd.fst !=
 g_1.fst &&
 IntKind.u64.wrap
 (x.snd.snd.fst.getD
 g.snd.snd.fst.toNat
 ((0 :
 Int),
 (0 :
 Int),
 (0 :
 Int))).snd.snd /
 (2 :
 Int) ^
 min
 g_2.snd.snd.fst.toNat
 IntKind.u64.bits %
 (2 :
 Int) ==
 (1 :
 Int)) =
 true) ∧
 ((g_2.snd.snd.fst !=
 g_1.fst &&
 IntKind.u64.wrap
 (x.snd.snd.fst.getD
 g.snd.snd.fst.toNat
 ((0 :
 Int),
 (0 :
 Int),
 (0 :
 Int))).snd.snd /
 (2 :
 Int) ^
 min
 g_2.snd.snd.fst.toNat
 IntKind.u64.bits %
 (2 :
 Int) ==
 (1 :
 Int)) =
 true →
 (g_2.snd.snd.fst !=
 g_1.fst &&
 IntKind.u64.wrap
 (x.snd.snd.fst.getD
 g.snd.snd.fst.toNat
 ((0 :
 Int),
 (0 :
 Int),
 (0 :
 Int))).snd.snd /
 (2 :
 Int) ^
 min
 g_2.snd.snd.fst.toNat
 IntKind.u64.bits %
 (2 :
 Int) ==
 (1 :
 Int)) =
 true) ∧
 ((g_2.snd.snd.fst !=
 g_1.fst &&
 IntKind.u64.wrap
 (x.snd.snd.fst.getD
 g.snd.snd.fst.toNat
 ((0 :
 Int),
 (0 :
 Int),
 (0 :
 Int))).snd.snd /
 (2 :
 Int) ^
 min
 g_2.snd.snd.fst.toNat
 IntKind.u64.bits %
 (2 :
 Int) ==
 (1 :
 Int) &&
 decide
 (g_3.fst <
 (224 :
 Int))) =
 true →
 (g_2.snd.snd.fst !=
 g_1.fst &&
 IntKind.u64.wrap
 (x.snd.snd.fst.getD
 g.snd.snd.fst.toNat
 ((0 :
 Int),
 (0 :
 Int),
 (0 :
 Int))).snd.snd /
 (2 :
 Int) ^
 min
 g_2.snd.snd.fst.toNat
 IntKind.u64.bits %
 (2 :
 Int) ==
 (1 :
 Int) &&
 decide
 (g_3.fst <
 (224 :
 Int))) =
 true ∧
 (g_2.snd.snd.fst !=
 g_1.fst &&
 IntKind.u64.wrap
 (x.snd.snd.fst.getD
 g.snd.snd.fst.toNat
 ((0 :
 Int),
 (0 :
 Int),
 (0 :
 Int))).snd.snd /
 (2 :
 Int) ^
 min
 g_2.snd.snd.fst.toNat
 IntKind.u64.bits %
 (2 :
 Int) ==
 (1 :
 Int) &&
 decide
 (g_3.fst <
 (224 :
 Int))) =
 true) ∧
 ((g_2.snd.snd.fst !=
 g_1.fst &&
 IntKind.u64.wrap
 (x.snd.snd.fst.getD
 g.snd.snd.fst.toNat
 ((0 :
 Int),
 (0 :
 Int),
 (0 :
 Int))).snd.snd /
 (2 :
 Int) ^
 min
 g_2.snd.snd.fst.toNat
 IntKind.u64.bits %
 (2 :
 Int) ==
 (1 :
 Int) &&
 decide
 (g_3.fst <
 (224 :
 Int))) =
 true →
 (g_2.snd.snd.fst !=
 g_1.fst &&
 IntKind.u64.wrap
 (x.snd.snd.fst.getD
 g.snd.snd.fst.toNat
 ((0 :
 Int),
 (0 :
 Int),
 (0 :
 Int))).snd.snd /
 (2 :
 Int) ^
 min
 g_2.snd.snd.fst.toNat
 IntKind.u64.bits %
 (2 :
 Int) ==
 (1 :
 Int) &&
 decide
 (g_3.fst <
 (224 :
 Int))) =
 true) ∧
 ((g_2.snd.snd.fst !=
 g_1.fst &&
 IntKind.u64.wrap
 (x.snd.snd.fst.getD
 g.snd.snd.fst.toNat
 ((0 :
 Int),
 (0 :
 Int),
 (0 :
 Int))).snd.snd /
 (2 :
 Int) ^
 min
 g_2.snd.snd.fst.toNat
 IntKind.u64.bits %
 (2 :
 Int) ==
 (1 :
 Int) &&
 decide
 (g_3.fst <
 (224 :
 Int)) &&
 decide
 (g_3.fst <
 g_2.snd.fst)) =
 true →
 ((-9223372036854775808 :
 Int) ≤
 g_2.snd.snd.fst +
 (1 :
 Int) ∧
 g_2.snd.snd.fst +
 (1 :
 Int) ≤
 (9223372036854775807 :
 Int)) ∧
 (((0 :
 Int) ≤
 g_2.snd.snd.fst +
 (1 :
 Int) ∧
 g_2.snd.snd.fst +
 (1 :
 Int) ≤
 x.fst ∧
 (g_2.snd.snd.fst,
 g_3.fst) =
 bst
 (okc
 (x.snd.snd.fst.getD
 g.snd.snd.fst.toNat
 ((0 :
 Int),
 (0 :
 Int),
 (0 :
 Int))).snd.snd
 g_1.fst)
 (fun
 c ↦
 cntS
 g.fst
 (↑c :
 Int))
 (g_2.snd.snd.fst +
 (1 :
 Int)).toNat) ∧
 (x.fst -
 (g_2.snd.snd.fst +
 (1 :
 Int))).toNat <
 (x.fst -
 g_2.snd.snd.fst).toNat) ∧
 ((x.snd.snd.fst.getD
 g.snd.snd.fst.toNat
 ((0 :
 Int),
 (0 :
 Int),
 (0 :
 Int))).snd.snd =
 (x.snd.snd.fst.getD
 g.snd.snd.fst.toNat
 ((0 :
 Int),
 (0 :
 Int),
 (0 :
 Int))).snd.snd ∧
 g_1.fst =
 g_1.fst ∧
 (True ∧
 True) ∧
 (True ∧
 True) ∧
 g_2.snd.snd.fst =
 g_2.snd.snd.fst ∧
 g_3.fst =
 g_3.fst ∧
 x.fst =
 x.fst ∧
 g_2.snd.snd.fst +
 (1 :
 Int) =
 g_2.snd.snd.fst +
 (1 :
 Int) ∧
 True) ∧
 ((True ∧
 True) ∧
 g.fst =
 g.fst ∧
 (True ∧
 (True ∧
 True) ∧
 (True ∧
 True) ∧
 True) ∧
 (x.fst =
 x.fst ∧
 True) ∧
 g.snd.fst =
 g.snd.fst ∧
 ((x.snd.snd.fst.getD
 g.snd.snd.fst.toNat
 ((0 :
 Int),
 (0 :
 Int),
 (0 :
 Int))).fst =
 (x.snd.snd.fst.getD
 g.snd.snd.fst.toNat
 ((0 :
 Int),
 (0 :
 Int),
 (0 :
 Int))).fst ∧
 (x.snd.snd.fst.getD
 g.snd.snd.fst.toNat
 ((0 :
 Int),
 (0 :
 Int),
 (0 :
 Int))).snd.fst =
 (x.snd.snd.fst.getD
 g.snd.snd.fst.toNat
 ((0 :
 Int),
 (0 :
 Int),
 (0 :
 Int))).snd.fst ∧
 (x.snd.snd.fst.getD
 g.snd.snd.fst.toNat
 ((0 :
 Int),
 (0 :
 Int),
 (0 :
 Int))).snd.snd =
 (x.snd.snd.fst.getD
 g.snd.snd.fst.toNat
 ((0 :
 Int),
 (0 :
 Int),
 (0 :
 Int))).snd.snd ∧
 True) ∧
 ((0 :
 Int) =
 (0 :
 Int) ∧
 (0 :
 Int) =
 (0 :
 Int) ∧
 True) ∧
 True) ∧
 True ∧
 x.snd.fst =
 x.snd.fst ∧
 True ∧
 True ∧
 True ∧
 True ∧
 True ∧
 True ∧
 True ∧
 (True ∧
 True) ∧
 True ∧
 True ∧
 True ∧
 (True ∧
 True) ∧
 (0 :
 Int) =
 (0 :
 Int) ∧
 g_1.fst =
 g_1.fst ∧
 True ∧
 True ∧
 True ∧
 True ∧
 True ∧
 True ∧
 True ∧
 True ∧
 True ∧
 True ∧
 True ∧
 True ∧
 True ∧
 True ∧
 True ∧
 True ∧
 True ∧
 True ∧
 True ∧
 x.snd.snd.fst =
 x.snd.snd.fst ∧
 (↑x.snd.snd.fst.length :
 Int) =
 (↑x.snd.snd.fst.length :
 Int) ∧
 g.snd.snd.fst =
 g.snd.snd.fst ∧
 True ∧
 True ∧
 True ∧
 True ∧
 True ∧
 True ∧
 True ∧
 True ∧
 True ∧
 True ∧
 True ∧
 True ∧
 True ∧
 True ∧
 (True ∧
 True) ∧
 (x.snd.snd.fst.getD
 g.snd.snd.fst.toNat
 ((0 :
 Int),
 (0 :
 Int),
 (0 :
 Int))).snd.snd =
 (x.snd.snd.fst.getD
 g.snd.snd.fst.toNat
 ((0 :
 Int),
 (0 :
 Int),
 (0 :
 Int))).snd.snd ∧
 g_1.fst =
 g_1.fst ∧
 True ∧
 True ∧
 True ∧
 True ∧
 True ∧
 True ∧
 True ∧
 True ∧
 True ∧
 True ∧
 True ∧
 True ∧
 True ∧
 True ∧
 True ∧
 True ∧
 True ∧
 True ∧
 True ∧
 True ∧
 True ∧
 True ∧
 True ∧
 True ∧
 True ∧
 True ∧
 True ∧
 True ∧
 True ∧
 True ∧
 True ∧
 True ∧
 True ∧
 True ∧
 True ∧
 True ∧
 True ∧
 True ∧
 True ∧
 True ∧
 True ∧
 True ∧
 True ∧
 True ∧
 True ∧
 True ∧
 True ∧
 True ∧
 True ∧
 True ∧
 True ∧
 True ∧
 True ∧
 True ∧
 True ∧
 True ∧
 True ∧
 True ∧
 True ∧
 True ∧
 True ∧
 True ∧
 True ∧
 True ∧
 True ∧
 True ∧
 True ∧
 True ∧
 True ∧
 True ∧
 True ∧
 True ∧
 True ∧
 True ∧
 True ∧
 True) ∧
 ((g_2.snd.snd.fst !=
 g_1.fst &&
 IntKind.u64.wrap
 (x.snd.snd.fst.getD
 g.snd.snd.fst.toNat
 ((0 :
 Int),
 (0 :
 Int),
 (0 :
 Int))).snd.snd /
 (2 :
 Int) ^
 min
 g_2.snd.snd.fst.toNat
 IntKind.u64.bits %
 (2 :
 Int) ==
 (1 :
 Int) &&
 decide
 (g_3.fst <
 (224 :
 Int)) &&
 decide
 (g_3.fst <
 g_2.snd.fst)) =
 false →
 ((-9223372036854775808 :
 Int) ≤
 g_2.snd.snd.fst +
 (1 :
 Int) ∧
 g_2.snd.snd.fst +
 (1 :
 Int) ≤
 (9223372036854775807 :
 Int)) ∧
 (((0 :
 Int) ≤
 g_2.snd.snd.fst +
 (1 :
 Int) ∧
 g_2.snd.snd.fst +
 (1 :
 Int) ≤
 x.fst ∧
 (g_2.fst,
 g_2.snd.fst) =
 bst
 (okc
 (x.snd.snd.fst.getD
 g.snd.snd.fst.toNat
 ((0 :
 Int),
 (0 :
 Int),
 (0 :
 Int))).snd.snd
 g_1.fst)
 (fun
 c ↦
 cntS
 g.fst
 (↑c :
 Int))
 (g_2.snd.snd.fst +
 (1 :
 Int)).toNat) ∧
 (x.fst -
 (g_2.snd.snd.fst +
 (1 :
 Int))).toNat <
 (x.fst -
 g_2.snd.snd.fst).toNat) ∧
 ((x.snd.snd.fst.getD
 g.snd.snd.fst.toNat
 ((0 :
 Int),
 (0 :
 Int),
 (0 :
 Int))).snd.snd =
 (x.snd.snd.fst.getD
 g.snd.snd.fst.toNat
 ((0 :
 Int),
 (0 :
 Int),
 (0 :
 Int))).snd.snd ∧
 g_1.fst =
 g_1.fst ∧
 (True ∧
 True) ∧
 (True ∧
 True) ∧
 g_2.fst =
 g_2.fst ∧
 g_2.snd.fst =
 g_2.snd.fst ∧
 x.fst =
 x.fst ∧
 g_2.snd.snd.fst +
 (1 :
 Int) =
 g_2.snd.snd.fst +
 (1 :
 Int) ∧
 True) ∧
 ((True ∧
 True) ∧
 g.fst =
 g.fst ∧
 (True ∧
 (True ∧
 True) ∧
 (True ∧
 True) ∧
 True) ∧
 (x.fst =
 x.fst ∧
 True) ∧
 g.snd.fst =
 g.snd.fst ∧
 ((x.snd.snd.fst.getD
 g.snd.snd.fst.toNat
 ((0 :
 Int),
 (0 :
 Int),
 (0 :
 Int))).fst =
 (x.snd.snd.fst.getD
 g.snd.snd.fst.toNat
 ((0 :
 Int),
 (0 :
 Int),
 (0 :
 Int))).fst ∧
 (x.snd.snd.fst.getD
 g.snd.snd.fst.toNat
 ((0 :
 Int),
 (0 :
 Int),
 (0 :
 Int))).snd.fst =
 (x.snd.snd.fst.getD
 g.snd.snd.fst.toNat
 ((0 :
 Int),
 (0 :
 Int),
 (0 :
 Int))).snd.fst ∧
 (x.snd.snd.fst.getD
 g.snd.snd.fst.toNat
 ((0 :
 Int),
 (0 :
 Int),
 (0 :
 Int))).snd.snd =
 (x.snd.snd.fst.getD
 g.snd.snd.fst.toNat
 ((0 :
 Int),
 (0 :
 Int),
 (0 :
 Int))).snd.snd ∧
 True) ∧
 ((0 :
 Int) =
 (0 :
 Int) ∧
 (0 :
 Int) =
 (0 :
 Int) ∧
 True) ∧
 True) ∧
 True ∧
 x.snd.fst =
 x.snd.fst ∧
 True ∧
 True ∧
 True ∧
 True ∧
 True ∧
 True ∧
 True ∧
 (True ∧
 True) ∧
 True ∧
 True ∧
 True ∧
 (True ∧
 True) ∧
 (0 :
 Int) =
 (0 :
 Int) ∧
 g_1.fst =
 g_1.fst ∧
 True ∧
 True ∧
 True ∧
 True ∧
 True ∧
 True ∧
 True ∧
 True ∧
 True ∧
 True ∧
 True ∧
 True ∧
 True ∧
 True ∧
 True ∧
 True ∧
 True ∧
 True ∧
 True ∧
 x.snd.snd.fst =
 x.snd.snd.fst ∧
 (↑x.snd.snd.fst.length :
 Int) =
 (↑x.snd.snd.fst.length :
 Int) ∧
 g.snd.snd.fst =
 g.snd.snd.fst ∧
 True ∧
 True ∧
 True ∧
 True ∧
 True ∧
 True ∧
 True ∧
 True ∧
 True ∧
 True ∧
 True ∧
 True ∧
 True ∧
 True ∧
 (True ∧
 True) ∧
 (x.snd.snd.fst.getD
 g.snd.snd.fst.toNat
 ((0 :
 Int),
 (0 :
 Int),
 (0 :
 Int))).snd.snd =
 (x.snd.snd.fst.getD
 g.snd.snd.fst.toNat
 ((0 :
 Int),
 (0 :
 Int),
 (0 :
 Int))).snd.snd ∧
 g_1.fst =
 g_1.fst ∧
 True ∧
 True ∧
 True ∧
 True ∧
 True ∧
 True ∧
 True ∧
 True ∧
 True ∧
 True ∧
 True ∧
 True ∧
 True ∧
 True ∧
 True ∧
 True ∧
 True ∧
 True ∧
 True ∧
 True ∧
 True ∧
 True ∧
 True ∧
 True ∧
 True ∧
 True ∧
 True ∧
 True ∧
 True ∧
 True ∧
 True ∧
 True ∧
 True ∧
 True ∧
 True ∧
 True ∧
 True ∧
 True ∧
 True ∧
 True ∧
 True ∧
 True ∧
 True ∧
 True ∧
 True ∧
 True ∧
 True ∧
 True ∧
 True ∧
 True ∧
 True ∧
 True ∧
 True ∧
 True ∧
 True ∧
 True ∧
 True ∧
 True ∧
 True ∧
 True ∧
 True ∧
 True ∧
 True ∧
 True ∧
 True ∧
 True ∧
 True ∧
 True ∧
 True ∧
 True ∧
 True ∧
 True ∧
 True ∧
 True ∧
 True ∧
 True))) ∧
 (decide (g_2.snd.snd.fst < x.fst) =
 false →
 (decide (g_2.fst < (0 : Int)) =
 true →
 ((g.fst, (4 : Int)) =
 stepV x.fst g.fst
 ((x.snd.snd.fst.getD
 g.snd.snd.fst.toNat
 ((0 : Int),
 (0 : Int),
 (0 :
 Int))).fst,
 (x.snd.snd.fst.getD
 g.snd.snd.fst.toNat
 ((0 : Int),
 (0 : Int),
 (0 :
 Int))).snd.fst,
 (x.snd.snd.fst.getD
 g.snd.snd.fst.toNat
 ((0 : Int),
 (0 : Int),
 (0 :
 Int))).snd.snd) ∧
 True) ∧
 (x.snd.fst = x.snd.fst ∧
 (True ∧ True) ∧
 True ∧
 True ∧
 (4 : Int) =
 (4 : Int) ∧
 x.snd.snd.fst =
 x.snd.snd.fst ∧
 (↑x.snd.snd.fst.length :
 Int) =
 (↑x.snd.snd.fst.length :
 Int) ∧
 g.snd.snd.fst =
 g.snd.snd.fst ∧
 True) ∧
 ((True ∧ True) ∧
 g.fst = g.fst ∧
 (True ∧
 (True ∧ True) ∧
 (True ∧
 True) ∧
 True) ∧
 (x.fst = x.fst ∧
 True) ∧
 g.snd.fst =
 g.snd.fst ∧
 True) ∧
 True) ∧
 (decide (g_2.fst < (0 : Int)) =
 false →
 ((((0 : Int) ≤ (0 : Int) ∧
 (0 : Int) ≤
 (↑g.fst.length :
 Int) ∧
 List.replicate
 (256 : Nat)
 false =
 hadT
 (List.take
 (Int.toNat
 (0 : Int))
 g.fst)
 g_2.fst) ∧
 True) ∧
 ((True ∧ True) ∧
 g_2.fst = g_2.fst ∧
 (True ∧ True) ∧
 True ∧
 (↑g.fst.length :
 Int) =
 (↑g.fst.length :
 Int) ∧
 (0 : Int) =
 (0 :
 Int) ∧
 True) ∧
 ((List.replicate
 (256 : Nat)
 false =
 List.replicate
 (256 : Nat)
 false ∧
 True) ∧
 (True ∧ True) ∧
 g.fst = g.fst ∧
 (True ∧
 (True ∧
 True) ∧
 (True ∧
 True) ∧
 True) ∧
 (x.fst =
 x.fst ∧
 True) ∧
 g.snd.fst =
 g.snd.fst ∧
 ((x.snd.snd.fst.getD
 g.snd.snd.fst.toNat
 ((0 :
 Int),
 (0 :
 Int),
 (0 :
 Int))).fst =
 (x.snd.snd.fst.getD
 g.snd.snd.fst.toNat
 ((0 :
 Int),
 (0 :
 Int),
 (0 :
 Int))).fst ∧
 (x.snd.snd.fst.getD
 g.snd.snd.fst.toNat
 ((0 :
 Int),
 (0 :
 Int),
 (0 :
 Int))).snd.fst =
 (x.snd.snd.fst.getD
 g.snd.snd.fst.toNat
 ((0 :
 Int),
 (0 :
 Int),
 (0 :
 Int))).snd.fst ∧
 (x.snd.snd.fst.getD
 g.snd.snd.fst.toNat
 ((0 :
 Int),
 (0 :
 Int),
 (0 :
 Int))).snd.snd =
 (x.snd.snd.fst.getD
 g.snd.snd.fst.toNat
 ((0 :
 Int),
 (0 :
 Int),
 (0 :
 Int))).snd.snd ∧
 True) ∧
 ((0 :
 Int) =
 (0 :
 Int) ∧
 (0 :
 Int) =
 (0 :
 Int) ∧
 True) ∧
 True) ∧
 True ∧
 x.snd.fst =
 x.snd.fst ∧
 True ∧
 True ∧
 True ∧
 True ∧
 True ∧
 True ∧
 True ∧
 (True ∧
 True) ∧
 True ∧
 True ∧
 True ∧
 (True ∧
 True) ∧
 (0 :
 Int) =
 (0 :
 Int) ∧
 g_1.fst =
 g_1.fst ∧
 True ∧
 True ∧
 True ∧
 True ∧
 True ∧
 True ∧
 True ∧
 True ∧
 True ∧
 True ∧
 True ∧
 True ∧
 True ∧
 True ∧
 True ∧
 True ∧
 True ∧
 True ∧
 True ∧
 x.snd.snd.fst =
 x.snd.snd.fst ∧
 (↑x.snd.snd.fst.length :
 Int) =
 (↑x.snd.snd.fst.length :
 Int) ∧
 g.snd.snd.fst =
 g.snd.snd.fst ∧
 True ∧
 True ∧
 True ∧
 True ∧
 True ∧
 True ∧
 True ∧
 True ∧
 True ∧
 True ∧
 True ∧
 True ∧
 True ∧
 True ∧
 (True ∧
 True) ∧
 (x.snd.snd.fst.getD
 g.snd.snd.fst.toNat
 ((0 :
 Int),
 (0 :
 Int),
 (0 :
 Int))).snd.snd =
 (x.snd.snd.fst.getD
 g.snd.snd.fst.toNat
 ((0 :
 Int),
 (0 :
 Int),
 (0 :
 Int))).snd.snd ∧
 g_1.fst =
 g_1.fst ∧
 True ∧
 True ∧
 True ∧
 True ∧
 True ∧
 True ∧
 True ∧
 True ∧
 True ∧
 True ∧
 True ∧
 True ∧
 True ∧
 True ∧
 True ∧
 True ∧
 True ∧
 True ∧
 True ∧
 True ∧
 True ∧
 True ∧
 True ∧
 True ∧
 True ∧
 True ∧
 True ∧
 True ∧
 True ∧
 True ∧
 True ∧
 True ∧
 True ∧
 True ∧
 True ∧
 True ∧
 True ∧
 True ∧
 True ∧
 True ∧
 True ∧
 True ∧
 True ∧
 True ∧
 True ∧
 True ∧
 True ∧
 True ∧
 True ∧
 True ∧
 True ∧
 True ∧
 True ∧
 True ∧
 True ∧
 True ∧
 True ∧
 True ∧
 True ∧
 True ∧
 True ∧
 True ∧
 True ∧
 True ∧
 True ∧
 True ∧
 True ∧
 True ∧
 True ∧
 True ∧
 True ∧
 True ∧
 True ∧
 True ∧
 True ∧
 True) ∧
 ∀
 (g_3 :
 List Bool × Int × Unit),
 (0 : Int) ≤ g_3.snd.fst ∧
 g_3.snd.fst ≤
 (↑g.fst.length :
 Int) ∧
 g_3.fst =
 hadT
 (List.take
 g_3.snd.fst.toNat
 g.fst)
 g_2.fst →
 (g_3.fst.length =
 (256 : Nat) ∧
 ∀ (x : Bool),
 x ∈ g_3.fst →
 True) ∧
 ((-9223372036854775808 :
 Int) ≤
 g_3.snd.fst ∧
 g_3.snd.fst ≤
 (9223372036854775807 :
 Int)) ∧
 True →
 (decide
 (g_3.snd.fst <
 (↑g.fst.length :
 Int)) =
 true →
 ((0 : Int) ≤
 g_3.snd.fst ∧
 g_3.snd.fst <
 (↑g.fst.length :
 Int)) ∧
 (decide
 ((0 :
 Int) <
 (g.fst.getD
 g_3.snd.fst.toNat
 ((0 :
 Int),
 (0 :
 Int))).snd) =
 true →
 decide
 ((0 :
 Int) <
 (g.fst.getD
 g_3.snd.fst.toNat
 ((0 :
 Int),
 (0 :
 Int))).snd) =
 true) ∧
 (decide
 ((0 :
 Int) <
 (g.fst.getD
 g_3.snd.fst.toNat
 ((0 :
 Int),
 (0 :
 Int))).snd) =
 true →
 decide
 ((0 :
 Int) <
 (g.fst.getD
 g_3.snd.fst.toNat
 ((0 :
 Int),
 (0 :
 Int))).snd) =
 true ∧
 decide
 ((0 :
 Int) <
 (g.fst.getD
 g_3.snd.fst.toNat
 ((0 :
 Int),
 (0 :
 Int))).snd) =
 true) ∧
 (decide
 ((0 :
 Int) <
 (g.fst.getD
 g_3.snd.fst.toNat
 ((0 :
 Int),
 (0 :
 Int))).snd) =
 true →
 decide
 ((0 :
 Int) <
 (g.fst.getD
 g_3.snd.fst.toNat
 ((0 :
 Int),
 (0 :
 Int))).snd) =
 true) ∧
 ((decide
 ((0 :
 Int) <
 (g.fst.getD
 g_3.snd.fst.toNat
 ((0 :
 Int),
 (0 :
 Int))).snd) &&
 (g.fst.getD
 g_3.snd.fst.toNat
 ((0 :
 Int),
 (0 :
 Int))).fst ==
 g_2.fst) =
 true →
 ((0 :
 Int) ≤
 (g.fst.getD
 g_3.snd.fst.toNat
 ((0 :
 Int),
 (0 :
 Int))).snd ∧
 (g.fst.getD
 g_3.snd.fst.toNat
 ((0 :
 Int),
 (0 :
 Int))).snd <
 (↑(256 :
 Nat) :
 Int)) ∧
 ((-9223372036854775808 :
 Int) ≤
 g_3.snd.fst +
 (1 :
 Int) ∧
 g_3.snd.fst +
 (1 :
 Int) ≤
 (9223372036854775807 :
 Int)) ∧
 (((0 :
 Int) ≤
 g_3.snd.fst +
 (1 :
 Int) ∧
 g_3.snd.fst +
 (1 :
 Int) ≤
 (↑g.fst.length :
 Int) ∧
 g_3.fst.set
 (g.fst.getD
 g_3.snd.fst.toNat
 ((0 :
 Int),
 (0 :
 Int))).snd.toNat
 true =
 hadT
 (List.take
 (g_3.snd.fst +
 (1 :
 Int)).toNat
 g.fst)
 g_2.fst) ∧
 ((↑g.fst.length :
 Int) -
 (g_3.snd.fst +
 (1 :
 Int))).toNat <
 ((↑g.fst.length :
 Int) -
 g_3.snd.fst).toNat) ∧
 ((True ∧
 True) ∧
 g_2.fst =
 g_2.fst ∧
 (True ∧
 True) ∧
 True ∧
 (↑g.fst.length :
 Int) =
 (↑g.fst.length :
 Int) ∧
 g_3.snd.fst +
 (1 :
 Int) =
 g_3.snd.fst +
 (1 :
 Int) ∧
 True) ∧
 ((g_3.fst.set
 (g.fst.getD
 g_3.snd.fst.toNat
 ((0 :
 Int),
 (0 :
 Int))).snd.toNat
 true =
 g_3.fst.set
 (g.fst.getD
 g_3.snd.fst.toNat
 ((0 :
 Int),
 (0 :
 Int))).snd.toNat
 true ∧
 True) ∧
 (True ∧
 True) ∧
 g.fst =
 g.fst ∧
 (True ∧
 (True ∧
 True) ∧
 (True ∧
 True) ∧
 True) ∧
 (x.fst =
 x.fst ∧
 True) ∧
 g.snd.fst =
 g.snd.fst ∧
 ((x.snd.snd.fst.getD
 g.snd.snd.fst.toNat
 ((0 :
 Int),
 (0 :
 Int),
 (0 :
 Int))).fst =
 (x.snd.snd.fst.getD
 g.snd.snd.fst.toNat
 ((0 :
 Int),
 (0 :
 Int),
 (0 :
 Int))).fst ∧
 (x.snd.snd.fst.getD
 g.snd.snd.fst.toNat
 ((0 :
 Int),
 (0 :
 Int),
 (0 :
 Int))).snd.fst =
 (x.snd.snd.fst.getD
 g.snd.snd.fst.toNat
 ((0 :
 Int),
 (0 :
 Int),
 (0 :
 Int))).snd.fst ∧
 (x.snd.snd.fst.getD
 g.snd.snd.fst.toNat
 ((0 :
 Int),
 (0 :
 Int),
 (0 :
 Int))).snd.snd =
 (x.snd.snd.fst.getD
 g.snd.snd.fst.toNat
 ((0 :
 Int),
 (0 :
 Int),
 (0 :
 Int))).snd.snd ∧
 True) ∧
 ((0 :
 Int) =
 (0 :
 Int) ∧
 (0 :
 Int) =
 (0 :
 Int) ∧
 True) ∧
 True) ∧
 True ∧
 x.snd.fst =
 x.snd.fst ∧
 True ∧
 True ∧
 True ∧
 True ∧
 True ∧
 True ∧
 True ∧
 (True ∧
 True) ∧
 True ∧
 True ∧
 True ∧
 (True ∧
 True) ∧
 (0 :
 Int) =
 (0 :
 Int) ∧
 g_1.fst =
 g_1.fst ∧
 True ∧
 True ∧
 True ∧
 True ∧
 True ∧
 True ∧
 True ∧
 True ∧
 True ∧
 True ∧
 True ∧
 True ∧
 True ∧
 True ∧
 True ∧
 True ∧
 True ∧
 True ∧
 True ∧
 x.snd.snd.fst =
 x.snd.snd.fst ∧
 (↑x.snd.snd.fst.length :
 Int) =
 (↑x.snd.snd.fst.length :
 Int) ∧
 g.snd.snd.fst =
 g.snd.snd.fst ∧
 True ∧
 True ∧
 True ∧
 True ∧
 True ∧
 True ∧
 True ∧
 True ∧
 True ∧
 True ∧
 True ∧
 True ∧
 True ∧
 True ∧
 (True ∧
 True) ∧
 (x.snd.snd.fst.getD
 g.snd.snd.fst.toNat
 ((0 :
 Int),
 (0 :
 Int),
 (0 :
 Int))).snd.snd =
 (x.snd.snd.fst.getD
 g.snd.snd.fst.toNat
 ((0 :
 Int),
 (0 :
 Int),
 (0 :
 Int))).snd.snd ∧
 g_1.fst =
 g_1.fst ∧
 True ∧
 True ∧
 True ∧
 True ∧
 True ∧
 True ∧
 True ∧
 True ∧
 True ∧
 True ∧
 True ∧
 True ∧
 True ∧
 True ∧
 True ∧
 True ∧
 True ∧
 True ∧
 True ∧
 True ∧
 True ∧
 True ∧
 True ∧
 True ∧
 True ∧
 True ∧
 True ∧
 True ∧
 True ∧
 True ∧
 True ∧
 True ∧
 True ∧
 True ∧
 True ∧
 True ∧
 True ∧
 True ∧
 True ∧
 True ∧
 True ∧
 True ∧
 True ∧
 True ∧
 True ∧
 True ∧
 True ∧
 True ∧
 True ∧
 True ∧
 True ∧
 True ∧
 True ∧
 True ∧
 True ∧
 True ∧
 True ∧
 True ∧
 True ∧
 True ∧
 True ∧
 True ∧
 True ∧
 True ∧
 True ∧
 True ∧
 True ∧
 True ∧
 True ∧
 True ∧
 True ∧
 True ∧
 True ∧
 True ∧
 True ∧
 True) ∧
 ((decide
 ((0 :
 Int) <
 (g.fst.getD
 g_3.snd.fst.toNat
 ((0 :
 Int),
 (0 :
 Int))).snd) &&
 (g.fst.getD
 g_3.snd.fst.toNat
 ((0 :
 Int),
 (0 :
 Int))).fst ==
 g_2.fst) =
 false →
 ((-9223372036854775808 :
 Int) ≤
 g_3.snd.fst +
 (1 :
 Int) ∧
 g_3.snd.fst +
 (1 :
 Int) ≤
 (9223372036854775807 :
 Int)) ∧
 (((0 :
 Int) ≤
 g_3.snd.fst +
 (1 :
 Int) ∧
 g_3.snd.fst +
 (1 :
 Int) ≤
 (↑g.fst.length :
 Int) ∧
 g_3.fst =
 hadT
 (List.take
 (g_3.snd.fst +
 (1 :
 Int)).toNat
 g.fst)
 g_2.fst) ∧
 ((↑g.fst.length :
 Int) -
 (g_3.snd.fst +
 (1 :
 Int))).toNat <
 ((↑g.fst.length :
 Int) -
 g_3.snd.fst).toNat) ∧
 ((True ∧
 True) ∧
 g_2.fst =
 g_2.fst ∧
 (True ∧
 True) ∧
 True ∧
 (↑g.fst.length :
 Int) =
 (↑g.fst.length :
 Int) ∧
 g_3.snd.fst +
 (1 :
 Int) =
 g_3.snd.fst +
 (1 :
 Int) ∧
 True) ∧
 ((g_3.fst =
 g_3.fst ∧
 True) ∧
 (True ∧
 True) ∧
 g.fst =
 g.fst ∧
 (True ∧
 (True ∧
 True) ∧
 (True ∧
 True) ∧
 True) ∧
 (x.fst =
 x.fst ∧
 True) ∧
 g.snd.fst =
 g.snd.fst ∧
 ((x.snd.snd.fst.getD
 g.snd.snd.fst.toNat
 ((0 :
 Int),
 (0 :
 Int),
 (0 :
 Int))).fst =
 (x.snd.snd.fst.getD
 g.snd.snd.fst.toNat
 ((0 :
 Int),
 (0 :
 Int),
 (0 :
 Int))).fst ∧
 (x.snd.snd.fst.getD
 g.snd.snd.fst.toNat
 ((0 :
 Int),
 (0 :
 Int),
 (0 :
 Int))).snd.fst =
 (x.snd.snd.fst.getD
 g.snd.snd.fst.toNat
 ((0 :
 Int),
 (0 :
 Int),
 (0 :
 Int))).snd.fst ∧
 (x.snd.snd.fst.getD
 g.snd.snd.fst.toNat
 ((0 :
 Int),
 (0 :
 Int),
 (0 :
 Int))).snd.snd =
 (x.snd.snd.fst.getD
 g.snd.snd.fst.toNat
 ((0 :
 Int),
 (0 :
 Int),
 (0 :
 Int))).snd.snd ∧
 True) ∧
 ((0 :
 Int) =
 (0 :
 Int) ∧
 (0 :
 Int) =
 (0 :
 Int) ∧
 True) ∧
 True) ∧
 True ∧
 x.snd.fst =
 x.snd.fst ∧
 True ∧
 True ∧
 True ∧
 True ∧
 True ∧
 True ∧
 True ∧
 (True ∧
 True) ∧
 True ∧
 True ∧
 True ∧
 (True ∧
 True) ∧
 (0 :
 Int) =
 (0 :
 Int) ∧
 g_1.fst =
 g_1.fst ∧
 True ∧
 True ∧
 True ∧
 True ∧
 True ∧
 True ∧
 True ∧
 True ∧
 True ∧
 True ∧
 True ∧
 True ∧
 True ∧
 True ∧
 True ∧
 True ∧
 True ∧
 True ∧
 True ∧
 x.snd.snd.fst =
 x.snd.snd.fst ∧
 (↑x.snd.snd.fst.length :
 Int) =
 (↑x.snd.snd.fst.length :
 Int) ∧
 g.snd.snd.fst =
 g.snd.snd.fst ∧
 True ∧
 True ∧
 True ∧
 True ∧
 True ∧
 True ∧
 True ∧
 True ∧
 True ∧
 True ∧
 True ∧
 True ∧
 True ∧
 True ∧
 (True ∧
 True) ∧
 (x.snd.snd.fst.getD
 g.snd.snd.fst.toNat
 ((0 :
 Int),
 (0 :
 Int),
 (0 :
 Int))).snd.snd =
 (x.snd.snd.fst.getD
 g.snd.snd.fst.toNat
 ((0 :
 Int),
 (0 :
 Int),
 (0 :
 Int))).snd.snd ∧
 g_1.fst =
 g_1.fst ∧
 True ∧
 True ∧
 True ∧
 True ∧
 True ∧
 True ∧
 True ∧
 True ∧
 True ∧
 True ∧
 True ∧
 True ∧
 True ∧
 True ∧
 True ∧
 True ∧
 True ∧
 True ∧
 True ∧
 True ∧
 True ∧
 True ∧
 True ∧
 True ∧
 True ∧
 True ∧
 True ∧
 True ∧
 True ∧
 True ∧
 True ∧
 True ∧
 True ∧
 True ∧
 True ∧
 True ∧
 True ∧
 True ∧
 True ∧
 True ∧
 True ∧
 True ∧
 True ∧
 True ∧
 True ∧
 True ∧
 True ∧
 True ∧
 True ∧
 True ∧
 True ∧
 True ∧
 True ∧
 True ∧
 True ∧
 True ∧
 True ∧
 True ∧
 True ∧
 True ∧
 True ∧
 True ∧
 True ∧
 True ∧
 True ∧
 True ∧
 True ∧
 True ∧
 True ∧
 True ∧
 True ∧
 True ∧
 True ∧
 True ∧
 True ∧
 True)) ∧
 (decide
 (g_3.snd.fst <
 (↑g.fst.length :
 Int)) =
 false →
 ((((32 : Int) ≤
 (32 :
 Int) ∧
 (32 :
 Int) ≤
 (256 :
 Int) ∧
 lstN
 (fun
 i ↦
 g_3.fst.getD
 i
 false)
 (Int.toNat
 (32 :
 Int))
 ((256 :
 Int) -
 (32 :
 Int)).toNat =
 lstN
 (fun
 i ↦
 g_3.fst.getD
 i
 false)
 (32 :
 Nat)
 (224 :
 Nat)) ∧
 True) ∧
 ((True ∧
 True) ∧
 g_2.fst =
 g_2.fst ∧
 (True ∧
 True) ∧
 (32 :
 Int) =
 (32 :
 Int) ∧
 True) ∧
 ((True ∧
 True) ∧
 g.fst =
 g.fst ∧
 (True ∧
 (True ∧
 True) ∧
 (True ∧
 True) ∧
 True) ∧
 (x.fst =
 x.fst ∧
 True) ∧
 g.snd.fst =
 g.snd.fst ∧
 ((x.snd.snd.fst.getD
 g.snd.snd.fst.toNat
 ((0 :
 Int),
 (0 :
 Int),
 (0 :
 Int))).fst =
 (x.snd.snd.fst.getD
 g.snd.snd.fst.toNat
 ((0 :
 Int),
 (0 :
 Int),
 (0 :
 Int))).fst ∧
 (x.snd.snd.fst.getD
 g.snd.snd.fst.toNat
 ((0 :
 Int),
 (0 :
 Int),
 (0 :
 Int))).snd.fst =
 (x.snd.snd.fst.getD
 g.snd.snd.fst.toNat
 ((0 :
 Int),
 (0 :
 Int),
 (0 :
 Int))).snd.fst ∧
 (x.snd.snd.fst.getD
 g.snd.snd.fst.toNat
 ((0 :
 Int),
 (0 :
 Int),
 (0 :
 Int))).snd.snd =
 (x.snd.snd.fst.getD
 g.snd.snd.fst.toNat
 ((0 :
 Int),
 (0 :
 Int),
 (0 :
 Int))).snd.snd ∧
 True) ∧
 ((0 :
 Int) =
 (0 :
 Int) ∧
 (0 :
 Int) =
 (0 :
 Int) ∧
 True) ∧
 (g_3.fst =
 g_3.fst ∧
 True) ∧
 True) ∧
 True ∧
 x.snd.fst =
 x.snd.fst ∧
 True ∧
 True ∧
 True ∧
 True ∧
 True ∧
 True ∧
 True ∧
 (True ∧
 True) ∧
 True ∧
 True ∧
 True ∧
 (True ∧
 True) ∧
 (0 :
 Int) =
 (0 :
 Int) ∧
 g_1.fst =
 g_1.fst ∧
 True ∧
 True ∧
 True ∧
 True ∧
 True ∧
 True ∧
 True ∧
 True ∧
 True ∧
 True ∧
 True ∧
 True ∧
 True ∧
 True ∧
 True ∧
 True ∧
 True ∧
 True ∧
 True ∧
 x.snd.snd.fst =
 x.snd.snd.fst ∧
 (↑x.snd.snd.fst.length :
 Int) =
 (↑x.snd.snd.fst.length :
 Int) ∧
 g.snd.snd.fst =
 g.snd.snd.fst ∧
 True ∧
 True ∧
 True ∧
 True ∧
 True ∧
 True ∧
 True ∧
 True ∧
 True ∧
 True ∧
 True ∧
 True ∧
 True ∧
 True ∧
 (True ∧
 True) ∧
 (x.snd.snd.fst.getD
 g.snd.snd.fst.toNat
 ((0 :
 Int),
 (0 :
 Int),
 (0 :
 Int))).snd.snd =
 (x.snd.snd.fst.getD
 g.snd.snd.fst.toNat
 ((0 :
 Int),
 (0 :
 Int),
 (0 :
 Int))).snd.snd ∧
 g_1.fst =
 g_1.fst ∧
 True ∧
 True ∧
 True ∧
 True ∧
 True ∧
 True ∧
 True ∧
 True ∧
 True ∧
 True ∧
 True ∧
 True ∧
 True ∧
 True ∧
 True ∧
 True ∧
 True ∧
 True ∧
 True ∧
 True ∧
 True ∧
 True ∧
 True ∧
 True ∧
 True ∧
 True ∧
 True ∧
 True ∧
 True ∧
 True ∧
 True ∧
 True ∧
 True ∧
 True ∧
 True ∧
 True ∧
 True ∧
 True ∧
 True ∧
 True ∧
 True ∧
 True ∧
 True ∧
 True ∧
 True ∧
 True ∧
 True ∧
 True ∧
 True ∧
 True ∧
 True ∧
 True ∧
 True ∧
 True ∧
 True ∧
 True ∧
 True ∧
 True ∧
 True ∧
 True ∧
 True ∧
 True ∧
 True ∧
 True ∧
 True ∧
 True ∧
 True ∧
 True ∧
 True ∧
 True ∧
 True ∧
 True ∧
 True ∧
 True ∧
 True ∧
 True) ∧
 ∀
 (g_4 :
 Int × Unit),
 (32 : Int) ≤
 g_4.fst ∧
 g_4.fst ≤
 (256 :
 Int) ∧
 lstN
 (fun
 i ↦
 g_3.fst.getD
 i
 false)
 g_4.fst.toNat
 ((256 :
 Int) -
 g_4.fst).toNat =
 lstN
 (fun
 i ↦
 g_3.fst.getD
 i
 false)
 (32 :
 Nat)
 (224 :
 Nat) →
 ((-9223372036854775808 :
 Int) ≤
 g_4.fst ∧
 g_4.fst ≤
 (9223372036854775807 :
 Int)) ∧
 True →
 ((0 :
 Int) ≤
 g_4.fst ∧
 g_4.fst <
 (↑(256 :
 Nat) :
 Int)) ∧
 (g_3.fst.getD
 g_4.fst.toNat
 false =
 true →
 ((-9223372036854775808 :
 Int) ≤
 g_4.fst +
 (1 :
 Int) ∧
 g_4.fst +
 (1 :
 Int) ≤
 (9223372036854775807 :
 Int)) ∧
 (((32 :
 Int) ≤
 g_4.fst +
 (1 :
 Int) ∧
 g_4.fst +
 (1 :
 Int) ≤
 (256 :
 Int) ∧
 lstN
 (fun
 i ↦
 g_3.fst.getD
 i
 false)
 (g_4.fst +
 (1 :
 Int)).toNat
 ((256 :
 Int) -
 (g_4.fst +
 (1 :
 Int))).toNat =
 lstN
 (fun
 i ↦
 g_3.fst.getD
 i
 false)
 (32 :
 Nat)
 (224 :
 Nat)) ∧
 ((256 :
 Int) -
 (g_4.fst +
 (1 :
 Int))).toNat <
 ((256 :
 Int) -
 g_4.fst).toNat) ∧
 ((True ∧
 True) ∧
 g_2.fst =
 g_2.fst ∧
 (True ∧
 True) ∧
 g_4.fst +
 (1 :
 Int) =
 g_4.fst +
 (1 :
 Int) ∧
 True) ∧
 ((True ∧
 True) ∧
 g.fst =
 g.fst ∧
 (True ∧
 (True ∧
 True) ∧
 (True ∧
 True) ∧
 True) ∧
 (x.fst =
 x.fst ∧
 True) ∧
 g.snd.fst =
 g.snd.fst ∧
 ((x.snd.snd.fst.getD
 g.snd.snd.fst.toNat
 ((0 :
 Int),
 (0 :
 Int),
 (0 :
 Int))).fst =
 (x.snd.snd.fst.getD
 g.snd.snd.fst.toNat
 ((0 :
 Int),
 (0 :
 Int),
 (0 :
 Int))).fst ∧
 (x.snd.snd.fst.getD
 g.snd.snd.fst.toNat
 ((0 :
 Int),
 (0 :
 Int),
 (0 :
 Int))).snd.fst =
 (x.snd.snd.fst.getD
 g.snd.snd.fst.toNat
 ((0 :
 Int),
 (0 :
 Int),
 (0 :
 Int))).snd.fst ∧
 (x.snd.snd.fst.getD
 g.snd.snd.fst.toNat
 ((0 :
 Int),
 (0 :
 Int),
 (0 :
 Int))).snd.snd =
 (x.snd.snd.fst.getD
 g.snd.snd.fst.toNat
 ((0 :
 Int),
 (0 :
 Int),
 (0 :
 Int))).snd.snd ∧
 True) ∧
 ((0 :
 Int) =
 (0 :
 Int) ∧
 (0 :
 Int) =
 (0 :
 Int) ∧
 True) ∧
 (g_3.fst =
 g_3.fst ∧
 True) ∧
 True) ∧
 True ∧
 x.snd.fst =
 x.snd.fst ∧
 True ∧
 True ∧
 True ∧
 True ∧
 True ∧
 True ∧
 True ∧
 (True ∧
 True) ∧
 True ∧
 True ∧
 True ∧
 (True ∧
 True) ∧
 (0 :
 Int) =
 (0 :
 Int) ∧
 g_1.fst =
 g_1.fst ∧
 True ∧
 True ∧
 True ∧
 True ∧
 True ∧
 True ∧
 True ∧
 True ∧
 True ∧
 True ∧
 True ∧
 True ∧
 True ∧
 True ∧
 True ∧
 True ∧
 True ∧
 True ∧
 True ∧
 x.snd.snd.fst =
 x.snd.snd.fst ∧
 (↑x.snd.snd.fst.length :
 Int) =
 (↑x.snd.snd.fst.length :
 Int) ∧
 g.snd.snd.fst =
 g.snd.snd.fst ∧
 True ∧
 True ∧
 True ∧
 True ∧
 True ∧
 True ∧
 True ∧
 True ∧
 True ∧
 True ∧
 True ∧
 True ∧
 True ∧
 True ∧
 (True ∧
 True) ∧
 (x.snd.snd.fst.getD
 g.snd.snd.fst.toNat
 ((0 :
 Int),
 (0 :
 Int),
 (0 :
 Int))).snd.snd =
 (x.snd.snd.fst.getD
 g.snd.snd.fst.toNat
 ((0 :
 Int),
 (0 :
 Int),
 (0 :
 Int))).snd.snd ∧
 g_1.fst =
 g_1.fst ∧
 True ∧
 True ∧
 True ∧
 True ∧
 True ∧
 True ∧
 True ∧
 True ∧
 True ∧
 True ∧
 True ∧
 True ∧
 True ∧
 True ∧
 True ∧
 True ∧
 True ∧
 True ∧
 True ∧
 True ∧
 True ∧
 True ∧
 True ∧
 True ∧
 True ∧
 True ∧
 True ∧
 True ∧
 True ∧
 True ∧
 True ∧
 True ∧
 True ∧
 True ∧
 True ∧
 True ∧
 True ∧
 True ∧
 True ∧
 True ∧
 True ∧
 True ∧
 True ∧
 True ∧
 True ∧
 True ∧
 True ∧
 True ∧
 True ∧
 True ∧
 True ∧
 True ∧
 True ∧
 True ∧
 True ∧
 True ∧
 True ∧
 True ∧
 True ∧
 True ∧
 True ∧
 True ∧
 True ∧
 True ∧
 True ∧
 True ∧
 True ∧
 True ∧
 True ∧
 True ∧
 True ∧
 True ∧
 True ∧
 True ∧
 True ∧
 True) ∧
 (g_3.fst.getD
 g_4.fst.toNat
 false =
 false →
 ((0 :
 Int) ≤
 (x.snd.snd.fst.getD
 g.snd.snd.fst.toNat
 ((0 :
 Int),
 (0 :
 Int),
 (0 :
 Int))).snd.fst ∧
 (x.snd.snd.fst.getD
 g.snd.snd.fst.toNat
 ((0 :
 Int),
 (0 :
 Int),
 (0 :
 Int))).snd.fst <
 (↑g.fst.length :
 Int)) ∧
 ((g.fst.set
 (x.snd.snd.fst.getD
 g.snd.snd.fst.toNat
 ((0 :
 Int),
 (0 :
 Int),
 (0 :
 Int))).snd.fst.toNat
 (g_2.fst,
 g_4.fst),
 (0 :
 Int)) =
 stepV
 x.fst
 g.fst
 ((x.snd.snd.fst.getD
 g.snd.snd.fst.toNat
 ((0 :
 Int),
 (0 :
 Int),
 (0 :
 Int))).fst,
 (x.snd.snd.fst.getD
 g.snd.snd.fst.toNat
 ((0 :
 Int),
 (0 :
 Int),
 (0 :
 Int))).snd.fst,
 (x.snd.snd.fst.getD
 g.snd.snd.fst.toNat
 ((0 :
 Int),
 (0 :
 Int),
 (0 :
 Int))).snd.snd) ∧
 True) ∧
 (x.snd.fst =
 x.snd.fst ∧
 (True ∧
 True) ∧
 True ∧
 True ∧
 (0 :
 Int) =
 (0 :
 Int) ∧
 x.snd.snd.fst =
 x.snd.snd.fst ∧
 (↑x.snd.snd.fst.length :
 Int) =
 (↑x.snd.snd.fst.length :
 Int) ∧
 g.snd.snd.fst =
 g.snd.snd.fst ∧
 True) ∧
 ((True ∧
 True) ∧
 g.fst.set
 (x.snd.snd.fst.getD
 g.snd.snd.fst.toNat
 ((0 :
 Int),
 (0 :
 Int),
 (0 :
 Int))).snd.fst.toNat
 (g_2.fst,
 g_4.fst) =
 g.fst.set
 (x.snd.snd.fst.getD
 g.snd.snd.fst.toNat
 ((0 :
 Int),
 (0 :
 Int),
 (0 :
 Int))).snd.fst.toNat
 (g_2.fst,
 g_4.fst) ∧
 (True ∧
 (True ∧
 True) ∧
 (True ∧
 True) ∧
 True) ∧
 (x.fst =
 x.fst ∧
 True) ∧
 g.snd.fst =
 g.snd.fst ∧
 True) ∧
 True)))))))))) ∧
 ∀ (g_1 : List (Int × Int) × Int × Unit),
 (g_1.fst, g_1.snd.fst) =
 stepV x.fst g.fst
 ((x.snd.snd.fst.getD g.snd.snd.fst.toNat ((0 : Int), (0 : Int), (0 : Int))).fst,
 (x.snd.snd.fst.getD g.snd.snd.fst.toNat ((0 : Int), (0 : Int), (0 : Int))).snd.fst,
 (x.snd.snd.fst.getD g.snd.snd.fst.toNat ((0 : Int), (0 : Int), (0 : Int))).snd.snd) →
 (g_1.fst.length ≤ (9223372036854775807 : Nat) ∧
 ∀ (x : Int × Int),
 x ∈ g_1.fst →
 ((-9223372036854775808 : Int) ≤ x.fst ∧ x.fst ≤ (9223372036854775807 : Int)) ∧
 (-9223372036854775808 : Int) ≤ x.snd ∧ x.snd ≤ (9223372036854775807 : Int)) ∧
 ((-9223372036854775808 : Int) ≤ g_1.snd.fst ∧ g_1.snd.fst ≤ (9223372036854775807 : Int)) ∧ True →
 (g.snd.fst.length + (((0 : Int) :: ([] : List Int)).set (0 : Nat) g_1.snd.fst).length ≤
 (9223372036854775807 : Nat) ∧
 (g.snd.fst.length + (((0 : Int) :: ([] : List Int)).set (0 : Nat) g_1.snd.fst).length +
 (g.snd.fst.length + (((0 : Int) :: ([] : List Int)).set (0 : Nat) g_1.snd.fst).length) /
 (4 : Nat) +
 (192 : Nat)) *
 (8 : Nat) ≤
 (281474976710656 : Nat)) ∧
 ((-9223372036854775808 : Int) ≤ g.snd.snd.fst + (1 : Int) ∧
 g.snd.snd.fst + (1 : Int) ≤ (9223372036854775807 : Int)) ∧
 (((0 : Int) ≤ g.snd.snd.fst + (1 : Int) ∧
 g.snd.snd.fst + (1 : Int) ≤ (↑x.snd.snd.fst.length : Int) ∧
 plV x.fst x.snd.fst (List.take (g.snd.snd.fst + (1 : Int)).toNat x.snd.snd.fst) =
 (g_1.fst, g.snd.fst ++ ((0 : Int) :: ([] : List Int)).set (0 : Nat) g_1.snd.fst) ∧
 (↑(g.snd.fst ++ ((0 : Int) :: ([] : List Int)).set (0 : Nat) g_1.snd.fst).length : Int) =
 g.snd.snd.fst + (1 : Int) ∧
 ∀ (s : Int × Int), s ∈ g_1.fst → okSlot x.fst s) ∧
 ((↑x.snd.snd.fst.length : Int) - (g.snd.snd.fst + (1 : Int))).toNat <
 ((↑x.snd.snd.fst.length : Int) - g.snd.snd.fst).toNat) ∧
 (x.snd.fst = x.snd.fst ∧
 (True ∧ True) ∧
 True ∧
 True ∧
 x.snd.snd.fst = x.snd.snd.fst ∧
 (↑x.snd.snd.fst.length : Int) = (↑x.snd.snd.fst.length : Int) ∧
 g.snd.snd.fst + (1 : Int) = g.snd.snd.fst + (1 : Int) ∧ True) ∧
 ((True ∧ True) ∧
 g_1.fst = g_1.fst ∧
 g.snd.fst ++ ((0 : Int) :: ([] : List Int)).set (0 : Nat) g_1.snd.fst =
 g.snd.fst ++ ((0 : Int) :: ([] : List Int)).set (0 : Nat) g_1.snd.fst ∧
 (True ∧ (True ∧ True) ∧ (True ∧ True) ∧ True) ∧ (x.fst = x.fst ∧ True) ∧ True) ∧
 True) ∧
 (decide (g.snd.snd.fst < (↑x.snd.snd.fst.length : Int)) = false →
 g.snd.fst = (playV x).fst ∧ g.fst = (playV x).snd.fst ∧ (0 : Int) = (playV x).snd.snd.fst))

theorem E_dplay_eq (x : HL (cPlayV : Ctr).as) : vc (fx_dplay x) 2 12 Tryd.f12 (cPlayV) x = E_dplay x := by kernel_rfl

def E_vplays (x : Int × Int × List (Int × Int × Int) × Unit) : Prop :=
 Holds (x.snd.snd.fst.length * (24 : Nat) ≤ (140737488355328 : Nat)) ∧
 Holds (x.snd.snd.fst.length * (24 : Nat) ≤ (140737488355328 : Nat)) ∧
 (((playV (x.fst, x.snd.fst, x.snd.snd.fst, ())).snd.snd.fst == (playV (x.fst, x.snd.fst, x.snd.snd.fst, ())).snd.snd.fst) = true →
 (((playV (x.fst, x.snd.fst, x.snd.snd.fst, ())).snd.snd.fst == (playV (x.fst, x.snd.fst, x.snd.snd.fst, ())).snd.snd.fst) = true ∧
 ((playV (x.fst, x.snd.fst, x.snd.snd.fst, ())).snd.snd.fst == (playV (x.fst, x.snd.fst, x.snd.snd.fst, ())).snd.snd.fst) = true) ∧
 Holds True) ∧
 (((playV (x.fst, x.snd.fst, x.snd.snd.fst, ())).snd.snd.fst == (playV (x.fst, x.snd.fst, x.snd.snd.fst, ())).snd.snd.fst) = true →
 ((playV (x.fst, x.snd.fst, x.snd.snd.fst, ())).snd.snd.fst == (playV (x.fst, x.snd.fst, x.snd.snd.fst, ())).snd.snd.fst) = true) ∧
 (((playV (x.fst, x.snd.fst, x.snd.snd.fst, ())).snd.snd.fst == (playV (x.fst, x.snd.fst, x.snd.snd.fst, ())).snd.snd.fst &&
 decide ((playV (x.fst, x.snd.fst, x.snd.snd.fst, ())).fst = (playV (x.fst, x.snd.fst, x.snd.snd.fst, ())).fst)) =
 true →
 (((playV (x.fst, x.snd.fst, x.snd.snd.fst, ())).snd.snd.fst == (playV (x.fst, x.snd.fst, x.snd.snd.fst, ())).snd.snd.fst &&
 decide ((playV (x.fst, x.snd.fst, x.snd.snd.fst, ())).fst = (playV (x.fst, x.snd.fst, x.snd.snd.fst, ())).fst)) =
 true ∧
 ((playV (x.fst, x.snd.fst, x.snd.snd.fst, ())).snd.snd.fst == (playV (x.fst, x.snd.fst, x.snd.snd.fst, ())).snd.snd.fst &&
 decide ((playV (x.fst, x.snd.fst, x.snd.snd.fst, ())).fst = (playV (x.fst, x.snd.fst, x.snd.snd.fst, ())).fst)) =
 true) ∧
 Holds True) ∧
 (((playV (x.fst, x.snd.fst, x.snd.snd.fst, ())).snd.snd.fst == (playV (x.fst, x.snd.fst, x.snd.snd.fst, ())).snd.snd.fst &&
 decide ((playV (x.fst, x.snd.fst, x.snd.snd.fst, ())).fst = (playV (x.fst, x.snd.fst, x.snd.snd.fst, ())).fst)) =
 true →
 ((playV (x.fst, x.snd.fst, x.snd.snd.fst, ())).snd.snd.fst == (playV (x.fst, x.snd.fst, x.snd.snd.fst, ())).snd.snd.fst &&
 decide ((playV (x.fst, x.snd.fst, x.snd.snd.fst, ())).fst = (playV (x.fst, x.snd.fst, x.snd.snd.fst, ())).fst)) =
 true) ∧
 ((playV (x.fst, x.snd.fst, x.snd.snd.fst, ())).snd.snd.fst == (playV (x.fst, x.snd.fst, x.snd.snd.fst, ())).snd.snd.fst &&
 decide ((playV (x.fst, x.snd.fst, x.snd.snd.fst, ())).fst = (playV (x.fst, x.snd.fst, x.snd.snd.fst, ())).fst) &&
 decide ((playV (x.fst, x.snd.fst, x.snd.snd.fst, ())).snd.fst = (playV (x.fst, x.snd.fst, x.snd.snd.fst, ())).snd.fst)) =
 true

theorem E_vplays_eq (x : HL (cVec : Ctr).as) : vc (fx_vplays x) 1 4 Tryd.f4 (cVec) x = E_vplays x := by kernel_rfl

end Go.Proofs.YtlkhpbjjimjhbaaDoor.Vec
