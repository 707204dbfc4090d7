/-
  The conditions that the executor comes to, written out (by a tool of ours), and that they are the conditions (by the kernel).
-/
import Derived.Test.YtollphjlheabdaaRankC
namespace Go.Proofs.Ytollphjlheabdaa.Rank
open Go.Sx
set_option maxRecDepth 100000
set_option maxHeartbeats 4000000

def E_equal (x : List Int × List Int × Unit) : Prop :=
 (((↑x.fst.length : Int) != (↑x.snd.fst.length : Int)) = true → false = decide (x.fst = x.snd.fst)) ∧
 (((↑x.fst.length : Int) != (↑x.snd.fst.length : Int)) = false →
 ((((0 : Int) ≤ (0 : Int) ∧
 (0 : Int) ≤ (↑x.fst.length : Int) ∧ List.take (Int.toNat (0 : Int)) x.fst = List.take (Int.toNat (0 : Int)) x.snd.fst) ∧
 True) ∧
 (x.fst = x.fst ∧ x.snd.fst = x.snd.fst ∧ (↑x.fst.length : Int) = (↑x.fst.length : Int) ∧ (0 : Int) = (0 : Int) ∧ True) ∧ True ∧ True) ∧
 ∀ (g : Int × Unit),
 (0 : Int) ≤ g.fst ∧ g.fst ≤ (↑x.fst.length : Int) ∧ List.take g.fst.toNat x.fst = List.take g.fst.toNat x.snd.fst →
 ((-9223372036854775808 : Int) ≤ g.fst ∧ g.fst ≤ (9223372036854775807 : Int)) ∧ True →
 (decide (g.fst < (↑x.fst.length : Int)) = true →
 ((0 : Int) ≤ g.fst ∧ g.fst < (↑x.fst.length : Int)) ∧
 ((0 : Int) ≤ g.fst ∧ g.fst < (↑x.snd.fst.length : Int)) ∧
 ((x.fst.getD g.fst.toNat (0 : Int) != x.snd.fst.getD g.fst.toNat (0 : Int)) = true → false = decide (x.fst = x.snd.fst)) ∧
 ((x.fst.getD g.fst.toNat (0 : Int) != x.snd.fst.getD g.fst.toNat (0 : Int)) = false →
 ((-9223372036854775808 : Int) ≤ g.fst + (1 : Int) ∧ g.fst + (1 : Int) ≤ (9223372036854775807 : Int)) ∧
 (((0 : Int) ≤ g.fst + (1 : Int) ∧
 g.fst + (1 : Int) ≤ (↑x.fst.length : Int) ∧
 List.take (g.fst + (1 : Int)).toNat x.fst = List.take (g.fst + (1 : Int)).toNat x.snd.fst) ∧
 ((↑x.fst.length : Int) - (g.fst + (1 : Int))).toNat < ((↑x.fst.length : Int) - g.fst).toNat) ∧
 (x.fst = x.fst ∧
 x.snd.fst = x.snd.fst ∧
 (↑x.fst.length : Int) = (↑x.fst.length : Int) ∧ g.fst + (1 : Int) = g.fst + (1 : Int) ∧ True) ∧
 True ∧ True)) ∧
 (decide (g.fst < (↑x.fst.length : Int)) = false → true = decide (x.fst = x.snd.fst)))

theorem E_equal_eq (x : HL (cEqual : Ctr).as) : vc (fx_equal x) 1 20 Try.f20 (cEqual) x = E_equal x := by kernel_rfl

def E_circ (x : List Int × List Int × Unit) : Prop :=
 ((((0 : Int) ≤ (0 : Int) ∧
 (0 : Int) ≤ (↑x.snd.fst.length : Int) ∧ circ x.fst x.snd.fst = oc x.fst x.snd.fst ((↑x.snd.fst.length : Int) - (0 : Int)).toNat (0 : Int)) ∧
 True) ∧
 ((True ∧ True) ∧ (True ∧ True) ∧ True ∧ (↑x.snd.fst.length : Int) = (↑x.snd.fst.length : Int) ∧ (0 : Int) = (0 : Int) ∧ True) ∧
 ((x.fst = x.fst ∧ True) ∧ (x.snd.fst = x.snd.fst ∧ True) ∧ (True ∧ (True ∧ True) ∧ (True ∧ True) ∧ True) ∧ True) ∧ True) ∧
 ∀ (g : Int × Unit),
 (0 : Int) ≤ g.fst ∧
 g.fst ≤ (↑x.snd.fst.length : Int) ∧ circ x.fst x.snd.fst = oc x.fst x.snd.fst ((↑x.snd.fst.length : Int) - g.fst).toNat g.fst →
 ((-9223372036854775808 : Int) ≤ g.fst ∧ g.fst ≤ (9223372036854775807 : Int)) ∧ True →
 (decide (g.fst < (↑x.snd.fst.length : Int)) = true →
 (((0 : Int) ≤ g.fst ∧ g.fst < (↑x.snd.fst.length : Int)) ∧
 (decide ((0 : Int) ≤ x.snd.fst.getD g.fst.toNat (0 : Int)) = true →
 (decide (x.snd.fst.getD g.fst.toNat (0 : Int) < (↑x.fst.length : Int)) = true →
 ((0 : Int) ≤ x.snd.fst.getD g.fst.toNat (0 : Int) ∧ x.snd.fst.getD g.fst.toNat (0 : Int) < (↑x.fst.length : Int)) ∧
 (decide ((0 : Int) ≤ x.fst.getD (x.snd.fst.getD g.fst.toNat (0 : Int)).toNat (0 : Int)) = true →
 ((0 : Int) ≤ x.snd.fst.getD g.fst.toNat (0 : Int) ∧ x.snd.fst.getD g.fst.toNat (0 : Int) < (↑x.fst.length : Int)) ∧
 (decide (x.fst.getD (x.snd.fst.getD g.fst.toNat (0 : Int)).toNat (0 : Int) < (↑x.snd.fst.length : Int)) = true →
 ((0 : Int) ≤ x.snd.fst.getD g.fst.toNat (0 : Int) ∧
 x.snd.fst.getD g.fst.toNat (0 : Int) < (↑x.fst.length : Int)) ∧
 (x.fst.getD (x.snd.fst.getD g.fst.toNat (0 : Int)).toNat (0 : Int) = nx x.fst x.snd.fst g.1 ∧ True) ∧
 ((True ∧ True) ∧
 (True ∧ True) ∧
 True ∧
 g.fst = g.fst ∧
 True ∧
 x.fst.getD (x.snd.fst.getD g.fst.toNat (0 : Int)).toNat (0 : Int) =
 x.fst.getD (x.snd.fst.getD g.fst.toNat (0 : Int)).toNat (0 : Int) ∧
 (↑x.snd.fst.length : Int) = (↑x.snd.fst.length : Int) ∧ g.fst = g.fst ∧ True) ∧
 ((x.fst = x.fst ∧ True) ∧
 (x.snd.fst = x.snd.fst ∧ True) ∧
 (True ∧ (True ∧ True) ∧ (True ∧ True) ∧ True) ∧
 ((0 : Int) :: ([] : List Int)).set (0 : Nat) g.fst =
 ((0 : Int) :: ([] : List Int)).set (0 : Nat) g.fst ∧
 True) ∧
 True) ∧
 (decide (x.fst.getD (x.snd.fst.getD g.fst.toNat (0 : Int)).toNat (0 : Int) < (↑x.snd.fst.length : Int)) = false →
 ((-1 : Int) = nx x.fst x.snd.fst g.1 ∧ True) ∧
 ((True ∧ True) ∧
 (True ∧ True) ∧
 True ∧
 g.fst = g.fst ∧
 True ∧
 (-1 : Int) = (-1 : Int) ∧
 (↑x.snd.fst.length : Int) = (↑x.snd.fst.length : Int) ∧ g.fst = g.fst ∧ True) ∧
 ((x.fst = x.fst ∧ True) ∧
 (x.snd.fst = x.snd.fst ∧ True) ∧
 (True ∧ (True ∧ True) ∧ (True ∧ True) ∧ True) ∧
 ((0 : Int) :: ([] : List Int)).set (0 : Nat) g.fst =
 ((0 : Int) :: ([] : List Int)).set (0 : Nat) g.fst ∧
 True) ∧
 True)) ∧
 (decide ((0 : Int) ≤ x.fst.getD (x.snd.fst.getD g.fst.toNat (0 : Int)).toNat (0 : Int)) = !true →
 ((-1 : Int) = nx x.fst x.snd.fst g.1 ∧ True) ∧
 ((True ∧ True) ∧
 (True ∧ True) ∧
 True ∧
 g.fst = g.fst ∧
 True ∧
 (-1 : Int) = (-1 : Int) ∧ (↑x.snd.fst.length : Int) = (↑x.snd.fst.length : Int) ∧ g.fst = g.fst ∧ True) ∧
 ((x.fst = x.fst ∧ True) ∧
 (x.snd.fst = x.snd.fst ∧ True) ∧
 (True ∧ (True ∧ True) ∧ (True ∧ True) ∧ True) ∧
 ((0 : Int) :: ([] : List Int)).set (0 : Nat) g.fst = ((0 : Int) :: ([] : List Int)).set (0 : Nat) g.fst ∧
 True) ∧
 True)) ∧
 (decide (x.snd.fst.getD g.fst.toNat (0 : Int) < (↑x.fst.length : Int)) = !true →
 ((-1 : Int) = nx x.fst x.snd.fst g.1 ∧ True) ∧
 ((True ∧ True) ∧
 (True ∧ True) ∧
 True ∧
 g.fst = g.fst ∧
 True ∧ (-1 : Int) = (-1 : Int) ∧ (↑x.snd.fst.length : Int) = (↑x.snd.fst.length : Int) ∧ g.fst = g.fst ∧ True) ∧
 ((x.fst = x.fst ∧ True) ∧
 (x.snd.fst = x.snd.fst ∧ True) ∧
 (True ∧ (True ∧ True) ∧ (True ∧ True) ∧ True) ∧
 ((0 : Int) :: ([] : List Int)).set (0 : Nat) g.fst = ((0 : Int) :: ([] : List Int)).set (0 : Nat) g.fst ∧ True) ∧
 True)) ∧
 (decide ((0 : Int) ≤ x.snd.fst.getD g.fst.toNat (0 : Int)) = !true →
 ((-1 : Int) = nx x.fst x.snd.fst g.1 ∧ True) ∧
 ((True ∧ True) ∧
 (True ∧ True) ∧
 True ∧
 g.fst = g.fst ∧
 True ∧ (-1 : Int) = (-1 : Int) ∧ (↑x.snd.fst.length : Int) = (↑x.snd.fst.length : Int) ∧ g.fst = g.fst ∧ True) ∧
 ((x.fst = x.fst ∧ True) ∧
 (x.snd.fst = x.snd.fst ∧ True) ∧
 (True ∧ (True ∧ True) ∧ (True ∧ True) ∧ True) ∧
 ((0 : Int) :: ([] : List Int)).set (0 : Nat) g.fst = ((0 : Int) :: ([] : List Int)).set (0 : Nat) g.fst ∧ True) ∧
 True)) ∧
 ∀ (g_1 : Int × Unit),
 g_1.fst = nx x.fst x.snd.fst g.1 →
 ((-9223372036854775808 : Int) ≤ g_1.fst ∧ g_1.fst ≤ (9223372036854775807 : Int)) ∧ True →
 ((((1 : Int) ≤ (↑(((0 : Int) :: ([] : List Int)).set (0 : Nat) g.fst).length : Int) ∧
 (↑(((0 : Int) :: ([] : List Int)).set (0 : Nat) g.fst).length : Int) ≤ (↑x.snd.fst.length : Int) + (1 : Int) ∧
 (-1 : Int) ≤ g_1.fst ∧
 g_1.fst < (↑x.snd.fst.length : Int) ∧
 G x.fst x.snd.fst g.1 =
 go x.fst x.snd.fst g.1
 ((↑x.snd.fst.length : Int) + (1 : Int) -
 (↑(((0 : Int) :: ([] : List Int)).set (0 : Nat) g.fst).length : Int)).toNat
 g_1.fst (((0 : Int) :: ([] : List Int)).set (0 : Nat) g.fst)) ∧
 True) ∧
 ((True ∧ True) ∧
 (True ∧ True) ∧
 True ∧
 g.fst = g.fst ∧
 True ∧ g_1.fst = g_1.fst ∧ (↑x.snd.fst.length : Int) = (↑x.snd.fst.length : Int) ∧ g.fst = g.fst ∧ True) ∧
 (((0 : Int) :: ([] : List Int)).set (0 : Nat) g.fst = ((0 : Int) :: ([] : List Int)).set (0 : Nat) g.fst ∧
 (x.fst = x.fst ∧ True) ∧ (x.snd.fst = x.snd.fst ∧ True) ∧ (True ∧ (True ∧ True) ∧ (True ∧ True) ∧ True) ∧ True) ∧
 True) ∧
 ∀ (g_2 : List Int × Int × Unit),
 (1 : Int) ≤ (↑g_2.fst.length : Int) ∧
 (↑g_2.fst.length : Int) ≤ (↑x.snd.fst.length : Int) + (1 : Int) ∧
 (-1 : Int) ≤ g_2.snd.fst ∧
 g_2.snd.fst < (↑x.snd.fst.length : Int) ∧
 G x.fst x.snd.fst g.1 =
 go x.fst x.snd.fst g.1 ((↑x.snd.fst.length : Int) + (1 : Int) - (↑g_2.fst.length : Int)).toNat g_2.snd.fst
 g_2.fst →
 (g_2.fst.length ≤ (9223372036854775807 : Nat) ∧
 ∀ (x : Int), x ∈ g_2.fst → (-9223372036854775808 : Int) ≤ x ∧ x ≤ (9223372036854775807 : Int)) ∧
 ((-9223372036854775808 : Int) ≤ g_2.snd.fst ∧ g_2.snd.fst ≤ (9223372036854775807 : Int)) ∧ True →
 (decide ((0 : Int) ≤ g_2.snd.fst) = true → decide ((0 : Int) ≤ g_2.snd.fst) = true) ∧
 (decide ((0 : Int) ≤ g_2.snd.fst) = true → decide ((0 : Int) ≤ g_2.snd.fst) = true) ∧
 (decide ((0 : Int) ≤ g_2.snd.fst) = true →
 decide ((0 : Int) ≤ g_2.snd.fst) = true ∧ decide ((0 : Int) ≤ g_2.snd.fst) = true) ∧
 (decide ((0 : Int) ≤ g_2.snd.fst) = true → decide ((0 : Int) ≤ g_2.snd.fst) = true) ∧
 ((decide ((0 : Int) ≤ g_2.snd.fst) && decide ((↑g_2.fst.length : Int) ≤ (↑x.snd.fst.length : Int))) = true →
 ((g_2.snd.fst == g.fst) = true → g_2.fst = circ x.fst x.snd.fst) ∧
 ((g_2.snd.fst == g.fst) = false →
 (g_2.fst.length + (((0 : Int) :: ([] : List Int)).set (0 : Nat) g_2.snd.fst).length ≤
 (9223372036854775807 : Nat) ∧
 (g_2.fst.length + (((0 : Int) :: ([] : List Int)).set (0 : Nat) g_2.snd.fst).length +
 (g_2.fst.length + (((0 : Int) :: ([] : List Int)).set (0 : Nat) g_2.snd.fst).length) /
 (4 : Nat) +
 (192 : Nat)) *
 (8 : Nat) ≤
 (281474976710656 : Nat)) ∧
 ((0 : Int) ≤ g_2.snd.fst ∧ g_2.snd.fst < (↑x.snd.fst.length : Int)) ∧
 (decide ((0 : Int) ≤ x.snd.fst.getD g_2.snd.fst.toNat (0 : Int)) = true →
 (decide (x.snd.fst.getD g_2.snd.fst.toNat (0 : Int) < (↑x.fst.length : Int)) = true →
 ((0 : Int) ≤ x.snd.fst.getD g_2.snd.fst.toNat (0 : Int) ∧
 x.snd.fst.getD g_2.snd.fst.toNat (0 : Int) < (↑x.fst.length : Int)) ∧
 (decide
 ((0 : Int) ≤
 x.fst.getD (x.snd.fst.getD g_2.snd.fst.toNat (0 : Int)).toNat (0 : Int)) =
 true →
 ((0 : Int) ≤ x.snd.fst.getD g_2.snd.fst.toNat (0 : Int) ∧
 x.snd.fst.getD g_2.snd.fst.toNat (0 : Int) < (↑x.fst.length : Int)) ∧
 (decide
 (x.fst.getD (x.snd.fst.getD g_2.snd.fst.toNat (0 : Int)).toNat (0 : Int) <
 (↑x.snd.fst.length : Int)) =
 true →
 ((0 : Int) ≤ x.snd.fst.getD g_2.snd.fst.toNat (0 : Int) ∧
 x.snd.fst.getD g_2.snd.fst.toNat (0 : Int) < (↑x.fst.length : Int)) ∧
 (((1 : Int) ≤
 (↑(g_2.fst ++
 ((0 : Int) :: ([] : List Int)).set (0 : Nat)
 g_2.snd.fst).length :
 Int) ∧
 (↑(g_2.fst ++
 ((0 : Int) :: ([] : List Int)).set (0 : Nat)
 g_2.snd.fst).length :
 Int) ≤
 (↑x.snd.fst.length : Int) + (1 : Int) ∧
 (-1 : Int) ≤
 x.fst.getD (x.snd.fst.getD g_2.snd.fst.toNat (0 : Int)).toNat
 (0 : Int) ∧
 x.fst.getD (x.snd.fst.getD g_2.snd.fst.toNat (0 : Int)).toNat
 (0 : Int) <
 (↑x.snd.fst.length : Int) ∧
 G x.fst x.snd.fst g.1 =
 go x.fst x.snd.fst g.1
 ((↑x.snd.fst.length : Int) + (1 : Int) -
 (↑(g_2.fst ++
 ((0 : Int) :: ([] : List Int)).set (0 : Nat)
 g_2.snd.fst).length :
 Int)).toNat
 (x.fst.getD (x.snd.fst.getD g_2.snd.fst.toNat (0 : Int)).toNat
 (0 : Int))
 (g_2.fst ++
 ((0 : Int) :: ([] : List Int)).set (0 : Nat) g_2.snd.fst)) ∧
 ((↑x.snd.fst.length : Int) + (1 : Int) -
 (↑(g_2.fst ++
 ((0 : Int) :: ([] : List Int)).set (0 : Nat)
 g_2.snd.fst).length :
 Int)).toNat <
 ((↑x.snd.fst.length : Int) + (1 : Int) - (↑g_2.fst.length : Int)).toNat) ∧
 ((True ∧ True) ∧
 (True ∧ True) ∧
 True ∧
 g.fst = g.fst ∧
 True ∧
 x.fst.getD (x.snd.fst.getD g_2.snd.fst.toNat (0 : Int)).toNat
 (0 : Int) =
 x.fst.getD (x.snd.fst.getD g_2.snd.fst.toNat (0 : Int)).toNat
 (0 : Int) ∧
 (↑x.snd.fst.length : Int) = (↑x.snd.fst.length : Int) ∧
 g.fst = g.fst ∧ True) ∧
 (g_2.fst ++ ((0 : Int) :: ([] : List Int)).set (0 : Nat) g_2.snd.fst =
 g_2.fst ++ ((0 : Int) :: ([] : List Int)).set (0 : Nat) g_2.snd.fst ∧
 (x.fst = x.fst ∧ True) ∧
 (x.snd.fst = x.snd.fst ∧ True) ∧
 (True ∧ (True ∧ True) ∧ (True ∧ True) ∧ True) ∧ True) ∧
 True) ∧
 (decide
 (x.fst.getD (x.snd.fst.getD g_2.snd.fst.toNat (0 : Int)).toNat (0 : Int) <
 (↑x.snd.fst.length : Int)) =
 false →
 (((1 : Int) ≤
 (↑(g_2.fst ++
 ((0 : Int) :: ([] : List Int)).set (0 : Nat) g_2.snd.fst).length :
 Int) ∧
 (↑(g_2.fst ++
 ((0 : Int) :: ([] : List Int)).set (0 : Nat)
 g_2.snd.fst).length :
 Int) ≤
 (↑x.snd.fst.length : Int) + (1 : Int) ∧
 (-1 : Int) ≤ (-1 : Int) ∧
 (-1 : Int) < (↑x.snd.fst.length : Int) ∧
 G x.fst x.snd.fst g.1 =
 go x.fst x.snd.fst g.1
 ((↑x.snd.fst.length : Int) + (1 : Int) -
 (↑(g_2.fst ++
 ((0 : Int) :: ([] : List Int)).set (0 : Nat)
 g_2.snd.fst).length :
 Int)).toNat
 (-1 : Int)
 (g_2.fst ++
 ((0 : Int) :: ([] : List Int)).set (0 : Nat) g_2.snd.fst)) ∧
 ((↑x.snd.fst.length : Int) + (1 : Int) -
 (↑(g_2.fst ++
 ((0 : Int) :: ([] : List Int)).set (0 : Nat)
 g_2.snd.fst).length :
 Int)).toNat <
 ((↑x.snd.fst.length : Int) + (1 : Int) - (↑g_2.fst.length : Int)).toNat) ∧
 ((True ∧ True) ∧
 (True ∧ True) ∧
 True ∧
 g.fst = g.fst ∧
 True ∧
 (-1 : Int) = (-1 : Int) ∧
 (↑x.snd.fst.length : Int) = (↑x.snd.fst.length : Int) ∧
 g.fst = g.fst ∧ True) ∧
 (g_2.fst ++ ((0 : Int) :: ([] : List Int)).set (0 : Nat) g_2.snd.fst =
 g_2.fst ++ ((0 : Int) :: ([] : List Int)).set (0 : Nat) g_2.snd.fst ∧
 (x.fst = x.fst ∧ True) ∧
 (x.snd.fst = x.snd.fst ∧ True) ∧
 (True ∧ (True ∧ True) ∧ (True ∧ True) ∧ True) ∧ True) ∧
 True)) ∧
 (decide
 ((0 : Int) ≤
 x.fst.getD (x.snd.fst.getD g_2.snd.fst.toNat (0 : Int)).toNat (0 : Int)) =
 !true →
 (((1 : Int) ≤
 (↑(g_2.fst ++ ((0 : Int) :: ([] : List Int)).set (0 : Nat) g_2.snd.fst).length :
 Int) ∧
 (↑(g_2.fst ++ ((0 : Int) :: ([] : List Int)).set (0 : Nat) g_2.snd.fst).length :
 Int) ≤
 (↑x.snd.fst.length : Int) + (1 : Int) ∧
 (-1 : Int) ≤ (-1 : Int) ∧
 (-1 : Int) < (↑x.snd.fst.length : Int) ∧
 G x.fst x.snd.fst g.1 =
 go x.fst x.snd.fst g.1
 ((↑x.snd.fst.length : Int) + (1 : Int) -
 (↑(g_2.fst ++
 ((0 : Int) :: ([] : List Int)).set (0 : Nat)
 g_2.snd.fst).length :
 Int)).toNat
 (-1 : Int)
 (g_2.fst ++ ((0 : Int) :: ([] : List Int)).set (0 : Nat) g_2.snd.fst)) ∧
 ((↑x.snd.fst.length : Int) + (1 : Int) -
 (↑(g_2.fst ++
 ((0 : Int) :: ([] : List Int)).set (0 : Nat) g_2.snd.fst).length :
 Int)).toNat <
 ((↑x.snd.fst.length : Int) + (1 : Int) - (↑g_2.fst.length : Int)).toNat) ∧
 ((True ∧ True) ∧
 (True ∧ True) ∧
 True ∧
 g.fst = g.fst ∧
 True ∧
 (-1 : Int) = (-1 : Int) ∧
 (↑x.snd.fst.length : Int) = (↑x.snd.fst.length : Int) ∧
 g.fst = g.fst ∧ True) ∧
 (g_2.fst ++ ((0 : Int) :: ([] : List Int)).set (0 : Nat) g_2.snd.fst =
 g_2.fst ++ ((0 : Int) :: ([] : List Int)).set (0 : Nat) g_2.snd.fst ∧
 (x.fst = x.fst ∧ True) ∧
 (x.snd.fst = x.snd.fst ∧ True) ∧
 (True ∧ (True ∧ True) ∧ (True ∧ True) ∧ True) ∧ True) ∧
 True)) ∧
 (decide (x.snd.fst.getD g_2.snd.fst.toNat (0 : Int) < (↑x.fst.length : Int)) = !true →
 (((1 : Int) ≤
 (↑(g_2.fst ++ ((0 : Int) :: ([] : List Int)).set (0 : Nat) g_2.snd.fst).length :
 Int) ∧
 (↑(g_2.fst ++ ((0 : Int) :: ([] : List Int)).set (0 : Nat) g_2.snd.fst).length : Int) ≤
 (↑x.snd.fst.length : Int) + (1 : Int) ∧
 (-1 : Int) ≤ (-1 : Int) ∧
 (-1 : Int) < (↑x.snd.fst.length : Int) ∧
 G x.fst x.snd.fst g.1 =
 go x.fst x.snd.fst g.1
 ((↑x.snd.fst.length : Int) + (1 : Int) -
 (↑(g_2.fst ++
 ((0 : Int) :: ([] : List Int)).set (0 : Nat) g_2.snd.fst).length :
 Int)).toNat
 (-1 : Int)
 (g_2.fst ++ ((0 : Int) :: ([] : List Int)).set (0 : Nat) g_2.snd.fst)) ∧
 ((↑x.snd.fst.length : Int) + (1 : Int) -
 (↑(g_2.fst ++ ((0 : Int) :: ([] : List Int)).set (0 : Nat) g_2.snd.fst).length :
 Int)).toNat <
 ((↑x.snd.fst.length : Int) + (1 : Int) - (↑g_2.fst.length : Int)).toNat) ∧
 ((True ∧ True) ∧
 (True ∧ True) ∧
 True ∧
 g.fst = g.fst ∧
 True ∧
 (-1 : Int) = (-1 : Int) ∧
 (↑x.snd.fst.length : Int) = (↑x.snd.fst.length : Int) ∧
 g.fst = g.fst ∧ True) ∧
 (g_2.fst ++ ((0 : Int) :: ([] : List Int)).set (0 : Nat) g_2.snd.fst =
 g_2.fst ++ ((0 : Int) :: ([] : List Int)).set (0 : Nat) g_2.snd.fst ∧
 (x.fst = x.fst ∧ True) ∧
 (x.snd.fst = x.snd.fst ∧ True) ∧
 (True ∧ (True ∧ True) ∧ (True ∧ True) ∧ True) ∧ True) ∧
 True)) ∧
 (decide ((0 : Int) ≤ x.snd.fst.getD g_2.snd.fst.toNat (0 : Int)) = !true →
 (((1 : Int) ≤
 (↑(g_2.fst ++ ((0 : Int) :: ([] : List Int)).set (0 : Nat) g_2.snd.fst).length : Int) ∧
 (↑(g_2.fst ++ ((0 : Int) :: ([] : List Int)).set (0 : Nat) g_2.snd.fst).length : Int) ≤
 (↑x.snd.fst.length : Int) + (1 : Int) ∧
 (-1 : Int) ≤ (-1 : Int) ∧
 (-1 : Int) < (↑x.snd.fst.length : Int) ∧
 G x.fst x.snd.fst g.1 =
 go x.fst x.snd.fst g.1
 ((↑x.snd.fst.length : Int) + (1 : Int) -
 (↑(g_2.fst ++
 ((0 : Int) :: ([] : List Int)).set (0 : Nat) g_2.snd.fst).length :
 Int)).toNat
 (-1 : Int)
 (g_2.fst ++ ((0 : Int) :: ([] : List Int)).set (0 : Nat) g_2.snd.fst)) ∧
 ((↑x.snd.fst.length : Int) + (1 : Int) -
 (↑(g_2.fst ++ ((0 : Int) :: ([] : List Int)).set (0 : Nat) g_2.snd.fst).length :
 Int)).toNat <
 ((↑x.snd.fst.length : Int) + (1 : Int) - (↑g_2.fst.length : Int)).toNat) ∧
 ((True ∧ True) ∧
 (True ∧ True) ∧
 True ∧
 g.fst = g.fst ∧
 True ∧
 (-1 : Int) = (-1 : Int) ∧
 (↑x.snd.fst.length : Int) = (↑x.snd.fst.length : Int) ∧ g.fst = g.fst ∧ True) ∧
 (g_2.fst ++ ((0 : Int) :: ([] : List Int)).set (0 : Nat) g_2.snd.fst =
 g_2.fst ++ ((0 : Int) :: ([] : List Int)).set (0 : Nat) g_2.snd.fst ∧
 (x.fst = x.fst ∧ True) ∧
 (x.snd.fst = x.snd.fst ∧ True) ∧ (True ∧ (True ∧ True) ∧ (True ∧ True) ∧ True) ∧ True) ∧
 True))) ∧
 ((decide ((0 : Int) ≤ g_2.snd.fst) && decide ((↑g_2.fst.length : Int) ≤ (↑x.snd.fst.length : Int))) = false →
 ((-9223372036854775808 : Int) ≤ g.fst + (1 : Int) ∧ g.fst + (1 : Int) ≤ (9223372036854775807 : Int)) ∧
 (((0 : Int) ≤ g.fst + (1 : Int) ∧
 g.fst + (1 : Int) ≤ (↑x.snd.fst.length : Int) ∧
 circ x.fst x.snd.fst =
 oc x.fst x.snd.fst ((↑x.snd.fst.length : Int) - (g.fst + (1 : Int))).toNat (g.fst + (1 : Int))) ∧
 ((↑x.snd.fst.length : Int) - (g.fst + (1 : Int))).toNat < ((↑x.snd.fst.length : Int) - g.fst).toNat) ∧
 ((True ∧ True) ∧
 (True ∧ True) ∧
 True ∧
 (↑x.snd.fst.length : Int) = (↑x.snd.fst.length : Int) ∧
 g.fst + (1 : Int) = g.fst + (1 : Int) ∧ True) ∧
 ((x.fst = x.fst ∧ True) ∧
 (x.snd.fst = x.snd.fst ∧ True) ∧ (True ∧ (True ∧ True) ∧ (True ∧ True) ∧ True) ∧ True) ∧
 True)) ∧
 (decide (g.fst < (↑x.snd.fst.length : Int)) = false → ([] : List Int) = circ x.fst x.snd.fst)

theorem E_circ_eq (x : HL (cCirc : Ctr).as) : vc (fx_circ x) 2 21 Try.f21 (cCirc) x = E_circ x := by kernel_rfl

def E_hcirc (x : List Int × List Int × Unit) : Prop :=
 ((((0 : Int) ≤ (0 : Int) ∧
 (0 : Int) ≤ (↑x.snd.fst.length : Int) ∧ circ x.fst x.snd.fst = oc x.fst x.snd.fst ((↑x.snd.fst.length : Int) - (0 : Int)).toNat (0 : Int)) ∧
 True) ∧
 (x.fst = x.fst ∧ x.snd.fst = x.snd.fst ∧ (↑x.snd.fst.length : Int) = (↑x.snd.fst.length : Int) ∧ (0 : Int) = (0 : Int) ∧ True) ∧ True ∧ True) ∧
 ∀ (g : Int × Unit),
 (0 : Int) ≤ g.fst ∧
 g.fst ≤ (↑x.snd.fst.length : Int) ∧ circ x.fst x.snd.fst = oc x.fst x.snd.fst ((↑x.snd.fst.length : Int) - g.fst).toNat g.fst →
 ((-9223372036854775808 : Int) ≤ g.fst ∧ g.fst ≤ (9223372036854775807 : Int)) ∧ True →
 (decide (g.fst < (↑x.snd.fst.length : Int)) = true →
 ((-9223372036854775808 : Int) ≤ (↑x.snd.fst.length : Int) + (1 : Int) ∧
 (↑x.snd.fst.length : Int) + (1 : Int) ≤ (9223372036854775807 : Int)) ∧
 ((((0 : Int) ≤ (0 : Int) ∧
 (0 : Int) ≤ (↑x.snd.fst.length : Int) + (1 : Int) ∧
 (↑([] : List Int).length : Int) = (0 : Int) ∧
 (0 : Int) ≤ g.fst ∧
 g.fst < (↑x.snd.fst.length : Int) ∧
 G2 x.fst x.snd.fst g.1 =
 go x.fst x.snd.fst g.1 ((↑x.snd.fst.length : Int) + (1 : Int) - (0 : Int)).toNat (nx x.fst x.snd.fst g.fst)
 (([] : List Int) ++ g.fst :: ([] : List Int))) ∧
 True) ∧
 (x.fst = x.fst ∧
 x.snd.fst = x.snd.fst ∧
 g.fst = g.fst ∧
 True ∧
 g.fst = g.fst ∧
 (↑x.snd.fst.length : Int) = (↑x.snd.fst.length : Int) ∧
 g.fst = g.fst ∧
 (↑x.snd.fst.length : Int) + (1 : Int) = (↑x.snd.fst.length : Int) + (1 : Int) ∧ (0 : Int) = (0 : Int) ∧ True) ∧
 (([] : List Int) = ([] : List Int) ∧ True) ∧ True) ∧
 ∀ (g_1 : List Int × Int × Int × Unit),
 (0 : Int) ≤ g_1.snd.snd.fst ∧
 g_1.snd.snd.fst ≤ (↑x.snd.fst.length : Int) + (1 : Int) ∧
 (↑g_1.fst.length : Int) = g_1.snd.snd.fst ∧
 (0 : Int) ≤ g_1.snd.fst ∧
 g_1.snd.fst < (↑x.snd.fst.length : Int) ∧
 G2 x.fst x.snd.fst g.1 =
 go x.fst x.snd.fst g.1 ((↑x.snd.fst.length : Int) + (1 : Int) - g_1.snd.snd.fst).toNat
 (nx x.fst x.snd.fst g_1.snd.fst) (g_1.fst ++ g_1.snd.fst :: ([] : List Int)) →
 (g_1.fst.length ≤ (9223372036854775807 : Nat) ∧
 ∀ (x : Int), x ∈ g_1.fst → (-9223372036854775808 : Int) ≤ x ∧ x ≤ (9223372036854775807 : Int)) ∧
 ((-9223372036854775808 : Int) ≤ g_1.snd.fst ∧ g_1.snd.fst ≤ (9223372036854775807 : Int)) ∧
 ((-9223372036854775808 : Int) ≤ g_1.snd.snd.fst ∧ g_1.snd.snd.fst ≤ (9223372036854775807 : Int)) ∧ True →
 (decide (g_1.snd.snd.fst < (↑x.snd.fst.length : Int) + (1 : Int)) = true →
 (g_1.fst.length + (((0 : Int) :: ([] : List Int)).set (0 : Nat) g_1.snd.fst).length ≤ (9223372036854775807 : Nat) ∧
 (g_1.fst.length + (((0 : Int) :: ([] : List Int)).set (0 : Nat) g_1.snd.fst).length +
 (g_1.fst.length + (((0 : Int) :: ([] : List Int)).set (0 : Nat) g_1.snd.fst).length) / (4 : Nat) +
 (192 : Nat)) *
 (8 : Nat) ≤
 (281474976710656 : Nat)) ∧
 ((0 : Int) ≤ g_1.snd.fst ∧ g_1.snd.fst < (↑x.snd.fst.length : Int)) ∧
 ((!decide (x.snd.fst.getD g_1.snd.fst.toNat (0 : Int) < (0 : Int))) = true →
 (!decide (x.snd.fst.getD g_1.snd.fst.toNat (0 : Int) < (0 : Int))) = true) ∧
 ((!decide (x.snd.fst.getD g_1.snd.fst.toNat (0 : Int) < (0 : Int))) = true →
 (!decide (x.snd.fst.getD g_1.snd.fst.toNat (0 : Int) < (0 : Int))) = true ∧
 (!decide (x.snd.fst.getD g_1.snd.fst.toNat (0 : Int) < (0 : Int))) = true) ∧
 (decide (x.snd.fst.getD g_1.snd.fst.toNat (0 : Int) < (0 : Int)) = false →
 (!decide (x.snd.fst.getD g_1.snd.fst.toNat (0 : Int) < (0 : Int))) = true) ∧
 ((!(decide (x.snd.fst.getD g_1.snd.fst.toNat (0 : Int) < (0 : Int)) ||
 decide ((↑x.fst.length : Int) ≤ x.snd.fst.getD g_1.snd.fst.toNat (0 : Int)))) =
 true →
 ((!(decide (x.snd.fst.getD g_1.snd.fst.toNat (0 : Int) < (0 : Int)) ||
 decide ((↑x.fst.length : Int) ≤ x.snd.fst.getD g_1.snd.fst.toNat (0 : Int)))) =
 true ∧
 (!(decide (x.snd.fst.getD g_1.snd.fst.toNat (0 : Int) < (0 : Int)) ||
 decide ((↑x.fst.length : Int) ≤ x.snd.fst.getD g_1.snd.fst.toNat (0 : Int)))) =
 true) ∧
 (0 : Int) ≤ x.snd.fst.getD g_1.snd.fst.toNat (0 : Int) ∧
 x.snd.fst.getD g_1.snd.fst.toNat (0 : Int) < (↑x.fst.length : Int)) ∧
 ((!(decide (x.snd.fst.getD g_1.snd.fst.toNat (0 : Int) < (0 : Int)) ||
 decide ((↑x.fst.length : Int) ≤ x.snd.fst.getD g_1.snd.fst.toNat (0 : Int)))) =
 true →
 (!(decide (x.snd.fst.getD g_1.snd.fst.toNat (0 : Int) < (0 : Int)) ||
 decide ((↑x.fst.length : Int) ≤ x.snd.fst.getD g_1.snd.fst.toNat (0 : Int)))) =
 true) ∧
 ((!(decide (x.snd.fst.getD g_1.snd.fst.toNat (0 : Int) < (0 : Int)) ||
 decide ((↑x.fst.length : Int) ≤ x.snd.fst.getD g_1.snd.fst.toNat (0 : Int)))) =
 true →
 (!(decide (x.snd.fst.getD g_1.snd.fst.toNat (0 : Int) < (0 : Int)) ||
 decide ((↑x.fst.length : Int) ≤ x.snd.fst.getD g_1.snd.fst.toNat (0 : Int)))) =
 true) ∧
 ((decide (x.snd.fst.getD g_1.snd.fst.toNat (0 : Int) < (0 : Int)) ||
 decide ((↑x.fst.length : Int) ≤ x.snd.fst.getD g_1.snd.fst.toNat (0 : Int))) =
 false →
 (!(decide (x.snd.fst.getD g_1.snd.fst.toNat (0 : Int) < (0 : Int)) ||
 decide ((↑x.fst.length : Int) ≤ x.snd.fst.getD g_1.snd.fst.toNat (0 : Int)))) =
 true) ∧
 ((!(decide (x.snd.fst.getD g_1.snd.fst.toNat (0 : Int) < (0 : Int)) ||
 decide ((↑x.fst.length : Int) ≤ x.snd.fst.getD g_1.snd.fst.toNat (0 : Int)) ||
 decide (x.fst.getD (x.snd.fst.getD g_1.snd.fst.toNat (0 : Int)).toNat (0 : Int) < (0 : Int)))) =
 true →
 ((!(decide (x.snd.fst.getD g_1.snd.fst.toNat (0 : Int) < (0 : Int)) ||
 decide ((↑x.fst.length : Int) ≤ x.snd.fst.getD g_1.snd.fst.toNat (0 : Int)) ||
 decide
 (x.fst.getD (x.snd.fst.getD g_1.snd.fst.toNat (0 : Int)).toNat (0 : Int) < (0 : Int)))) =
 true ∧
 (!(decide (x.snd.fst.getD g_1.snd.fst.toNat (0 : Int) < (0 : Int)) ||
 decide ((↑x.fst.length : Int) ≤ x.snd.fst.getD g_1.snd.fst.toNat (0 : Int)) ||
 decide
 (x.fst.getD (x.snd.fst.getD g_1.snd.fst.toNat (0 : Int)).toNat (0 : Int) < (0 : Int)))) =
 true) ∧
 (0 : Int) ≤ x.snd.fst.getD g_1.snd.fst.toNat (0 : Int) ∧
 x.snd.fst.getD g_1.snd.fst.toNat (0 : Int) < (↑x.fst.length : Int)) ∧
 ((!(decide (x.snd.fst.getD g_1.snd.fst.toNat (0 : Int) < (0 : Int)) ||
 decide ((↑x.fst.length : Int) ≤ x.snd.fst.getD g_1.snd.fst.toNat (0 : Int)) ||
 decide
 (x.fst.getD (x.snd.fst.getD g_1.snd.fst.toNat (0 : Int)).toNat (0 : Int) < (0 : Int)))) =
 true →
 (!(decide (x.snd.fst.getD g_1.snd.fst.toNat (0 : Int) < (0 : Int)) ||
 decide ((↑x.fst.length : Int) ≤ x.snd.fst.getD g_1.snd.fst.toNat (0 : Int)) ||
 decide
 (x.fst.getD (x.snd.fst.getD g_1.snd.fst.toNat (0 : Int)).toNat (0 : Int) < (0 : Int)))) =
 true) ∧
 ((!(decide (x.snd.fst.getD g_1.snd.fst.toNat (0 : Int) < (0 : Int)) ||
 decide ((↑x.fst.length : Int) ≤ x.snd.fst.getD g_1.snd.fst.toNat (0 : Int)) ||
 decide
 (x.fst.getD (x.snd.fst.getD g_1.snd.fst.toNat (0 : Int)).toNat (0 : Int) < (0 : Int)))) =
 true →
 (!(decide (x.snd.fst.getD g_1.snd.fst.toNat (0 : Int) < (0 : Int)) ||
 decide ((↑x.fst.length : Int) ≤ x.snd.fst.getD g_1.snd.fst.toNat (0 : Int)) ||
 decide
 (x.fst.getD (x.snd.fst.getD g_1.snd.fst.toNat (0 : Int)).toNat (0 : Int) < (0 : Int)))) =
 true) ∧
 ((!(decide (x.snd.fst.getD g_1.snd.fst.toNat (0 : Int) < (0 : Int)) ||
 decide ((↑x.fst.length : Int) ≤ x.snd.fst.getD g_1.snd.fst.toNat (0 : Int)) ||
 decide
 (x.fst.getD (x.snd.fst.getD g_1.snd.fst.toNat (0 : Int)).toNat (0 : Int) <
 (0 : Int)))) =
 true →
 (!(decide (x.snd.fst.getD g_1.snd.fst.toNat (0 : Int) < (0 : Int)) ||
 decide ((↑x.fst.length : Int) ≤ x.snd.fst.getD g_1.snd.fst.toNat (0 : Int)) ||
 decide
 (x.fst.getD (x.snd.fst.getD g_1.snd.fst.toNat (0 : Int)).toNat (0 : Int) <
 (0 : Int)))) =
 true ∧
 (!(decide (x.snd.fst.getD g_1.snd.fst.toNat (0 : Int) < (0 : Int)) ||
 decide ((↑x.fst.length : Int) ≤ x.snd.fst.getD g_1.snd.fst.toNat (0 : Int)) ||
 decide
 (x.fst.getD (x.snd.fst.getD g_1.snd.fst.toNat (0 : Int)).toNat (0 : Int) <
 (0 : Int)))) =
 true) ∧
 ((decide (x.snd.fst.getD g_1.snd.fst.toNat (0 : Int) < (0 : Int)) ||
 decide ((↑x.fst.length : Int) ≤ x.snd.fst.getD g_1.snd.fst.toNat (0 : Int)) ||
 decide
 (x.fst.getD (x.snd.fst.getD g_1.snd.fst.toNat (0 : Int)).toNat (0 : Int) < (0 : Int))) =
 false →
 (!(decide (x.snd.fst.getD g_1.snd.fst.toNat (0 : Int) < (0 : Int)) ||
 decide ((↑x.fst.length : Int) ≤ x.snd.fst.getD g_1.snd.fst.toNat (0 : Int)) ||
 decide
 (x.fst.getD (x.snd.fst.getD g_1.snd.fst.toNat (0 : Int)).toNat (0 : Int) <
 (0 : Int)))) =
 true) ∧
 ((decide (x.snd.fst.getD g_1.snd.fst.toNat (0 : Int) < (0 : Int)) ||
 decide ((↑x.fst.length : Int) ≤ x.snd.fst.getD g_1.snd.fst.toNat (0 : Int)) ||
 decide
 (x.fst.getD (x.snd.fst.getD g_1.snd.fst.toNat (0 : Int)).toNat (0 : Int) <
 (0 : Int)) ||
 decide
 ((↑x.snd.fst.length : Int) ≤
 x.fst.getD (x.snd.fst.getD g_1.snd.fst.toNat (0 : Int)).toNat (0 : Int))) =
 true →
 ((-9223372036854775808 : Int) ≤ g.fst + (1 : Int) ∧
 g.fst + (1 : Int) ≤ (9223372036854775807 : Int)) ∧
 (((0 : Int) ≤ g.fst + (1 : Int) ∧
 g.fst + (1 : Int) ≤ (↑x.snd.fst.length : Int) ∧
 circ x.fst x.snd.fst =
 oc x.fst x.snd.fst ((↑x.snd.fst.length : Int) - (g.fst + (1 : Int))).toNat
 (g.fst + (1 : Int))) ∧
 ((↑x.snd.fst.length : Int) - (g.fst + (1 : Int))).toNat <
 ((↑x.snd.fst.length : Int) - g.fst).toNat) ∧
 (x.fst = x.fst ∧
 x.snd.fst = x.snd.fst ∧
 (↑x.snd.fst.length : Int) = (↑x.snd.fst.length : Int) ∧
 g.fst + (1 : Int) = g.fst + (1 : Int) ∧ True) ∧
 True ∧ True) ∧
 ((decide (x.snd.fst.getD g_1.snd.fst.toNat (0 : Int) < (0 : Int)) ||
 decide ((↑x.fst.length : Int) ≤ x.snd.fst.getD g_1.snd.fst.toNat (0 : Int)) ||
 decide
 (x.fst.getD (x.snd.fst.getD g_1.snd.fst.toNat (0 : Int)).toNat (0 : Int) <
 (0 : Int)) ||
 decide
 ((↑x.snd.fst.length : Int) ≤
 x.fst.getD (x.snd.fst.getD g_1.snd.fst.toNat (0 : Int)).toNat (0 : Int))) =
 false →
 ((0 : Int) ≤ x.snd.fst.getD g_1.snd.fst.toNat (0 : Int) ∧
 x.snd.fst.getD g_1.snd.fst.toNat (0 : Int) < (↑x.fst.length : Int)) ∧
 ((x.fst.getD (x.snd.fst.getD g_1.snd.fst.toNat (0 : Int)).toNat (0 : Int) == g.fst) =
 true →
 g_1.fst ++ ((0 : Int) :: ([] : List Int)).set (0 : Nat) g_1.snd.fst =
 circ x.fst x.snd.fst) ∧
 ((x.fst.getD (x.snd.fst.getD g_1.snd.fst.toNat (0 : Int)).toNat (0 : Int) == g.fst) =
 false →
 ((-9223372036854775808 : Int) ≤ g_1.snd.snd.fst + (1 : Int) ∧
 g_1.snd.snd.fst + (1 : Int) ≤ (9223372036854775807 : Int)) ∧
 (((0 : Int) ≤ g_1.snd.snd.fst + (1 : Int) ∧
 g_1.snd.snd.fst + (1 : Int) ≤ (↑x.snd.fst.length : Int) + (1 : Int) ∧
 (↑(g_1.fst ++
 ((0 : Int) :: ([] : List Int)).set (0 : Nat)
 g_1.snd.fst).length :
 Int) =
 g_1.snd.snd.fst + (1 : Int) ∧
 (0 : Int) ≤
 x.fst.getD (x.snd.fst.getD g_1.snd.fst.toNat (0 : Int)).toNat
 (0 : Int) ∧
 x.fst.getD (x.snd.fst.getD g_1.snd.fst.toNat (0 : Int)).toNat
 (0 : Int) <
 (↑x.snd.fst.length : Int) ∧
 G2 x.fst x.snd.fst g.1 =
 go x.fst x.snd.fst g.1
 ((↑x.snd.fst.length : Int) + (1 : Int) -
 (g_1.snd.snd.fst + (1 : Int))).toNat
 (nx x.fst x.snd.fst
 (x.fst.getD (x.snd.fst.getD g_1.snd.fst.toNat (0 : Int)).toNat
 (0 : Int)))
 (g_1.fst ++
 ((0 : Int) :: ([] : List Int)).set (0 : Nat) g_1.snd.fst ++
 x.fst.getD (x.snd.fst.getD g_1.snd.fst.toNat (0 : Int)).toNat
 (0 : Int) ::
 ([] : List Int))) ∧
 ((↑x.snd.fst.length : Int) + (1 : Int) - (g_1.snd.snd.fst + (1 : Int))).toNat <
 ((↑x.snd.fst.length : Int) + (1 : Int) - g_1.snd.snd.fst).toNat) ∧
 (x.fst = x.fst ∧
 x.snd.fst = x.snd.fst ∧
 g.fst = g.fst ∧
 True ∧
 x.fst.getD (x.snd.fst.getD g_1.snd.fst.toNat (0 : Int)).toNat
 (0 : Int) =
 x.fst.getD (x.snd.fst.getD g_1.snd.fst.toNat (0 : Int)).toNat
 (0 : Int) ∧
 (↑x.snd.fst.length : Int) = (↑x.snd.fst.length : Int) ∧
 g.fst = g.fst ∧
 (↑x.snd.fst.length : Int) + (1 : Int) =
 (↑x.snd.fst.length : Int) + (1 : Int) ∧
 g_1.snd.snd.fst + (1 : Int) = g_1.snd.snd.fst + (1 : Int) ∧
 True) ∧
 (g_1.fst ++ ((0 : Int) :: ([] : List Int)).set (0 : Nat) g_1.snd.fst =
 g_1.fst ++ ((0 : Int) :: ([] : List Int)).set (0 : Nat) g_1.snd.fst ∧
 True) ∧
 True))) ∧
 (decide (g_1.snd.snd.fst < (↑x.snd.fst.length : Int) + (1 : Int)) = false →
 ((-9223372036854775808 : Int) ≤ g.fst + (1 : Int) ∧ g.fst + (1 : Int) ≤ (9223372036854775807 : Int)) ∧
 (((0 : Int) ≤ g.fst + (1 : Int) ∧
 g.fst + (1 : Int) ≤ (↑x.snd.fst.length : Int) ∧
 circ x.fst x.snd.fst =
 oc x.fst x.snd.fst ((↑x.snd.fst.length : Int) - (g.fst + (1 : Int))).toNat (g.fst + (1 : Int))) ∧
 ((↑x.snd.fst.length : Int) - (g.fst + (1 : Int))).toNat < ((↑x.snd.fst.length : Int) - g.fst).toNat) ∧
 (x.fst = x.fst ∧
 x.snd.fst = x.snd.fst ∧
 (↑x.snd.fst.length : Int) = (↑x.snd.fst.length : Int) ∧ g.fst + (1 : Int) = g.fst + (1 : Int) ∧ True) ∧
 True ∧ True)) ∧
 (decide (g.fst < (↑x.snd.fst.length : Int)) = false → ([] : List Int) = circ x.fst x.snd.fst)

theorem E_hcirc_eq (x : HL (cCirc : Ctr).as) : vc (fx_hcirc x) 1 22 Try.f22 (cCirc) x = E_hcirc x := by kernel_rfl

def E_law (x : List Int × List Int × Unit) : Prop :=
 Holds (x.snd.fst.length * (8 : Nat) ≤ (140737488355328 : Nat)) ∧
 Holds (x.snd.fst.length * (8 : Nat) ≤ (140737488355328 : Nat)) ∧ Holds True ∧ decide (circ x.fst x.snd.fst = circ x.fst x.snd.fst) = true

theorem E_law_eq (x : HL (cLaw : Ctr).as) : vc (fx_law x) 1 4 Try.f4 (cLaw) x = E_law x := by kernel_rfl

end Go.Proofs.Ytollphjlheabdaa.Rank
