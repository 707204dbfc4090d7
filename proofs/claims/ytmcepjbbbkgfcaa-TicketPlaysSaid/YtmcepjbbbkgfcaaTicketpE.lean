/-
  The conditions that the executor comes to, written out (by a tool of ours), and that they are the conditions (by the kernel).
-/
import Derived.Test.YtmcepjbbbkgfcaaTicketpC
namespace Go.Proofs.Ytmcepjbbbkgfcaa.Ticketp
open Go.Sx
set_option maxRecDepth 100000
set_option maxHeartbeats 4000000

def E_right (x : (Int × Int × List Int × List Bool) × Unit) : Prop :=
 ((!decide (x.fst.snd.fst < (0 : Int))) = true → (!decide (x.fst.snd.fst < (0 : Int))) = true) ∧
 ((!decide (x.fst.snd.fst < (0 : Int))) = true → (!decide (x.fst.snd.fst < (0 : Int))) = true) ∧
 ((!decide (x.fst.snd.fst < (0 : Int))) = true → (!decide (x.fst.snd.fst < (0 : Int))) = true ∧ (!decide (x.fst.snd.fst < (0 : Int))) = true) ∧
 (decide (x.fst.snd.fst < (0 : Int)) = false → (!decide (x.fst.snd.fst < (0 : Int))) = true) ∧
 ((!(decide (x.fst.snd.fst < (0 : Int)) || decide (x.fst.fst < x.fst.snd.fst))) = true →
 (!(decide (x.fst.snd.fst < (0 : Int)) || decide (x.fst.fst < x.fst.snd.fst))) = true) ∧
 ((!(decide (x.fst.snd.fst < (0 : Int)) || decide (x.fst.fst < x.fst.snd.fst))) = true →
 (!(decide (x.fst.snd.fst < (0 : Int)) || decide (x.fst.fst < x.fst.snd.fst))) = true) ∧
 ((!(decide (x.fst.snd.fst < (0 : Int)) || decide (x.fst.fst < x.fst.snd.fst))) = true →
 ((!(decide (x.fst.snd.fst < (0 : Int)) || decide (x.fst.fst < x.fst.snd.fst))) = true ∧
 (!(decide (x.fst.snd.fst < (0 : Int)) || decide (x.fst.fst < x.fst.snd.fst))) = true) ∧
 (-9223372036854775808 : Int) ≤ x.fst.fst - x.fst.snd.fst ∧ x.fst.fst - x.fst.snd.fst ≤ (9223372036854775807 : Int)) ∧
 ((!(decide (x.fst.snd.fst < (0 : Int)) || decide (x.fst.fst < x.fst.snd.fst))) = true →
 (!(decide (x.fst.snd.fst < (0 : Int)) || decide (x.fst.fst < x.fst.snd.fst))) = true) ∧
 ((decide (x.fst.snd.fst < (0 : Int)) || decide (x.fst.fst < x.fst.snd.fst)) = false →
 (!(decide (x.fst.snd.fst < (0 : Int)) || decide (x.fst.fst < x.fst.snd.fst))) = true) ∧
 ((!(decide (x.fst.snd.fst < (0 : Int)) || decide (x.fst.fst < x.fst.snd.fst) || decide ((8 : Int) < x.fst.fst - x.fst.snd.fst))) =
 true →
 (!(decide (x.fst.snd.fst < (0 : Int)) || decide (x.fst.fst < x.fst.snd.fst) ||
 decide ((8 : Int) < x.fst.fst - x.fst.snd.fst))) =
 true) ∧
 ((!(decide (x.fst.snd.fst < (0 : Int)) || decide (x.fst.fst < x.fst.snd.fst) || decide ((8 : Int) < x.fst.fst - x.fst.snd.fst))) =
 true →
 (!(decide (x.fst.snd.fst < (0 : Int)) || decide (x.fst.fst < x.fst.snd.fst) ||
 decide ((8 : Int) < x.fst.fst - x.fst.snd.fst))) =
 true) ∧
 ((decide (x.fst.snd.fst < (0 : Int)) || decide (x.fst.fst < x.fst.snd.fst) || decide ((8 : Int) < x.fst.fst - x.fst.snd.fst)) =
 false →
 (!(decide (x.fst.snd.fst < (0 : Int)) || decide (x.fst.fst < x.fst.snd.fst) ||
 decide ((8 : Int) < x.fst.fst - x.fst.snd.fst))) =
 true) ∧
 ((decide (x.fst.snd.fst < (0 : Int)) || decide (x.fst.fst < x.fst.snd.fst) ||
 decide ((8 : Int) < x.fst.fst - x.fst.snd.fst) ||
 decide ((1099511627776 : Int) < x.fst.fst)) =
 true →
 false = right x.fst) ∧
 ((decide (x.fst.snd.fst < (0 : Int)) || decide (x.fst.fst < x.fst.snd.fst) ||
 decide ((8 : Int) < x.fst.fst - x.fst.snd.fst) ||
 decide ((1099511627776 : Int) < x.fst.fst)) =
 false →
 ((-9223372036854775808 : Int) ≤ x.fst.fst - x.fst.snd.fst ∧ x.fst.fst - x.fst.snd.fst ≤ (9223372036854775807 : Int)) ∧
 (((0 : Int) ≤ x.fst.fst - x.fst.snd.fst ∧ x.fst.fst - x.fst.snd.fst ≤ x.fst.fst - x.fst.snd.fst) ∧
 (x.fst.fst - x.fst.snd.fst) * (↑(1 : Nat) : Int) ≤ (140737488355328 : Int) ∧
 x.fst.fst - x.fst.snd.fst ≤ (9223372036854775807 : Int)) ∧
 ((((0 : Int) ≤ (0 : Int) ∧
 (0 : Int) ≤ (8 : Int) ∧
 (↑(List.replicate (x.fst.fst - x.fst.snd.fst).toNat false).length : Int) = x.fst.fst - x.fst.snd.fst ∧
 okTo x.fst (0 : Int) ∧
 oneTo x.fst (0 : Int) ∧
 ∀ (j : Int),
 (0 : Int) ≤ j →
 j < x.fst.fst - x.fst.snd.fst →
 ((List.replicate (x.fst.fst - x.fst.snd.fst).toNat false).getD j.toNat false = true ↔
 someTo x.fst (x.fst.snd.fst + j) (0 : Int))) ∧
 True) ∧
 ((True ∧ True) ∧ True ∧ (x.fst.snd.snd.fst = x.fst.snd.snd.fst ∧ True) ∧ (0 : Int) = (0 : Int) ∧ True) ∧
 (List.replicate (x.fst.fst - x.fst.snd.fst).toNat false =
 List.replicate (x.fst.fst - x.fst.snd.fst).toNat false ∧
 (x.fst.fst = x.fst.fst ∧
 x.fst.snd.fst = x.fst.snd.fst ∧
 x.fst.snd.snd.fst = x.fst.snd.snd.fst ∧ x.fst.snd.snd.snd = x.fst.snd.snd.snd ∧ True) ∧
 True) ∧
 True) ∧
 ∀ (g : List Bool × Int × Unit),
 ((0 : Int) ≤ g.snd.fst ∧
 g.snd.fst ≤ (8 : Int) ∧
 (↑g.fst.length : Int) = x.fst.fst - x.fst.snd.fst ∧
 okTo x.fst g.snd.fst ∧
 oneTo x.fst g.snd.fst ∧
 ∀ (j : Int),
 (0 : Int) ≤ j →
 j < x.fst.fst - x.fst.snd.fst →
 (g.fst.getD j.toNat false = true ↔ someTo x.fst (x.fst.snd.fst + j) g.snd.fst)) →
 (g.fst.length ≤ (9223372036854775807 : Nat) ∧ ∀ (x : Bool), x ∈ g.fst → True) ∧
 ((-9223372036854775808 : Int) ≤ g.snd.fst ∧ g.snd.fst ≤ (9223372036854775807 : Int)) ∧ True →
 (decide (g.snd.fst < (8 : Int)) = true →
 ((0 : Int) ≤ g.snd.fst ∧ g.snd.fst < (↑(8 : Nat) : Int)) ∧
 ((x.fst.snd.snd.fst.getD g.snd.fst.toNat (0 : Int) == (-1 : Int)) = true →
 ((0 : Int) ≤ g.snd.fst ∧ g.snd.fst < (↑(8 : Nat) : Int)) ∧
 (x.fst.snd.snd.snd.getD g.snd.fst.toNat false = true → false = right x.fst) ∧
 (x.fst.snd.snd.snd.getD g.snd.fst.toNat false = false →
 ((-9223372036854775808 : Int) ≤ g.snd.fst + (1 : Int) ∧
 g.snd.fst + (1 : Int) ≤ (9223372036854775807 : Int)) ∧
 (((0 : Int) ≤ g.snd.fst + (1 : Int) ∧
 g.snd.fst + (1 : Int) ≤ (8 : Int) ∧
 (↑g.fst.length : Int) = x.fst.fst - x.fst.snd.fst ∧
 okTo x.fst (g.snd.fst + (1 : Int)) ∧
 oneTo x.fst (g.snd.fst + (1 : Int)) ∧
 ∀ (j : Int),
 (0 : Int) ≤ j →
 j < x.fst.fst - x.fst.snd.fst →
 (g.fst.getD j.toNat false = true ↔
 someTo x.fst (x.fst.snd.fst + j) (g.snd.fst + (1 : Int)))) ∧
 ((8 : Int) - (g.snd.fst + (1 : Int))).toNat < ((8 : Int) - g.snd.fst).toNat) ∧
 ((True ∧ True) ∧
 True ∧
 (x.fst.snd.snd.fst = x.fst.snd.snd.fst ∧ True) ∧
 g.snd.fst + (1 : Int) = g.snd.fst + (1 : Int) ∧ True) ∧
 (g.fst = g.fst ∧
 (x.fst.fst = x.fst.fst ∧
 x.fst.snd.fst = x.fst.snd.fst ∧
 x.fst.snd.snd.fst = x.fst.snd.snd.fst ∧
 x.fst.snd.snd.snd = x.fst.snd.snd.snd ∧ True) ∧
 True) ∧
 True)) ∧
 ((x.fst.snd.snd.fst.getD g.snd.fst.toNat (0 : Int) == (-1 : Int)) = false →
 ((!decide (x.fst.snd.snd.fst.getD g.snd.fst.toNat (0 : Int) < x.fst.snd.fst)) = true →
 (!decide (x.fst.snd.snd.fst.getD g.snd.fst.toNat (0 : Int) < x.fst.snd.fst)) = true) ∧
 ((!decide (x.fst.snd.snd.fst.getD g.snd.fst.toNat (0 : Int) < x.fst.snd.fst)) = true →
 (!decide (x.fst.snd.snd.fst.getD g.snd.fst.toNat (0 : Int) < x.fst.snd.fst)) = true ∧
 (!decide (x.fst.snd.snd.fst.getD g.snd.fst.toNat (0 : Int) < x.fst.snd.fst)) = true) ∧
 (decide (x.fst.snd.snd.fst.getD g.snd.fst.toNat (0 : Int) < x.fst.snd.fst) = false →
 (!decide (x.fst.snd.snd.fst.getD g.snd.fst.toNat (0 : Int) < x.fst.snd.fst)) = true) ∧
 ((!(decide (x.fst.snd.snd.fst.getD g.snd.fst.toNat (0 : Int) < x.fst.snd.fst) ||
 decide (x.fst.fst ≤ x.fst.snd.snd.fst.getD g.snd.fst.toNat (0 : Int)))) =
 true →
 (!(decide (x.fst.snd.snd.fst.getD g.snd.fst.toNat (0 : Int) < x.fst.snd.fst) ||
 decide (x.fst.fst ≤ x.fst.snd.snd.fst.getD g.snd.fst.toNat (0 : Int)))) =
 true) ∧
 ((!(decide (x.fst.snd.snd.fst.getD g.snd.fst.toNat (0 : Int) < x.fst.snd.fst) ||
 decide (x.fst.fst ≤ x.fst.snd.snd.fst.getD g.snd.fst.toNat (0 : Int)))) =
 true →
 ((!(decide (x.fst.snd.snd.fst.getD g.snd.fst.toNat (0 : Int) < x.fst.snd.fst) ||
 decide (x.fst.fst ≤ x.fst.snd.snd.fst.getD g.snd.fst.toNat (0 : Int)))) =
 true ∧
 (!(decide (x.fst.snd.snd.fst.getD g.snd.fst.toNat (0 : Int) < x.fst.snd.fst) ||
 decide (x.fst.fst ≤ x.fst.snd.snd.fst.getD g.snd.fst.toNat (0 : Int)))) =
 true) ∧
 (-9223372036854775808 : Int) ≤
 x.fst.snd.snd.fst.getD g.snd.fst.toNat (0 : Int) - x.fst.snd.fst ∧
 x.fst.snd.snd.fst.getD g.snd.fst.toNat (0 : Int) - x.fst.snd.fst ≤
 (9223372036854775807 : Int)) ∧
 ((!(decide (x.fst.snd.snd.fst.getD g.snd.fst.toNat (0 : Int) < x.fst.snd.fst) ||
 decide (x.fst.fst ≤ x.fst.snd.snd.fst.getD g.snd.fst.toNat (0 : Int)))) =
 true →
 ((!(decide (x.fst.snd.snd.fst.getD g.snd.fst.toNat (0 : Int) < x.fst.snd.fst) ||
 decide (x.fst.fst ≤ x.fst.snd.snd.fst.getD g.snd.fst.toNat (0 : Int)))) =
 true ∧
 (!(decide (x.fst.snd.snd.fst.getD g.snd.fst.toNat (0 : Int) < x.fst.snd.fst) ||
 decide (x.fst.fst ≤ x.fst.snd.snd.fst.getD g.snd.fst.toNat (0 : Int)))) =
 true) ∧
 (0 : Int) ≤ x.fst.snd.snd.fst.getD g.snd.fst.toNat (0 : Int) - x.fst.snd.fst ∧
 x.fst.snd.snd.fst.getD g.snd.fst.toNat (0 : Int) - x.fst.snd.fst <
 (↑g.fst.length : Int)) ∧
 ((!(decide (x.fst.snd.snd.fst.getD g.snd.fst.toNat (0 : Int) < x.fst.snd.fst) ||
 decide (x.fst.fst ≤ x.fst.snd.snd.fst.getD g.snd.fst.toNat (0 : Int)))) =
 true →
 (!(decide (x.fst.snd.snd.fst.getD g.snd.fst.toNat (0 : Int) < x.fst.snd.fst) ||
 decide (x.fst.fst ≤ x.fst.snd.snd.fst.getD g.snd.fst.toNat (0 : Int)))) =
 true) ∧
 ((decide (x.fst.snd.snd.fst.getD g.snd.fst.toNat (0 : Int) < x.fst.snd.fst) ||
 decide (x.fst.fst ≤ x.fst.snd.snd.fst.getD g.snd.fst.toNat (0 : Int))) =
 false →
 (!(decide (x.fst.snd.snd.fst.getD g.snd.fst.toNat (0 : Int) < x.fst.snd.fst) ||
 decide (x.fst.fst ≤ x.fst.snd.snd.fst.getD g.snd.fst.toNat (0 : Int)))) =
 true) ∧
 ((!(decide (x.fst.snd.snd.fst.getD g.snd.fst.toNat (0 : Int) < x.fst.snd.fst) ||
 decide (x.fst.fst ≤ x.fst.snd.snd.fst.getD g.snd.fst.toNat (0 : Int)) ||
 g.fst.getD
 (x.fst.snd.snd.fst.getD g.snd.fst.toNat (0 : Int) - x.fst.snd.fst).toNat
 false)) =
 true →
 ((!(decide (x.fst.snd.snd.fst.getD g.snd.fst.toNat (0 : Int) < x.fst.snd.fst) ||
 decide
 (x.fst.fst ≤ x.fst.snd.snd.fst.getD g.snd.fst.toNat (0 : Int)) ||
 g.fst.getD
 (x.fst.snd.snd.fst.getD g.snd.fst.toNat (0 : Int) -
 x.fst.snd.fst).toNat
 false)) =
 true ∧
 (!(decide
 (x.fst.snd.snd.fst.getD g.snd.fst.toNat (0 : Int) <
 x.fst.snd.fst) ||
 decide
 (x.fst.fst ≤ x.fst.snd.snd.fst.getD g.snd.fst.toNat (0 : Int)) ||
 g.fst.getD
 (x.fst.snd.snd.fst.getD g.snd.fst.toNat (0 : Int) -
 x.fst.snd.fst).toNat
 false)) =
 true) ∧
 (0 : Int) ≤ g.snd.fst ∧ g.snd.fst < (↑(8 : Nat) : Int)) ∧
 ((!(decide (x.fst.snd.snd.fst.getD g.snd.fst.toNat (0 : Int) < x.fst.snd.fst) ||
 decide
 (x.fst.fst ≤ x.fst.snd.snd.fst.getD g.snd.fst.toNat (0 : Int)) ||
 g.fst.getD
 (x.fst.snd.snd.fst.getD g.snd.fst.toNat (0 : Int) -
 x.fst.snd.fst).toNat
 false)) =
 true →
 (!(decide
 (x.fst.snd.snd.fst.getD g.snd.fst.toNat (0 : Int) <
 x.fst.snd.fst) ||
 decide
 (x.fst.fst ≤ x.fst.snd.snd.fst.getD g.snd.fst.toNat (0 : Int)) ||
 g.fst.getD
 (x.fst.snd.snd.fst.getD g.snd.fst.toNat (0 : Int) -
 x.fst.snd.fst).toNat
 false)) =
 true) ∧
 ((!(decide (x.fst.snd.snd.fst.getD g.snd.fst.toNat (0 : Int) < x.fst.snd.fst) ||
 decide
 (x.fst.fst ≤ x.fst.snd.snd.fst.getD g.snd.fst.toNat (0 : Int)) ||
 g.fst.getD
 (x.fst.snd.snd.fst.getD g.snd.fst.toNat (0 : Int) -
 x.fst.snd.fst).toNat
 false)) =
 true →
 (!(decide
 (x.fst.snd.snd.fst.getD g.snd.fst.toNat (0 : Int) <
 x.fst.snd.fst) ||
 decide
 (x.fst.fst ≤ x.fst.snd.snd.fst.getD g.snd.fst.toNat (0 : Int)) ||
 g.fst.getD
 (x.fst.snd.snd.fst.getD g.snd.fst.toNat (0 : Int) -
 x.fst.snd.fst).toNat
 false)) =
 true) ∧
 ((!(decide
 (x.fst.snd.snd.fst.getD g.snd.fst.toNat (0 : Int) <
 x.fst.snd.fst) ||
 decide
 (x.fst.fst ≤
 x.fst.snd.snd.fst.getD g.snd.fst.toNat (0 : Int)) ||
 g.fst.getD
 (x.fst.snd.snd.fst.getD g.snd.fst.toNat (0 : Int) -
 x.fst.snd.fst).toNat
 false) &&
 x.fst.snd.snd.snd.getD g.snd.fst.toNat false) =
 true →
 (!(decide
 (x.fst.snd.snd.fst.getD g.snd.fst.toNat (0 : Int) <
 x.fst.snd.fst) ||
 decide
 (x.fst.fst ≤
 x.fst.snd.snd.fst.getD g.snd.fst.toNat (0 : Int)) ||
 g.fst.getD
 (x.fst.snd.snd.fst.getD g.snd.fst.toNat (0 : Int) -
 x.fst.snd.fst).toNat
 false) &&
 x.fst.snd.snd.snd.getD g.snd.fst.toNat false) =
 true) ∧
 ((!(decide
 (x.fst.snd.snd.fst.getD g.snd.fst.toNat (0 : Int) <
 x.fst.snd.fst) ||
 decide
 (x.fst.fst ≤
 x.fst.snd.snd.fst.getD g.snd.fst.toNat (0 : Int)) ||
 g.fst.getD
 (x.fst.snd.snd.fst.getD g.snd.fst.toNat (0 : Int) -
 x.fst.snd.fst).toNat
 false) &&
 x.fst.snd.snd.snd.getD g.snd.fst.toNat false) =
 true →
 (!(decide
 (x.fst.snd.snd.fst.getD g.snd.fst.toNat (0 : Int) <
 x.fst.snd.fst) ||
 decide
 (x.fst.fst ≤
 x.fst.snd.snd.fst.getD g.snd.fst.toNat (0 : Int)) ||
 g.fst.getD
 (x.fst.snd.snd.fst.getD g.snd.fst.toNat (0 : Int) -
 x.fst.snd.fst).toNat
 false) &&
 x.fst.snd.snd.snd.getD g.snd.fst.toNat false) =
 true ∧
 (!(decide
 (x.fst.snd.snd.fst.getD g.snd.fst.toNat (0 : Int) <
 x.fst.snd.fst) ||
 decide
 (x.fst.fst ≤
 x.fst.snd.snd.fst.getD g.snd.fst.toNat (0 : Int)) ||
 g.fst.getD
 (x.fst.snd.snd.fst.getD g.snd.fst.toNat (0 : Int) -
 x.fst.snd.fst).toNat
 false) &&
 x.fst.snd.snd.snd.getD g.snd.fst.toNat false) =
 true) ∧
 ((!(decide
 (x.fst.snd.snd.fst.getD g.snd.fst.toNat (0 : Int) <
 x.fst.snd.fst) ||
 decide
 (x.fst.fst ≤
 x.fst.snd.snd.fst.getD g.snd.fst.toNat (0 : Int)) ||
 g.fst.getD
 (x.fst.snd.snd.fst.getD g.snd.fst.toNat (0 : Int) -
 x.fst.snd.fst).toNat
 false)) =
 true →
 (!(decide
 (x.fst.snd.snd.fst.getD g.snd.fst.toNat (0 : Int) <
 x.fst.snd.fst) ||
 decide
 (x.fst.fst ≤
 x.fst.snd.snd.fst.getD g.snd.fst.toNat (0 : Int)) ||
 g.fst.getD
 (x.fst.snd.snd.fst.getD g.snd.fst.toNat (0 : Int) -
 x.fst.snd.fst).toNat
 false)) =
 true ∧
 (x.fst.snd.snd.snd.getD g.snd.fst.toNat false = true →
 (!(decide
 (x.fst.snd.snd.fst.getD g.snd.fst.toNat (0 : Int) <
 x.fst.snd.fst) ||
 decide
 (x.fst.fst ≤
 x.fst.snd.snd.fst.getD g.snd.fst.toNat (0 : Int)) ||
 g.fst.getD
 (x.fst.snd.snd.fst.getD g.snd.fst.toNat (0 : Int) -
 x.fst.snd.fst).toNat
 false) &&
 x.fst.snd.snd.snd.getD g.snd.fst.toNat false) =
 true)) ∧
 ((decide
 (x.fst.snd.snd.fst.getD g.snd.fst.toNat (0 : Int) <
 x.fst.snd.fst) ||
 decide
 (x.fst.fst ≤
 x.fst.snd.snd.fst.getD g.snd.fst.toNat (0 : Int)) ||
 g.fst.getD
 (x.fst.snd.snd.fst.getD g.snd.fst.toNat (0 : Int) -
 x.fst.snd.fst).toNat
 false) =
 false →
 (!(decide
 (x.fst.snd.snd.fst.getD g.snd.fst.toNat (0 : Int) <
 x.fst.snd.fst) ||
 decide
 (x.fst.fst ≤
 x.fst.snd.snd.fst.getD g.snd.fst.toNat (0 : Int)) ||
 g.fst.getD
 (x.fst.snd.snd.fst.getD g.snd.fst.toNat (0 : Int) -
 x.fst.snd.fst).toNat
 false)) =
 true) ∧
 ((decide
 (x.fst.snd.snd.fst.getD g.snd.fst.toNat (0 : Int) <
 x.fst.snd.fst) ||
 decide
 (x.fst.fst ≤
 x.fst.snd.snd.fst.getD g.snd.fst.toNat (0 : Int)) ||
 g.fst.getD
 (x.fst.snd.snd.fst.getD g.snd.fst.toNat (0 : Int) -
 x.fst.snd.fst).toNat
 false ||
 x.fst.snd.snd.snd.getD g.snd.fst.toNat false &&
 x.fst.snd.snd.fst.getD g.snd.fst.toNat (0 : Int) !=
 x.fst.snd.fst) =
 true →
 false = right x.fst) ∧
 ((decide
 (x.fst.snd.snd.fst.getD g.snd.fst.toNat (0 : Int) <
 x.fst.snd.fst) ||
 decide
 (x.fst.fst ≤
 x.fst.snd.snd.fst.getD g.snd.fst.toNat (0 : Int)) ||
 g.fst.getD
 (x.fst.snd.snd.fst.getD g.snd.fst.toNat (0 : Int) -
 x.fst.snd.fst).toNat
 false ||
 x.fst.snd.snd.snd.getD g.snd.fst.toNat false &&
 x.fst.snd.snd.fst.getD g.snd.fst.toNat (0 : Int) !=
 x.fst.snd.fst) =
 false →
 ((-9223372036854775808 : Int) ≤
 x.fst.snd.snd.fst.getD g.snd.fst.toNat (0 : Int) -
 x.fst.snd.fst ∧
 x.fst.snd.snd.fst.getD g.snd.fst.toNat (0 : Int) -
 x.fst.snd.fst ≤
 (9223372036854775807 : Int)) ∧
 ((0 : Int) ≤
 x.fst.snd.snd.fst.getD g.snd.fst.toNat (0 : Int) -
 x.fst.snd.fst ∧
 x.fst.snd.snd.fst.getD g.snd.fst.toNat (0 : Int) -
 x.fst.snd.fst <
 (↑g.fst.length : Int)) ∧
 ((-9223372036854775808 : Int) ≤ g.snd.fst + (1 : Int) ∧
 g.snd.fst + (1 : Int) ≤ (9223372036854775807 : Int)) ∧
 (((0 : Int) ≤ g.snd.fst + (1 : Int) ∧
 g.snd.fst + (1 : Int) ≤ (8 : Int) ∧
 (↑(g.fst.set
 (x.fst.snd.snd.fst.getD g.snd.fst.toNat
 (0 : Int) -
 x.fst.snd.fst).toNat
 true).length :
 Int) =
 x.fst.fst - x.fst.snd.fst ∧
 okTo x.fst (g.snd.fst + (1 : Int)) ∧
 oneTo x.fst (g.snd.fst + (1 : Int)) ∧
 ∀ (j : Int),
 (0 : Int) ≤ j →
 j < x.fst.fst - x.fst.snd.fst →
 ((g.fst.set
 (x.fst.snd.snd.fst.getD
 g.snd.fst.toNat
 (0 : Int) -
 x.fst.snd.fst).toNat
 true).getD
 j.toNat false =
 true ↔
 someTo x.fst (x.fst.snd.fst + j)
 (g.snd.fst + (1 : Int)))) ∧
 ((8 : Int) - (g.snd.fst + (1 : Int))).toNat <
 ((8 : Int) - g.snd.fst).toNat) ∧
 ((True ∧ True) ∧
 True ∧
 (x.fst.snd.snd.fst = x.fst.snd.snd.fst ∧ True) ∧
 g.snd.fst + (1 : Int) = g.snd.fst + (1 : Int) ∧
 True) ∧
 (g.fst.set
 (x.fst.snd.snd.fst.getD g.snd.fst.toNat
 (0 : Int) -
 x.fst.snd.fst).toNat
 true =
 g.fst.set
 (x.fst.snd.snd.fst.getD g.snd.fst.toNat
 (0 : Int) -
 x.fst.snd.fst).toNat
 true ∧
 (x.fst.fst = x.fst.fst ∧
 x.fst.snd.fst = x.fst.snd.fst ∧
 x.fst.snd.snd.fst = x.fst.snd.snd.fst ∧
 x.fst.snd.snd.snd = x.fst.snd.snd.snd ∧
 True) ∧
 True) ∧
 True))) ∧
 (decide (g.snd.fst < (8 : Int)) = false →
 ((((0 : Int) ≤ (0 : Int) ∧
 (0 : Int) ≤ x.fst.fst - x.fst.snd.fst ∧
 ∀ (t : Int), x.fst.snd.fst ≤ t → t < x.fst.snd.fst + (0 : Int) → someTo x.fst t (8 : Int)) ∧
 True) ∧
 (True ∧ (↑g.fst.length : Int) = (↑g.fst.length : Int) ∧ (0 : Int) = (0 : Int) ∧ True) ∧
 (g.fst = g.fst ∧ True) ∧ True) ∧
 ∀ (g_1 : Int × Unit),
 ((0 : Int) ≤ g_1.fst ∧
 g_1.fst ≤ x.fst.fst - x.fst.snd.fst ∧
 ∀ (t : Int), x.fst.snd.fst ≤ t → t < x.fst.snd.fst + g_1.fst → someTo x.fst t (8 : Int)) →
 ((-9223372036854775808 : Int) ≤ g_1.fst ∧ g_1.fst ≤ (9223372036854775807 : Int)) ∧ True →
 (decide (g_1.fst < (↑g.fst.length : Int)) = true →
 ((0 : Int) ≤ g_1.fst ∧ g_1.fst < (↑g.fst.length : Int)) ∧
 ((!g.fst.getD g_1.fst.toNat false) = true → false = right x.fst) ∧
 ((!g.fst.getD g_1.fst.toNat false) = false →
 ((-9223372036854775808 : Int) ≤ g_1.fst + (1 : Int) ∧
 g_1.fst + (1 : Int) ≤ (9223372036854775807 : Int)) ∧
 (((0 : Int) ≤ g_1.fst + (1 : Int) ∧
 g_1.fst + (1 : Int) ≤ x.fst.fst - x.fst.snd.fst ∧
 ∀ (t : Int),
 x.fst.snd.fst ≤ t →
 t < x.fst.snd.fst + (g_1.fst + (1 : Int)) → someTo x.fst t (8 : Int)) ∧
 (x.fst.fst - x.fst.snd.fst - (g_1.fst + (1 : Int))).toNat <
 (x.fst.fst - x.fst.snd.fst - g_1.fst).toNat) ∧
 (True ∧
 (↑g.fst.length : Int) = (↑g.fst.length : Int) ∧
 g_1.fst + (1 : Int) = g_1.fst + (1 : Int) ∧ True) ∧
 (g.fst = g.fst ∧ True) ∧ True)) ∧
 (decide (g_1.fst < (↑g.fst.length : Int)) = false → true = right x.fst)))

theorem E_right_eq (x : HL (cRight : Ctr).as) : vc (fx_right x) 1 86 Try.f86 (cRight) x = E_right x := by kernel_rfl

def E_fq (x : (Int × Int × List Int × List Bool) × Unit) : Prop :=
 ((!decide (x.fst.snd.fst < (0 : Int))) = true → (!decide (x.fst.snd.fst < (0 : Int))) = true) ∧
 ((!decide (x.fst.snd.fst < (0 : Int))) = true → (!decide (x.fst.snd.fst < (0 : Int))) = true) ∧
 ((!decide (x.fst.snd.fst < (0 : Int))) = true → (!decide (x.fst.snd.fst < (0 : Int))) = true ∧ (!decide (x.fst.snd.fst < (0 : Int))) = true) ∧
 (decide (x.fst.snd.fst < (0 : Int)) = false → (!decide (x.fst.snd.fst < (0 : Int))) = true) ∧
 ((!(decide (x.fst.snd.fst < (0 : Int)) || decide (x.fst.fst < x.fst.snd.fst))) = true →
 (!(decide (x.fst.snd.fst < (0 : Int)) || decide (x.fst.fst < x.fst.snd.fst))) = true) ∧
 ((!(decide (x.fst.snd.fst < (0 : Int)) || decide (x.fst.fst < x.fst.snd.fst))) = true →
 (!(decide (x.fst.snd.fst < (0 : Int)) || decide (x.fst.fst < x.fst.snd.fst))) = true) ∧
 ((decide (x.fst.snd.fst < (0 : Int)) || decide (x.fst.fst < x.fst.snd.fst)) = false →
 (!(decide (x.fst.snd.fst < (0 : Int)) || decide (x.fst.fst < x.fst.snd.fst))) = true) ∧
 ((!(decide (x.fst.snd.fst < (0 : Int)) || decide (x.fst.fst < x.fst.snd.fst) || decide ((1099511627776 : Int) < x.fst.fst))) = true →
 (!(decide (x.fst.snd.fst < (0 : Int)) || decide (x.fst.fst < x.fst.snd.fst) || decide ((1099511627776 : Int) < x.fst.fst))) =
 true) ∧
 ((!(decide (x.fst.snd.fst < (0 : Int)) || decide (x.fst.fst < x.fst.snd.fst) || decide ((1099511627776 : Int) < x.fst.fst))) = true →
 (!(decide (x.fst.snd.fst < (0 : Int)) || decide (x.fst.fst < x.fst.snd.fst) || decide ((1099511627776 : Int) < x.fst.fst))) =
 true) ∧
 ((!(decide (x.fst.snd.fst < (0 : Int)) || decide (x.fst.fst < x.fst.snd.fst) || decide ((1099511627776 : Int) < x.fst.fst))) =
 true →
 ((!(decide (x.fst.snd.fst < (0 : Int)) || decide (x.fst.fst < x.fst.snd.fst) || decide ((1099511627776 : Int) < x.fst.fst))) =
 true ∧
 (!(decide (x.fst.snd.fst < (0 : Int)) || decide (x.fst.fst < x.fst.snd.fst) ||
 decide ((1099511627776 : Int) < x.fst.fst))) =
 true) ∧
 (-9223372036854775808 : Int) ≤ x.fst.fst - x.fst.snd.fst ∧ x.fst.fst - x.fst.snd.fst ≤ (9223372036854775807 : Int)) ∧
 ((!(decide (x.fst.snd.fst < (0 : Int)) || decide (x.fst.fst < x.fst.snd.fst) || decide ((1099511627776 : Int) < x.fst.fst))) =
 true →
 (!(decide (x.fst.snd.fst < (0 : Int)) || decide (x.fst.fst < x.fst.snd.fst) || decide ((1099511627776 : Int) < x.fst.fst))) =
 true) ∧
 ((decide (x.fst.snd.fst < (0 : Int)) || decide (x.fst.fst < x.fst.snd.fst) || decide ((1099511627776 : Int) < x.fst.fst)) =
 false →
 (!(decide (x.fst.snd.fst < (0 : Int)) || decide (x.fst.fst < x.fst.snd.fst) ||
 decide ((1099511627776 : Int) < x.fst.fst))) =
 true) ∧
 ((decide (x.fst.snd.fst < (0 : Int)) || decide (x.fst.fst < x.fst.snd.fst) || decide ((1099511627776 : Int) < x.fst.fst) ||
 decide ((8 : Int) < x.fst.fst - x.fst.snd.fst)) =
 true →
 ([] : List Int) = (fq x.fst).fst ∧ false = (fq x.fst).snd) ∧
 ((decide (x.fst.snd.fst < (0 : Int)) || decide (x.fst.fst < x.fst.snd.fst) || decide ((1099511627776 : Int) < x.fst.fst) ||
 decide ((8 : Int) < x.fst.fst - x.fst.snd.fst)) =
 false →
 (((x.fst.snd.fst ≤ x.fst.snd.fst ∧
 x.fst.snd.fst ≤ x.fst.fst ∧
 ([] : List Int) = Q x.fst (x.fst.snd.fst - x.fst.snd.fst).toNat ∧
 (↑([] : List Int).length : Int) ≤ (8 : Int) * (x.fst.snd.fst - x.fst.snd.fst)) ∧
 True) ∧
 ((True ∧ True) ∧ True ∧ x.fst.snd.fst = x.fst.snd.fst ∧ True) ∧
 (([] : List Int) = ([] : List Int) ∧
 (x.fst.fst = x.fst.fst ∧
 x.fst.snd.fst = x.fst.snd.fst ∧
 x.fst.snd.snd.fst = x.fst.snd.snd.fst ∧ x.fst.snd.snd.snd = x.fst.snd.snd.snd ∧ True) ∧
 True) ∧
 True) ∧
 ∀ (g : List Int × Int × Unit),
 x.fst.snd.fst ≤ g.snd.fst ∧
 g.snd.fst ≤ x.fst.fst ∧
 g.fst = Q x.fst (g.snd.fst - x.fst.snd.fst).toNat ∧
 (↑g.fst.length : Int) ≤ (8 : Int) * (g.snd.fst - x.fst.snd.fst) →
 (g.fst.length ≤ (9223372036854775807 : Nat) ∧
 ∀ (x : Int), x ∈ g.fst → (-9223372036854775808 : Int) ≤ x ∧ x ≤ (9223372036854775807 : Int)) ∧
 ((-9223372036854775808 : Int) ≤ g.snd.fst ∧ g.snd.fst ≤ (9223372036854775807 : Int)) ∧ True →
 (decide (g.snd.fst < x.fst.fst) = true →
 ((((0 : Int) ≤ (0 : Int) ∧
 (0 : Int) ≤ (8 : Int) ∧
 g.fst = Q x.fst (g.snd.1 - x.fst.snd.fst).toNat ++ hk x.fst g.snd.1 (Int.toNat (0 : Int)) ∧
 (↑g.fst.length : Int) ≤ (8 : Int) * (g.snd.1 - x.fst.snd.fst) + (0 : Int)) ∧
 True) ∧
 ((True ∧ True) ∧
 True ∧
 g.snd.fst = g.snd.fst ∧
 (x.fst.snd.snd.fst = x.fst.snd.snd.fst ∧ True) ∧ (0 : Int) = (0 : Int) ∧ True) ∧
 (g.fst = g.fst ∧
 (x.fst.fst = x.fst.fst ∧
 x.fst.snd.fst = x.fst.snd.fst ∧
 x.fst.snd.snd.fst = x.fst.snd.snd.fst ∧ x.fst.snd.snd.snd = x.fst.snd.snd.snd ∧ True) ∧
 True) ∧
 True) ∧
 ∀ (g_1 : List Int × Int × Unit),
 (0 : Int) ≤ g_1.snd.fst ∧
 g_1.snd.fst ≤ (8 : Int) ∧
 g_1.fst = Q x.fst (g.snd.1 - x.fst.snd.fst).toNat ++ hk x.fst g.snd.1 g_1.snd.fst.toNat ∧
 (↑g_1.fst.length : Int) ≤ (8 : Int) * (g.snd.1 - x.fst.snd.fst) + g_1.snd.fst →
 (g_1.fst.length ≤ (9223372036854775807 : Nat) ∧
 ∀ (x : Int), x ∈ g_1.fst → (-9223372036854775808 : Int) ≤ x ∧ x ≤ (9223372036854775807 : Int)) ∧
 ((-9223372036854775808 : Int) ≤ g_1.snd.fst ∧ g_1.snd.fst ≤ (9223372036854775807 : Int)) ∧ True →
 (decide (g_1.snd.fst < (8 : Int)) = true →
 ((0 : Int) ≤ g_1.snd.fst ∧ g_1.snd.fst < (↑(8 : Nat) : Int)) ∧
 ((x.fst.snd.snd.fst.getD g_1.snd.fst.toNat (0 : Int) == g.snd.fst) = true →
 (g_1.fst.length + (((0 : Int) :: ([] : List Int)).set (0 : Nat) g_1.snd.fst).length ≤
 (9223372036854775807 : Nat) ∧
 (g_1.fst.length + (((0 : Int) :: ([] : List Int)).set (0 : Nat) g_1.snd.fst).length +
 (g_1.fst.length +
 (((0 : Int) :: ([] : List Int)).set (0 : Nat) g_1.snd.fst).length) /
 (4 : Nat) +
 (192 : Nat)) *
 (8 : Nat) ≤
 (281474976710656 : Nat)) ∧
 ((-9223372036854775808 : Int) ≤ g_1.snd.fst + (1 : Int) ∧
 g_1.snd.fst + (1 : Int) ≤ (9223372036854775807 : Int)) ∧
 (((0 : Int) ≤ g_1.snd.fst + (1 : Int) ∧
 g_1.snd.fst + (1 : Int) ≤ (8 : Int) ∧
 g_1.fst ++ ((0 : Int) :: ([] : List Int)).set (0 : Nat) g_1.snd.fst =
 Q x.fst (g.snd.1 - x.fst.snd.fst).toNat ++
 hk x.fst g.snd.1 (g_1.snd.fst + (1 : Int)).toNat ∧
 (↑(g_1.fst ++
 ((0 : Int) :: ([] : List Int)).set (0 : Nat) g_1.snd.fst).length :
 Int) ≤
 (8 : Int) * (g.snd.1 - x.fst.snd.fst) + (g_1.snd.fst + (1 : Int))) ∧
 ((8 : Int) - (g_1.snd.fst + (1 : Int))).toNat < ((8 : Int) - g_1.snd.fst).toNat) ∧
 ((True ∧ True) ∧
 True ∧
 g.snd.fst = g.snd.fst ∧
 (x.fst.snd.snd.fst = x.fst.snd.snd.fst ∧ True) ∧
 g_1.snd.fst + (1 : Int) = g_1.snd.fst + (1 : Int) ∧ True) ∧
 (g_1.fst ++ ((0 : Int) :: ([] : List Int)).set (0 : Nat) g_1.snd.fst =
 g_1.fst ++ ((0 : Int) :: ([] : List Int)).set (0 : Nat) g_1.snd.fst ∧
 (x.fst.fst = x.fst.fst ∧
 x.fst.snd.fst = x.fst.snd.fst ∧
 x.fst.snd.snd.fst = x.fst.snd.snd.fst ∧
 x.fst.snd.snd.snd = x.fst.snd.snd.snd ∧ True) ∧
 True) ∧
 True) ∧
 ((x.fst.snd.snd.fst.getD g_1.snd.fst.toNat (0 : Int) == g.snd.fst) = false →
 ((-9223372036854775808 : Int) ≤ g_1.snd.fst + (1 : Int) ∧
 g_1.snd.fst + (1 : Int) ≤ (9223372036854775807 : Int)) ∧
 (((0 : Int) ≤ g_1.snd.fst + (1 : Int) ∧
 g_1.snd.fst + (1 : Int) ≤ (8 : Int) ∧
 g_1.fst =
 Q x.fst (g.snd.1 - x.fst.snd.fst).toNat ++
 hk x.fst g.snd.1 (g_1.snd.fst + (1 : Int)).toNat ∧
 (↑g_1.fst.length : Int) ≤
 (8 : Int) * (g.snd.1 - x.fst.snd.fst) + (g_1.snd.fst + (1 : Int))) ∧
 ((8 : Int) - (g_1.snd.fst + (1 : Int))).toNat < ((8 : Int) - g_1.snd.fst).toNat) ∧
 ((True ∧ True) ∧
 True ∧
 g.snd.fst = g.snd.fst ∧
 (x.fst.snd.snd.fst = x.fst.snd.snd.fst ∧ True) ∧
 g_1.snd.fst + (1 : Int) = g_1.snd.fst + (1 : Int) ∧ True) ∧
 (g_1.fst = g_1.fst ∧
 (x.fst.fst = x.fst.fst ∧
 x.fst.snd.fst = x.fst.snd.fst ∧
 x.fst.snd.snd.fst = x.fst.snd.snd.fst ∧
 x.fst.snd.snd.snd = x.fst.snd.snd.snd ∧ True) ∧
 True) ∧
 True)) ∧
 (decide (g_1.snd.fst < (8 : Int)) = false →
 ((-9223372036854775808 : Int) ≤ g.snd.fst + (1 : Int) ∧
 g.snd.fst + (1 : Int) ≤ (9223372036854775807 : Int)) ∧
 ((x.fst.snd.fst ≤ g.snd.fst + (1 : Int) ∧
 g.snd.fst + (1 : Int) ≤ x.fst.fst ∧
 g_1.fst = Q x.fst (g.snd.fst + (1 : Int) - x.fst.snd.fst).toNat ∧
 (↑g_1.fst.length : Int) ≤ (8 : Int) * (g.snd.fst + (1 : Int) - x.fst.snd.fst)) ∧
 (x.fst.fst - (g.snd.fst + (1 : Int))).toNat < (x.fst.fst - g.snd.fst).toNat) ∧
 ((True ∧ True) ∧ True ∧ g.snd.fst + (1 : Int) = g.snd.fst + (1 : Int) ∧ True) ∧
 (g_1.fst = g_1.fst ∧
 (x.fst.fst = x.fst.fst ∧
 x.fst.snd.fst = x.fst.snd.fst ∧
 x.fst.snd.snd.fst = x.fst.snd.snd.fst ∧
 x.fst.snd.snd.snd = x.fst.snd.snd.snd ∧ True) ∧
 True) ∧
 True)) ∧
 (decide (g.snd.fst < x.fst.fst) = false →
 ((((0 : Int) ≤ (0 : Int) ∧
 (0 : Int) ≤ (8 : Int) ∧
 (0 : Int) = cnt x.fst (Int.toNat (0 : Int)) ∧
 (0 : Int) ≤ (0 : Int) ∧ (0 : Int) ≤ (0 : Int) ∧ inTo x.fst (0 : Int)) ∧
 True) ∧
 ((True ∧ True) ∧
 True ∧
 (0 : Int) = (0 : Int) ∧
 (x.fst.snd.snd.fst = x.fst.snd.snd.fst ∧ True) ∧ (0 : Int) = (0 : Int) ∧ True) ∧
 ((x.fst.fst = x.fst.fst ∧
 x.fst.snd.fst = x.fst.snd.fst ∧
 x.fst.snd.snd.fst = x.fst.snd.snd.fst ∧ x.fst.snd.snd.snd = x.fst.snd.snd.snd ∧ True) ∧
 g.fst = g.fst ∧ True) ∧
 True) ∧
 ∀ (g_1 : Int × Int × Unit),
 (0 : Int) ≤ g_1.snd.fst ∧
 g_1.snd.fst ≤ (8 : Int) ∧
 g_1.fst = cnt x.fst g_1.snd.fst.toNat ∧
 (0 : Int) ≤ g_1.fst ∧ g_1.fst ≤ g_1.snd.fst ∧ inTo x.fst g_1.snd.fst →
 ((-9223372036854775808 : Int) ≤ g_1.fst ∧ g_1.fst ≤ (9223372036854775807 : Int)) ∧
 ((-9223372036854775808 : Int) ≤ g_1.snd.fst ∧ g_1.snd.fst ≤ (9223372036854775807 : Int)) ∧ True →
 (decide (g_1.snd.fst < (8 : Int)) = true →
 ((0 : Int) ≤ g_1.snd.fst ∧ g_1.snd.fst < (↑(8 : Nat) : Int)) ∧
 ((x.fst.snd.snd.fst.getD g_1.snd.fst.toNat (0 : Int) != (-1 : Int)) = true →
 ((-9223372036854775808 : Int) ≤ g_1.fst + (1 : Int) ∧
 g_1.fst + (1 : Int) ≤ (9223372036854775807 : Int)) ∧
 ((0 : Int) ≤ g_1.snd.fst ∧ g_1.snd.fst < (↑(8 : Nat) : Int)) ∧
 (x.fst.snd.snd.snd.getD g_1.snd.fst.toNat false = true →
 x.fst.snd.snd.snd.getD g_1.snd.fst.toNat false = true) ∧
 (x.fst.snd.snd.snd.getD g_1.snd.fst.toNat false = true →
 x.fst.snd.snd.snd.getD g_1.snd.fst.toNat false = true) ∧
 ((x.fst.snd.snd.snd.getD g_1.snd.fst.toNat false &&
 !x.fst.snd.snd.fst.getD g_1.snd.fst.toNat (0 : Int) == (-1 : Int)) =
 true →
 (x.fst.snd.snd.snd.getD g_1.snd.fst.toNat false &&
 !x.fst.snd.snd.fst.getD g_1.snd.fst.toNat (0 : Int) == (-1 : Int)) =
 true) ∧
 ((x.fst.snd.snd.snd.getD g_1.snd.fst.toNat false &&
 !x.fst.snd.snd.fst.getD g_1.snd.fst.toNat (0 : Int) == (-1 : Int)) =
 true →
 (x.fst.snd.snd.snd.getD g_1.snd.fst.toNat false &&
 !x.fst.snd.snd.fst.getD g_1.snd.fst.toNat (0 : Int) == (-1 : Int)) =
 true ∧
 (x.fst.snd.snd.snd.getD g_1.snd.fst.toNat false &&
 !x.fst.snd.snd.fst.getD g_1.snd.fst.toNat (0 : Int) == (-1 : Int)) =
 true) ∧
 (x.fst.snd.snd.snd.getD g_1.snd.fst.toNat false = true →
 x.fst.snd.snd.snd.getD g_1.snd.fst.toNat false = true ∧
 ((x.fst.snd.snd.fst.getD g_1.snd.fst.toNat (0 : Int) == (-1 : Int)) =
 false →
 (x.fst.snd.snd.snd.getD g_1.snd.fst.toNat false &&
 !x.fst.snd.snd.fst.getD g_1.snd.fst.toNat (0 : Int) == (-1 : Int)) =
 true)) ∧
 (x.fst.snd.snd.snd.getD g_1.snd.fst.toNat false = true →
 x.fst.snd.snd.snd.getD g_1.snd.fst.toNat false = true) ∧
 ((x.fst.snd.snd.snd.getD g_1.snd.fst.toNat false &&
 (x.fst.snd.snd.fst.getD g_1.snd.fst.toNat (0 : Int) == (-1 : Int) ||
 x.fst.snd.snd.fst.getD g_1.snd.fst.toNat (0 : Int) !=
 x.fst.snd.fst)) =
 true →
 ([] : List Int) = (fq x.fst).fst ∧ false = (fq x.fst).snd) ∧
 ((x.fst.snd.snd.snd.getD g_1.snd.fst.toNat false &&
 (x.fst.snd.snd.fst.getD g_1.snd.fst.toNat (0 : Int) == (-1 : Int) ||
 x.fst.snd.snd.fst.getD g_1.snd.fst.toNat (0 : Int) !=
 x.fst.snd.fst)) =
 false →
 ((-9223372036854775808 : Int) ≤ g_1.snd.fst + (1 : Int) ∧
 g_1.snd.fst + (1 : Int) ≤ (9223372036854775807 : Int)) ∧
 (((0 : Int) ≤ g_1.snd.fst + (1 : Int) ∧
 g_1.snd.fst + (1 : Int) ≤ (8 : Int) ∧
 g_1.fst + (1 : Int) =
 cnt x.fst (g_1.snd.fst + (1 : Int)).toNat ∧
 (0 : Int) ≤ g_1.fst + (1 : Int) ∧
 g_1.fst + (1 : Int) ≤ g_1.snd.fst + (1 : Int) ∧
 inTo x.fst (g_1.snd.fst + (1 : Int))) ∧
 ((8 : Int) - (g_1.snd.fst + (1 : Int))).toNat <
 ((8 : Int) - g_1.snd.fst).toNat) ∧
 ((True ∧ True) ∧
 True ∧
 g_1.fst + (1 : Int) = g_1.fst + (1 : Int) ∧
 (x.fst.snd.snd.fst = x.fst.snd.snd.fst ∧ True) ∧
 g_1.snd.fst + (1 : Int) = g_1.snd.fst + (1 : Int) ∧
 True) ∧
 ((x.fst.fst = x.fst.fst ∧
 x.fst.snd.fst = x.fst.snd.fst ∧
 x.fst.snd.snd.fst = x.fst.snd.snd.fst ∧
 x.fst.snd.snd.snd = x.fst.snd.snd.snd ∧ True) ∧
 g.fst = g.fst ∧ True) ∧
 True)) ∧
 ((x.fst.snd.snd.fst.getD g_1.snd.fst.toNat (0 : Int) != (-1 : Int)) = false →
 ((0 : Int) ≤ g_1.snd.fst ∧ g_1.snd.fst < (↑(8 : Nat) : Int)) ∧
 (x.fst.snd.snd.snd.getD g_1.snd.fst.toNat false = true →
 x.fst.snd.snd.snd.getD g_1.snd.fst.toNat false = true) ∧
 (x.fst.snd.snd.snd.getD g_1.snd.fst.toNat false = true →
 x.fst.snd.snd.snd.getD g_1.snd.fst.toNat false = true) ∧
 ((x.fst.snd.snd.snd.getD g_1.snd.fst.toNat false &&
 !x.fst.snd.snd.fst.getD g_1.snd.fst.toNat (0 : Int) == (-1 : Int)) =
 true →
 (x.fst.snd.snd.snd.getD g_1.snd.fst.toNat false &&
 !x.fst.snd.snd.fst.getD g_1.snd.fst.toNat (0 : Int) == (-1 : Int)) =
 true) ∧
 ((x.fst.snd.snd.snd.getD g_1.snd.fst.toNat false &&
 !x.fst.snd.snd.fst.getD g_1.snd.fst.toNat (0 : Int) == (-1 : Int)) =
 true →
 (x.fst.snd.snd.snd.getD g_1.snd.fst.toNat false &&
 !x.fst.snd.snd.fst.getD g_1.snd.fst.toNat (0 : Int) == (-1 : Int)) =
 true ∧
 (x.fst.snd.snd.snd.getD g_1.snd.fst.toNat false &&
 !x.fst.snd.snd.fst.getD g_1.snd.fst.toNat (0 : Int) == (-1 : Int)) =
 true) ∧
 (x.fst.snd.snd.snd.getD g_1.snd.fst.toNat false = true →
 x.fst.snd.snd.snd.getD g_1.snd.fst.toNat false = true ∧
 ((x.fst.snd.snd.fst.getD g_1.snd.fst.toNat (0 : Int) == (-1 : Int)) =
 false →
 (x.fst.snd.snd.snd.getD g_1.snd.fst.toNat false &&
 !x.fst.snd.snd.fst.getD g_1.snd.fst.toNat (0 : Int) == (-1 : Int)) =
 true)) ∧
 (x.fst.snd.snd.snd.getD g_1.snd.fst.toNat false = true →
 x.fst.snd.snd.snd.getD g_1.snd.fst.toNat false = true) ∧
 ((x.fst.snd.snd.snd.getD g_1.snd.fst.toNat false &&
 (x.fst.snd.snd.fst.getD g_1.snd.fst.toNat (0 : Int) == (-1 : Int) ||
 x.fst.snd.snd.fst.getD g_1.snd.fst.toNat (0 : Int) !=
 x.fst.snd.fst)) =
 true →
 ([] : List Int) = (fq x.fst).fst ∧ false = (fq x.fst).snd) ∧
 ((x.fst.snd.snd.snd.getD g_1.snd.fst.toNat false &&
 (x.fst.snd.snd.fst.getD g_1.snd.fst.toNat (0 : Int) == (-1 : Int) ||
 x.fst.snd.snd.fst.getD g_1.snd.fst.toNat (0 : Int) !=
 x.fst.snd.fst)) =
 false →
 ((-9223372036854775808 : Int) ≤ g_1.snd.fst + (1 : Int) ∧
 g_1.snd.fst + (1 : Int) ≤ (9223372036854775807 : Int)) ∧
 (((0 : Int) ≤ g_1.snd.fst + (1 : Int) ∧
 g_1.snd.fst + (1 : Int) ≤ (8 : Int) ∧
 g_1.fst = cnt x.fst (g_1.snd.fst + (1 : Int)).toNat ∧
 (0 : Int) ≤ g_1.fst ∧
 g_1.fst ≤ g_1.snd.fst + (1 : Int) ∧
 inTo x.fst (g_1.snd.fst + (1 : Int))) ∧
 ((8 : Int) - (g_1.snd.fst + (1 : Int))).toNat <
 ((8 : Int) - g_1.snd.fst).toNat) ∧
 ((True ∧ True) ∧
 True ∧
 g_1.fst = g_1.fst ∧
 (x.fst.snd.snd.fst = x.fst.snd.snd.fst ∧ True) ∧
 g_1.snd.fst + (1 : Int) = g_1.snd.fst + (1 : Int) ∧ True) ∧
 ((x.fst.fst = x.fst.fst ∧
 x.fst.snd.fst = x.fst.snd.fst ∧
 x.fst.snd.snd.fst = x.fst.snd.snd.fst ∧
 x.fst.snd.snd.snd = x.fst.snd.snd.snd ∧ True) ∧
 g.fst = g.fst ∧ True) ∧
 True))) ∧
 (decide (g_1.snd.fst < (8 : Int)) = false →
 ((g_1.fst == (↑g.fst.length : Int)) = true → (g_1.fst == (↑g.fst.length : Int)) = true) ∧
 ((g_1.fst == (↑g.fst.length : Int)) = true → (g_1.fst == (↑g.fst.length : Int)) = true) ∧
 ((g_1.fst == (↑g.fst.length : Int)) = true →
 ((g_1.fst == (↑g.fst.length : Int)) = true ∧ (g_1.fst == (↑g.fst.length : Int)) = true) ∧
 (-9223372036854775808 : Int) ≤ x.fst.fst - x.fst.snd.fst ∧
 x.fst.fst - x.fst.snd.fst ≤ (9223372036854775807 : Int)) ∧
 ((g_1.fst == (↑g.fst.length : Int)) = true →
 (g_1.fst == (↑g.fst.length : Int)) = true ∧ (g_1.fst == (↑g.fst.length : Int)) = true) ∧
 ((g_1.fst == (↑g.fst.length : Int)) = true → (g_1.fst == (↑g.fst.length : Int)) = true) ∧
 ((((0 : Int) ≤ (0 : Int) ∧
 (0 : Int) ≤ (↑(Q x.fst (x.fst.fst - x.fst.snd.fst).toNat).length : Int) ∧
 ((g_1.fst == (↑g.fst.length : Int) && g_1.fst == x.fst.fst - x.fst.snd.fst) =
 true ↔
 qok x.fst (0 : Int))) ∧
 True) ∧
 ((True ∧ True) ∧
 True ∧
 (g_1.fst == (↑g.fst.length : Int) && g_1.fst == x.fst.fst - x.fst.snd.fst) =
 (g_1.fst == (↑g.fst.length : Int) &&
 g_1.fst == x.fst.fst - x.fst.snd.fst) ∧
 True ∧
 (↑g.fst.length : Int) = (↑g.fst.length : Int) ∧
 (0 : Int) = (0 : Int) ∧ True) ∧
 ((x.fst.fst = x.fst.fst ∧
 x.fst.snd.fst = x.fst.snd.fst ∧
 x.fst.snd.snd.fst = x.fst.snd.snd.fst ∧
 x.fst.snd.snd.snd = x.fst.snd.snd.snd ∧ True) ∧
 g.fst = g.fst ∧ True) ∧
 True) ∧
 ∀ (g_2 : Bool × Int × Unit),
 (0 : Int) ≤ g_2.snd.fst ∧
 g_2.snd.fst ≤ (↑(Q x.fst (x.fst.fst - x.fst.snd.fst).toNat).length : Int) ∧
 (g_2.fst = true ↔ qok x.fst g_2.snd.fst) →
 True ∧
 ((-9223372036854775808 : Int) ≤ g_2.snd.fst ∧
 g_2.snd.fst ≤ (9223372036854775807 : Int)) ∧
 True →
 (decide (g_2.snd.fst < (↑g.fst.length : Int)) = true →
 ((0 : Int) ≤ g_2.snd.fst ∧ g_2.snd.fst < (↑g.fst.length : Int)) ∧
 (g_2.fst = true →
 ((0 : Int) ≤ g.fst.getD g_2.snd.fst.toNat (0 : Int) ∧
 g.fst.getD g_2.snd.fst.toNat (0 : Int) < (↑(8 : Nat) : Int)) ∧
 ((-9223372036854775808 : Int) ≤ x.fst.snd.fst + g_2.snd.fst ∧
 x.fst.snd.fst + g_2.snd.fst ≤ (9223372036854775807 : Int)) ∧
 ((-9223372036854775808 : Int) ≤ g_2.snd.fst + (1 : Int) ∧
 g_2.snd.fst + (1 : Int) ≤ (9223372036854775807 : Int)) ∧
 (((0 : Int) ≤ g_2.snd.fst + (1 : Int) ∧
 g_2.snd.fst + (1 : Int) ≤
 (↑(Q x.fst (x.fst.fst - x.fst.snd.fst).toNat).length :
 Int) ∧
 ((x.fst.snd.snd.fst.getD
 (g.fst.getD g_2.snd.fst.toNat (0 : Int)).toNat
 (0 : Int) ==
 x.fst.snd.fst + g_2.snd.fst) =
 true ↔
 qok x.fst (g_2.snd.fst + (1 : Int)))) ∧
 ((↑(Q x.fst (x.fst.fst - x.fst.snd.fst).toNat).length :
 Int) -
 (g_2.snd.fst + (1 : Int))).toNat <
 ((↑(Q x.fst (x.fst.fst - x.fst.snd.fst).toNat).length :
 Int) -
 g_2.snd.fst).toNat) ∧
 ((True ∧ True) ∧
 True ∧
 (x.fst.snd.snd.fst.getD
 (g.fst.getD g_2.snd.fst.toNat (0 : Int)).toNat
 (0 : Int) ==
 x.fst.snd.fst + g_2.snd.fst) =
 (x.fst.snd.snd.fst.getD
 (g.fst.getD g_2.snd.fst.toNat (0 : Int)).toNat
 (0 : Int) ==
 x.fst.snd.fst + g_2.snd.fst) ∧
 True ∧
 (↑g.fst.length : Int) = (↑g.fst.length : Int) ∧
 g_2.snd.fst + (1 : Int) =
 g_2.snd.fst + (1 : Int) ∧
 True) ∧
 ((x.fst.fst = x.fst.fst ∧
 x.fst.snd.fst = x.fst.snd.fst ∧
 x.fst.snd.snd.fst = x.fst.snd.snd.fst ∧
 x.fst.snd.snd.snd = x.fst.snd.snd.snd ∧ True) ∧
 g.fst = g.fst ∧ True) ∧
 True) ∧
 (g_2.fst = !true →
 ((-9223372036854775808 : Int) ≤ g_2.snd.fst + (1 : Int) ∧
 g_2.snd.fst + (1 : Int) ≤ (9223372036854775807 : Int)) ∧
 (((0 : Int) ≤ g_2.snd.fst + (1 : Int) ∧
 g_2.snd.fst + (1 : Int) ≤
 (↑(Q x.fst (x.fst.fst - x.fst.snd.fst).toNat).length :
 Int) ∧
 (false = true ↔ qok x.fst (g_2.snd.fst + (1 : Int)))) ∧
 ((↑(Q x.fst (x.fst.fst - x.fst.snd.fst).toNat).length : Int) -
 (g_2.snd.fst + (1 : Int))).toNat <
 ((↑(Q x.fst (x.fst.fst - x.fst.snd.fst).toNat).length : Int) -
 g_2.snd.fst).toNat) ∧
 ((True ∧ True) ∧
 True ∧
 false = false ∧
 True ∧
 (↑g.fst.length : Int) = (↑g.fst.length : Int) ∧
 g_2.snd.fst + (1 : Int) = g_2.snd.fst + (1 : Int) ∧
 True) ∧
 ((x.fst.fst = x.fst.fst ∧
 x.fst.snd.fst = x.fst.snd.fst ∧
 x.fst.snd.snd.fst = x.fst.snd.snd.fst ∧
 x.fst.snd.snd.snd = x.fst.snd.snd.snd ∧ True) ∧
 g.fst = g.fst ∧ True) ∧
 True)) ∧
 (decide (g_2.snd.fst < (↑g.fst.length : Int)) = false →
 g.fst = (fq x.fst).fst ∧ g_2.fst = (fq x.fst).snd))))

theorem E_fq_eq (x : HL (cFq : Ctr).as) : vc (fx_fq x) 1 87 Try.f87 (cFq) x = E_fq x := by kernel_rfl

def E_step (x : (Int × Int × List Int × List Bool) × (Int × Int) × Unit) : Prop :=
 Holds True ∧
 ((!right (x.fst.fst, x.fst.snd.fst, x.fst.snd.snd.fst, x.fst.snd.snd.snd)) = true →
 ((0 : Int), (0 : Int), (0 : Int) :: (0 : Int) :: (0 : Int) :: (0 : Int) :: (0 : Int) :: (0 : Int) :: (0 : Int) :: (0 : Int) :: ([] : List Int),
 false :: false :: false :: false :: false :: false :: false :: false :: ([] : List Bool)) =
 (step x.fst x.snd.fst.fst x.snd.fst.snd).fst ∧
 false = (step x.fst x.snd.fst.fst x.snd.fst.snd).snd.fst ∧ (1 : Int) = (step x.fst x.snd.fst.fst x.snd.fst.snd).snd.snd.fst) ∧
 ((!right (x.fst.fst, x.fst.snd.fst, x.fst.snd.snd.fst, x.fst.snd.snd.snd)) = false →
 ((!decide (x.snd.fst.fst < (1 : Int))) = true → (!decide (x.snd.fst.fst < (1 : Int))) = true) ∧
 ((!decide (x.snd.fst.fst < (1 : Int))) = true → (!decide (x.snd.fst.fst < (1 : Int))) = true) ∧
 (decide (x.snd.fst.fst < (1 : Int)) = false → (!decide (x.snd.fst.fst < (1 : Int))) = true) ∧
 ((decide (x.snd.fst.fst < (1 : Int)) || decide ((3 : Int) < x.snd.fst.fst)) = true →
 ((0 : Int), (0 : Int),
 (0 : Int) :: (0 : Int) :: (0 : Int) :: (0 : Int) :: (0 : Int) :: (0 : Int) :: (0 : Int) :: (0 : Int) :: ([] : List Int),
 false :: false :: false :: false :: false :: false :: false :: false :: ([] : List Bool)) =
 (step x.fst x.snd.fst.fst x.snd.fst.snd).fst ∧
 false = (step x.fst x.snd.fst.fst x.snd.fst.snd).snd.fst ∧ (5 : Int) = (step x.fst x.snd.fst.fst x.snd.fst.snd).snd.snd.fst) ∧
 ((decide (x.snd.fst.fst < (1 : Int)) || decide ((3 : Int) < x.snd.fst.fst)) = false →
 ((!decide (x.snd.fst.snd < (0 : Int))) = true → (!decide (x.snd.fst.snd < (0 : Int))) = true) ∧
 ((!decide (x.snd.fst.snd < (0 : Int))) = true → (!decide (x.snd.fst.snd < (0 : Int))) = true) ∧
 (decide (x.snd.fst.snd < (0 : Int)) = false → (!decide (x.snd.fst.snd < (0 : Int))) = true) ∧
 ((decide (x.snd.fst.snd < (0 : Int)) || decide ((8 : Int) ≤ x.snd.fst.snd)) = true →
 ((0 : Int), (0 : Int),
 (0 : Int) ::
 (0 : Int) :: (0 : Int) :: (0 : Int) :: (0 : Int) :: (0 : Int) :: (0 : Int) :: (0 : Int) :: ([] : List Int),
 false :: false :: false :: false :: false :: false :: false :: false :: ([] : List Bool)) =
 (step x.fst x.snd.fst.fst x.snd.fst.snd).fst ∧
 false = (step x.fst x.snd.fst.fst x.snd.fst.snd).snd.fst ∧
 (2 : Int) = (step x.fst x.snd.fst.fst x.snd.fst.snd).snd.snd.fst) ∧
 ((decide (x.snd.fst.snd < (0 : Int)) || decide ((8 : Int) ≤ x.snd.fst.snd)) = false →
 ((0 : Int) ≤ x.snd.fst.snd ∧ x.snd.fst.snd < (↑(8 : Nat) : Int)) ∧
 ((0 : Int) ≤ x.snd.fst.snd ∧ x.snd.fst.snd < (↑(8 : Nat) : Int)) ∧
 ((x.snd.fst.fst == (1 : Int)) = true →
 (decide ((0 : Int) ≤ x.fst.snd.snd.fst.getD x.snd.fst.snd.toNat (0 : Int)) = true →
 ((0 : Int), (0 : Int),
 (0 : Int) ::
 (0 : Int) ::
 (0 : Int) :: (0 : Int) :: (0 : Int) :: (0 : Int) :: (0 : Int) :: (0 : Int) :: ([] : List Int),
 false :: false :: false :: false :: false :: false :: false :: false :: ([] : List Bool)) =
 (step x.fst x.snd.fst.fst x.snd.fst.snd).fst ∧
 false = (step x.fst x.snd.fst.fst x.snd.fst.snd).snd.fst ∧
 (6 : Int) = (step x.fst x.snd.fst.fst x.snd.fst.snd).snd.snd.fst) ∧
 (decide ((0 : Int) ≤ x.fst.snd.snd.fst.getD x.snd.fst.snd.toNat (0 : Int)) = false →
 ((x.fst.fst == (1099511627776 : Int)) = true →
 ((0 : Int), (0 : Int),
 (0 : Int) ::
 (0 : Int) ::
 (0 : Int) :: (0 : Int) :: (0 : Int) :: (0 : Int) :: (0 : Int) :: (0 : Int) :: ([] : List Int),
 false :: false :: false :: false :: false :: false :: false :: false :: ([] : List Bool)) =
 (step x.fst x.snd.fst.fst x.snd.fst.snd).fst ∧
 false = (step x.fst x.snd.fst.fst x.snd.fst.snd).snd.fst ∧
 (4 : Int) = (step x.fst x.snd.fst.fst x.snd.fst.snd).snd.snd.fst) ∧
 ((x.fst.fst == (1099511627776 : Int)) = false →
 ((-9223372036854775808 : Int) ≤ x.fst.fst + (1 : Int) ∧
 x.fst.fst + (1 : Int) ≤ (9223372036854775807 : Int)) ∧
 (x.fst.fst + (1 : Int), x.fst.snd.fst, x.fst.snd.snd.fst.set x.snd.fst.snd.toNat x.fst.fst,
 x.fst.snd.snd.snd) =
 (step x.fst x.snd.fst.fst x.snd.fst.snd).fst ∧
 x.fst.snd.snd.snd.getD x.snd.fst.snd.toNat false = (step x.fst x.snd.fst.fst x.snd.fst.snd).snd.fst ∧
 (0 : Int) = (step x.fst x.snd.fst.fst x.snd.fst.snd).snd.snd.fst))) ∧
 ((x.snd.fst.fst == (1 : Int)) = false →
 ((x.snd.fst.fst == (2 : Int)) = true →
 (decide (x.fst.snd.snd.fst.getD x.snd.fst.snd.toNat (0 : Int) < (0 : Int)) = true →
 ((0 : Int), (0 : Int),
 (0 : Int) ::
 (0 : Int) ::
 (0 : Int) :: (0 : Int) :: (0 : Int) :: (0 : Int) :: (0 : Int) :: (0 : Int) :: ([] : List Int),
 false :: false :: false :: false :: false :: false :: false :: false :: ([] : List Bool)) =
 (step x.fst x.snd.fst.fst x.snd.fst.snd).fst ∧
 false = (step x.fst x.snd.fst.fst x.snd.fst.snd).snd.fst ∧
 (3 : Int) = (step x.fst x.snd.fst.fst x.snd.fst.snd).snd.snd.fst) ∧
 (decide (x.fst.snd.snd.fst.getD x.snd.fst.snd.toNat (0 : Int) < (0 : Int)) = false →
 (x.fst.fst, x.fst.snd.fst, x.fst.snd.snd.fst,
 x.fst.snd.snd.snd.set x.snd.fst.snd.toNat
 (x.fst.snd.snd.fst.getD x.snd.fst.snd.toNat (0 : Int) == x.fst.snd.fst)) =
 (step x.fst x.snd.fst.fst x.snd.fst.snd).fst ∧
 (x.fst.snd.snd.snd.set x.snd.fst.snd.toNat
 (x.fst.snd.snd.fst.getD x.snd.fst.snd.toNat (0 : Int) == x.fst.snd.fst)).getD
 x.snd.fst.snd.toNat false =
 (step x.fst x.snd.fst.fst x.snd.fst.snd).snd.fst ∧
 (0 : Int) = (step x.fst x.snd.fst.fst x.snd.fst.snd).snd.snd.fst)) ∧
 ((x.snd.fst.fst == (2 : Int)) = false →
 ((x.snd.fst.fst == (3 : Int)) = true →
 ((!x.fst.snd.snd.snd.getD x.snd.fst.snd.toNat false) = true →
 ((0 : Int), (0 : Int),
 (0 : Int) ::
 (0 : Int) ::
 (0 : Int) :: (0 : Int) :: (0 : Int) :: (0 : Int) :: (0 : Int) :: (0 : Int) :: ([] : List Int),
 false :: false :: false :: false :: false :: false :: false :: false :: ([] : List Bool)) =
 (step x.fst x.snd.fst.fst x.snd.fst.snd).fst ∧
 false = (step x.fst x.snd.fst.fst x.snd.fst.snd).snd.fst ∧
 (3 : Int) = (step x.fst x.snd.fst.fst x.snd.fst.snd).snd.snd.fst) ∧
 ((!x.fst.snd.snd.snd.getD x.snd.fst.snd.toNat false) = false →
 ((-9223372036854775808 : Int) ≤ x.fst.snd.fst + (1 : Int) ∧
 x.fst.snd.fst + (1 : Int) ≤ (9223372036854775807 : Int)) ∧
 (x.fst.fst, x.fst.snd.fst + (1 : Int), x.fst.snd.snd.fst.set x.snd.fst.snd.toNat (-1 : Int),
 x.fst.snd.snd.snd.set x.snd.fst.snd.toNat false) =
 (step x.fst x.snd.fst.fst x.snd.fst.snd).fst ∧
 (x.fst.snd.snd.snd.set x.snd.fst.snd.toNat false).getD x.snd.fst.snd.toNat false =
 (step x.fst x.snd.fst.fst x.snd.fst.snd).snd.fst ∧
 (0 : Int) = (step x.fst x.snd.fst.fst x.snd.fst.snd).snd.snd.fst)) ∧
 ((x.snd.fst.fst == (3 : Int)) = false →
 (x.fst.fst, x.fst.snd.fst, x.fst.snd.snd.fst, x.fst.snd.snd.snd) =
 (step x.fst x.snd.fst.fst x.snd.fst.snd).fst ∧
 x.fst.snd.snd.snd.getD x.snd.fst.snd.toNat false = (step x.fst x.snd.fst.fst x.snd.fst.snd).snd.fst ∧
 (0 : Int) = (step x.fst x.snd.fst.fst x.snd.fst.snd).snd.snd.fst))))))

theorem E_step_eq (x : HL (cStep : Ctr).as) : vc (fx_step x) 2 68 Try.f68 (cStep) x = E_step x := by kernel_rfl

def E_fstep (x : (Int × Int × List Int × List Bool) × (Int × Int) × Unit) : Prop :=
 Holds True ∧
 ((((0 : Int) ≤ (0 : Int) ∧
 (0 : Int) ≤ (↑(fq x.fst).fst.length : Int) ∧
 (-1 : Int) ≤ (-1 : Int) ∧
 (-1 : Int) < (0 : Int) ∧
 ((0 : Int) ≤ (-1 : Int) → (fq x.fst).fst.getD (-1 : Int).toNat (0 : Int) = x.snd.fst.snd) ∧
 ∀ (j : Int), (-1 : Int) < j → (0 : Int) ≤ j → j < (0 : Int) → (fq x.fst).fst.getD j.toNat (0 : Int) ≠ x.snd.fst.snd) ∧
 True) ∧
 ((True ∧ True) ∧
 (True ∧ True) ∧
 (True ∧ True) ∧
 (fq (x.fst.fst, x.fst.snd.fst, x.fst.snd.snd.fst, x.fst.snd.snd.snd)).snd =
 (fq (x.fst.fst, x.fst.snd.fst, x.fst.snd.snd.fst, x.fst.snd.snd.snd)).snd ∧
 (-1 : Int) = (-1 : Int) ∧
 (fq (x.fst.fst, x.fst.snd.fst, x.fst.snd.snd.fst, x.fst.snd.snd.snd)).fst =
 (fq (x.fst.fst, x.fst.snd.fst, x.fst.snd.snd.fst, x.fst.snd.snd.snd)).fst ∧
 (↑(fq (x.fst.fst, x.fst.snd.fst, x.fst.snd.snd.fst, x.fst.snd.snd.snd)).fst.length : Int) =
 (↑(fq (x.fst.fst, x.fst.snd.fst, x.fst.snd.snd.fst, x.fst.snd.snd.snd)).fst.length : Int) ∧
 (0 : Int) = (0 : Int) ∧ True) ∧
 ((x.fst.fst = x.fst.fst ∧
 x.fst.snd.fst = x.fst.snd.fst ∧ x.fst.snd.snd.fst = x.fst.snd.snd.fst ∧ x.fst.snd.snd.snd = x.fst.snd.snd.snd ∧ True) ∧
 (x.snd.fst.fst = x.snd.fst.fst ∧ x.snd.fst.snd = x.snd.fst.snd ∧ True) ∧
 ((0 : Int) = (0 : Int) ∧
 (0 : Int) = (0 : Int) ∧
 (0 : Int) :: (0 : Int) :: (0 : Int) :: (0 : Int) :: (0 : Int) :: (0 : Int) :: (0 : Int) :: (0 : Int) :: ([] : List Int) =
 (0 : Int) :: (0 : Int) :: (0 : Int) :: (0 : Int) :: (0 : Int) :: (0 : Int) :: (0 : Int) :: (0 : Int) :: ([] : List Int) ∧
 false :: false :: false :: false :: false :: false :: false :: false :: ([] : List Bool) =
 false :: false :: false :: false :: false :: false :: false :: false :: ([] : List Bool) ∧
 True) ∧
 True) ∧
 True) ∧
 ∀ (g : Int × Int × Unit),
 ((0 : Int) ≤ g.snd.fst ∧
 g.snd.fst ≤ (↑(fq x.fst).fst.length : Int) ∧
 (-1 : Int) ≤ g.fst ∧
 g.fst < g.snd.fst ∧
 ((0 : Int) ≤ g.fst → (fq x.fst).fst.getD g.fst.toNat (0 : Int) = x.snd.fst.snd) ∧
 ∀ (j : Int), g.fst < j → (0 : Int) ≤ j → j < g.snd.fst → (fq x.fst).fst.getD j.toNat (0 : Int) ≠ x.snd.fst.snd) →
 ((-9223372036854775808 : Int) ≤ g.fst ∧ g.fst ≤ (9223372036854775807 : Int)) ∧
 ((-9223372036854775808 : Int) ≤ g.snd.fst ∧ g.snd.fst ≤ (9223372036854775807 : Int)) ∧ True →
 (decide (g.snd.fst < (↑(fq (x.fst.fst, x.fst.snd.fst, x.fst.snd.snd.fst, x.fst.snd.snd.snd)).fst.length : Int)) = true →
 ((0 : Int) ≤ g.snd.fst ∧ g.snd.fst < (↑(fq (x.fst.fst, x.fst.snd.fst, x.fst.snd.snd.fst, x.fst.snd.snd.snd)).fst.length : Int)) ∧
 (((fq (x.fst.fst, x.fst.snd.fst, x.fst.snd.snd.fst, x.fst.snd.snd.snd)).fst.getD g.snd.fst.toNat (0 : Int) == x.snd.fst.snd) = true →
 ((-9223372036854775808 : Int) ≤ g.snd.fst + (1 : Int) ∧ g.snd.fst + (1 : Int) ≤ (9223372036854775807 : Int)) ∧
 (((0 : Int) ≤ g.snd.fst + (1 : Int) ∧
 g.snd.fst + (1 : Int) ≤ (↑(fq x.fst).fst.length : Int) ∧
 (-1 : Int) ≤ g.snd.fst ∧
 g.snd.fst < g.snd.fst + (1 : Int) ∧
 ((0 : Int) ≤ g.snd.fst → (fq x.fst).fst.getD g.snd.fst.toNat (0 : Int) = x.snd.fst.snd) ∧
 ∀ (j : Int),
 g.snd.fst < j →
 (0 : Int) ≤ j → j < g.snd.fst + (1 : Int) → (fq x.fst).fst.getD j.toNat (0 : Int) ≠ x.snd.fst.snd) ∧
 ((↑(fq x.fst).fst.length : Int) - (g.snd.fst + (1 : Int))).toNat < ((↑(fq x.fst).fst.length : Int) - g.snd.fst).toNat) ∧
 ((True ∧ True) ∧
 (True ∧ True) ∧
 (True ∧ True) ∧
 (fq (x.fst.fst, x.fst.snd.fst, x.fst.snd.snd.fst, x.fst.snd.snd.snd)).snd =
 (fq (x.fst.fst, x.fst.snd.fst, x.fst.snd.snd.fst, x.fst.snd.snd.snd)).snd ∧
 g.snd.fst = g.snd.fst ∧
 (fq (x.fst.fst, x.fst.snd.fst, x.fst.snd.snd.fst, x.fst.snd.snd.snd)).fst =
 (fq (x.fst.fst, x.fst.snd.fst, x.fst.snd.snd.fst, x.fst.snd.snd.snd)).fst ∧
 (↑(fq (x.fst.fst, x.fst.snd.fst, x.fst.snd.snd.fst, x.fst.snd.snd.snd)).fst.length : Int) =
 (↑(fq (x.fst.fst, x.fst.snd.fst, x.fst.snd.snd.fst, x.fst.snd.snd.snd)).fst.length : Int) ∧
 g.snd.fst + (1 : Int) = g.snd.fst + (1 : Int) ∧ True) ∧
 ((x.fst.fst = x.fst.fst ∧
 x.fst.snd.fst = x.fst.snd.fst ∧
 x.fst.snd.snd.fst = x.fst.snd.snd.fst ∧ x.fst.snd.snd.snd = x.fst.snd.snd.snd ∧ True) ∧
 (x.snd.fst.fst = x.snd.fst.fst ∧ x.snd.fst.snd = x.snd.fst.snd ∧ True) ∧
 ((0 : Int) = (0 : Int) ∧
 (0 : Int) = (0 : Int) ∧
 (0 : Int) ::
 (0 : Int) ::
 (0 : Int) :: (0 : Int) :: (0 : Int) :: (0 : Int) :: (0 : Int) :: (0 : Int) :: ([] : List Int) =
 (0 : Int) ::
 (0 : Int) ::
 (0 : Int) :: (0 : Int) :: (0 : Int) :: (0 : Int) :: (0 : Int) :: (0 : Int) :: ([] : List Int) ∧
 false :: false :: false :: false :: false :: false :: false :: false :: ([] : List Bool) =
 false :: false :: false :: false :: false :: false :: false :: false :: ([] : List Bool) ∧
 True) ∧
 True) ∧
 True) ∧
 (((fq (x.fst.fst, x.fst.snd.fst, x.fst.snd.snd.fst, x.fst.snd.snd.snd)).fst.getD g.snd.fst.toNat (0 : Int) == x.snd.fst.snd) =
 false →
 ((-9223372036854775808 : Int) ≤ g.snd.fst + (1 : Int) ∧ g.snd.fst + (1 : Int) ≤ (9223372036854775807 : Int)) ∧
 (((0 : Int) ≤ g.snd.fst + (1 : Int) ∧
 g.snd.fst + (1 : Int) ≤ (↑(fq x.fst).fst.length : Int) ∧
 (-1 : Int) ≤ g.fst ∧
 g.fst < g.snd.fst + (1 : Int) ∧
 ((0 : Int) ≤ g.fst → (fq x.fst).fst.getD g.fst.toNat (0 : Int) = x.snd.fst.snd) ∧
 ∀ (j : Int),
 g.fst < j → (0 : Int) ≤ j → j < g.snd.fst + (1 : Int) → (fq x.fst).fst.getD j.toNat (0 : Int) ≠ x.snd.fst.snd) ∧
 ((↑(fq x.fst).fst.length : Int) - (g.snd.fst + (1 : Int))).toNat < ((↑(fq x.fst).fst.length : Int) - g.snd.fst).toNat) ∧
 ((True ∧ True) ∧
 (True ∧ True) ∧
 (True ∧ True) ∧
 (fq (x.fst.fst, x.fst.snd.fst, x.fst.snd.snd.fst, x.fst.snd.snd.snd)).snd =
 (fq (x.fst.fst, x.fst.snd.fst, x.fst.snd.snd.fst, x.fst.snd.snd.snd)).snd ∧
 g.fst = g.fst ∧
 (fq (x.fst.fst, x.fst.snd.fst, x.fst.snd.snd.fst, x.fst.snd.snd.snd)).fst =
 (fq (x.fst.fst, x.fst.snd.fst, x.fst.snd.snd.fst, x.fst.snd.snd.snd)).fst ∧
 (↑(fq (x.fst.fst, x.fst.snd.fst, x.fst.snd.snd.fst, x.fst.snd.snd.snd)).fst.length : Int) =
 (↑(fq (x.fst.fst, x.fst.snd.fst, x.fst.snd.snd.fst, x.fst.snd.snd.snd)).fst.length : Int) ∧
 g.snd.fst + (1 : Int) = g.snd.fst + (1 : Int) ∧ True) ∧
 ((x.fst.fst = x.fst.fst ∧
 x.fst.snd.fst = x.fst.snd.fst ∧
 x.fst.snd.snd.fst = x.fst.snd.snd.fst ∧ x.fst.snd.snd.snd = x.fst.snd.snd.snd ∧ True) ∧
 (x.snd.fst.fst = x.snd.fst.fst ∧ x.snd.fst.snd = x.snd.fst.snd ∧ True) ∧
 ((0 : Int) = (0 : Int) ∧
 (0 : Int) = (0 : Int) ∧
 (0 : Int) ::
 (0 : Int) ::
 (0 : Int) :: (0 : Int) :: (0 : Int) :: (0 : Int) :: (0 : Int) :: (0 : Int) :: ([] : List Int) =
 (0 : Int) ::
 (0 : Int) ::
 (0 : Int) :: (0 : Int) :: (0 : Int) :: (0 : Int) :: (0 : Int) :: (0 : Int) :: ([] : List Int) ∧
 false :: false :: false :: false :: false :: false :: false :: false :: ([] : List Bool) =
 false :: false :: false :: false :: false :: false :: false :: false :: ([] : List Bool) ∧
 True) ∧
 True) ∧
 True)) ∧
 (decide (g.snd.fst < (↑(fq (x.fst.fst, x.fst.snd.fst, x.fst.snd.snd.fst, x.fst.snd.snd.snd)).fst.length : Int)) = false →
 ((!(fq (x.fst.fst, x.fst.snd.fst, x.fst.snd.snd.fst, x.fst.snd.snd.snd)).snd) = true →
 (((1 : Int) != (0 : Int)) = true →
 ((0 : Int), (0 : Int),
 (0 : Int) :: (0 : Int) :: (0 : Int) :: (0 : Int) :: (0 : Int) :: (0 : Int) :: (0 : Int) :: (0 : Int) :: ([] : List Int),
 false :: false :: false :: false :: false :: false :: false :: false :: ([] : List Bool)) =
 (step x.fst x.snd.fst.fst x.snd.fst.snd).fst ∧
 false = (step x.fst x.snd.fst.fst x.snd.fst.snd).snd.fst ∧ (1 : Int) = (step x.fst x.snd.fst.fst x.snd.fst.snd).snd.snd.fst) ∧
 (((1 : Int) != (0 : Int)) = false →
 (x.fst.fst, x.fst.snd.fst, x.fst.snd.snd.fst, x.fst.snd.snd.snd) = (step x.fst x.snd.fst.fst x.snd.fst.snd).fst ∧
 false = (step x.fst x.snd.fst.fst x.snd.fst.snd).snd.fst ∧
 (1 : Int) = (step x.fst x.snd.fst.fst x.snd.fst.snd).snd.snd.fst)) ∧
 ((!(fq (x.fst.fst, x.fst.snd.fst, x.fst.snd.snd.fst, x.fst.snd.snd.snd)).snd) = false →
 ((x.snd.fst.fst != (1 : Int)) = true → (x.snd.fst.fst != (1 : Int)) = true) ∧
 ((x.snd.fst.fst != (1 : Int)) = true → (x.snd.fst.fst != (1 : Int)) = true) ∧
 ((x.snd.fst.fst != (1 : Int)) = true → (x.snd.fst.fst != (1 : Int)) = true) ∧
 ((x.snd.fst.fst != (1 : Int) && x.snd.fst.fst != (2 : Int)) = true →
 (x.snd.fst.fst != (1 : Int) && x.snd.fst.fst != (2 : Int)) = true) ∧
 ((x.snd.fst.fst != (1 : Int) && x.snd.fst.fst != (2 : Int)) = true →
 (x.snd.fst.fst != (1 : Int) && x.snd.fst.fst != (2 : Int)) = true) ∧
 ((x.snd.fst.fst != (1 : Int) && x.snd.fst.fst != (2 : Int)) = true →
 (x.snd.fst.fst != (1 : Int) && x.snd.fst.fst != (2 : Int)) = true) ∧
 ((x.snd.fst.fst != (1 : Int) && x.snd.fst.fst != (2 : Int) && x.snd.fst.fst != (3 : Int)) = true →
 (((5 : Int) != (0 : Int)) = true →
 ((0 : Int), (0 : Int),
 (0 : Int) ::
 (0 : Int) ::
 (0 : Int) :: (0 : Int) :: (0 : Int) :: (0 : Int) :: (0 : Int) :: (0 : Int) :: ([] : List Int),
 false :: false :: false :: false :: false :: false :: false :: false :: ([] : List Bool)) =
 (step x.fst x.snd.fst.fst x.snd.fst.snd).fst ∧
 false = (step x.fst x.snd.fst.fst x.snd.fst.snd).snd.fst ∧
 (5 : Int) = (step x.fst x.snd.fst.fst x.snd.fst.snd).snd.snd.fst) ∧
 (((5 : Int) != (0 : Int)) = false →
 (x.fst.fst, x.fst.snd.fst, x.fst.snd.snd.fst, x.fst.snd.snd.snd) =
 (step x.fst x.snd.fst.fst x.snd.fst.snd).fst ∧
 false = (step x.fst x.snd.fst.fst x.snd.fst.snd).snd.fst ∧
 (5 : Int) = (step x.fst x.snd.fst.fst x.snd.fst.snd).snd.snd.fst)) ∧
 ((x.snd.fst.fst != (1 : Int) && x.snd.fst.fst != (2 : Int) && x.snd.fst.fst != (3 : Int)) = false →
 ((!decide (x.snd.fst.snd < (0 : Int))) = true → (!decide (x.snd.fst.snd < (0 : Int))) = true) ∧
 ((!decide (x.snd.fst.snd < (0 : Int))) = true → (!decide (x.snd.fst.snd < (0 : Int))) = true) ∧
 (decide (x.snd.fst.snd < (0 : Int)) = false → (!decide (x.snd.fst.snd < (0 : Int))) = true) ∧
 ((decide (x.snd.fst.snd < (0 : Int)) || decide ((7 : Int) < x.snd.fst.snd)) = true →
 (((2 : Int) != (0 : Int)) = true →
 ((0 : Int), (0 : Int),
 (0 : Int) ::
 (0 : Int) ::
 (0 : Int) ::
 (0 : Int) :: (0 : Int) :: (0 : Int) :: (0 : Int) :: (0 : Int) :: ([] : List Int),
 false :: false :: false :: false :: false :: false :: false :: false :: ([] : List Bool)) =
 (step x.fst x.snd.fst.fst x.snd.fst.snd).fst ∧
 false = (step x.fst x.snd.fst.fst x.snd.fst.snd).snd.fst ∧
 (2 : Int) = (step x.fst x.snd.fst.fst x.snd.fst.snd).snd.snd.fst) ∧
 (((2 : Int) != (0 : Int)) = false →
 (x.fst.fst, x.fst.snd.fst, x.fst.snd.snd.fst, x.fst.snd.snd.snd) =
 (step x.fst x.snd.fst.fst x.snd.fst.snd).fst ∧
 false = (step x.fst x.snd.fst.fst x.snd.fst.snd).snd.fst ∧
 (2 : Int) = (step x.fst x.snd.fst.fst x.snd.fst.snd).snd.snd.fst)) ∧
 ((decide (x.snd.fst.snd < (0 : Int)) || decide ((7 : Int) < x.snd.fst.snd)) = false →
 ((x.snd.fst.fst == (1 : Int)) = true → (x.snd.fst.fst == (1 : Int)) = true) ∧
 ((x.snd.fst.fst == (1 : Int)) = true → (x.snd.fst.fst == (1 : Int)) = true) ∧
 ((x.snd.fst.fst == (1 : Int) && decide ((0 : Int) ≤ g.fst)) = true →
 (((6 : Int) != (0 : Int)) = true →
 ((0 : Int), (0 : Int),
 (0 : Int) ::
 (0 : Int) ::
 (0 : Int) ::
 (0 : Int) :: (0 : Int) :: (0 : Int) :: (0 : Int) :: (0 : Int) :: ([] : List Int),
 false ::
 false :: false :: false :: false :: false :: false :: false :: ([] : List Bool)) =
 (step x.fst x.snd.fst.fst x.snd.fst.snd).fst ∧
 false = (step x.fst x.snd.fst.fst x.snd.fst.snd).snd.fst ∧
 (6 : Int) = (step x.fst x.snd.fst.fst x.snd.fst.snd).snd.snd.fst) ∧
 (((6 : Int) != (0 : Int)) = false →
 (x.fst.fst, x.fst.snd.fst, x.fst.snd.snd.fst, x.fst.snd.snd.snd) =
 (step x.fst x.snd.fst.fst x.snd.fst.snd).fst ∧
 false = (step x.fst x.snd.fst.fst x.snd.fst.snd).snd.fst ∧
 (6 : Int) = (step x.fst x.snd.fst.fst x.snd.fst.snd).snd.snd.fst)) ∧
 ((x.snd.fst.fst == (1 : Int) && decide ((0 : Int) ≤ g.fst)) = false →
 ((x.snd.fst.fst == (1 : Int)) = true → (x.snd.fst.fst == (1 : Int)) = true) ∧
 ((x.snd.fst.fst == (1 : Int)) = true → (x.snd.fst.fst == (1 : Int)) = true) ∧
 ((x.snd.fst.fst == (1 : Int)) = true → (x.snd.fst.fst == (1 : Int)) = true) ∧
 ((x.snd.fst.fst == (1 : Int) && x.fst.fst == (1099511627776 : Int)) = true →
 (((4 : Int) != (0 : Int)) = true →
 ((0 : Int), (0 : Int),
 (0 : Int) ::
 (0 : Int) ::
 (0 : Int) ::
 (0 : Int) ::
 (0 : Int) :: (0 : Int) :: (0 : Int) :: (0 : Int) :: ([] : List Int),
 false ::
 false ::
 false :: false :: false :: false :: false :: false :: ([] : List Bool)) =
 (step x.fst x.snd.fst.fst x.snd.fst.snd).fst ∧
 false = (step x.fst x.snd.fst.fst x.snd.fst.snd).snd.fst ∧
 (4 : Int) = (step x.fst x.snd.fst.fst x.snd.fst.snd).snd.snd.fst) ∧
 (((4 : Int) != (0 : Int)) = false →
 (x.fst.fst, x.fst.snd.fst, x.fst.snd.snd.fst, x.fst.snd.snd.snd) =
 (step x.fst x.snd.fst.fst x.snd.fst.snd).fst ∧
 false = (step x.fst x.snd.fst.fst x.snd.fst.snd).snd.fst ∧
 (4 : Int) = (step x.fst x.snd.fst.fst x.snd.fst.snd).snd.snd.fst)) ∧
 ((x.snd.fst.fst == (1 : Int) && x.fst.fst == (1099511627776 : Int)) = false →
 ((x.snd.fst.fst == (1 : Int)) = true →
 ((-9223372036854775808 : Int) ≤ x.fst.fst + (1 : Int) ∧
 x.fst.fst + (1 : Int) ≤ (9223372036854775807 : Int)) ∧
 ((0 : Int) ≤ x.snd.fst.snd ∧ x.snd.fst.snd < (↑(8 : Nat) : Int)) ∧
 (((0 : Int) != (0 : Int)) = true →
 ((0 : Int), (0 : Int),
 (0 : Int) ::
 (0 : Int) ::
 (0 : Int) ::
 (0 : Int) ::
 (0 : Int) ::
 (0 : Int) :: (0 : Int) :: (0 : Int) :: ([] : List Int),
 false ::
 false ::
 false ::
 false :: false :: false :: false :: false :: ([] : List Bool)) =
 (step x.fst x.snd.fst.fst x.snd.fst.snd).fst ∧
 false = (step x.fst x.snd.fst.fst x.snd.fst.snd).snd.fst ∧
 (0 : Int) = (step x.fst x.snd.fst.fst x.snd.fst.snd).snd.snd.fst) ∧
 (((0 : Int) != (0 : Int)) = false →
 (x.fst.fst + (1 : Int), x.fst.snd.fst,
 x.fst.snd.snd.fst.set x.snd.fst.snd.toNat x.fst.fst,
 x.fst.snd.snd.snd) =
 (step x.fst x.snd.fst.fst x.snd.fst.snd).fst ∧
 false = (step x.fst x.snd.fst.fst x.snd.fst.snd).snd.fst ∧
 (0 : Int) = (step x.fst x.snd.fst.fst x.snd.fst.snd).snd.snd.fst)) ∧
 ((x.snd.fst.fst == (1 : Int)) = false →
 ((x.snd.fst.fst == (2 : Int)) = true → (x.snd.fst.fst == (2 : Int)) = true) ∧
 ((x.snd.fst.fst == (2 : Int)) = true → (x.snd.fst.fst == (2 : Int)) = true) ∧
 ((x.snd.fst.fst == (2 : Int) && decide (g.fst < (0 : Int))) = true →
 (((3 : Int) != (0 : Int)) = true →
 ((0 : Int), (0 : Int),
 (0 : Int) ::
 (0 : Int) ::
 (0 : Int) ::
 (0 : Int) ::
 (0 : Int) ::
 (0 : Int) :: (0 : Int) :: (0 : Int) :: ([] : List Int),
 false ::
 false ::
 false ::
 false ::
 false :: false :: false :: false :: ([] : List Bool)) =
 (step x.fst x.snd.fst.fst x.snd.fst.snd).fst ∧
 false = (step x.fst x.snd.fst.fst x.snd.fst.snd).snd.fst ∧
 (3 : Int) = (step x.fst x.snd.fst.fst x.snd.fst.snd).snd.snd.fst) ∧
 (((3 : Int) != (0 : Int)) = false →
 (x.fst.fst, x.fst.snd.fst, x.fst.snd.snd.fst, x.fst.snd.snd.snd) =
 (step x.fst x.snd.fst.fst x.snd.fst.snd).fst ∧
 false = (step x.fst x.snd.fst.fst x.snd.fst.snd).snd.fst ∧
 (3 : Int) = (step x.fst x.snd.fst.fst x.snd.fst.snd).snd.snd.fst)) ∧
 ((x.snd.fst.fst == (2 : Int) && decide (g.fst < (0 : Int))) = false →
 ((x.snd.fst.fst == (3 : Int)) = true →
 (x.snd.fst.fst == (3 : Int)) = true) ∧
 ((x.snd.fst.fst == (3 : Int)) = true →
 ((x.snd.fst.fst == (3 : Int)) = true ∧
 (x.snd.fst.fst == (3 : Int)) = true) ∧
 (0 : Int) ≤ x.snd.fst.snd ∧ x.snd.fst.snd < (↑(8 : Nat) : Int)) ∧
 ((x.snd.fst.fst == (3 : Int)) = true →
 (x.snd.fst.fst == (3 : Int)) = true) ∧
 ((x.snd.fst.fst == (3 : Int)) = true →
 (x.snd.fst.fst == (3 : Int)) = true) ∧
 ((x.snd.fst.fst == (3 : Int)) = true →
 (x.snd.fst.fst == (3 : Int)) = true) ∧
 ((x.snd.fst.fst == (3 : Int) &&
 !x.fst.snd.snd.snd.getD x.snd.fst.snd.toNat false) =
 true →
 (((3 : Int) != (0 : Int)) = true →
 ((0 : Int), (0 : Int),
 (0 : Int) ::
 (0 : Int) ::
 (0 : Int) ::
 (0 : Int) ::
 (0 : Int) ::
 (0 : Int) ::
 (0 : Int) ::
 (0 : Int) :: ([] : List Int),
 false ::
 false ::
 false ::
 false ::
 false ::
 false ::
 false :: false :: ([] : List Bool)) =
 (step x.fst x.snd.fst.fst x.snd.fst.snd).fst ∧
 false =
 (step x.fst x.snd.fst.fst x.snd.fst.snd).snd.fst ∧
 (3 : Int) =
 (step x.fst x.snd.fst.fst
 x.snd.fst.snd).snd.snd.fst) ∧
 (((3 : Int) != (0 : Int)) = false →
 (x.fst.fst, x.fst.snd.fst, x.fst.snd.snd.fst,
 x.fst.snd.snd.snd) =
 (step x.fst x.snd.fst.fst x.snd.fst.snd).fst ∧
 false =
 (step x.fst x.snd.fst.fst x.snd.fst.snd).snd.fst ∧
 (3 : Int) =
 (step x.fst x.snd.fst.fst
 x.snd.fst.snd).snd.snd.fst)) ∧
 ((x.snd.fst.fst == (3 : Int) &&
 !x.fst.snd.snd.snd.getD x.snd.fst.snd.toNat false) =
 false →
 ((x.snd.fst.fst == (2 : Int)) = true →
 ((0 : Int) ≤ x.snd.fst.snd ∧
 x.snd.fst.snd < (↑(8 : Nat) : Int)) ∧
 (((0 : Int) != (0 : Int)) = true →
 ((0 : Int), (0 : Int),
 (0 : Int) ::
 (0 : Int) ::
 (0 : Int) ::
 (0 : Int) ::
 (0 : Int) ::
 (0 : Int) ::
 (0 : Int) ::
 (0 : Int) :: ([] : List Int),
 false ::
 false ::
 false ::
 false ::
 false ::
 false ::
 false ::
 false :: ([] : List Bool)) =
 (step x.fst x.snd.fst.fst x.snd.fst.snd).fst ∧
 false =
 (step x.fst x.snd.fst.fst
 x.snd.fst.snd).snd.fst ∧
 (0 : Int) =
 (step x.fst x.snd.fst.fst
 x.snd.fst.snd).snd.snd.fst) ∧
 (((0 : Int) != (0 : Int)) = false →
 (x.fst.fst, x.fst.snd.fst, x.fst.snd.snd.fst,
 x.fst.snd.snd.snd.set x.snd.fst.snd.toNat
 (g.fst == (0 : Int))) =
 (step x.fst x.snd.fst.fst x.snd.fst.snd).fst ∧
 (g.fst == (0 : Int)) =
 (step x.fst x.snd.fst.fst
 x.snd.fst.snd).snd.fst ∧
 (0 : Int) =
 (step x.fst x.snd.fst.fst
 x.snd.fst.snd).snd.snd.fst)) ∧
 ((x.snd.fst.fst == (2 : Int)) = false →
 ((-9223372036854775808 : Int) ≤
 x.fst.snd.fst + (1 : Int) ∧
 x.fst.snd.fst + (1 : Int) ≤
 (9223372036854775807 : Int)) ∧
 ((0 : Int) ≤ x.snd.fst.snd ∧
 x.snd.fst.snd < (↑(8 : Nat) : Int)) ∧
 ((0 : Int) ≤ x.snd.fst.snd ∧
 x.snd.fst.snd < (↑(8 : Nat) : Int)) ∧
 (((0 : Int) != (0 : Int)) = true →
 ((0 : Int), (0 : Int),
 (0 : Int) ::
 (0 : Int) ::
 (0 : Int) ::
 (0 : Int) ::
 (0 : Int) ::
 (0 : Int) ::
 (0 : Int) ::
 (0 : Int) ::
 ([] : List Int),
 false ::
 false ::
 false ::
 false ::
 false ::
 false ::
 false ::
 false :: ([] : List Bool)) =
 (step x.fst x.snd.fst.fst
 x.snd.fst.snd).fst ∧
 false =
 (step x.fst x.snd.fst.fst
 x.snd.fst.snd).snd.fst ∧
 (0 : Int) =
 (step x.fst x.snd.fst.fst
 x.snd.fst.snd).snd.snd.fst) ∧
 (((0 : Int) != (0 : Int)) = false →
 (x.fst.fst, x.fst.snd.fst + (1 : Int),
 x.fst.snd.snd.fst.set x.snd.fst.snd.toNat
 (-1 : Int),
 x.fst.snd.snd.snd.set x.snd.fst.snd.toNat
 false) =
 (step x.fst x.snd.fst.fst
 x.snd.fst.snd).fst ∧
 false =
 (step x.fst x.snd.fst.fst
 x.snd.fst.snd).snd.fst ∧
 (0 : Int) =
 (step x.fst x.snd.fst.fst
 x.snd.fst.snd).snd.snd.fst)))))))))))

theorem E_fstep_eq (x : HL (cStep : Ctr).as) : vc (fx_fstep x) 1 69 Try.f69 (cStep) x = E_fstep x := by kernel_rfl

def E_equal (x : List Int × List Int × Unit) : Prop :=
 (((↑x.fst.length : Int) != (↑x.snd.fst.length : Int)) = true → false = decide (x.fst = x.snd.fst)) ∧
 (((↑x.fst.length : Int) != (↑x.snd.fst.length : Int)) = false →
 ((((0 : Int) ≤ (0 : Int) ∧
 (0 : Int) ≤ (↑x.fst.length : Int) ∧ List.take (Int.toNat (0 : Int)) x.fst = List.take (Int.toNat (0 : Int)) x.snd.fst) ∧
 True) ∧
 (x.fst = x.fst ∧ x.snd.fst = x.snd.fst ∧ (↑x.fst.length : Int) = (↑x.fst.length : Int) ∧ (0 : Int) = (0 : Int) ∧ True) ∧ True ∧ True) ∧
 ∀ (g : Int × Unit),
 (0 : Int) ≤ g.fst ∧ g.fst ≤ (↑x.fst.length : Int) ∧ List.take g.fst.toNat x.fst = List.take g.fst.toNat x.snd.fst →
 ((-9223372036854775808 : Int) ≤ g.fst ∧ g.fst ≤ (9223372036854775807 : Int)) ∧ True →
 (decide (g.fst < (↑x.fst.length : Int)) = true →
 ((0 : Int) ≤ g.fst ∧ g.fst < (↑x.fst.length : Int)) ∧
 ((0 : Int) ≤ g.fst ∧ g.fst < (↑x.snd.fst.length : Int)) ∧
 ((x.fst.getD g.fst.toNat (0 : Int) != x.snd.fst.getD g.fst.toNat (0 : Int)) = true → false = decide (x.fst = x.snd.fst)) ∧
 ((x.fst.getD g.fst.toNat (0 : Int) != x.snd.fst.getD g.fst.toNat (0 : Int)) = false →
 ((-9223372036854775808 : Int) ≤ g.fst + (1 : Int) ∧ g.fst + (1 : Int) ≤ (9223372036854775807 : Int)) ∧
 (((0 : Int) ≤ g.fst + (1 : Int) ∧
 g.fst + (1 : Int) ≤ (↑x.fst.length : Int) ∧
 List.take (g.fst + (1 : Int)).toNat x.fst = List.take (g.fst + (1 : Int)).toNat x.snd.fst) ∧
 ((↑x.fst.length : Int) - (g.fst + (1 : Int))).toNat < ((↑x.fst.length : Int) - g.fst).toNat) ∧
 (x.fst = x.fst ∧
 x.snd.fst = x.snd.fst ∧
 (↑x.fst.length : Int) = (↑x.fst.length : Int) ∧ g.fst + (1 : Int) = g.fst + (1 : Int) ∧ True) ∧
 True ∧ True)) ∧
 (decide (g.fst < (↑x.fst.length : Int)) = false → true = decide (x.fst = x.snd.fst)))

theorem E_equal_eq (x : HL (cEqual : Ctr).as) : vc (fx_equal x) 1 18 Try.f18 (cEqual) x = E_equal x := by kernel_rfl

def E_new (x : Unit) : Prop :=
 ((((0 : Int) ≤ (0 : Int) ∧
 (0 : Int) ≤ (8 : Int) ∧
 ((0 : Int), (0 : Int),
 (0 : Int) :: (0 : Int) :: (0 : Int) :: (0 : Int) :: (0 : Int) :: (0 : Int) :: (0 : Int) :: (0 : Int) :: ([] : List Int),
 false :: false :: false :: false :: false :: false :: false :: false :: ([] : List Bool)) =
 ((0 : Int), (0 : Int), List.replicate (Int.toNat (0 : Int)) (-1 : Int) ++ List.replicate ((8 : Int) - (0 : Int)).toNat (0 : Int),
 false :: false :: false :: false :: false :: false :: false :: false :: ([] : List Bool))) ∧
 True) ∧
 ((True ∧ True) ∧ (True ∧ True) ∧ (0 : Int) = (0 : Int) ∧ True) ∧
 (((0 : Int) = (0 : Int) ∧
 (0 : Int) = (0 : Int) ∧
 (0 : Int) :: (0 : Int) :: (0 : Int) :: (0 : Int) :: (0 : Int) :: (0 : Int) :: (0 : Int) :: (0 : Int) :: ([] : List Int) =
 (0 : Int) :: (0 : Int) :: (0 : Int) :: (0 : Int) :: (0 : Int) :: (0 : Int) :: (0 : Int) :: (0 : Int) :: ([] : List Int) ∧
 false :: false :: false :: false :: false :: false :: false :: false :: ([] : List Bool) =
 false :: false :: false :: false :: false :: false :: false :: false :: ([] : List Bool) ∧
 True) ∧
 ((0 : Int) = (0 : Int) ∧
 (0 : Int) = (0 : Int) ∧
 (0 : Int) :: (0 : Int) :: (0 : Int) :: (0 : Int) :: (0 : Int) :: (0 : Int) :: (0 : Int) :: (0 : Int) :: ([] : List Int) =
 (0 : Int) :: (0 : Int) :: (0 : Int) :: (0 : Int) :: (0 : Int) :: (0 : Int) :: (0 : Int) :: (0 : Int) :: ([] : List Int) ∧
 false :: false :: false :: false :: false :: false :: false :: false :: ([] : List Bool) =
 false :: false :: false :: false :: false :: false :: false :: false :: ([] : List Bool) ∧
 True) ∧
 True) ∧
 True) ∧
 ∀ (g : (Int × Int × List Int × List Bool) × Int × Unit),
 (0 : Int) ≤ g.snd.fst ∧
 g.snd.fst ≤ (8 : Int) ∧
 g.fst =
 ((0 : Int), (0 : Int), List.replicate g.snd.fst.toNat (-1 : Int) ++ List.replicate ((8 : Int) - g.snd.fst).toNat (0 : Int),
 false :: false :: false :: false :: false :: false :: false :: false :: ([] : List Bool)) →
 (((-9223372036854775808 : Int) ≤ g.fst.fst ∧ g.fst.fst ≤ (9223372036854775807 : Int)) ∧
 ((-9223372036854775808 : Int) ≤ g.fst.snd.fst ∧ g.fst.snd.fst ≤ (9223372036854775807 : Int)) ∧
 (g.fst.snd.snd.fst.length = (8 : Nat) ∧
 ∀ (x : Int), x ∈ g.fst.snd.snd.fst → (-9223372036854775808 : Int) ≤ x ∧ x ≤ (9223372036854775807 : Int)) ∧
 g.fst.snd.snd.snd.length = (8 : Nat) ∧ ∀ (x : Bool), x ∈ g.fst.snd.snd.snd → True) ∧
 ((-9223372036854775808 : Int) ≤ g.snd.fst ∧ g.snd.fst ≤ (9223372036854775807 : Int)) ∧ True →
 (decide (g.snd.fst < (8 : Int)) = true →
 ((0 : Int) ≤ g.snd.fst ∧ g.snd.fst < (↑(8 : Nat) : Int)) ∧
 ((-9223372036854775808 : Int) ≤ g.snd.fst + (1 : Int) ∧ g.snd.fst + (1 : Int) ≤ (9223372036854775807 : Int)) ∧
 (((0 : Int) ≤ g.snd.fst + (1 : Int) ∧
 g.snd.fst + (1 : Int) ≤ (8 : Int) ∧
 (g.fst.fst, g.fst.snd.fst, g.fst.snd.snd.fst.set g.snd.fst.toNat (-1 : Int), g.fst.snd.snd.snd) =
 ((0 : Int), (0 : Int),
 List.replicate (g.snd.fst + (1 : Int)).toNat (-1 : Int) ++
 List.replicate ((8 : Int) - (g.snd.fst + (1 : Int))).toNat (0 : Int),
 false :: false :: false :: false :: false :: false :: false :: false :: ([] : List Bool))) ∧
 ((8 : Int) - (g.snd.fst + (1 : Int))).toNat < ((8 : Int) - g.snd.fst).toNat) ∧
 ((True ∧ True) ∧ (True ∧ True) ∧ g.snd.fst + (1 : Int) = g.snd.fst + (1 : Int) ∧ True) ∧
 ((g.fst.fst = g.fst.fst ∧
 g.fst.snd.fst = g.fst.snd.fst ∧
 g.fst.snd.snd.fst.set g.snd.fst.toNat (-1 : Int) = g.fst.snd.snd.fst.set g.snd.fst.toNat (-1 : Int) ∧
 g.fst.snd.snd.snd = g.fst.snd.snd.snd ∧ True) ∧
 ((0 : Int) = (0 : Int) ∧
 (0 : Int) = (0 : Int) ∧
 (0 : Int) ::
 (0 : Int) :: (0 : Int) :: (0 : Int) :: (0 : Int) :: (0 : Int) :: (0 : Int) :: (0 : Int) :: ([] : List Int) =
 (0 : Int) ::
 (0 : Int) :: (0 : Int) :: (0 : Int) :: (0 : Int) :: (0 : Int) :: (0 : Int) :: (0 : Int) :: ([] : List Int) ∧
 false :: false :: false :: false :: false :: false :: false :: false :: ([] : List Bool) =
 false :: false :: false :: false :: false :: false :: false :: false :: ([] : List Bool) ∧
 True) ∧
 True) ∧
 True) ∧
 (decide (g.snd.fst < (8 : Int)) = false → (g.fst.fst, g.fst.snd.fst, g.fst.snd.snd.fst, g.fst.snd.snd.snd) = new)

theorem E_new_eq (x : HL (cNew : Ctr).as) : vc (fx_new x) 1 44 Try.f44 (cNew) x = E_new x := by kernel_rfl

def E_play (x : List (Int × Int) × Unit) : Prop :=
 Holds True ∧
 ((((0 : Int) ≤ (0 : Int) ∧
 (0 : Int) ≤ (↑x.fst.length : Int) ∧
 pl (List.take (Int.toNat (0 : Int)) x.fst) = ((new.fst, new.snd.fst, new.snd.snd.fst, new.snd.snd.snd), ([] : List Int)) ∧
 (↑([] : List Int).length : Int) ≤ (0 : Int)) ∧
 True) ∧
 ((True ∧ True) ∧ (True ∧ True) ∧ True ∧ x.fst = x.fst ∧ (↑x.fst.length : Int) = (↑x.fst.length : Int) ∧ (0 : Int) = (0 : Int) ∧ True) ∧
 ((new.fst = new.fst ∧ new.snd.fst = new.snd.fst ∧ new.snd.snd.fst = new.snd.snd.fst ∧ new.snd.snd.snd = new.snd.snd.snd ∧ True) ∧
 ([] : List Int) = ([] : List Int) ∧
 ((0 : Int) = (0 : Int) ∧
 (0 : Int) = (0 : Int) ∧
 (0 : Int) :: (0 : Int) :: (0 : Int) :: (0 : Int) :: (0 : Int) :: (0 : Int) :: (0 : Int) :: (0 : Int) :: ([] : List Int) =
 (0 : Int) :: (0 : Int) :: (0 : Int) :: (0 : Int) :: (0 : Int) :: (0 : Int) :: (0 : Int) :: (0 : Int) :: ([] : List Int) ∧
 false :: false :: false :: false :: false :: false :: false :: false :: ([] : List Bool) =
 false :: false :: false :: false :: false :: false :: false :: false :: ([] : List Bool) ∧
 True) ∧
 True) ∧
 True) ∧
 ∀ (g : (Int × Int × List Int × List Bool) × List Int × Int × Unit),
 (0 : Int) ≤ g.snd.snd.fst ∧
 g.snd.snd.fst ≤ (↑x.fst.length : Int) ∧
 pl (List.take g.snd.snd.fst.toNat x.fst) = (g.fst, g.snd.fst) ∧ (↑g.snd.fst.length : Int) ≤ g.snd.snd.fst →
 (((-9223372036854775808 : Int) ≤ g.fst.fst ∧ g.fst.fst ≤ (9223372036854775807 : Int)) ∧
 ((-9223372036854775808 : Int) ≤ g.fst.snd.fst ∧ g.fst.snd.fst ≤ (9223372036854775807 : Int)) ∧
 (g.fst.snd.snd.fst.length = (8 : Nat) ∧
 ∀ (x : Int), x ∈ g.fst.snd.snd.fst → (-9223372036854775808 : Int) ≤ x ∧ x ≤ (9223372036854775807 : Int)) ∧
 g.fst.snd.snd.snd.length = (8 : Nat) ∧ ∀ (x : Bool), x ∈ g.fst.snd.snd.snd → True) ∧
 (g.snd.fst.length ≤ (9223372036854775807 : Nat) ∧
 ∀ (x : Int), x ∈ g.snd.fst → (-9223372036854775808 : Int) ≤ x ∧ x ≤ (9223372036854775807 : Int)) ∧
 ((-9223372036854775808 : Int) ≤ g.snd.snd.fst ∧ g.snd.snd.fst ≤ (9223372036854775807 : Int)) ∧ True →
 (decide (g.snd.snd.fst < (↑x.fst.length : Int)) = true →
 ((0 : Int) ≤ g.snd.snd.fst ∧ g.snd.snd.fst < (↑x.fst.length : Int)) ∧
 Holds True ∧
 (((step (g.fst.fst, g.fst.snd.fst, g.fst.snd.snd.fst, g.fst.snd.snd.snd) (x.fst.getD g.snd.snd.fst.toNat ((0 : Int), (0 : Int))).fst
 (x.fst.getD g.snd.snd.fst.toNat ((0 : Int), (0 : Int))).snd).snd.snd.fst !=
 (0 : Int)) =
 true →
 ((-9223372036854775808 : Int) ≤ g.snd.snd.fst + (1 : Int) ∧ g.snd.snd.fst + (1 : Int) ≤ (9223372036854775807 : Int)) ∧
 (((0 : Int) ≤ g.snd.snd.fst + (1 : Int) ∧
 g.snd.snd.fst + (1 : Int) ≤ (↑x.fst.length : Int) ∧
 pl (List.take (g.snd.snd.fst + (1 : Int)).toNat x.fst) =
 ((g.fst.fst, g.fst.snd.fst, g.fst.snd.snd.fst, g.fst.snd.snd.snd), g.snd.fst) ∧
 (↑g.snd.fst.length : Int) ≤ g.snd.snd.fst + (1 : Int)) ∧
 ((↑x.fst.length : Int) - (g.snd.snd.fst + (1 : Int))).toNat < ((↑x.fst.length : Int) - g.snd.snd.fst).toNat) ∧
 ((True ∧ True) ∧
 (True ∧ True) ∧
 True ∧
 x.fst = x.fst ∧
 (↑x.fst.length : Int) = (↑x.fst.length : Int) ∧ g.snd.snd.fst + (1 : Int) = g.snd.snd.fst + (1 : Int) ∧ True) ∧
 ((g.fst.fst = g.fst.fst ∧
 g.fst.snd.fst = g.fst.snd.fst ∧
 g.fst.snd.snd.fst = g.fst.snd.snd.fst ∧ g.fst.snd.snd.snd = g.fst.snd.snd.snd ∧ True) ∧
 g.snd.fst = g.snd.fst ∧
 ((0 : Int) = (0 : Int) ∧
 (0 : Int) = (0 : Int) ∧
 (0 : Int) ::
 (0 : Int) ::
 (0 : Int) :: (0 : Int) :: (0 : Int) :: (0 : Int) :: (0 : Int) :: (0 : Int) :: ([] : List Int) =
 (0 : Int) ::
 (0 : Int) ::
 (0 : Int) :: (0 : Int) :: (0 : Int) :: (0 : Int) :: (0 : Int) :: (0 : Int) :: ([] : List Int) ∧
 false :: false :: false :: false :: false :: false :: false :: false :: ([] : List Bool) =
 false :: false :: false :: false :: false :: false :: false :: false :: ([] : List Bool) ∧
 True) ∧
 True) ∧
 True) ∧
 (((step (g.fst.fst, g.fst.snd.fst, g.fst.snd.snd.fst, g.fst.snd.snd.snd)
 (x.fst.getD g.snd.snd.fst.toNat ((0 : Int), (0 : Int))).fst
 (x.fst.getD g.snd.snd.fst.toNat ((0 : Int), (0 : Int))).snd).snd.snd.fst !=
 (0 : Int)) =
 false →
 ((step (g.fst.fst, g.fst.snd.fst, g.fst.snd.snd.fst, g.fst.snd.snd.snd)
 (x.fst.getD g.snd.snd.fst.toNat ((0 : Int), (0 : Int))).fst
 (x.fst.getD g.snd.snd.fst.toNat ((0 : Int), (0 : Int))).snd).snd.fst =
 true →
 (step (g.fst.fst, g.fst.snd.fst, g.fst.snd.snd.fst, g.fst.snd.snd.snd)
 (x.fst.getD g.snd.snd.fst.toNat ((0 : Int), (0 : Int))).fst
 (x.fst.getD g.snd.snd.fst.toNat ((0 : Int), (0 : Int))).snd).snd.fst =
 true) ∧
 ((step (g.fst.fst, g.fst.snd.fst, g.fst.snd.snd.fst, g.fst.snd.snd.snd)
 (x.fst.getD g.snd.snd.fst.toNat ((0 : Int), (0 : Int))).fst
 (x.fst.getD g.snd.snd.fst.toNat ((0 : Int), (0 : Int))).snd).snd.fst =
 true →
 ((step (g.fst.fst, g.fst.snd.fst, g.fst.snd.snd.fst, g.fst.snd.snd.snd)
 (x.fst.getD g.snd.snd.fst.toNat ((0 : Int), (0 : Int))).fst
 (x.fst.getD g.snd.snd.fst.toNat ((0 : Int), (0 : Int))).snd).snd.fst =
 true ∧
 (step (g.fst.fst, g.fst.snd.fst, g.fst.snd.snd.fst, g.fst.snd.snd.snd)
 (x.fst.getD g.snd.snd.fst.toNat ((0 : Int), (0 : Int))).fst
 (x.fst.getD g.snd.snd.fst.toNat ((0 : Int), (0 : Int))).snd).snd.fst =
 true) ∧
 (0 : Int) ≤ (x.fst.getD g.snd.snd.fst.toNat ((0 : Int), (0 : Int))).snd ∧
 (x.fst.getD g.snd.snd.fst.toNat ((0 : Int), (0 : Int))).snd < (↑(8 : Nat) : Int)) ∧
 ((step (g.fst.fst, g.fst.snd.fst, g.fst.snd.snd.fst, g.fst.snd.snd.snd)
 (x.fst.getD g.snd.snd.fst.toNat ((0 : Int), (0 : Int))).fst
 (x.fst.getD g.snd.snd.fst.toNat ((0 : Int), (0 : Int))).snd).snd.fst =
 true →
 (step (g.fst.fst, g.fst.snd.fst, g.fst.snd.snd.fst, g.fst.snd.snd.snd)
 (x.fst.getD g.snd.snd.fst.toNat ((0 : Int), (0 : Int))).fst
 (x.fst.getD g.snd.snd.fst.toNat ((0 : Int), (0 : Int))).snd).snd.fst =
 true) ∧
 ((step (g.fst.fst, g.fst.snd.fst, g.fst.snd.snd.fst, g.fst.snd.snd.snd)
 (x.fst.getD g.snd.snd.fst.toNat ((0 : Int), (0 : Int))).fst
 (x.fst.getD g.snd.snd.fst.toNat ((0 : Int), (0 : Int))).snd).snd.fst =
 true →
 (step (g.fst.fst, g.fst.snd.fst, g.fst.snd.snd.fst, g.fst.snd.snd.snd)
 (x.fst.getD g.snd.snd.fst.toNat ((0 : Int), (0 : Int))).fst
 (x.fst.getD g.snd.snd.fst.toNat ((0 : Int), (0 : Int))).snd).snd.fst =
 true) ∧
 ((step (g.fst.fst, g.fst.snd.fst, g.fst.snd.snd.fst, g.fst.snd.snd.snd)
 (x.fst.getD g.snd.snd.fst.toNat ((0 : Int), (0 : Int))).fst
 (x.fst.getD g.snd.snd.fst.toNat ((0 : Int), (0 : Int))).snd).snd.fst =
 true →
 (step (g.fst.fst, g.fst.snd.fst, g.fst.snd.snd.fst, g.fst.snd.snd.snd)
 (x.fst.getD g.snd.snd.fst.toNat ((0 : Int), (0 : Int))).fst
 (x.fst.getD g.snd.snd.fst.toNat ((0 : Int), (0 : Int))).snd).snd.fst =
 true) ∧
 (((step (g.fst.fst, g.fst.snd.fst, g.fst.snd.snd.fst, g.fst.snd.snd.snd)
 (x.fst.getD g.snd.snd.fst.toNat ((0 : Int), (0 : Int))).fst
 (x.fst.getD g.snd.snd.fst.toNat ((0 : Int), (0 : Int))).snd).snd.fst &&
 !g.fst.snd.snd.snd.getD (x.fst.getD g.snd.snd.fst.toNat ((0 : Int), (0 : Int))).snd.toNat false) =
 true →
 (g.snd.fst.length +
 (((0 : Int) :: ([] : List Int)).set (0 : Nat)
 (x.fst.getD g.snd.snd.fst.toNat ((0 : Int), (0 : Int))).snd).length ≤
 (9223372036854775807 : Nat) ∧
 (g.snd.fst.length +
 (((0 : Int) :: ([] : List Int)).set (0 : Nat)
 (x.fst.getD g.snd.snd.fst.toNat ((0 : Int), (0 : Int))).snd).length +
 (g.snd.fst.length +
 (((0 : Int) :: ([] : List Int)).set (0 : Nat)
 (x.fst.getD g.snd.snd.fst.toNat ((0 : Int), (0 : Int))).snd).length) /
 (4 : Nat) +
 (192 : Nat)) *
 (8 : Nat) ≤
 (281474976710656 : Nat)) ∧
 ((-9223372036854775808 : Int) ≤ g.snd.snd.fst + (1 : Int) ∧
 g.snd.snd.fst + (1 : Int) ≤ (9223372036854775807 : Int)) ∧
 (((0 : Int) ≤ g.snd.snd.fst + (1 : Int) ∧
 g.snd.snd.fst + (1 : Int) ≤ (↑x.fst.length : Int) ∧
 pl (List.take (g.snd.snd.fst + (1 : Int)).toNat x.fst) =
 (((step (g.fst.fst, g.fst.snd.fst, g.fst.snd.snd.fst, g.fst.snd.snd.snd)
 (x.fst.getD g.snd.snd.fst.toNat ((0 : Int), (0 : Int))).fst
 (x.fst.getD g.snd.snd.fst.toNat ((0 : Int), (0 : Int))).snd).fst.fst,
 (step (g.fst.fst, g.fst.snd.fst, g.fst.snd.snd.fst, g.fst.snd.snd.snd)
 (x.fst.getD g.snd.snd.fst.toNat ((0 : Int), (0 : Int))).fst
 (x.fst.getD g.snd.snd.fst.toNat ((0 : Int), (0 : Int))).snd).fst.snd.fst,
 (step (g.fst.fst, g.fst.snd.fst, g.fst.snd.snd.fst, g.fst.snd.snd.snd)
 (x.fst.getD g.snd.snd.fst.toNat ((0 : Int), (0 : Int))).fst
 (x.fst.getD g.snd.snd.fst.toNat ((0 : Int), (0 : Int))).snd).fst.snd.snd.fst,
 (step (g.fst.fst, g.fst.snd.fst, g.fst.snd.snd.fst, g.fst.snd.snd.snd)
 (x.fst.getD g.snd.snd.fst.toNat ((0 : Int), (0 : Int))).fst
 (x.fst.getD g.snd.snd.fst.toNat ((0 : Int), (0 : Int))).snd).fst.snd.snd.snd),
 g.snd.fst ++
 ((0 : Int) :: ([] : List Int)).set (0 : Nat)
 (x.fst.getD g.snd.snd.fst.toNat ((0 : Int), (0 : Int))).snd) ∧
 (↑(g.snd.fst ++
 ((0 : Int) :: ([] : List Int)).set (0 : Nat)
 (x.fst.getD g.snd.snd.fst.toNat ((0 : Int), (0 : Int))).snd).length :
 Int) ≤
 g.snd.snd.fst + (1 : Int)) ∧
 ((↑x.fst.length : Int) - (g.snd.snd.fst + (1 : Int))).toNat <
 ((↑x.fst.length : Int) - g.snd.snd.fst).toNat) ∧
 ((True ∧ True) ∧
 (True ∧ True) ∧
 True ∧
 x.fst = x.fst ∧
 (↑x.fst.length : Int) = (↑x.fst.length : Int) ∧
 g.snd.snd.fst + (1 : Int) = g.snd.snd.fst + (1 : Int) ∧ True) ∧
 (((step (g.fst.fst, g.fst.snd.fst, g.fst.snd.snd.fst, g.fst.snd.snd.snd)
 (x.fst.getD g.snd.snd.fst.toNat ((0 : Int), (0 : Int))).fst
 (x.fst.getD g.snd.snd.fst.toNat ((0 : Int), (0 : Int))).snd).fst.fst =
 (step (g.fst.fst, g.fst.snd.fst, g.fst.snd.snd.fst, g.fst.snd.snd.snd)
 (x.fst.getD g.snd.snd.fst.toNat ((0 : Int), (0 : Int))).fst
 (x.fst.getD g.snd.snd.fst.toNat ((0 : Int), (0 : Int))).snd).fst.fst ∧
 (step (g.fst.fst, g.fst.snd.fst, g.fst.snd.snd.fst, g.fst.snd.snd.snd)
 (x.fst.getD g.snd.snd.fst.toNat ((0 : Int), (0 : Int))).fst
 (x.fst.getD g.snd.snd.fst.toNat ((0 : Int), (0 : Int))).snd).fst.snd.fst =
 (step (g.fst.fst, g.fst.snd.fst, g.fst.snd.snd.fst, g.fst.snd.snd.snd)
 (x.fst.getD g.snd.snd.fst.toNat ((0 : Int), (0 : Int))).fst
 (x.fst.getD g.snd.snd.fst.toNat ((0 : Int), (0 : Int))).snd).fst.snd.fst ∧
 (step (g.fst.fst, g.fst.snd.fst, g.fst.snd.snd.fst, g.fst.snd.snd.snd)
 (x.fst.getD g.snd.snd.fst.toNat ((0 : Int), (0 : Int))).fst
 (x.fst.getD g.snd.snd.fst.toNat ((0 : Int), (0 : Int))).snd).fst.snd.snd.fst =
 (step (g.fst.fst, g.fst.snd.fst, g.fst.snd.snd.fst, g.fst.snd.snd.snd)
 (x.fst.getD g.snd.snd.fst.toNat ((0 : Int), (0 : Int))).fst
 (x.fst.getD g.snd.snd.fst.toNat ((0 : Int), (0 : Int))).snd).fst.snd.snd.fst ∧
 (step (g.fst.fst, g.fst.snd.fst, g.fst.snd.snd.fst, g.fst.snd.snd.snd)
 (x.fst.getD g.snd.snd.fst.toNat ((0 : Int), (0 : Int))).fst
 (x.fst.getD g.snd.snd.fst.toNat ((0 : Int), (0 : Int))).snd).fst.snd.snd.snd =
 (step (g.fst.fst, g.fst.snd.fst, g.fst.snd.snd.fst, g.fst.snd.snd.snd)
 (x.fst.getD g.snd.snd.fst.toNat ((0 : Int), (0 : Int))).fst
 (x.fst.getD g.snd.snd.fst.toNat ((0 : Int), (0 : Int))).snd).fst.snd.snd.snd ∧
 True) ∧
 g.snd.fst ++
 ((0 : Int) :: ([] : List Int)).set (0 : Nat)
 (x.fst.getD g.snd.snd.fst.toNat ((0 : Int), (0 : Int))).snd =
 g.snd.fst ++
 ((0 : Int) :: ([] : List Int)).set (0 : Nat)
 (x.fst.getD g.snd.snd.fst.toNat ((0 : Int), (0 : Int))).snd ∧
 ((0 : Int) = (0 : Int) ∧
 (0 : Int) = (0 : Int) ∧
 (0 : Int) ::
 (0 : Int) ::
 (0 : Int) ::
 (0 : Int) :: (0 : Int) :: (0 : Int) :: (0 : Int) :: (0 : Int) :: ([] : List Int) =
 (0 : Int) ::
 (0 : Int) ::
 (0 : Int) ::
 (0 : Int) :: (0 : Int) :: (0 : Int) :: (0 : Int) :: (0 : Int) :: ([] : List Int) ∧
 false :: false :: false :: false :: false :: false :: false :: false :: ([] : List Bool) =
 false ::
 false :: false :: false :: false :: false :: false :: false :: ([] : List Bool) ∧
 True) ∧
 True) ∧
 True) ∧
 (((step (g.fst.fst, g.fst.snd.fst, g.fst.snd.snd.fst, g.fst.snd.snd.snd)
 (x.fst.getD g.snd.snd.fst.toNat ((0 : Int), (0 : Int))).fst
 (x.fst.getD g.snd.snd.fst.toNat ((0 : Int), (0 : Int))).snd).snd.fst &&
 !g.fst.snd.snd.snd.getD (x.fst.getD g.snd.snd.fst.toNat ((0 : Int), (0 : Int))).snd.toNat false) =
 false →
 ((-9223372036854775808 : Int) ≤ g.snd.snd.fst + (1 : Int) ∧
 g.snd.snd.fst + (1 : Int) ≤ (9223372036854775807 : Int)) ∧
 (((0 : Int) ≤ g.snd.snd.fst + (1 : Int) ∧
 g.snd.snd.fst + (1 : Int) ≤ (↑x.fst.length : Int) ∧
 pl (List.take (g.snd.snd.fst + (1 : Int)).toNat x.fst) =
 (((step (g.fst.fst, g.fst.snd.fst, g.fst.snd.snd.fst, g.fst.snd.snd.snd)
 (x.fst.getD g.snd.snd.fst.toNat ((0 : Int), (0 : Int))).fst
 (x.fst.getD g.snd.snd.fst.toNat ((0 : Int), (0 : Int))).snd).fst.fst,
 (step (g.fst.fst, g.fst.snd.fst, g.fst.snd.snd.fst, g.fst.snd.snd.snd)
 (x.fst.getD g.snd.snd.fst.toNat ((0 : Int), (0 : Int))).fst
 (x.fst.getD g.snd.snd.fst.toNat ((0 : Int), (0 : Int))).snd).fst.snd.fst,
 (step (g.fst.fst, g.fst.snd.fst, g.fst.snd.snd.fst, g.fst.snd.snd.snd)
 (x.fst.getD g.snd.snd.fst.toNat ((0 : Int), (0 : Int))).fst
 (x.fst.getD g.snd.snd.fst.toNat ((0 : Int), (0 : Int))).snd).fst.snd.snd.fst,
 (step (g.fst.fst, g.fst.snd.fst, g.fst.snd.snd.fst, g.fst.snd.snd.snd)
 (x.fst.getD g.snd.snd.fst.toNat ((0 : Int), (0 : Int))).fst
 (x.fst.getD g.snd.snd.fst.toNat ((0 : Int), (0 : Int))).snd).fst.snd.snd.snd),
 g.snd.fst) ∧
 (↑g.snd.fst.length : Int) ≤ g.snd.snd.fst + (1 : Int)) ∧
 ((↑x.fst.length : Int) - (g.snd.snd.fst + (1 : Int))).toNat <
 ((↑x.fst.length : Int) - g.snd.snd.fst).toNat) ∧
 ((True ∧ True) ∧
 (True ∧ True) ∧
 True ∧
 x.fst = x.fst ∧
 (↑x.fst.length : Int) = (↑x.fst.length : Int) ∧
 g.snd.snd.fst + (1 : Int) = g.snd.snd.fst + (1 : Int) ∧ True) ∧
 (((step (g.fst.fst, g.fst.snd.fst, g.fst.snd.snd.fst, g.fst.snd.snd.snd)
 (x.fst.getD g.snd.snd.fst.toNat ((0 : Int), (0 : Int))).fst
 (x.fst.getD g.snd.snd.fst.toNat ((0 : Int), (0 : Int))).snd).fst.fst =
 (step (g.fst.fst, g.fst.snd.fst, g.fst.snd.snd.fst, g.fst.snd.snd.snd)
 (x.fst.getD g.snd.snd.fst.toNat ((0 : Int), (0 : Int))).fst
 (x.fst.getD g.snd.snd.fst.toNat ((0 : Int), (0 : Int))).snd).fst.fst ∧
 (step (g.fst.fst, g.fst.snd.fst, g.fst.snd.snd.fst, g.fst.snd.snd.snd)
 (x.fst.getD g.snd.snd.fst.toNat ((0 : Int), (0 : Int))).fst
 (x.fst.getD g.snd.snd.fst.toNat ((0 : Int), (0 : Int))).snd).fst.snd.fst =
 (step (g.fst.fst, g.fst.snd.fst, g.fst.snd.snd.fst, g.fst.snd.snd.snd)
 (x.fst.getD g.snd.snd.fst.toNat ((0 : Int), (0 : Int))).fst
 (x.fst.getD g.snd.snd.fst.toNat ((0 : Int), (0 : Int))).snd).fst.snd.fst ∧
 (step (g.fst.fst, g.fst.snd.fst, g.fst.snd.snd.fst, g.fst.snd.snd.snd)
 (x.fst.getD g.snd.snd.fst.toNat ((0 : Int), (0 : Int))).fst
 (x.fst.getD g.snd.snd.fst.toNat ((0 : Int), (0 : Int))).snd).fst.snd.snd.fst =
 (step (g.fst.fst, g.fst.snd.fst, g.fst.snd.snd.fst, g.fst.snd.snd.snd)
 (x.fst.getD g.snd.snd.fst.toNat ((0 : Int), (0 : Int))).fst
 (x.fst.getD g.snd.snd.fst.toNat ((0 : Int), (0 : Int))).snd).fst.snd.snd.fst ∧
 (step (g.fst.fst, g.fst.snd.fst, g.fst.snd.snd.fst, g.fst.snd.snd.snd)
 (x.fst.getD g.snd.snd.fst.toNat ((0 : Int), (0 : Int))).fst
 (x.fst.getD g.snd.snd.fst.toNat ((0 : Int), (0 : Int))).snd).fst.snd.snd.snd =
 (step (g.fst.fst, g.fst.snd.fst, g.fst.snd.snd.fst, g.fst.snd.snd.snd)
 (x.fst.getD g.snd.snd.fst.toNat ((0 : Int), (0 : Int))).fst
 (x.fst.getD g.snd.snd.fst.toNat ((0 : Int), (0 : Int))).snd).fst.snd.snd.snd ∧
 True) ∧
 g.snd.fst = g.snd.fst ∧
 ((0 : Int) = (0 : Int) ∧
 (0 : Int) = (0 : Int) ∧
 (0 : Int) ::
 (0 : Int) ::
 (0 : Int) ::
 (0 : Int) :: (0 : Int) :: (0 : Int) :: (0 : Int) :: (0 : Int) :: ([] : List Int) =
 (0 : Int) ::
 (0 : Int) ::
 (0 : Int) ::
 (0 : Int) :: (0 : Int) :: (0 : Int) :: (0 : Int) :: (0 : Int) :: ([] : List Int) ∧
 false :: false :: false :: false :: false :: false :: false :: false :: ([] : List Bool) =
 false :: false :: false :: false :: false :: false :: false :: false :: ([] : List Bool) ∧
 True) ∧
 True) ∧
 True))) ∧
 (decide (g.snd.snd.fst < (↑x.fst.length : Int)) = false →
 g.snd.fst = (pl x.fst).snd ∧ (g.fst.fst, g.fst.snd.fst, g.fst.snd.snd.fst, g.fst.snd.snd.snd) = (pl x.fst).fst)

theorem E_play_eq (x : HL (cPlay : Ctr).as) : vc (fx_play x) 1 42 Try.f42 (cPlay) x = E_play x := by kernel_rfl

def E_fplay (x : List (Int × Int) × Unit) : Prop :=
 ((((0 : Int) ≤ (0 : Int) ∧
 (0 : Int) ≤ (↑x.fst.length : Int) ∧
 pl (List.take (Int.toNat (0 : Int)) x.fst) =
 (((0 : Int), (0 : Int),
 (((((((((0 : Int) :: (0 : Int) :: (0 : Int) :: (0 : Int) :: (0 : Int) :: (0 : Int) :: (0 : Int) :: (0 : Int) :: ([] : List Int)).set
 (0 : Nat) (-1 : Int)).set
 (1 : Nat) (-1 : Int)).set
 (2 : Nat) (-1 : Int)).set
 (3 : Nat) (-1 : Int)).set
 (4 : Nat) (-1 : Int)).set
 (5 : Nat) (-1 : Int)).set
 (6 : Nat) (-1 : Int)).set
 (7 : Nat) (-1 : Int),
 false :: false :: false :: false :: false :: false :: false :: false :: ([] : List Bool)),
 ([] : List Int)) ∧
 (↑([] : List Int).length : Int) ≤ (0 : Int)) ∧
 True) ∧
 ((True ∧ True) ∧ (True ∧ True) ∧ True ∧ x.fst = x.fst ∧ (↑x.fst.length : Int) = (↑x.fst.length : Int) ∧ (0 : Int) = (0 : Int) ∧ True) ∧
 (((0 : Int) = (0 : Int) ∧
 (0 : Int) = (0 : Int) ∧
 (((((((((0 : Int) :: (0 : Int) :: (0 : Int) :: (0 : Int) :: (0 : Int) :: (0 : Int) :: (0 : Int) :: (0 : Int) :: ([] : List Int)).set
 (0 : Nat) (-1 : Int)).set
 (1 : Nat) (-1 : Int)).set
 (2 : Nat) (-1 : Int)).set
 (3 : Nat) (-1 : Int)).set
 (4 : Nat) (-1 : Int)).set
 (5 : Nat) (-1 : Int)).set
 (6 : Nat) (-1 : Int)).set
 (7 : Nat) (-1 : Int) =
 (((((((((0 : Int) :: (0 : Int) :: (0 : Int) :: (0 : Int) :: (0 : Int) :: (0 : Int) :: (0 : Int) :: (0 : Int) :: ([] : List Int)).set
 (0 : Nat) (-1 : Int)).set
 (1 : Nat) (-1 : Int)).set
 (2 : Nat) (-1 : Int)).set
 (3 : Nat) (-1 : Int)).set
 (4 : Nat) (-1 : Int)).set
 (5 : Nat) (-1 : Int)).set
 (6 : Nat) (-1 : Int)).set
 (7 : Nat) (-1 : Int) ∧
 false :: false :: false :: false :: false :: false :: false :: false :: ([] : List Bool) =
 false :: false :: false :: false :: false :: false :: false :: false :: ([] : List Bool) ∧
 True) ∧
 ([] : List Int) = ([] : List Int) ∧
 ((0 : Int) = (0 : Int) ∧
 (0 : Int) = (0 : Int) ∧
 (0 : Int) :: (0 : Int) :: (0 : Int) :: (0 : Int) :: (0 : Int) :: (0 : Int) :: (0 : Int) :: (0 : Int) :: ([] : List Int) =
 (0 : Int) :: (0 : Int) :: (0 : Int) :: (0 : Int) :: (0 : Int) :: (0 : Int) :: (0 : Int) :: (0 : Int) :: ([] : List Int) ∧
 false :: false :: false :: false :: false :: false :: false :: false :: ([] : List Bool) =
 false :: false :: false :: false :: false :: false :: false :: false :: ([] : List Bool) ∧
 True) ∧
 True) ∧
 True) ∧
 ∀ (g : (Int × Int × List Int × List Bool) × List Int × Int × Unit),
 (0 : Int) ≤ g.snd.snd.fst ∧
 g.snd.snd.fst ≤ (↑x.fst.length : Int) ∧
 pl (List.take g.snd.snd.fst.toNat x.fst) = (g.fst, g.snd.fst) ∧ (↑g.snd.fst.length : Int) ≤ g.snd.snd.fst →
 (((-9223372036854775808 : Int) ≤ g.fst.fst ∧ g.fst.fst ≤ (9223372036854775807 : Int)) ∧
 ((-9223372036854775808 : Int) ≤ g.fst.snd.fst ∧ g.fst.snd.fst ≤ (9223372036854775807 : Int)) ∧
 (g.fst.snd.snd.fst.length = (8 : Nat) ∧
 ∀ (x : Int), x ∈ g.fst.snd.snd.fst → (-9223372036854775808 : Int) ≤ x ∧ x ≤ (9223372036854775807 : Int)) ∧
 g.fst.snd.snd.snd.length = (8 : Nat) ∧ ∀ (x : Bool), x ∈ g.fst.snd.snd.snd → True) ∧
 (g.snd.fst.length ≤ (9223372036854775807 : Nat) ∧
 ∀ (x : Int), x ∈ g.snd.fst → (-9223372036854775808 : Int) ≤ x ∧ x ≤ (9223372036854775807 : Int)) ∧
 ((-9223372036854775808 : Int) ≤ g.snd.snd.fst ∧ g.snd.snd.fst ≤ (9223372036854775807 : Int)) ∧ True →
 (decide (g.snd.snd.fst < (↑x.fst.length : Int)) = true →
 ((0 : Int) ≤ g.snd.snd.fst ∧ g.snd.snd.fst < (↑x.fst.length : Int)) ∧
 Holds True ∧
 (((step (g.fst.fst, g.fst.snd.fst, g.fst.snd.snd.fst, g.fst.snd.snd.snd) (x.fst.getD g.snd.snd.fst.toNat ((0 : Int), (0 : Int))).fst
 (x.fst.getD g.snd.snd.fst.toNat ((0 : Int), (0 : Int))).snd).snd.snd.fst ==
 (0 : Int)) =
 true →
 ((step (g.fst.fst, g.fst.snd.fst, g.fst.snd.snd.fst, g.fst.snd.snd.snd)
 (x.fst.getD g.snd.snd.fst.toNat ((0 : Int), (0 : Int))).fst
 (x.fst.getD g.snd.snd.fst.toNat ((0 : Int), (0 : Int))).snd).snd.fst =
 true →
 (step (g.fst.fst, g.fst.snd.fst, g.fst.snd.snd.fst, g.fst.snd.snd.snd)
 (x.fst.getD g.snd.snd.fst.toNat ((0 : Int), (0 : Int))).fst
 (x.fst.getD g.snd.snd.fst.toNat ((0 : Int), (0 : Int))).snd).snd.fst =
 true) ∧
 ((step (g.fst.fst, g.fst.snd.fst, g.fst.snd.snd.fst, g.fst.snd.snd.snd)
 (x.fst.getD g.snd.snd.fst.toNat ((0 : Int), (0 : Int))).fst
 (x.fst.getD g.snd.snd.fst.toNat ((0 : Int), (0 : Int))).snd).snd.fst =
 true →
 ((step (g.fst.fst, g.fst.snd.fst, g.fst.snd.snd.fst, g.fst.snd.snd.snd)
 (x.fst.getD g.snd.snd.fst.toNat ((0 : Int), (0 : Int))).fst
 (x.fst.getD g.snd.snd.fst.toNat ((0 : Int), (0 : Int))).snd).snd.fst =
 true ∧
 (step (g.fst.fst, g.fst.snd.fst, g.fst.snd.snd.fst, g.fst.snd.snd.snd)
 (x.fst.getD g.snd.snd.fst.toNat ((0 : Int), (0 : Int))).fst
 (x.fst.getD g.snd.snd.fst.toNat ((0 : Int), (0 : Int))).snd).snd.fst =
 true) ∧
 (0 : Int) ≤ (x.fst.getD g.snd.snd.fst.toNat ((0 : Int), (0 : Int))).snd ∧
 (x.fst.getD g.snd.snd.fst.toNat ((0 : Int), (0 : Int))).snd < (↑(8 : Nat) : Int)) ∧
 ((step (g.fst.fst, g.fst.snd.fst, g.fst.snd.snd.fst, g.fst.snd.snd.snd)
 (x.fst.getD g.snd.snd.fst.toNat ((0 : Int), (0 : Int))).fst
 (x.fst.getD g.snd.snd.fst.toNat ((0 : Int), (0 : Int))).snd).snd.fst =
 true →
 (step (g.fst.fst, g.fst.snd.fst, g.fst.snd.snd.fst, g.fst.snd.snd.snd)
 (x.fst.getD g.snd.snd.fst.toNat ((0 : Int), (0 : Int))).fst
 (x.fst.getD g.snd.snd.fst.toNat ((0 : Int), (0 : Int))).snd).snd.fst =
 true) ∧
 ((step (g.fst.fst, g.fst.snd.fst, g.fst.snd.snd.fst, g.fst.snd.snd.snd)
 (x.fst.getD g.snd.snd.fst.toNat ((0 : Int), (0 : Int))).fst
 (x.fst.getD g.snd.snd.fst.toNat ((0 : Int), (0 : Int))).snd).snd.fst =
 true →
 (step (g.fst.fst, g.fst.snd.fst, g.fst.snd.snd.fst, g.fst.snd.snd.snd)
 (x.fst.getD g.snd.snd.fst.toNat ((0 : Int), (0 : Int))).fst
 (x.fst.getD g.snd.snd.fst.toNat ((0 : Int), (0 : Int))).snd).snd.fst =
 true) ∧
 ((step (g.fst.fst, g.fst.snd.fst, g.fst.snd.snd.fst, g.fst.snd.snd.snd)
 (x.fst.getD g.snd.snd.fst.toNat ((0 : Int), (0 : Int))).fst
 (x.fst.getD g.snd.snd.fst.toNat ((0 : Int), (0 : Int))).snd).snd.fst =
 true →
 (step (g.fst.fst, g.fst.snd.fst, g.fst.snd.snd.fst, g.fst.snd.snd.snd)
 (x.fst.getD g.snd.snd.fst.toNat ((0 : Int), (0 : Int))).fst
 (x.fst.getD g.snd.snd.fst.toNat ((0 : Int), (0 : Int))).snd).snd.fst =
 true) ∧
 (((step (g.fst.fst, g.fst.snd.fst, g.fst.snd.snd.fst, g.fst.snd.snd.snd)
 (x.fst.getD g.snd.snd.fst.toNat ((0 : Int), (0 : Int))).fst
 (x.fst.getD g.snd.snd.fst.toNat ((0 : Int), (0 : Int))).snd).snd.fst &&
 !g.fst.snd.snd.snd.getD (x.fst.getD g.snd.snd.fst.toNat ((0 : Int), (0 : Int))).snd.toNat false) =
 true →
 (g.snd.fst.length +
 (((0 : Int) :: ([] : List Int)).set (0 : Nat)
 (x.fst.getD g.snd.snd.fst.toNat ((0 : Int), (0 : Int))).snd).length ≤
 (9223372036854775807 : Nat) ∧
 (g.snd.fst.length +
 (((0 : Int) :: ([] : List Int)).set (0 : Nat)
 (x.fst.getD g.snd.snd.fst.toNat ((0 : Int), (0 : Int))).snd).length +
 (g.snd.fst.length +
 (((0 : Int) :: ([] : List Int)).set (0 : Nat)
 (x.fst.getD g.snd.snd.fst.toNat ((0 : Int), (0 : Int))).snd).length) /
 (4 : Nat) +
 (192 : Nat)) *
 (8 : Nat) ≤
 (281474976710656 : Nat)) ∧
 ((-9223372036854775808 : Int) ≤ g.snd.snd.fst + (1 : Int) ∧
 g.snd.snd.fst + (1 : Int) ≤ (9223372036854775807 : Int)) ∧
 (((0 : Int) ≤ g.snd.snd.fst + (1 : Int) ∧
 g.snd.snd.fst + (1 : Int) ≤ (↑x.fst.length : Int) ∧
 pl (List.take (g.snd.snd.fst + (1 : Int)).toNat x.fst) =
 (((step (g.fst.fst, g.fst.snd.fst, g.fst.snd.snd.fst, g.fst.snd.snd.snd)
 (x.fst.getD g.snd.snd.fst.toNat ((0 : Int), (0 : Int))).fst
 (x.fst.getD g.snd.snd.fst.toNat ((0 : Int), (0 : Int))).snd).fst.fst,
 (step (g.fst.fst, g.fst.snd.fst, g.fst.snd.snd.fst, g.fst.snd.snd.snd)
 (x.fst.getD g.snd.snd.fst.toNat ((0 : Int), (0 : Int))).fst
 (x.fst.getD g.snd.snd.fst.toNat ((0 : Int), (0 : Int))).snd).fst.snd.fst,
 (step (g.fst.fst, g.fst.snd.fst, g.fst.snd.snd.fst, g.fst.snd.snd.snd)
 (x.fst.getD g.snd.snd.fst.toNat ((0 : Int), (0 : Int))).fst
 (x.fst.getD g.snd.snd.fst.toNat ((0 : Int), (0 : Int))).snd).fst.snd.snd.fst,
 (step (g.fst.fst, g.fst.snd.fst, g.fst.snd.snd.fst, g.fst.snd.snd.snd)
 (x.fst.getD g.snd.snd.fst.toNat ((0 : Int), (0 : Int))).fst
 (x.fst.getD g.snd.snd.fst.toNat ((0 : Int), (0 : Int))).snd).fst.snd.snd.snd),
 g.snd.fst ++
 ((0 : Int) :: ([] : List Int)).set (0 : Nat)
 (x.fst.getD g.snd.snd.fst.toNat ((0 : Int), (0 : Int))).snd) ∧
 (↑(g.snd.fst ++
 ((0 : Int) :: ([] : List Int)).set (0 : Nat)
 (x.fst.getD g.snd.snd.fst.toNat ((0 : Int), (0 : Int))).snd).length :
 Int) ≤
 g.snd.snd.fst + (1 : Int)) ∧
 ((↑x.fst.length : Int) - (g.snd.snd.fst + (1 : Int))).toNat <
 ((↑x.fst.length : Int) - g.snd.snd.fst).toNat) ∧
 ((True ∧ True) ∧
 (True ∧ True) ∧
 True ∧
 x.fst = x.fst ∧
 (↑x.fst.length : Int) = (↑x.fst.length : Int) ∧
 g.snd.snd.fst + (1 : Int) = g.snd.snd.fst + (1 : Int) ∧ True) ∧
 (((step (g.fst.fst, g.fst.snd.fst, g.fst.snd.snd.fst, g.fst.snd.snd.snd)
 (x.fst.getD g.snd.snd.fst.toNat ((0 : Int), (0 : Int))).fst
 (x.fst.getD g.snd.snd.fst.toNat ((0 : Int), (0 : Int))).snd).fst.fst =
 (step (g.fst.fst, g.fst.snd.fst, g.fst.snd.snd.fst, g.fst.snd.snd.snd)
 (x.fst.getD g.snd.snd.fst.toNat ((0 : Int), (0 : Int))).fst
 (x.fst.getD g.snd.snd.fst.toNat ((0 : Int), (0 : Int))).snd).fst.fst ∧
 (step (g.fst.fst, g.fst.snd.fst, g.fst.snd.snd.fst, g.fst.snd.snd.snd)
 (x.fst.getD g.snd.snd.fst.toNat ((0 : Int), (0 : Int))).fst
 (x.fst.getD g.snd.snd.fst.toNat ((0 : Int), (0 : Int))).snd).fst.snd.fst =
 (step (g.fst.fst, g.fst.snd.fst, g.fst.snd.snd.fst, g.fst.snd.snd.snd)
 (x.fst.getD g.snd.snd.fst.toNat ((0 : Int), (0 : Int))).fst
 (x.fst.getD g.snd.snd.fst.toNat ((0 : Int), (0 : Int))).snd).fst.snd.fst ∧
 (step (g.fst.fst, g.fst.snd.fst, g.fst.snd.snd.fst, g.fst.snd.snd.snd)
 (x.fst.getD g.snd.snd.fst.toNat ((0 : Int), (0 : Int))).fst
 (x.fst.getD g.snd.snd.fst.toNat ((0 : Int), (0 : Int))).snd).fst.snd.snd.fst =
 (step (g.fst.fst, g.fst.snd.fst, g.fst.snd.snd.fst, g.fst.snd.snd.snd)
 (x.fst.getD g.snd.snd.fst.toNat ((0 : Int), (0 : Int))).fst
 (x.fst.getD g.snd.snd.fst.toNat ((0 : Int), (0 : Int))).snd).fst.snd.snd.fst ∧
 (step (g.fst.fst, g.fst.snd.fst, g.fst.snd.snd.fst, g.fst.snd.snd.snd)
 (x.fst.getD g.snd.snd.fst.toNat ((0 : Int), (0 : Int))).fst
 (x.fst.getD g.snd.snd.fst.toNat ((0 : Int), (0 : Int))).snd).fst.snd.snd.snd =
 (step (g.fst.fst, g.fst.snd.fst, g.fst.snd.snd.fst, g.fst.snd.snd.snd)
 (x.fst.getD g.snd.snd.fst.toNat ((0 : Int), (0 : Int))).fst
 (x.fst.getD g.snd.snd.fst.toNat ((0 : Int), (0 : Int))).snd).fst.snd.snd.snd ∧
 True) ∧
 g.snd.fst ++
 ((0 : Int) :: ([] : List Int)).set (0 : Nat)
 (x.fst.getD g.snd.snd.fst.toNat ((0 : Int), (0 : Int))).snd =
 g.snd.fst ++
 ((0 : Int) :: ([] : List Int)).set (0 : Nat)
 (x.fst.getD g.snd.snd.fst.toNat ((0 : Int), (0 : Int))).snd ∧
 ((0 : Int) = (0 : Int) ∧
 (0 : Int) = (0 : Int) ∧
 (0 : Int) ::
 (0 : Int) ::
 (0 : Int) ::
 (0 : Int) :: (0 : Int) :: (0 : Int) :: (0 : Int) :: (0 : Int) :: ([] : List Int) =
 (0 : Int) ::
 (0 : Int) ::
 (0 : Int) ::
 (0 : Int) :: (0 : Int) :: (0 : Int) :: (0 : Int) :: (0 : Int) :: ([] : List Int) ∧
 false :: false :: false :: false :: false :: false :: false :: false :: ([] : List Bool) =
 false :: false :: false :: false :: false :: false :: false :: false :: ([] : List Bool) ∧
 True) ∧
 True) ∧
 True) ∧
 (((step (g.fst.fst, g.fst.snd.fst, g.fst.snd.snd.fst, g.fst.snd.snd.snd)
 (x.fst.getD g.snd.snd.fst.toNat ((0 : Int), (0 : Int))).fst
 (x.fst.getD g.snd.snd.fst.toNat ((0 : Int), (0 : Int))).snd).snd.fst &&
 !g.fst.snd.snd.snd.getD (x.fst.getD g.snd.snd.fst.toNat ((0 : Int), (0 : Int))).snd.toNat false) =
 false →
 ((-9223372036854775808 : Int) ≤ g.snd.snd.fst + (1 : Int) ∧
 g.snd.snd.fst + (1 : Int) ≤ (9223372036854775807 : Int)) ∧
 (((0 : Int) ≤ g.snd.snd.fst + (1 : Int) ∧
 g.snd.snd.fst + (1 : Int) ≤ (↑x.fst.length : Int) ∧
 pl (List.take (g.snd.snd.fst + (1 : Int)).toNat x.fst) =
 (((step (g.fst.fst, g.fst.snd.fst, g.fst.snd.snd.fst, g.fst.snd.snd.snd)
 (x.fst.getD g.snd.snd.fst.toNat ((0 : Int), (0 : Int))).fst
 (x.fst.getD g.snd.snd.fst.toNat ((0 : Int), (0 : Int))).snd).fst.fst,
 (step (g.fst.fst, g.fst.snd.fst, g.fst.snd.snd.fst, g.fst.snd.snd.snd)
 (x.fst.getD g.snd.snd.fst.toNat ((0 : Int), (0 : Int))).fst
 (x.fst.getD g.snd.snd.fst.toNat ((0 : Int), (0 : Int))).snd).fst.snd.fst,
 (step (g.fst.fst, g.fst.snd.fst, g.fst.snd.snd.fst, g.fst.snd.snd.snd)
 (x.fst.getD g.snd.snd.fst.toNat ((0 : Int), (0 : Int))).fst
 (x.fst.getD g.snd.snd.fst.toNat ((0 : Int), (0 : Int))).snd).fst.snd.snd.fst,
 (step (g.fst.fst, g.fst.snd.fst, g.fst.snd.snd.fst, g.fst.snd.snd.snd)
 (x.fst.getD g.snd.snd.fst.toNat ((0 : Int), (0 : Int))).fst
 (x.fst.getD g.snd.snd.fst.toNat ((0 : Int), (0 : Int))).snd).fst.snd.snd.snd),
 g.snd.fst) ∧
 (↑g.snd.fst.length : Int) ≤ g.snd.snd.fst + (1 : Int)) ∧
 ((↑x.fst.length : Int) - (g.snd.snd.fst + (1 : Int))).toNat < ((↑x.fst.length : Int) - g.snd.snd.fst).toNat) ∧
 ((True ∧ True) ∧
 (True ∧ True) ∧
 True ∧
 x.fst = x.fst ∧
 (↑x.fst.length : Int) = (↑x.fst.length : Int) ∧
 g.snd.snd.fst + (1 : Int) = g.snd.snd.fst + (1 : Int) ∧ True) ∧
 (((step (g.fst.fst, g.fst.snd.fst, g.fst.snd.snd.fst, g.fst.snd.snd.snd)
 (x.fst.getD g.snd.snd.fst.toNat ((0 : Int), (0 : Int))).fst
 (x.fst.getD g.snd.snd.fst.toNat ((0 : Int), (0 : Int))).snd).fst.fst =
 (step (g.fst.fst, g.fst.snd.fst, g.fst.snd.snd.fst, g.fst.snd.snd.snd)
 (x.fst.getD g.snd.snd.fst.toNat ((0 : Int), (0 : Int))).fst
 (x.fst.getD g.snd.snd.fst.toNat ((0 : Int), (0 : Int))).snd).fst.fst ∧
 (step (g.fst.fst, g.fst.snd.fst, g.fst.snd.snd.fst, g.fst.snd.snd.snd)
 (x.fst.getD g.snd.snd.fst.toNat ((0 : Int), (0 : Int))).fst
 (x.fst.getD g.snd.snd.fst.toNat ((0 : Int), (0 : Int))).snd).fst.snd.fst =
 (step (g.fst.fst, g.fst.snd.fst, g.fst.snd.snd.fst, g.fst.snd.snd.snd)
 (x.fst.getD g.snd.snd.fst.toNat ((0 : Int), (0 : Int))).fst
 (x.fst.getD g.snd.snd.fst.toNat ((0 : Int), (0 : Int))).snd).fst.snd.fst ∧
 (step (g.fst.fst, g.fst.snd.fst, g.fst.snd.snd.fst, g.fst.snd.snd.snd)
 (x.fst.getD g.snd.snd.fst.toNat ((0 : Int), (0 : Int))).fst
 (x.fst.getD g.snd.snd.fst.toNat ((0 : Int), (0 : Int))).snd).fst.snd.snd.fst =
 (step (g.fst.fst, g.fst.snd.fst, g.fst.snd.snd.fst, g.fst.snd.snd.snd)
 (x.fst.getD g.snd.snd.fst.toNat ((0 : Int), (0 : Int))).fst
 (x.fst.getD g.snd.snd.fst.toNat ((0 : Int), (0 : Int))).snd).fst.snd.snd.fst ∧
 (step (g.fst.fst, g.fst.snd.fst, g.fst.snd.snd.fst, g.fst.snd.snd.snd)
 (x.fst.getD g.snd.snd.fst.toNat ((0 : Int), (0 : Int))).fst
 (x.fst.getD g.snd.snd.fst.toNat ((0 : Int), (0 : Int))).snd).fst.snd.snd.snd =
 (step (g.fst.fst, g.fst.snd.fst, g.fst.snd.snd.fst, g.fst.snd.snd.snd)
 (x.fst.getD g.snd.snd.fst.toNat ((0 : Int), (0 : Int))).fst
 (x.fst.getD g.snd.snd.fst.toNat ((0 : Int), (0 : Int))).snd).fst.snd.snd.snd ∧
 True) ∧
 g.snd.fst = g.snd.fst ∧
 ((0 : Int) = (0 : Int) ∧
 (0 : Int) = (0 : Int) ∧
 (0 : Int) ::
 (0 : Int) ::
 (0 : Int) ::
 (0 : Int) :: (0 : Int) :: (0 : Int) :: (0 : Int) :: (0 : Int) :: ([] : List Int) =
 (0 : Int) ::
 (0 : Int) ::
 (0 : Int) ::
 (0 : Int) :: (0 : Int) :: (0 : Int) :: (0 : Int) :: (0 : Int) :: ([] : List Int) ∧
 false :: false :: false :: false :: false :: false :: false :: false :: ([] : List Bool) =
 false :: false :: false :: false :: false :: false :: false :: false :: ([] : List Bool) ∧
 True) ∧
 True) ∧
 True)) ∧
 (((step (g.fst.fst, g.fst.snd.fst, g.fst.snd.snd.fst, g.fst.snd.snd.snd) (x.fst.getD g.snd.snd.fst.toNat ((0 : Int), (0 : Int))).fst
 (x.fst.getD g.snd.snd.fst.toNat ((0 : Int), (0 : Int))).snd).snd.snd.fst ==
 (0 : Int)) =
 false →
 ((-9223372036854775808 : Int) ≤ g.snd.snd.fst + (1 : Int) ∧ g.snd.snd.fst + (1 : Int) ≤ (9223372036854775807 : Int)) ∧
 (((0 : Int) ≤ g.snd.snd.fst + (1 : Int) ∧
 g.snd.snd.fst + (1 : Int) ≤ (↑x.fst.length : Int) ∧
 pl (List.take (g.snd.snd.fst + (1 : Int)).toNat x.fst) =
 ((g.fst.fst, g.fst.snd.fst, g.fst.snd.snd.fst, g.fst.snd.snd.snd), g.snd.fst) ∧
 (↑g.snd.fst.length : Int) ≤ g.snd.snd.fst + (1 : Int)) ∧
 ((↑x.fst.length : Int) - (g.snd.snd.fst + (1 : Int))).toNat < ((↑x.fst.length : Int) - g.snd.snd.fst).toNat) ∧
 ((True ∧ True) ∧
 (True ∧ True) ∧
 True ∧
 x.fst = x.fst ∧
 (↑x.fst.length : Int) = (↑x.fst.length : Int) ∧ g.snd.snd.fst + (1 : Int) = g.snd.snd.fst + (1 : Int) ∧ True) ∧
 ((g.fst.fst = g.fst.fst ∧
 g.fst.snd.fst = g.fst.snd.fst ∧
 g.fst.snd.snd.fst = g.fst.snd.snd.fst ∧ g.fst.snd.snd.snd = g.fst.snd.snd.snd ∧ True) ∧
 g.snd.fst = g.snd.fst ∧
 ((0 : Int) = (0 : Int) ∧
 (0 : Int) = (0 : Int) ∧
 (0 : Int) ::
 (0 : Int) ::
 (0 : Int) :: (0 : Int) :: (0 : Int) :: (0 : Int) :: (0 : Int) :: (0 : Int) :: ([] : List Int) =
 (0 : Int) ::
 (0 : Int) ::
 (0 : Int) :: (0 : Int) :: (0 : Int) :: (0 : Int) :: (0 : Int) :: (0 : Int) :: ([] : List Int) ∧
 false :: false :: false :: false :: false :: false :: false :: false :: ([] : List Bool) =
 false :: false :: false :: false :: false :: false :: false :: false :: ([] : List Bool) ∧
 True) ∧
 True) ∧
 True)) ∧
 (decide (g.snd.snd.fst < (↑x.fst.length : Int)) = false →
 g.snd.fst = (pl x.fst).snd ∧ (g.fst.fst, g.fst.snd.fst, g.fst.snd.snd.fst, g.fst.snd.snd.snd) = (pl x.fst).fst)

theorem E_fplay_eq (x : HL (cPlay : Ctr).as) : vc (fx_fplay x) 1 43 Try.f43 (cPlay) x = E_fplay x := by kernel_rfl

def E_plays (x : List (Int × Int) × Unit) : Prop :=
 Holds (x.fst.length * (16 : Nat) ≤ (140737488355328 : Nat)) ∧
 Holds (x.fst.length * (16 : Nat) ≤ (140737488355328 : Nat)) ∧
 Holds (([] : List (Int × Int)).length * (16 : Nat) ≤ (140737488355328 : Nat)) ∧
 Holds True ∧
 (decide ((pl x.fst).snd = (pl x.fst).snd) = true →
 (deq ((Ty.int IntKind.i64).pair ((Ty.int IntKind.i64).pair ((Ty.arr (8 : Nat) (Ty.int IntKind.i64)).pair (Ty.arr (8 : Nat) Ty.bool))))
 ((pl x.fst).fst.fst, (pl x.fst).fst.snd.fst, (pl x.fst).fst.snd.snd.fst, (pl x.fst).fst.snd.snd.snd)
 ((pl x.fst).fst.fst, (pl x.fst).fst.snd.fst, (pl x.fst).fst.snd.snd.fst, (pl x.fst).fst.snd.snd.snd) =
 true →
 Holds True ∧
 deq
 ((Ty.int IntKind.i64).pair
 ((Ty.int IntKind.i64).pair ((Ty.arr (8 : Nat) (Ty.int IntKind.i64)).pair (Ty.arr (8 : Nat) Ty.bool))))
 (new.fst, new.snd.fst, new.snd.snd.fst, new.snd.snd.snd)
 ((pl ([] : List (Int × Int))).fst.fst, (pl ([] : List (Int × Int))).fst.snd.fst, (pl ([] : List (Int × Int))).fst.snd.snd.fst,
 (pl ([] : List (Int × Int))).fst.snd.snd.snd) =
 true) ∧
 (deq ((Ty.int IntKind.i64).pair ((Ty.int IntKind.i64).pair ((Ty.arr (8 : Nat) (Ty.int IntKind.i64)).pair (Ty.arr (8 : Nat) Ty.bool))))
 ((pl x.fst).fst.fst, (pl x.fst).fst.snd.fst, (pl x.fst).fst.snd.snd.fst, (pl x.fst).fst.snd.snd.snd)
 ((pl x.fst).fst.fst, (pl x.fst).fst.snd.fst, (pl x.fst).fst.snd.snd.fst, (pl x.fst).fst.snd.snd.snd) =
 !true →
 false = true)) ∧
 (decide ((pl x.fst).snd = (pl x.fst).snd) = !true → false = true)

theorem E_plays_eq (x : HL (cLawP : Ctr).as) : vc (fx_plays x) 1 11 Try.f11 (cLawP) x = E_plays x := by kernel_rfl

end Go.Proofs.Ytmcepjbbbkgfcaa.Ticketp
