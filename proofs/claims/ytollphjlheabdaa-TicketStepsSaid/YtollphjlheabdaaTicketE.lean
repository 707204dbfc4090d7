/-
  The conditions that the executor comes to, written out (by a tool of ours), and that they are the conditions (by the kernel).
-/
import Derived.Test.YtollphjlheabdaaTicketC
namespace Go.Proofs.Ytollphjlheabdaa.Ticket
open Go.Sx
set_option maxRecDepth 100000
set_option maxHeartbeats 4000000

def E_right (x : (Int × Int × List Int × List Bool) × Unit) : Prop :=
 ((!decide (x.fst.snd.fst < (0 : Int))) = true → (!decide (x.fst.snd.fst < (0 : Int))) = true) ∧
 ((!decide (x.fst.snd.fst < (0 : Int))) = true → (!decide (x.fst.snd.fst < (0 : Int))) = true) ∧
 ((!decide (x.fst.snd.fst < (0 : Int))) = true → (!decide (x.fst.snd.fst < (0 : Int))) = true ∧ (!decide (x.fst.snd.fst < (0 : Int))) = true) ∧
 (decide (x.fst.snd.fst < (0 : Int)) = false → (!decide (x.fst.snd.fst < (0 : Int))) = true) ∧
 ((!(decide (x.fst.snd.fst < (0 : Int)) || decide (x.fst.fst < x.fst.snd.fst))) = true →
 (!(decide (x.fst.snd.fst < (0 : Int)) || decide (x.fst.fst < x.fst.snd.fst))) = true) ∧
 ((!(decide (x.fst.snd.fst < (0 : Int)) || decide (x.fst.fst < x.fst.snd.fst))) = true →
 (!(decide (x.fst.snd.fst < (0 : Int)) || decide (x.fst.fst < x.fst.snd.fst))) = true) ∧
 ((!(decide (x.fst.snd.fst < (0 : Int)) || decide (x.fst.fst < x.fst.snd.fst))) = true →
 ((!(decide (x.fst.snd.fst < (0 : Int)) || decide (x.fst.fst < x.fst.snd.fst))) = true ∧
 (!(decide (x.fst.snd.fst < (0 : Int)) || decide (x.fst.fst < x.fst.snd.fst))) = true) ∧
 (-9223372036854775808 : Int) ≤ x.fst.fst - x.fst.snd.fst ∧ x.fst.fst - x.fst.snd.fst ≤ (9223372036854775807 : Int)) ∧
 ((!(decide (x.fst.snd.fst < (0 : Int)) || decide (x.fst.fst < x.fst.snd.fst))) = true →
 (!(decide (x.fst.snd.fst < (0 : Int)) || decide (x.fst.fst < x.fst.snd.fst))) = true) ∧
 ((decide (x.fst.snd.fst < (0 : Int)) || decide (x.fst.fst < x.fst.snd.fst)) = false →
 (!(decide (x.fst.snd.fst < (0 : Int)) || decide (x.fst.fst < x.fst.snd.fst))) = true) ∧
 ((!(decide (x.fst.snd.fst < (0 : Int)) || decide (x.fst.fst < x.fst.snd.fst) || decide ((8 : Int) < x.fst.fst - x.fst.snd.fst))) =
 true →
 (!(decide (x.fst.snd.fst < (0 : Int)) || decide (x.fst.fst < x.fst.snd.fst) ||
 decide ((8 : Int) < x.fst.fst - x.fst.snd.fst))) =
 true) ∧
 ((!(decide (x.fst.snd.fst < (0 : Int)) || decide (x.fst.fst < x.fst.snd.fst) || decide ((8 : Int) < x.fst.fst - x.fst.snd.fst))) =
 true →
 (!(decide (x.fst.snd.fst < (0 : Int)) || decide (x.fst.fst < x.fst.snd.fst) ||
 decide ((8 : Int) < x.fst.fst - x.fst.snd.fst))) =
 true) ∧
 ((decide (x.fst.snd.fst < (0 : Int)) || decide (x.fst.fst < x.fst.snd.fst) || decide ((8 : Int) < x.fst.fst - x.fst.snd.fst)) =
 false →
 (!(decide (x.fst.snd.fst < (0 : Int)) || decide (x.fst.fst < x.fst.snd.fst) ||
 decide ((8 : Int) < x.fst.fst - x.fst.snd.fst))) =
 true) ∧
 ((decide (x.fst.snd.fst < (0 : Int)) || decide (x.fst.fst < x.fst.snd.fst) ||
 decide ((8 : Int) < x.fst.fst - x.fst.snd.fst) ||
 decide ((1099511627776 : Int) < x.fst.fst)) =
 true →
 false = right x.fst) ∧
 ((decide (x.fst.snd.fst < (0 : Int)) || decide (x.fst.fst < x.fst.snd.fst) ||
 decide ((8 : Int) < x.fst.fst - x.fst.snd.fst) ||
 decide ((1099511627776 : Int) < x.fst.fst)) =
 false →
 ((-9223372036854775808 : Int) ≤ x.fst.fst - x.fst.snd.fst ∧ x.fst.fst - x.fst.snd.fst ≤ (9223372036854775807 : Int)) ∧
 (((0 : Int) ≤ x.fst.fst - x.fst.snd.fst ∧ x.fst.fst - x.fst.snd.fst ≤ x.fst.fst - x.fst.snd.fst) ∧
 (x.fst.fst - x.fst.snd.fst) * (↑(1 : Nat) : Int) ≤ (140737488355328 : Int) ∧
 x.fst.fst - x.fst.snd.fst ≤ (9223372036854775807 : Int)) ∧
 ((((0 : Int) ≤ (0 : Int) ∧
 (0 : Int) ≤ (8 : Int) ∧
 (↑(List.replicate (x.fst.fst - x.fst.snd.fst).toNat false).length : Int) = x.fst.fst - x.fst.snd.fst ∧
 okTo x.fst (0 : Int) ∧
 oneTo x.fst (0 : Int) ∧
 ∀ (j : Int),
 (0 : Int) ≤ j →
 j < x.fst.fst - x.fst.snd.fst →
 ((List.replicate (x.fst.fst - x.fst.snd.fst).toNat false).getD j.toNat false = true ↔
 someTo x.fst (x.fst.snd.fst + j) (0 : Int))) ∧
 True) ∧
 ((True ∧ True) ∧ True ∧ (x.fst.snd.snd.fst = x.fst.snd.snd.fst ∧ True) ∧ (0 : Int) = (0 : Int) ∧ True) ∧
 (List.replicate (x.fst.fst - x.fst.snd.fst).toNat false =
 List.replicate (x.fst.fst - x.fst.snd.fst).toNat false ∧
 (x.fst.fst = x.fst.fst ∧
 x.fst.snd.fst = x.fst.snd.fst ∧
 x.fst.snd.snd.fst = x.fst.snd.snd.fst ∧ x.fst.snd.snd.snd = x.fst.snd.snd.snd ∧ True) ∧
 True) ∧
 True) ∧
 ∀ (g : List Bool × Int × Unit),
 ((0 : Int) ≤ g.snd.fst ∧
 g.snd.fst ≤ (8 : Int) ∧
 (↑g.fst.length : Int) = x.fst.fst - x.fst.snd.fst ∧
 okTo x.fst g.snd.fst ∧
 oneTo x.fst g.snd.fst ∧
 ∀ (j : Int),
 (0 : Int) ≤ j →
 j < x.fst.fst - x.fst.snd.fst →
 (g.fst.getD j.toNat false = true ↔ someTo x.fst (x.fst.snd.fst + j) g.snd.fst)) →
 (g.fst.length ≤ (9223372036854775807 : Nat) ∧ ∀ (x : Bool), x ∈ g.fst → True) ∧
 ((-9223372036854775808 : Int) ≤ g.snd.fst ∧ g.snd.fst ≤ (9223372036854775807 : Int)) ∧ True →
 (decide (g.snd.fst < (8 : Int)) = true →
 ((0 : Int) ≤ g.snd.fst ∧ g.snd.fst < (↑(8 : Nat) : Int)) ∧
 ((x.fst.snd.snd.fst.getD g.snd.fst.toNat (0 : Int) == (-1 : Int)) = true →
 ((0 : Int) ≤ g.snd.fst ∧ g.snd.fst < (↑(8 : Nat) : Int)) ∧
 (x.fst.snd.snd.snd.getD g.snd.fst.toNat false = true → false = right x.fst) ∧
 (x.fst.snd.snd.snd.getD g.snd.fst.toNat false = false →
 ((-9223372036854775808 : Int) ≤ g.snd.fst + (1 : Int) ∧
 g.snd.fst + (1 : Int) ≤ (9223372036854775807 : Int)) ∧
 (((0 : Int) ≤ g.snd.fst + (1 : Int) ∧
 g.snd.fst + (1 : Int) ≤ (8 : Int) ∧
 (↑g.fst.length : Int) = x.fst.fst - x.fst.snd.fst ∧
 okTo x.fst (g.snd.fst + (1 : Int)) ∧
 oneTo x.fst (g.snd.fst + (1 : Int)) ∧
 ∀ (j : Int),
 (0 : Int) ≤ j →
 j < x.fst.fst - x.fst.snd.fst →
 (g.fst.getD j.toNat false = true ↔
 someTo x.fst (x.fst.snd.fst + j) (g.snd.fst + (1 : Int)))) ∧
 ((8 : Int) - (g.snd.fst + (1 : Int))).toNat < ((8 : Int) - g.snd.fst).toNat) ∧
 ((True ∧ True) ∧
 True ∧
 (x.fst.snd.snd.fst = x.fst.snd.snd.fst ∧ True) ∧
 g.snd.fst + (1 : Int) = g.snd.fst + (1 : Int) ∧ True) ∧
 (g.fst = g.fst ∧
 (x.fst.fst = x.fst.fst ∧
 x.fst.snd.fst = x.fst.snd.fst ∧
 x.fst.snd.snd.fst = x.fst.snd.snd.fst ∧
 x.fst.snd.snd.snd = x.fst.snd.snd.snd ∧ True) ∧
 True) ∧
 True)) ∧
 ((x.fst.snd.snd.fst.getD g.snd.fst.toNat (0 : Int) == (-1 : Int)) = false →
 ((!decide (x.fst.snd.snd.fst.getD g.snd.fst.toNat (0 : Int) < x.fst.snd.fst)) = true →
 (!decide (x.fst.snd.snd.fst.getD g.snd.fst.toNat (0 : Int) < x.fst.snd.fst)) = true) ∧
 ((!decide (x.fst.snd.snd.fst.getD g.snd.fst.toNat (0 : Int) < x.fst.snd.fst)) = true →
 (!decide (x.fst.snd.snd.fst.getD g.snd.fst.toNat (0 : Int) < x.fst.snd.fst)) = true ∧
 (!decide (x.fst.snd.snd.fst.getD g.snd.fst.toNat (0 : Int) < x.fst.snd.fst)) = true) ∧
 (decide (x.fst.snd.snd.fst.getD g.snd.fst.toNat (0 : Int) < x.fst.snd.fst) = false →
 (!decide (x.fst.snd.snd.fst.getD g.snd.fst.toNat (0 : Int) < x.fst.snd.fst)) = true) ∧
 ((!(decide (x.fst.snd.snd.fst.getD g.snd.fst.toNat (0 : Int) < x.fst.snd.fst) ||
 decide (x.fst.fst ≤ x.fst.snd.snd.fst.getD g.snd.fst.toNat (0 : Int)))) =
 true →
 (!(decide (x.fst.snd.snd.fst.getD g.snd.fst.toNat (0 : Int) < x.fst.snd.fst) ||
 decide (x.fst.fst ≤ x.fst.snd.snd.fst.getD g.snd.fst.toNat (0 : Int)))) =
 true) ∧
 ((!(decide (x.fst.snd.snd.fst.getD g.snd.fst.toNat (0 : Int) < x.fst.snd.fst) ||
 decide (x.fst.fst ≤ x.fst.snd.snd.fst.getD g.snd.fst.toNat (0 : Int)))) =
 true →
 ((!(decide (x.fst.snd.snd.fst.getD g.snd.fst.toNat (0 : Int) < x.fst.snd.fst) ||
 decide (x.fst.fst ≤ x.fst.snd.snd.fst.getD g.snd.fst.toNat (0 : Int)))) =
 true ∧
 (!(decide (x.fst.snd.snd.fst.getD g.snd.fst.toNat (0 : Int) < x.fst.snd.fst) ||
 decide (x.fst.fst ≤ x.fst.snd.snd.fst.getD g.snd.fst.toNat (0 : Int)))) =
 true) ∧
 (-9223372036854775808 : Int) ≤
 x.fst.snd.snd.fst.getD g.snd.fst.toNat (0 : Int) - x.fst.snd.fst ∧
 x.fst.snd.snd.fst.getD g.snd.fst.toNat (0 : Int) - x.fst.snd.fst ≤
 (9223372036854775807 : Int)) ∧
 ((!(decide (x.fst.snd.snd.fst.getD g.snd.fst.toNat (0 : Int) < x.fst.snd.fst) ||
 decide (x.fst.fst ≤ x.fst.snd.snd.fst.getD g.snd.fst.toNat (0 : Int)))) =
 true →
 ((!(decide (x.fst.snd.snd.fst.getD g.snd.fst.toNat (0 : Int) < x.fst.snd.fst) ||
 decide (x.fst.fst ≤ x.fst.snd.snd.fst.getD g.snd.fst.toNat (0 : Int)))) =
 true ∧
 (!(decide (x.fst.snd.snd.fst.getD g.snd.fst.toNat (0 : Int) < x.fst.snd.fst) ||
 decide (x.fst.fst ≤ x.fst.snd.snd.fst.getD g.snd.fst.toNat (0 : Int)))) =
 true) ∧
 (0 : Int) ≤ x.fst.snd.snd.fst.getD g.snd.fst.toNat (0 : Int) - x.fst.snd.fst ∧
 x.fst.snd.snd.fst.getD g.snd.fst.toNat (0 : Int) - x.fst.snd.fst <
 (↑g.fst.length : Int)) ∧
 ((!(decide (x.fst.snd.snd.fst.getD g.snd.fst.toNat (0 : Int) < x.fst.snd.fst) ||
 decide (x.fst.fst ≤ x.fst.snd.snd.fst.getD g.snd.fst.toNat (0 : Int)))) =
 true →
 (!(decide (x.fst.snd.snd.fst.getD g.snd.fst.toNat (0 : Int) < x.fst.snd.fst) ||
 decide (x.fst.fst ≤ x.fst.snd.snd.fst.getD g.snd.fst.toNat (0 : Int)))) =
 true) ∧
 ((decide (x.fst.snd.snd.fst.getD g.snd.fst.toNat (0 : Int) < x.fst.snd.fst) ||
 decide (x.fst.fst ≤ x.fst.snd.snd.fst.getD g.snd.fst.toNat (0 : Int))) =
 false →
 (!(decide (x.fst.snd.snd.fst.getD g.snd.fst.toNat (0 : Int) < x.fst.snd.fst) ||
 decide (x.fst.fst ≤ x.fst.snd.snd.fst.getD g.snd.fst.toNat (0 : Int)))) =
 true) ∧
 ((!(decide (x.fst.snd.snd.fst.getD g.snd.fst.toNat (0 : Int) < x.fst.snd.fst) ||
 decide (x.fst.fst ≤ x.fst.snd.snd.fst.getD g.snd.fst.toNat (0 : Int)) ||
 g.fst.getD
 (x.fst.snd.snd.fst.getD g.snd.fst.toNat (0 : Int) - x.fst.snd.fst).toNat
 false)) =
 true →
 ((!(decide (x.fst.snd.snd.fst.getD g.snd.fst.toNat (0 : Int) < x.fst.snd.fst) ||
 decide
 (x.fst.fst ≤ x.fst.snd.snd.fst.getD g.snd.fst.toNat (0 : Int)) ||
 g.fst.getD
 (x.fst.snd.snd.fst.getD g.snd.fst.toNat (0 : Int) -
 x.fst.snd.fst).toNat
 false)) =
 true ∧
 (!(decide
 (x.fst.snd.snd.fst.getD g.snd.fst.toNat (0 : Int) <
 x.fst.snd.fst) ||
 decide
 (x.fst.fst ≤ x.fst.snd.snd.fst.getD g.snd.fst.toNat (0 : Int)) ||
 g.fst.getD
 (x.fst.snd.snd.fst.getD g.snd.fst.toNat (0 : Int) -
 x.fst.snd.fst).toNat
 false)) =
 true) ∧
 (0 : Int) ≤ g.snd.fst ∧ g.snd.fst < (↑(8 : Nat) : Int)) ∧
 ((!(decide (x.fst.snd.snd.fst.getD g.snd.fst.toNat (0 : Int) < x.fst.snd.fst) ||
 decide
 (x.fst.fst ≤ x.fst.snd.snd.fst.getD g.snd.fst.toNat (0 : Int)) ||
 g.fst.getD
 (x.fst.snd.snd.fst.getD g.snd.fst.toNat (0 : Int) -
 x.fst.snd.fst).toNat
 false)) =
 true →
 (!(decide
 (x.fst.snd.snd.fst.getD g.snd.fst.toNat (0 : Int) <
 x.fst.snd.fst) ||
 decide
 (x.fst.fst ≤ x.fst.snd.snd.fst.getD g.snd.fst.toNat (0 : Int)) ||
 g.fst.getD
 (x.fst.snd.snd.fst.getD g.snd.fst.toNat (0 : Int) -
 x.fst.snd.fst).toNat
 false)) =
 true) ∧
 ((!(decide (x.fst.snd.snd.fst.getD g.snd.fst.toNat (0 : Int) < x.fst.snd.fst) ||
 decide
 (x.fst.fst ≤ x.fst.snd.snd.fst.getD g.snd.fst.toNat (0 : Int)) ||
 g.fst.getD
 (x.fst.snd.snd.fst.getD g.snd.fst.toNat (0 : Int) -
 x.fst.snd.fst).toNat
 false)) =
 true →
 (!(decide
 (x.fst.snd.snd.fst.getD g.snd.fst.toNat (0 : Int) <
 x.fst.snd.fst) ||
 decide
 (x.fst.fst ≤ x.fst.snd.snd.fst.getD g.snd.fst.toNat (0 : Int)) ||
 g.fst.getD
 (x.fst.snd.snd.fst.getD g.snd.fst.toNat (0 : Int) -
 x.fst.snd.fst).toNat
 false)) =
 true) ∧
 ((!(decide
 (x.fst.snd.snd.fst.getD g.snd.fst.toNat (0 : Int) <
 x.fst.snd.fst) ||
 decide
 (x.fst.fst ≤
 x.fst.snd.snd.fst.getD g.snd.fst.toNat (0 : Int)) ||
 g.fst.getD
 (x.fst.snd.snd.fst.getD g.snd.fst.toNat (0 : Int) -
 x.fst.snd.fst).toNat
 false) &&
 x.fst.snd.snd.snd.getD g.snd.fst.toNat false) =
 true →
 (!(decide
 (x.fst.snd.snd.fst.getD g.snd.fst.toNat (0 : Int) <
 x.fst.snd.fst) ||
 decide
 (x.fst.fst ≤
 x.fst.snd.snd.fst.getD g.snd.fst.toNat (0 : Int)) ||
 g.fst.getD
 (x.fst.snd.snd.fst.getD g.snd.fst.toNat (0 : Int) -
 x.fst.snd.fst).toNat
 false) &&
 x.fst.snd.snd.snd.getD g.snd.fst.toNat false) =
 true) ∧
 ((!(decide
 (x.fst.snd.snd.fst.getD g.snd.fst.toNat (0 : Int) <
 x.fst.snd.fst) ||
 decide
 (x.fst.fst ≤
 x.fst.snd.snd.fst.getD g.snd.fst.toNat (0 : Int)) ||
 g.fst.getD
 (x.fst.snd.snd.fst.getD g.snd.fst.toNat (0 : Int) -
 x.fst.snd.fst).toNat
 false) &&
 x.fst.snd.snd.snd.getD g.snd.fst.toNat false) =
 true →
 (!(decide
 (x.fst.snd.snd.fst.getD g.snd.fst.toNat (0 : Int) <
 x.fst.snd.fst) ||
 decide
 (x.fst.fst ≤
 x.fst.snd.snd.fst.getD g.snd.fst.toNat (0 : Int)) ||
 g.fst.getD
 (x.fst.snd.snd.fst.getD g.snd.fst.toNat (0 : Int) -
 x.fst.snd.fst).toNat
 false) &&
 x.fst.snd.snd.snd.getD g.snd.fst.toNat false) =
 true ∧
 (!(decide
 (x.fst.snd.snd.fst.getD g.snd.fst.toNat (0 : Int) <
 x.fst.snd.fst) ||
 decide
 (x.fst.fst ≤
 x.fst.snd.snd.fst.getD g.snd.fst.toNat (0 : Int)) ||
 g.fst.getD
 (x.fst.snd.snd.fst.getD g.snd.fst.toNat (0 : Int) -
 x.fst.snd.fst).toNat
 false) &&
 x.fst.snd.snd.snd.getD g.snd.fst.toNat false) =
 true) ∧
 ((!(decide
 (x.fst.snd.snd.fst.getD g.snd.fst.toNat (0 : Int) <
 x.fst.snd.fst) ||
 decide
 (x.fst.fst ≤
 x.fst.snd.snd.fst.getD g.snd.fst.toNat (0 : Int)) ||
 g.fst.getD
 (x.fst.snd.snd.fst.getD g.snd.fst.toNat (0 : Int) -
 x.fst.snd.fst).toNat
 false)) =
 true →
 (!(decide
 (x.fst.snd.snd.fst.getD g.snd.fst.toNat (0 : Int) <
 x.fst.snd.fst) ||
 decide
 (x.fst.fst ≤
 x.fst.snd.snd.fst.getD g.snd.fst.toNat (0 : Int)) ||
 g.fst.getD
 (x.fst.snd.snd.fst.getD g.snd.fst.toNat (0 : Int) -
 x.fst.snd.fst).toNat
 false)) =
 true ∧
 (x.fst.snd.snd.snd.getD g.snd.fst.toNat false = true →
 (!(decide
 (x.fst.snd.snd.fst.getD g.snd.fst.toNat (0 : Int) <
 x.fst.snd.fst) ||
 decide
 (x.fst.fst ≤
 x.fst.snd.snd.fst.getD g.snd.fst.toNat (0 : Int)) ||
 g.fst.getD
 (x.fst.snd.snd.fst.getD g.snd.fst.toNat (0 : Int) -
 x.fst.snd.fst).toNat
 false) &&
 x.fst.snd.snd.snd.getD g.snd.fst.toNat false) =
 true)) ∧
 ((decide
 (x.fst.snd.snd.fst.getD g.snd.fst.toNat (0 : Int) <
 x.fst.snd.fst) ||
 decide
 (x.fst.fst ≤
 x.fst.snd.snd.fst.getD g.snd.fst.toNat (0 : Int)) ||
 g.fst.getD
 (x.fst.snd.snd.fst.getD g.snd.fst.toNat (0 : Int) -
 x.fst.snd.fst).toNat
 false) =
 false →
 (!(decide
 (x.fst.snd.snd.fst.getD g.snd.fst.toNat (0 : Int) <
 x.fst.snd.fst) ||
 decide
 (x.fst.fst ≤
 x.fst.snd.snd.fst.getD g.snd.fst.toNat (0 : Int)) ||
 g.fst.getD
 (x.fst.snd.snd.fst.getD g.snd.fst.toNat (0 : Int) -
 x.fst.snd.fst).toNat
 false)) =
 true) ∧
 ((decide
 (x.fst.snd.snd.fst.getD g.snd.fst.toNat (0 : Int) <
 x.fst.snd.fst) ||
 decide
 (x.fst.fst ≤
 x.fst.snd.snd.fst.getD g.snd.fst.toNat (0 : Int)) ||
 g.fst.getD
 (x.fst.snd.snd.fst.getD g.snd.fst.toNat (0 : Int) -
 x.fst.snd.fst).toNat
 false ||
 x.fst.snd.snd.snd.getD g.snd.fst.toNat false &&
 x.fst.snd.snd.fst.getD g.snd.fst.toNat (0 : Int) !=
 x.fst.snd.fst) =
 true →
 false = right x.fst) ∧
 ((decide
 (x.fst.snd.snd.fst.getD g.snd.fst.toNat (0 : Int) <
 x.fst.snd.fst) ||
 decide
 (x.fst.fst ≤
 x.fst.snd.snd.fst.getD g.snd.fst.toNat (0 : Int)) ||
 g.fst.getD
 (x.fst.snd.snd.fst.getD g.snd.fst.toNat (0 : Int) -
 x.fst.snd.fst).toNat
 false ||
 x.fst.snd.snd.snd.getD g.snd.fst.toNat false &&
 x.fst.snd.snd.fst.getD g.snd.fst.toNat (0 : Int) !=
 x.fst.snd.fst) =
 false →
 ((-9223372036854775808 : Int) ≤
 x.fst.snd.snd.fst.getD g.snd.fst.toNat (0 : Int) -
 x.fst.snd.fst ∧
 x.fst.snd.snd.fst.getD g.snd.fst.toNat (0 : Int) -
 x.fst.snd.fst ≤
 (9223372036854775807 : Int)) ∧
 ((0 : Int) ≤
 x.fst.snd.snd.fst.getD g.snd.fst.toNat (0 : Int) -
 x.fst.snd.fst ∧
 x.fst.snd.snd.fst.getD g.snd.fst.toNat (0 : Int) -
 x.fst.snd.fst <
 (↑g.fst.length : Int)) ∧
 ((-9223372036854775808 : Int) ≤ g.snd.fst + (1 : Int) ∧
 g.snd.fst + (1 : Int) ≤ (9223372036854775807 : Int)) ∧
 (((0 : Int) ≤ g.snd.fst + (1 : Int) ∧
 g.snd.fst + (1 : Int) ≤ (8 : Int) ∧
 (↑(g.fst.set
 (x.fst.snd.snd.fst.getD g.snd.fst.toNat
 (0 : Int) -
 x.fst.snd.fst).toNat
 true).length :
 Int) =
 x.fst.fst - x.fst.snd.fst ∧
 okTo x.fst (g.snd.fst + (1 : Int)) ∧
 oneTo x.fst (g.snd.fst + (1 : Int)) ∧
 ∀ (j : Int),
 (0 : Int) ≤ j →
 j < x.fst.fst - x.fst.snd.fst →
 ((g.fst.set
 (x.fst.snd.snd.fst.getD
 g.snd.fst.toNat
 (0 : Int) -
 x.fst.snd.fst).toNat
 true).getD
 j.toNat false =
 true ↔
 someTo x.fst (x.fst.snd.fst + j)
 (g.snd.fst + (1 : Int)))) ∧
 ((8 : Int) - (g.snd.fst + (1 : Int))).toNat <
 ((8 : Int) - g.snd.fst).toNat) ∧
 ((True ∧ True) ∧
 True ∧
 (x.fst.snd.snd.fst = x.fst.snd.snd.fst ∧ True) ∧
 g.snd.fst + (1 : Int) = g.snd.fst + (1 : Int) ∧
 True) ∧
 (g.fst.set
 (x.fst.snd.snd.fst.getD g.snd.fst.toNat
 (0 : Int) -
 x.fst.snd.fst).toNat
 true =
 g.fst.set
 (x.fst.snd.snd.fst.getD g.snd.fst.toNat
 (0 : Int) -
 x.fst.snd.fst).toNat
 true ∧
 (x.fst.fst = x.fst.fst ∧
 x.fst.snd.fst = x.fst.snd.fst ∧
 x.fst.snd.snd.fst = x.fst.snd.snd.fst ∧
 x.fst.snd.snd.snd = x.fst.snd.snd.snd ∧
 True) ∧
 True) ∧
 True))) ∧
 (decide (g.snd.fst < (8 : Int)) = false →
 ((((0 : Int) ≤ (0 : Int) ∧
 (0 : Int) ≤ x.fst.fst - x.fst.snd.fst ∧
 ∀ (t : Int), x.fst.snd.fst ≤ t → t < x.fst.snd.fst + (0 : Int) → someTo x.fst t (8 : Int)) ∧
 True) ∧
 (True ∧ (↑g.fst.length : Int) = (↑g.fst.length : Int) ∧ (0 : Int) = (0 : Int) ∧ True) ∧
 (g.fst = g.fst ∧ True) ∧ True) ∧
 ∀ (g_1 : Int × Unit),
 ((0 : Int) ≤ g_1.fst ∧
 g_1.fst ≤ x.fst.fst - x.fst.snd.fst ∧
 ∀ (t : Int), x.fst.snd.fst ≤ t → t < x.fst.snd.fst + g_1.fst → someTo x.fst t (8 : Int)) →
 ((-9223372036854775808 : Int) ≤ g_1.fst ∧ g_1.fst ≤ (9223372036854775807 : Int)) ∧ True →
 (decide (g_1.fst < (↑g.fst.length : Int)) = true →
 ((0 : Int) ≤ g_1.fst ∧ g_1.fst < (↑g.fst.length : Int)) ∧
 ((!g.fst.getD g_1.fst.toNat false) = true → false = right x.fst) ∧
 ((!g.fst.getD g_1.fst.toNat false) = false →
 ((-9223372036854775808 : Int) ≤ g_1.fst + (1 : Int) ∧
 g_1.fst + (1 : Int) ≤ (9223372036854775807 : Int)) ∧
 (((0 : Int) ≤ g_1.fst + (1 : Int) ∧
 g_1.fst + (1 : Int) ≤ x.fst.fst - x.fst.snd.fst ∧
 ∀ (t : Int),
 x.fst.snd.fst ≤ t →
 t < x.fst.snd.fst + (g_1.fst + (1 : Int)) → someTo x.fst t (8 : Int)) ∧
 (x.fst.fst - x.fst.snd.fst - (g_1.fst + (1 : Int))).toNat <
 (x.fst.fst - x.fst.snd.fst - g_1.fst).toNat) ∧
 (True ∧
 (↑g.fst.length : Int) = (↑g.fst.length : Int) ∧
 g_1.fst + (1 : Int) = g_1.fst + (1 : Int) ∧ True) ∧
 (g.fst = g.fst ∧ True) ∧ True)) ∧
 (decide (g_1.fst < (↑g.fst.length : Int)) = false → true = right x.fst)))

theorem E_right_eq (x : HL (cRight : Ctr).as) : vc (fx_right x) 1 38 Try.f38 (cRight) x = E_right x := by kernel_rfl

def E_fq (x : (Int × Int × List Int × List Bool) × Unit) : Prop :=
 ((!decide (x.fst.snd.fst < (0 : Int))) = true → (!decide (x.fst.snd.fst < (0 : Int))) = true) ∧
 ((!decide (x.fst.snd.fst < (0 : Int))) = true → (!decide (x.fst.snd.fst < (0 : Int))) = true) ∧
 ((!decide (x.fst.snd.fst < (0 : Int))) = true → (!decide (x.fst.snd.fst < (0 : Int))) = true ∧ (!decide (x.fst.snd.fst < (0 : Int))) = true) ∧
 (decide (x.fst.snd.fst < (0 : Int)) = false → (!decide (x.fst.snd.fst < (0 : Int))) = true) ∧
 ((!(decide (x.fst.snd.fst < (0 : Int)) || decide (x.fst.fst < x.fst.snd.fst))) = true →
 (!(decide (x.fst.snd.fst < (0 : Int)) || decide (x.fst.fst < x.fst.snd.fst))) = true) ∧
 ((!(decide (x.fst.snd.fst < (0 : Int)) || decide (x.fst.fst < x.fst.snd.fst))) = true →
 (!(decide (x.fst.snd.fst < (0 : Int)) || decide (x.fst.fst < x.fst.snd.fst))) = true) ∧
 ((decide (x.fst.snd.fst < (0 : Int)) || decide (x.fst.fst < x.fst.snd.fst)) = false →
 (!(decide (x.fst.snd.fst < (0 : Int)) || decide (x.fst.fst < x.fst.snd.fst))) = true) ∧
 ((!(decide (x.fst.snd.fst < (0 : Int)) || decide (x.fst.fst < x.fst.snd.fst) || decide ((1099511627776 : Int) < x.fst.fst))) = true →
 (!(decide (x.fst.snd.fst < (0 : Int)) || decide (x.fst.fst < x.fst.snd.fst) || decide ((1099511627776 : Int) < x.fst.fst))) =
 true) ∧
 ((!(decide (x.fst.snd.fst < (0 : Int)) || decide (x.fst.fst < x.fst.snd.fst) || decide ((1099511627776 : Int) < x.fst.fst))) = true →
 (!(decide (x.fst.snd.fst < (0 : Int)) || decide (x.fst.fst < x.fst.snd.fst) || decide ((1099511627776 : Int) < x.fst.fst))) =
 true) ∧
 ((!(decide (x.fst.snd.fst < (0 : Int)) || decide (x.fst.fst < x.fst.snd.fst) || decide ((1099511627776 : Int) < x.fst.fst))) =
 true →
 ((!(decide (x.fst.snd.fst < (0 : Int)) || decide (x.fst.fst < x.fst.snd.fst) || decide ((1099511627776 : Int) < x.fst.fst))) =
 true ∧
 (!(decide (x.fst.snd.fst < (0 : Int)) || decide (x.fst.fst < x.fst.snd.fst) ||
 decide ((1099511627776 : Int) < x.fst.fst))) =
 true) ∧
 (-9223372036854775808 : Int) ≤ x.fst.fst - x.fst.snd.fst ∧ x.fst.fst - x.fst.snd.fst ≤ (9223372036854775807 : Int)) ∧
 ((!(decide (x.fst.snd.fst < (0 : Int)) || decide (x.fst.fst < x.fst.snd.fst) || decide ((1099511627776 : Int) < x.fst.fst))) =
 true →
 (!(decide (x.fst.snd.fst < (0 : Int)) || decide (x.fst.fst < x.fst.snd.fst) || decide ((1099511627776 : Int) < x.fst.fst))) =
 true) ∧
 ((decide (x.fst.snd.fst < (0 : Int)) || decide (x.fst.fst < x.fst.snd.fst) || decide ((1099511627776 : Int) < x.fst.fst)) =
 false →
 (!(decide (x.fst.snd.fst < (0 : Int)) || decide (x.fst.fst < x.fst.snd.fst) ||
 decide ((1099511627776 : Int) < x.fst.fst))) =
 true) ∧
 ((decide (x.fst.snd.fst < (0 : Int)) || decide (x.fst.fst < x.fst.snd.fst) || decide ((1099511627776 : Int) < x.fst.fst) ||
 decide ((8 : Int) < x.fst.fst - x.fst.snd.fst)) =
 true →
 ([] : List Int) = (fq x.fst).fst ∧ false = (fq x.fst).snd) ∧
 ((decide (x.fst.snd.fst < (0 : Int)) || decide (x.fst.fst < x.fst.snd.fst) || decide ((1099511627776 : Int) < x.fst.fst) ||
 decide ((8 : Int) < x.fst.fst - x.fst.snd.fst)) =
 false →
 (((x.fst.snd.fst ≤ x.fst.snd.fst ∧
 x.fst.snd.fst ≤ x.fst.fst ∧
 ([] : List Int) = Q x.fst (x.fst.snd.fst - x.fst.snd.fst).toNat ∧
 (↑([] : List Int).length : Int) ≤ (8 : Int) * (x.fst.snd.fst - x.fst.snd.fst)) ∧
 True) ∧
 ((True ∧ True) ∧ True ∧ x.fst.snd.fst = x.fst.snd.fst ∧ True) ∧
 (([] : List Int) = ([] : List Int) ∧
 (x.fst.fst = x.fst.fst ∧
 x.fst.snd.fst = x.fst.snd.fst ∧
 x.fst.snd.snd.fst = x.fst.snd.snd.fst ∧ x.fst.snd.snd.snd = x.fst.snd.snd.snd ∧ True) ∧
 True) ∧
 True) ∧
 ∀ (g : List Int × Int × Unit),
 x.fst.snd.fst ≤ g.snd.fst ∧
 g.snd.fst ≤ x.fst.fst ∧
 g.fst = Q x.fst (g.snd.fst - x.fst.snd.fst).toNat ∧
 (↑g.fst.length : Int) ≤ (8 : Int) * (g.snd.fst - x.fst.snd.fst) →
 (g.fst.length ≤ (9223372036854775807 : Nat) ∧
 ∀ (x : Int), x ∈ g.fst → (-9223372036854775808 : Int) ≤ x ∧ x ≤ (9223372036854775807 : Int)) ∧
 ((-9223372036854775808 : Int) ≤ g.snd.fst ∧ g.snd.fst ≤ (9223372036854775807 : Int)) ∧ True →
 (decide (g.snd.fst < x.fst.fst) = true →
 ((((0 : Int) ≤ (0 : Int) ∧
 (0 : Int) ≤ (8 : Int) ∧
 g.fst = Q x.fst (g.snd.1 - x.fst.snd.fst).toNat ++ hk x.fst g.snd.1 (Int.toNat (0 : Int)) ∧
 (↑g.fst.length : Int) ≤ (8 : Int) * (g.snd.1 - x.fst.snd.fst) + (0 : Int)) ∧
 True) ∧
 ((True ∧ True) ∧
 True ∧
 g.snd.fst = g.snd.fst ∧
 (x.fst.snd.snd.fst = x.fst.snd.snd.fst ∧ True) ∧ (0 : Int) = (0 : Int) ∧ True) ∧
 (g.fst = g.fst ∧
 (x.fst.fst = x.fst.fst ∧
 x.fst.snd.fst = x.fst.snd.fst ∧
 x.fst.snd.snd.fst = x.fst.snd.snd.fst ∧ x.fst.snd.snd.snd = x.fst.snd.snd.snd ∧ True) ∧
 True) ∧
 True) ∧
 ∀ (g_1 : List Int × Int × Unit),
 (0 : Int) ≤ g_1.snd.fst ∧
 g_1.snd.fst ≤ (8 : Int) ∧
 g_1.fst = Q x.fst (g.snd.1 - x.fst.snd.fst).toNat ++ hk x.fst g.snd.1 g_1.snd.fst.toNat ∧
 (↑g_1.fst.length : Int) ≤ (8 : Int) * (g.snd.1 - x.fst.snd.fst) + g_1.snd.fst →
 (g_1.fst.length ≤ (9223372036854775807 : Nat) ∧
 ∀ (x : Int), x ∈ g_1.fst → (-9223372036854775808 : Int) ≤ x ∧ x ≤ (9223372036854775807 : Int)) ∧
 ((-9223372036854775808 : Int) ≤ g_1.snd.fst ∧ g_1.snd.fst ≤ (9223372036854775807 : Int)) ∧ True →
 (decide (g_1.snd.fst < (8 : Int)) = true →
 ((0 : Int) ≤ g_1.snd.fst ∧ g_1.snd.fst < (↑(8 : Nat) : Int)) ∧
 ((x.fst.snd.snd.fst.getD g_1.snd.fst.toNat (0 : Int) == g.snd.fst) = true →
 (g_1.fst.length + (((0 : Int) :: ([] : List Int)).set (0 : Nat) g_1.snd.fst).length ≤
 (9223372036854775807 : Nat) ∧
 (g_1.fst.length + (((0 : Int) :: ([] : List Int)).set (0 : Nat) g_1.snd.fst).length +
 (g_1.fst.length +
 (((0 : Int) :: ([] : List Int)).set (0 : Nat) g_1.snd.fst).length) /
 (4 : Nat) +
 (192 : Nat)) *
 (8 : Nat) ≤
 (281474976710656 : Nat)) ∧
 ((-9223372036854775808 : Int) ≤ g_1.snd.fst + (1 : Int) ∧
 g_1.snd.fst + (1 : Int) ≤ (9223372036854775807 : Int)) ∧
 (((0 : Int) ≤ g_1.snd.fst + (1 : Int) ∧
 g_1.snd.fst + (1 : Int) ≤ (8 : Int) ∧
 g_1.fst ++ ((0 : Int) :: ([] : List Int)).set (0 : Nat) g_1.snd.fst =
 Q x.fst (g.snd.1 - x.fst.snd.fst).toNat ++
 hk x.fst g.snd.1 (g_1.snd.fst + (1 : Int)).toNat ∧
 (↑(g_1.fst ++
 ((0 : Int) :: ([] : List Int)).set (0 : Nat) g_1.snd.fst).length :
 Int) ≤
 (8 : Int) * (g.snd.1 - x.fst.snd.fst) + (g_1.snd.fst + (1 : Int))) ∧
 ((8 : Int) - (g_1.snd.fst + (1 : Int))).toNat < ((8 : Int) - g_1.snd.fst).toNat) ∧
 ((True ∧ True) ∧
 True ∧
 g.snd.fst = g.snd.fst ∧
 (x.fst.snd.snd.fst = x.fst.snd.snd.fst ∧ True) ∧
 g_1.snd.fst + (1 : Int) = g_1.snd.fst + (1 : Int) ∧ True) ∧
 (g_1.fst ++ ((0 : Int) :: ([] : List Int)).set (0 : Nat) g_1.snd.fst =
 g_1.fst ++ ((0 : Int) :: ([] : List Int)).set (0 : Nat) g_1.snd.fst ∧
 (x.fst.fst = x.fst.fst ∧
 x.fst.snd.fst = x.fst.snd.fst ∧
 x.fst.snd.snd.fst = x.fst.snd.snd.fst ∧
 x.fst.snd.snd.snd = x.fst.snd.snd.snd ∧ True) ∧
 True) ∧
 True) ∧
 ((x.fst.snd.snd.fst.getD g_1.snd.fst.toNat (0 : Int) == g.snd.fst) = false →
 ((-9223372036854775808 : Int) ≤ g_1.snd.fst + (1 : Int) ∧
 g_1.snd.fst + (1 : Int) ≤ (9223372036854775807 : Int)) ∧
 (((0 : Int) ≤ g_1.snd.fst + (1 : Int) ∧
 g_1.snd.fst + (1 : Int) ≤ (8 : Int) ∧
 g_1.fst =
 Q x.fst (g.snd.1 - x.fst.snd.fst).toNat ++
 hk x.fst g.snd.1 (g_1.snd.fst + (1 : Int)).toNat ∧
 (↑g_1.fst.length : Int) ≤
 (8 : Int) * (g.snd.1 - x.fst.snd.fst) + (g_1.snd.fst + (1 : Int))) ∧
 ((8 : Int) - (g_1.snd.fst + (1 : Int))).toNat < ((8 : Int) - g_1.snd.fst).toNat) ∧
 ((True ∧ True) ∧
 True ∧
 g.snd.fst = g.snd.fst ∧
 (x.fst.snd.snd.fst = x.fst.snd.snd.fst ∧ True) ∧
 g_1.snd.fst + (1 : Int) = g_1.snd.fst + (1 : Int) ∧ True) ∧
 (g_1.fst = g_1.fst ∧
 (x.fst.fst = x.fst.fst ∧
 x.fst.snd.fst = x.fst.snd.fst ∧
 x.fst.snd.snd.fst = x.fst.snd.snd.fst ∧
 x.fst.snd.snd.snd = x.fst.snd.snd.snd ∧ True) ∧
 True) ∧
 True)) ∧
 (decide (g_1.snd.fst < (8 : Int)) = false →
 ((-9223372036854775808 : Int) ≤ g.snd.fst + (1 : Int) ∧
 g.snd.fst + (1 : Int) ≤ (9223372036854775807 : Int)) ∧
 ((x.fst.snd.fst ≤ g.snd.fst + (1 : Int) ∧
 g.snd.fst + (1 : Int) ≤ x.fst.fst ∧
 g_1.fst = Q x.fst (g.snd.fst + (1 : Int) - x.fst.snd.fst).toNat ∧
 (↑g_1.fst.length : Int) ≤ (8 : Int) * (g.snd.fst + (1 : Int) - x.fst.snd.fst)) ∧
 (x.fst.fst - (g.snd.fst + (1 : Int))).toNat < (x.fst.fst - g.snd.fst).toNat) ∧
 ((True ∧ True) ∧ True ∧ g.snd.fst + (1 : Int) = g.snd.fst + (1 : Int) ∧ True) ∧
 (g_1.fst = g_1.fst ∧
 (x.fst.fst = x.fst.fst ∧
 x.fst.snd.fst = x.fst.snd.fst ∧
 x.fst.snd.snd.fst = x.fst.snd.snd.fst ∧
 x.fst.snd.snd.snd = x.fst.snd.snd.snd ∧ True) ∧
 True) ∧
 True)) ∧
 (decide (g.snd.fst < x.fst.fst) = false →
 ((((0 : Int) ≤ (0 : Int) ∧
 (0 : Int) ≤ (8 : Int) ∧
 (0 : Int) = cnt x.fst (Int.toNat (0 : Int)) ∧
 (0 : Int) ≤ (0 : Int) ∧ (0 : Int) ≤ (0 : Int) ∧ inTo x.fst (0 : Int)) ∧
 True) ∧
 ((True ∧ True) ∧
 True ∧
 (0 : Int) = (0 : Int) ∧
 (x.fst.snd.snd.fst = x.fst.snd.snd.fst ∧ True) ∧ (0 : Int) = (0 : Int) ∧ True) ∧
 ((x.fst.fst = x.fst.fst ∧
 x.fst.snd.fst = x.fst.snd.fst ∧
 x.fst.snd.snd.fst = x.fst.snd.snd.fst ∧ x.fst.snd.snd.snd = x.fst.snd.snd.snd ∧ True) ∧
 g.fst = g.fst ∧ True) ∧
 True) ∧
 ∀ (g_1 : Int × Int × Unit),
 (0 : Int) ≤ g_1.snd.fst ∧
 g_1.snd.fst ≤ (8 : Int) ∧
 g_1.fst = cnt x.fst g_1.snd.fst.toNat ∧
 (0 : Int) ≤ g_1.fst ∧ g_1.fst ≤ g_1.snd.fst ∧ inTo x.fst g_1.snd.fst →
 ((-9223372036854775808 : Int) ≤ g_1.fst ∧ g_1.fst ≤ (9223372036854775807 : Int)) ∧
 ((-9223372036854775808 : Int) ≤ g_1.snd.fst ∧ g_1.snd.fst ≤ (9223372036854775807 : Int)) ∧ True →
 (decide (g_1.snd.fst < (8 : Int)) = true →
 ((0 : Int) ≤ g_1.snd.fst ∧ g_1.snd.fst < (↑(8 : Nat) : Int)) ∧
 ((x.fst.snd.snd.fst.getD g_1.snd.fst.toNat (0 : Int) != (-1 : Int)) = true →
 ((-9223372036854775808 : Int) ≤ g_1.fst + (1 : Int) ∧
 g_1.fst + (1 : Int) ≤ (9223372036854775807 : Int)) ∧
 ((0 : Int) ≤ g_1.snd.fst ∧ g_1.snd.fst < (↑(8 : Nat) : Int)) ∧
 (x.fst.snd.snd.snd.getD g_1.snd.fst.toNat false = true →
 x.fst.snd.snd.snd.getD g_1.snd.fst.toNat false = true) ∧
 (x.fst.snd.snd.snd.getD g_1.snd.fst.toNat false = true →
 x.fst.snd.snd.snd.getD g_1.snd.fst.toNat false = true) ∧
 ((x.fst.snd.snd.snd.getD g_1.snd.fst.toNat false &&
 !x.fst.snd.snd.fst.getD g_1.snd.fst.toNat (0 : Int) == (-1 : Int)) =
 true →
 (x.fst.snd.snd.snd.getD g_1.snd.fst.toNat false &&
 !x.fst.snd.snd.fst.getD g_1.snd.fst.toNat (0 : Int) == (-1 : Int)) =
 true) ∧
 ((x.fst.snd.snd.snd.getD g_1.snd.fst.toNat false &&
 !x.fst.snd.snd.fst.getD g_1.snd.fst.toNat (0 : Int) == (-1 : Int)) =
 true →
 (x.fst.snd.snd.snd.getD g_1.snd.fst.toNat false &&
 !x.fst.snd.snd.fst.getD g_1.snd.fst.toNat (0 : Int) == (-1 : Int)) =
 true ∧
 (x.fst.snd.snd.snd.getD g_1.snd.fst.toNat false &&
 !x.fst.snd.snd.fst.getD g_1.snd.fst.toNat (0 : Int) == (-1 : Int)) =
 true) ∧
 (x.fst.snd.snd.snd.getD g_1.snd.fst.toNat false = true →
 x.fst.snd.snd.snd.getD g_1.snd.fst.toNat false = true ∧
 ((x.fst.snd.snd.fst.getD g_1.snd.fst.toNat (0 : Int) == (-1 : Int)) =
 false →
 (x.fst.snd.snd.snd.getD g_1.snd.fst.toNat false &&
 !x.fst.snd.snd.fst.getD g_1.snd.fst.toNat (0 : Int) == (-1 : Int)) =
 true)) ∧
 (x.fst.snd.snd.snd.getD g_1.snd.fst.toNat false = true →
 x.fst.snd.snd.snd.getD g_1.snd.fst.toNat false = true) ∧
 ((x.fst.snd.snd.snd.getD g_1.snd.fst.toNat false &&
 (x.fst.snd.snd.fst.getD g_1.snd.fst.toNat (0 : Int) == (-1 : Int) ||
 x.fst.snd.snd.fst.getD g_1.snd.fst.toNat (0 : Int) !=
 x.fst.snd.fst)) =
 true →
 ([] : List Int) = (fq x.fst).fst ∧ false = (fq x.fst).snd) ∧
 ((x.fst.snd.snd.snd.getD g_1.snd.fst.toNat false &&
 (x.fst.snd.snd.fst.getD g_1.snd.fst.toNat (0 : Int) == (-1 : Int) ||
 x.fst.snd.snd.fst.getD g_1.snd.fst.toNat (0 : Int) !=
 x.fst.snd.fst)) =
 false →
 ((-9223372036854775808 : Int) ≤ g_1.snd.fst + (1 : Int) ∧
 g_1.snd.fst + (1 : Int) ≤ (9223372036854775807 : Int)) ∧
 (((0 : Int) ≤ g_1.snd.fst + (1 : Int) ∧
 g_1.snd.fst + (1 : Int) ≤ (8 : Int) ∧
 g_1.fst + (1 : Int) =
 cnt x.fst (g_1.snd.fst + (1 : Int)).toNat ∧
 (0 : Int) ≤ g_1.fst + (1 : Int) ∧
 g_1.fst + (1 : Int) ≤ g_1.snd.fst + (1 : Int) ∧
 inTo x.fst (g_1.snd.fst + (1 : Int))) ∧
 ((8 : Int) - (g_1.snd.fst + (1 : Int))).toNat <
 ((8 : Int) - g_1.snd.fst).toNat) ∧
 ((True ∧ True) ∧
 True ∧
 g_1.fst + (1 : Int) = g_1.fst + (1 : Int) ∧
 (x.fst.snd.snd.fst = x.fst.snd.snd.fst ∧ True) ∧
 g_1.snd.fst + (1 : Int) = g_1.snd.fst + (1 : Int) ∧
 True) ∧
 ((x.fst.fst = x.fst.fst ∧
 x.fst.snd.fst = x.fst.snd.fst ∧
 x.fst.snd.snd.fst = x.fst.snd.snd.fst ∧
 x.fst.snd.snd.snd = x.fst.snd.snd.snd ∧ True) ∧
 g.fst = g.fst ∧ True) ∧
 True)) ∧
 ((x.fst.snd.snd.fst.getD g_1.snd.fst.toNat (0 : Int) != (-1 : Int)) = false →
 ((0 : Int) ≤ g_1.snd.fst ∧ g_1.snd.fst < (↑(8 : Nat) : Int)) ∧
 (x.fst.snd.snd.snd.getD g_1.snd.fst.toNat false = true →
 x.fst.snd.snd.snd.getD g_1.snd.fst.toNat false = true) ∧
 (x.fst.snd.snd.snd.getD g_1.snd.fst.toNat false = true →
 x.fst.snd.snd.snd.getD g_1.snd.fst.toNat false = true) ∧
 ((x.fst.snd.snd.snd.getD g_1.snd.fst.toNat false &&
 !x.fst.snd.snd.fst.getD g_1.snd.fst.toNat (0 : Int) == (-1 : Int)) =
 true →
 (x.fst.snd.snd.snd.getD g_1.snd.fst.toNat false &&
 !x.fst.snd.snd.fst.getD g_1.snd.fst.toNat (0 : Int) == (-1 : Int)) =
 true) ∧
 ((x.fst.snd.snd.snd.getD g_1.snd.fst.toNat false &&
 !x.fst.snd.snd.fst.getD g_1.snd.fst.toNat (0 : Int) == (-1 : Int)) =
 true →
 (x.fst.snd.snd.snd.getD g_1.snd.fst.toNat false &&
 !x.fst.snd.snd.fst.getD g_1.snd.fst.toNat (0 : Int) == (-1 : Int)) =
 true ∧
 (x.fst.snd.snd.snd.getD g_1.snd.fst.toNat false &&
 !x.fst.snd.snd.fst.getD g_1.snd.fst.toNat (0 : Int) == (-1 : Int)) =
 true) ∧
 (x.fst.snd.snd.snd.getD g_1.snd.fst.toNat false = true →
 x.fst.snd.snd.snd.getD g_1.snd.fst.toNat false = true ∧
 ((x.fst.snd.snd.fst.getD g_1.snd.fst.toNat (0 : Int) == (-1 : Int)) =
 false →
 (x.fst.snd.snd.snd.getD g_1.snd.fst.toNat false &&
 !x.fst.snd.snd.fst.getD g_1.snd.fst.toNat (0 : Int) == (-1 : Int)) =
 true)) ∧
 (x.fst.snd.snd.snd.getD g_1.snd.fst.toNat false = true →
 x.fst.snd.snd.snd.getD g_1.snd.fst.toNat false = true) ∧
 ((x.fst.snd.snd.snd.getD g_1.snd.fst.toNat false &&
 (x.fst.snd.snd.fst.getD g_1.snd.fst.toNat (0 : Int) == (-1 : Int) ||
 x.fst.snd.snd.fst.getD g_1.snd.fst.toNat (0 : Int) !=
 x.fst.snd.fst)) =
 true →
 ([] : List Int) = (fq x.fst).fst ∧ false = (fq x.fst).snd) ∧
 ((x.fst.snd.snd.snd.getD g_1.snd.fst.toNat false &&
 (x.fst.snd.snd.fst.getD g_1.snd.fst.toNat (0 : Int) == (-1 : Int) ||
 x.fst.snd.snd.fst.getD g_1.snd.fst.toNat (0 : Int) !=
 x.fst.snd.fst)) =
 false →
 ((-9223372036854775808 : Int) ≤ g_1.snd.fst + (1 : Int) ∧
 g_1.snd.fst + (1 : Int) ≤ (9223372036854775807 : Int)) ∧
 (((0 : Int) ≤ g_1.snd.fst + (1 : Int) ∧
 g_1.snd.fst + (1 : Int) ≤ (8 : Int) ∧
 g_1.fst = cnt x.fst (g_1.snd.fst + (1 : Int)).toNat ∧
 (0 : Int) ≤ g_1.fst ∧
 g_1.fst ≤ g_1.snd.fst + (1 : Int) ∧
 inTo x.fst (g_1.snd.fst + (1 : Int))) ∧
 ((8 : Int) - (g_1.snd.fst + (1 : Int))).toNat <
 ((8 : Int) - g_1.snd.fst).toNat) ∧
 ((True ∧ True) ∧
 True ∧
 g_1.fst = g_1.fst ∧
 (x.fst.snd.snd.fst = x.fst.snd.snd.fst ∧ True) ∧
 g_1.snd.fst + (1 : Int) = g_1.snd.fst + (1 : Int) ∧ True) ∧
 ((x.fst.fst = x.fst.fst ∧
 x.fst.snd.fst = x.fst.snd.fst ∧
 x.fst.snd.snd.fst = x.fst.snd.snd.fst ∧
 x.fst.snd.snd.snd = x.fst.snd.snd.snd ∧ True) ∧
 g.fst = g.fst ∧ True) ∧
 True))) ∧
 (decide (g_1.snd.fst < (8 : Int)) = false →
 ((g_1.fst == (↑g.fst.length : Int)) = true → (g_1.fst == (↑g.fst.length : Int)) = true) ∧
 ((g_1.fst == (↑g.fst.length : Int)) = true → (g_1.fst == (↑g.fst.length : Int)) = true) ∧
 ((g_1.fst == (↑g.fst.length : Int)) = true →
 ((g_1.fst == (↑g.fst.length : Int)) = true ∧ (g_1.fst == (↑g.fst.length : Int)) = true) ∧
 (-9223372036854775808 : Int) ≤ x.fst.fst - x.fst.snd.fst ∧
 x.fst.fst - x.fst.snd.fst ≤ (9223372036854775807 : Int)) ∧
 ((g_1.fst == (↑g.fst.length : Int)) = true →
 (g_1.fst == (↑g.fst.length : Int)) = true ∧ (g_1.fst == (↑g.fst.length : Int)) = true) ∧
 ((g_1.fst == (↑g.fst.length : Int)) = true → (g_1.fst == (↑g.fst.length : Int)) = true) ∧
 ((((0 : Int) ≤ (0 : Int) ∧
 (0 : Int) ≤ (↑(Q x.fst (x.fst.fst - x.fst.snd.fst).toNat).length : Int) ∧
 ((g_1.fst == (↑g.fst.length : Int) && g_1.fst == x.fst.fst - x.fst.snd.fst) =
 true ↔
 qok x.fst (0 : Int))) ∧
 True) ∧
 ((True ∧ True) ∧
 True ∧
 (g_1.fst == (↑g.fst.length : Int) && g_1.fst == x.fst.fst - x.fst.snd.fst) =
 (g_1.fst == (↑g.fst.length : Int) &&
 g_1.fst == x.fst.fst - x.fst.snd.fst) ∧
 True ∧
 (↑g.fst.length : Int) = (↑g.fst.length : Int) ∧
 (0 : Int) = (0 : Int) ∧ True) ∧
 ((x.fst.fst = x.fst.fst ∧
 x.fst.snd.fst = x.fst.snd.fst ∧
 x.fst.snd.snd.fst = x.fst.snd.snd.fst ∧
 x.fst.snd.snd.snd = x.fst.snd.snd.snd ∧ True) ∧
 g.fst = g.fst ∧ True) ∧
 True) ∧
 ∀ (g_2 : Bool × Int × Unit),
 (0 : Int) ≤ g_2.snd.fst ∧
 g_2.snd.fst ≤ (↑(Q x.fst (x.fst.fst - x.fst.snd.fst).toNat).length : Int) ∧
 (g_2.fst = true ↔ qok x.fst g_2.snd.fst) →
 True ∧
 ((-9223372036854775808 : Int) ≤ g_2.snd.fst ∧
 g_2.snd.fst ≤ (9223372036854775807 : Int)) ∧
 True →
 (decide (g_2.snd.fst < (↑g.fst.length : Int)) = true →
 ((0 : Int) ≤ g_2.snd.fst ∧ g_2.snd.fst < (↑g.fst.length : Int)) ∧
 (g_2.fst = true →
 ((0 : Int) ≤ g.fst.getD g_2.snd.fst.toNat (0 : Int) ∧
 g.fst.getD g_2.snd.fst.toNat (0 : Int) < (↑(8 : Nat) : Int)) ∧
 ((-9223372036854775808 : Int) ≤ x.fst.snd.fst + g_2.snd.fst ∧
 x.fst.snd.fst + g_2.snd.fst ≤ (9223372036854775807 : Int)) ∧
 ((-9223372036854775808 : Int) ≤ g_2.snd.fst + (1 : Int) ∧
 g_2.snd.fst + (1 : Int) ≤ (9223372036854775807 : Int)) ∧
 (((0 : Int) ≤ g_2.snd.fst + (1 : Int) ∧
 g_2.snd.fst + (1 : Int) ≤
 (↑(Q x.fst (x.fst.fst - x.fst.snd.fst).toNat).length :
 Int) ∧
 ((x.fst.snd.snd.fst.getD
 (g.fst.getD g_2.snd.fst.toNat (0 : Int)).toNat
 (0 : Int) ==
 x.fst.snd.fst + g_2.snd.fst) =
 true ↔
 qok x.fst (g_2.snd.fst + (1 : Int)))) ∧
 ((↑(Q x.fst (x.fst.fst - x.fst.snd.fst).toNat).length :
 Int) -
 (g_2.snd.fst + (1 : Int))).toNat <
 ((↑(Q x.fst (x.fst.fst - x.fst.snd.fst).toNat).length :
 Int) -
 g_2.snd.fst).toNat) ∧
 ((True ∧ True) ∧
 True ∧
 (x.fst.snd.snd.fst.getD
 (g.fst.getD g_2.snd.fst.toNat (0 : Int)).toNat
 (0 : Int) ==
 x.fst.snd.fst + g_2.snd.fst) =
 (x.fst.snd.snd.fst.getD
 (g.fst.getD g_2.snd.fst.toNat (0 : Int)).toNat
 (0 : Int) ==
 x.fst.snd.fst + g_2.snd.fst) ∧
 True ∧
 (↑g.fst.length : Int) = (↑g.fst.length : Int) ∧
 g_2.snd.fst + (1 : Int) =
 g_2.snd.fst + (1 : Int) ∧
 True) ∧
 ((x.fst.fst = x.fst.fst ∧
 x.fst.snd.fst = x.fst.snd.fst ∧
 x.fst.snd.snd.fst = x.fst.snd.snd.fst ∧
 x.fst.snd.snd.snd = x.fst.snd.snd.snd ∧ True) ∧
 g.fst = g.fst ∧ True) ∧
 True) ∧
 (g_2.fst = !true →
 ((-9223372036854775808 : Int) ≤ g_2.snd.fst + (1 : Int) ∧
 g_2.snd.fst + (1 : Int) ≤ (9223372036854775807 : Int)) ∧
 (((0 : Int) ≤ g_2.snd.fst + (1 : Int) ∧
 g_2.snd.fst + (1 : Int) ≤
 (↑(Q x.fst (x.fst.fst - x.fst.snd.fst).toNat).length :
 Int) ∧
 (false = true ↔ qok x.fst (g_2.snd.fst + (1 : Int)))) ∧
 ((↑(Q x.fst (x.fst.fst - x.fst.snd.fst).toNat).length : Int) -
 (g_2.snd.fst + (1 : Int))).toNat <
 ((↑(Q x.fst (x.fst.fst - x.fst.snd.fst).toNat).length : Int) -
 g_2.snd.fst).toNat) ∧
 ((True ∧ True) ∧
 True ∧
 false = false ∧
 True ∧
 (↑g.fst.length : Int) = (↑g.fst.length : Int) ∧
 g_2.snd.fst + (1 : Int) = g_2.snd.fst + (1 : Int) ∧
 True) ∧
 ((x.fst.fst = x.fst.fst ∧
 x.fst.snd.fst = x.fst.snd.fst ∧
 x.fst.snd.snd.fst = x.fst.snd.snd.fst ∧
 x.fst.snd.snd.snd = x.fst.snd.snd.snd ∧ True) ∧
 g.fst = g.fst ∧ True) ∧
 True)) ∧
 (decide (g_2.snd.fst < (↑g.fst.length : Int)) = false →
 g.fst = (fq x.fst).fst ∧ g_2.fst = (fq x.fst).snd))))

theorem E_fq_eq (x : HL (cFq : Ctr).as) : vc (fx_fq x) 1 37 Try.f37 (cFq) x = E_fq x := by kernel_rfl

def E_step (x : (Int × Int × List Int × List Bool) × (Int × Int) × Unit) : Prop :=
 Holds True ∧
 ((!right (x.fst.fst, x.fst.snd.fst, x.fst.snd.snd.fst, x.fst.snd.snd.snd)) = true →
 ((0 : Int), (0 : Int), (0 : Int) :: (0 : Int) :: (0 : Int) :: (0 : Int) :: (0 : Int) :: (0 : Int) :: (0 : Int) :: (0 : Int) :: ([] : List Int),
 false :: false :: false :: false :: false :: false :: false :: false :: ([] : List Bool)) =
 (step x.fst x.snd.fst.fst x.snd.fst.snd).fst ∧
 false = (step x.fst x.snd.fst.fst x.snd.fst.snd).snd.fst ∧ (1 : Int) = (step x.fst x.snd.fst.fst x.snd.fst.snd).snd.snd.fst) ∧
 ((!right (x.fst.fst, x.fst.snd.fst, x.fst.snd.snd.fst, x.fst.snd.snd.snd)) = false →
 ((!decide (x.snd.fst.fst < (1 : Int))) = true → (!decide (x.snd.fst.fst < (1 : Int))) = true) ∧
 ((!decide (x.snd.fst.fst < (1 : Int))) = true → (!decide (x.snd.fst.fst < (1 : Int))) = true) ∧
 (decide (x.snd.fst.fst < (1 : Int)) = false → (!decide (x.snd.fst.fst < (1 : Int))) = true) ∧
 ((decide (x.snd.fst.fst < (1 : Int)) || decide ((3 : Int) < x.snd.fst.fst)) = true →
 ((0 : Int), (0 : Int),
 (0 : Int) :: (0 : Int) :: (0 : Int) :: (0 : Int) :: (0 : Int) :: (0 : Int) :: (0 : Int) :: (0 : Int) :: ([] : List Int),
 false :: false :: false :: false :: false :: false :: false :: false :: ([] : List Bool)) =
 (step x.fst x.snd.fst.fst x.snd.fst.snd).fst ∧
 false = (step x.fst x.snd.fst.fst x.snd.fst.snd).snd.fst ∧ (5 : Int) = (step x.fst x.snd.fst.fst x.snd.fst.snd).snd.snd.fst) ∧
 ((decide (x.snd.fst.fst < (1 : Int)) || decide ((3 : Int) < x.snd.fst.fst)) = false →
 ((!decide (x.snd.fst.snd < (0 : Int))) = true → (!decide (x.snd.fst.snd < (0 : Int))) = true) ∧
 ((!decide (x.snd.fst.snd < (0 : Int))) = true → (!decide (x.snd.fst.snd < (0 : Int))) = true) ∧
 (decide (x.snd.fst.snd < (0 : Int)) = false → (!decide (x.snd.fst.snd < (0 : Int))) = true) ∧
 ((decide (x.snd.fst.snd < (0 : Int)) || decide ((8 : Int) ≤ x.snd.fst.snd)) = true →
 ((0 : Int), (0 : Int),
 (0 : Int) ::
 (0 : Int) :: (0 : Int) :: (0 : Int) :: (0 : Int) :: (0 : Int) :: (0 : Int) :: (0 : Int) :: ([] : List Int),
 false :: false :: false :: false :: false :: false :: false :: false :: ([] : List Bool)) =
 (step x.fst x.snd.fst.fst x.snd.fst.snd).fst ∧
 false = (step x.fst x.snd.fst.fst x.snd.fst.snd).snd.fst ∧
 (2 : Int) = (step x.fst x.snd.fst.fst x.snd.fst.snd).snd.snd.fst) ∧
 ((decide (x.snd.fst.snd < (0 : Int)) || decide ((8 : Int) ≤ x.snd.fst.snd)) = false →
 ((0 : Int) ≤ x.snd.fst.snd ∧ x.snd.fst.snd < (↑(8 : Nat) : Int)) ∧
 ((0 : Int) ≤ x.snd.fst.snd ∧ x.snd.fst.snd < (↑(8 : Nat) : Int)) ∧
 ((x.snd.fst.fst == (1 : Int)) = true →
 (decide ((0 : Int) ≤ x.fst.snd.snd.fst.getD x.snd.fst.snd.toNat (0 : Int)) = true →
 ((0 : Int), (0 : Int),
 (0 : Int) ::
 (0 : Int) ::
 (0 : Int) :: (0 : Int) :: (0 : Int) :: (0 : Int) :: (0 : Int) :: (0 : Int) :: ([] : List Int),
 false :: false :: false :: false :: false :: false :: false :: false :: ([] : List Bool)) =
 (step x.fst x.snd.fst.fst x.snd.fst.snd).fst ∧
 false = (step x.fst x.snd.fst.fst x.snd.fst.snd).snd.fst ∧
 (6 : Int) = (step x.fst x.snd.fst.fst x.snd.fst.snd).snd.snd.fst) ∧
 (decide ((0 : Int) ≤ x.fst.snd.snd.fst.getD x.snd.fst.snd.toNat (0 : Int)) = false →
 ((x.fst.fst == (1099511627776 : Int)) = true →
 ((0 : Int), (0 : Int),
 (0 : Int) ::
 (0 : Int) ::
 (0 : Int) :: (0 : Int) :: (0 : Int) :: (0 : Int) :: (0 : Int) :: (0 : Int) :: ([] : List Int),
 false :: false :: false :: false :: false :: false :: false :: false :: ([] : List Bool)) =
 (step x.fst x.snd.fst.fst x.snd.fst.snd).fst ∧
 false = (step x.fst x.snd.fst.fst x.snd.fst.snd).snd.fst ∧
 (4 : Int) = (step x.fst x.snd.fst.fst x.snd.fst.snd).snd.snd.fst) ∧
 ((x.fst.fst == (1099511627776 : Int)) = false →
 ((-9223372036854775808 : Int) ≤ x.fst.fst + (1 : Int) ∧
 x.fst.fst + (1 : Int) ≤ (9223372036854775807 : Int)) ∧
 (x.fst.fst + (1 : Int), x.fst.snd.fst, x.fst.snd.snd.fst.set x.snd.fst.snd.toNat x.fst.fst,
 x.fst.snd.snd.snd) =
 (step x.fst x.snd.fst.fst x.snd.fst.snd).fst ∧
 x.fst.snd.snd.snd.getD x.snd.fst.snd.toNat false = (step x.fst x.snd.fst.fst x.snd.fst.snd).snd.fst ∧
 (0 : Int) = (step x.fst x.snd.fst.fst x.snd.fst.snd).snd.snd.fst))) ∧
 ((x.snd.fst.fst == (1 : Int)) = false →
 ((x.snd.fst.fst == (2 : Int)) = true →
 (decide (x.fst.snd.snd.fst.getD x.snd.fst.snd.toNat (0 : Int) < (0 : Int)) = true →
 ((0 : Int), (0 : Int),
 (0 : Int) ::
 (0 : Int) ::
 (0 : Int) :: (0 : Int) :: (0 : Int) :: (0 : Int) :: (0 : Int) :: (0 : Int) :: ([] : List Int),
 false :: false :: false :: false :: false :: false :: false :: false :: ([] : List Bool)) =
 (step x.fst x.snd.fst.fst x.snd.fst.snd).fst ∧
 false = (step x.fst x.snd.fst.fst x.snd.fst.snd).snd.fst ∧
 (3 : Int) = (step x.fst x.snd.fst.fst x.snd.fst.snd).snd.snd.fst) ∧
 (decide (x.fst.snd.snd.fst.getD x.snd.fst.snd.toNat (0 : Int) < (0 : Int)) = false →
 (x.fst.fst, x.fst.snd.fst, x.fst.snd.snd.fst,
 x.fst.snd.snd.snd.set x.snd.fst.snd.toNat
 (x.fst.snd.snd.fst.getD x.snd.fst.snd.toNat (0 : Int) == x.fst.snd.fst)) =
 (step x.fst x.snd.fst.fst x.snd.fst.snd).fst ∧
 (x.fst.snd.snd.snd.set x.snd.fst.snd.toNat
 (x.fst.snd.snd.fst.getD x.snd.fst.snd.toNat (0 : Int) == x.fst.snd.fst)).getD
 x.snd.fst.snd.toNat false =
 (step x.fst x.snd.fst.fst x.snd.fst.snd).snd.fst ∧
 (0 : Int) = (step x.fst x.snd.fst.fst x.snd.fst.snd).snd.snd.fst)) ∧
 ((x.snd.fst.fst == (2 : Int)) = false →
 ((x.snd.fst.fst == (3 : Int)) = true →
 ((!x.fst.snd.snd.snd.getD x.snd.fst.snd.toNat false) = true →
 ((0 : Int), (0 : Int),
 (0 : Int) ::
 (0 : Int) ::
 (0 : Int) :: (0 : Int) :: (0 : Int) :: (0 : Int) :: (0 : Int) :: (0 : Int) :: ([] : List Int),
 false :: false :: false :: false :: false :: false :: false :: false :: ([] : List Bool)) =
 (step x.fst x.snd.fst.fst x.snd.fst.snd).fst ∧
 false = (step x.fst x.snd.fst.fst x.snd.fst.snd).snd.fst ∧
 (3 : Int) = (step x.fst x.snd.fst.fst x.snd.fst.snd).snd.snd.fst) ∧
 ((!x.fst.snd.snd.snd.getD x.snd.fst.snd.toNat false) = false →
 ((-9223372036854775808 : Int) ≤ x.fst.snd.fst + (1 : Int) ∧
 x.fst.snd.fst + (1 : Int) ≤ (9223372036854775807 : Int)) ∧
 (x.fst.fst, x.fst.snd.fst + (1 : Int), x.fst.snd.snd.fst.set x.snd.fst.snd.toNat (-1 : Int),
 x.fst.snd.snd.snd.set x.snd.fst.snd.toNat false) =
 (step x.fst x.snd.fst.fst x.snd.fst.snd).fst ∧
 (x.fst.snd.snd.snd.set x.snd.fst.snd.toNat false).getD x.snd.fst.snd.toNat false =
 (step x.fst x.snd.fst.fst x.snd.fst.snd).snd.fst ∧
 (0 : Int) = (step x.fst x.snd.fst.fst x.snd.fst.snd).snd.snd.fst)) ∧
 ((x.snd.fst.fst == (3 : Int)) = false →
 (x.fst.fst, x.fst.snd.fst, x.fst.snd.snd.fst, x.fst.snd.snd.snd) =
 (step x.fst x.snd.fst.fst x.snd.fst.snd).fst ∧
 x.fst.snd.snd.snd.getD x.snd.fst.snd.toNat false = (step x.fst x.snd.fst.fst x.snd.fst.snd).snd.fst ∧
 (0 : Int) = (step x.fst x.snd.fst.fst x.snd.fst.snd).snd.snd.fst))))))

theorem E_step_eq (x : HL (cStep : Ctr).as) : vc (fx_step x) 2 35 Try.f35 (cStep) x = E_step x := by kernel_rfl

def E_fstep (x : (Int × Int × List Int × List Bool) × (Int × Int) × Unit) : Prop :=
 Holds True ∧
 ((((0 : Int) ≤ (0 : Int) ∧
 (0 : Int) ≤ (↑(fq x.fst).fst.length : Int) ∧
 (-1 : Int) ≤ (-1 : Int) ∧
 (-1 : Int) < (0 : Int) ∧
 ((0 : Int) ≤ (-1 : Int) → (fq x.fst).fst.getD (-1 : Int).toNat (0 : Int) = x.snd.fst.snd) ∧
 ∀ (j : Int), (-1 : Int) < j → (0 : Int) ≤ j → j < (0 : Int) → (fq x.fst).fst.getD j.toNat (0 : Int) ≠ x.snd.fst.snd) ∧
 True) ∧
 ((True ∧ True) ∧
 (True ∧ True) ∧
 (True ∧ True) ∧
 (fq (x.fst.fst, x.fst.snd.fst, x.fst.snd.snd.fst, x.fst.snd.snd.snd)).snd =
 (fq (x.fst.fst, x.fst.snd.fst, x.fst.snd.snd.fst, x.fst.snd.snd.snd)).snd ∧
 (-1 : Int) = (-1 : Int) ∧
 (fq (x.fst.fst, x.fst.snd.fst, x.fst.snd.snd.fst, x.fst.snd.snd.snd)).fst =
 (fq (x.fst.fst, x.fst.snd.fst, x.fst.snd.snd.fst, x.fst.snd.snd.snd)).fst ∧
 (↑(fq (x.fst.fst, x.fst.snd.fst, x.fst.snd.snd.fst, x.fst.snd.snd.snd)).fst.length : Int) =
 (↑(fq (x.fst.fst, x.fst.snd.fst, x.fst.snd.snd.fst, x.fst.snd.snd.snd)).fst.length : Int) ∧
 (0 : Int) = (0 : Int) ∧ True) ∧
 ((x.fst.fst = x.fst.fst ∧
 x.fst.snd.fst = x.fst.snd.fst ∧ x.fst.snd.snd.fst = x.fst.snd.snd.fst ∧ x.fst.snd.snd.snd = x.fst.snd.snd.snd ∧ True) ∧
 (x.snd.fst.fst = x.snd.fst.fst ∧ x.snd.fst.snd = x.snd.fst.snd ∧ True) ∧
 ((0 : Int) = (0 : Int) ∧
 (0 : Int) = (0 : Int) ∧
 (0 : Int) :: (0 : Int) :: (0 : Int) :: (0 : Int) :: (0 : Int) :: (0 : Int) :: (0 : Int) :: (0 : Int) :: ([] : List Int) =
 (0 : Int) :: (0 : Int) :: (0 : Int) :: (0 : Int) :: (0 : Int) :: (0 : Int) :: (0 : Int) :: (0 : Int) :: ([] : List Int) ∧
 false :: false :: false :: false :: false :: false :: false :: false :: ([] : List Bool) =
 false :: false :: false :: false :: false :: false :: false :: false :: ([] : List Bool) ∧
 True) ∧
 True) ∧
 True) ∧
 ∀ (g : Int × Int × Unit),
 ((0 : Int) ≤ g.snd.fst ∧
 g.snd.fst ≤ (↑(fq x.fst).fst.length : Int) ∧
 (-1 : Int) ≤ g.fst ∧
 g.fst < g.snd.fst ∧
 ((0 : Int) ≤ g.fst → (fq x.fst).fst.getD g.fst.toNat (0 : Int) = x.snd.fst.snd) ∧
 ∀ (j : Int), g.fst < j → (0 : Int) ≤ j → j < g.snd.fst → (fq x.fst).fst.getD j.toNat (0 : Int) ≠ x.snd.fst.snd) →
 ((-9223372036854775808 : Int) ≤ g.fst ∧ g.fst ≤ (9223372036854775807 : Int)) ∧
 ((-9223372036854775808 : Int) ≤ g.snd.fst ∧ g.snd.fst ≤ (9223372036854775807 : Int)) ∧ True →
 (decide (g.snd.fst < (↑(fq (x.fst.fst, x.fst.snd.fst, x.fst.snd.snd.fst, x.fst.snd.snd.snd)).fst.length : Int)) = true →
 ((0 : Int) ≤ g.snd.fst ∧ g.snd.fst < (↑(fq (x.fst.fst, x.fst.snd.fst, x.fst.snd.snd.fst, x.fst.snd.snd.snd)).fst.length : Int)) ∧
 (((fq (x.fst.fst, x.fst.snd.fst, x.fst.snd.snd.fst, x.fst.snd.snd.snd)).fst.getD g.snd.fst.toNat (0 : Int) == x.snd.fst.snd) = true →
 ((-9223372036854775808 : Int) ≤ g.snd.fst + (1 : Int) ∧ g.snd.fst + (1 : Int) ≤ (9223372036854775807 : Int)) ∧
 (((0 : Int) ≤ g.snd.fst + (1 : Int) ∧
 g.snd.fst + (1 : Int) ≤ (↑(fq x.fst).fst.length : Int) ∧
 (-1 : Int) ≤ g.snd.fst ∧
 g.snd.fst < g.snd.fst + (1 : Int) ∧
 ((0 : Int) ≤ g.snd.fst → (fq x.fst).fst.getD g.snd.fst.toNat (0 : Int) = x.snd.fst.snd) ∧
 ∀ (j : Int),
 g.snd.fst < j →
 (0 : Int) ≤ j → j < g.snd.fst + (1 : Int) → (fq x.fst).fst.getD j.toNat (0 : Int) ≠ x.snd.fst.snd) ∧
 ((↑(fq x.fst).fst.length : Int) - (g.snd.fst + (1 : Int))).toNat < ((↑(fq x.fst).fst.length : Int) - g.snd.fst).toNat) ∧
 ((True ∧ True) ∧
 (True ∧ True) ∧
 (True ∧ True) ∧
 (fq (x.fst.fst, x.fst.snd.fst, x.fst.snd.snd.fst, x.fst.snd.snd.snd)).snd =
 (fq (x.fst.fst, x.fst.snd.fst, x.fst.snd.snd.fst, x.fst.snd.snd.snd)).snd ∧
 g.snd.fst = g.snd.fst ∧
 (fq (x.fst.fst, x.fst.snd.fst, x.fst.snd.snd.fst, x.fst.snd.snd.snd)).fst =
 (fq (x.fst.fst, x.fst.snd.fst, x.fst.snd.snd.fst, x.fst.snd.snd.snd)).fst ∧
 (↑(fq (x.fst.fst, x.fst.snd.fst, x.fst.snd.snd.fst, x.fst.snd.snd.snd)).fst.length : Int) =
 (↑(fq (x.fst.fst, x.fst.snd.fst, x.fst.snd.snd.fst, x.fst.snd.snd.snd)).fst.length : Int) ∧
 g.snd.fst + (1 : Int) = g.snd.fst + (1 : Int) ∧ True) ∧
 ((x.fst.fst = x.fst.fst ∧
 x.fst.snd.fst = x.fst.snd.fst ∧
 x.fst.snd.snd.fst = x.fst.snd.snd.fst ∧ x.fst.snd.snd.snd = x.fst.snd.snd.snd ∧ True) ∧
 (x.snd.fst.fst = x.snd.fst.fst ∧ x.snd.fst.snd = x.snd.fst.snd ∧ True) ∧
 ((0 : Int) = (0 : Int) ∧
 (0 : Int) = (0 : Int) ∧
 (0 : Int) ::
 (0 : Int) ::
 (0 : Int) :: (0 : Int) :: (0 : Int) :: (0 : Int) :: (0 : Int) :: (0 : Int) :: ([] : List Int) =
 (0 : Int) ::
 (0 : Int) ::
 (0 : Int) :: (0 : Int) :: (0 : Int) :: (0 : Int) :: (0 : Int) :: (0 : Int) :: ([] : List Int) ∧
 false :: false :: false :: false :: false :: false :: false :: false :: ([] : List Bool) =
 false :: false :: false :: false :: false :: false :: false :: false :: ([] : List Bool) ∧
 True) ∧
 True) ∧
 True) ∧
 (((fq (x.fst.fst, x.fst.snd.fst, x.fst.snd.snd.fst, x.fst.snd.snd.snd)).fst.getD g.snd.fst.toNat (0 : Int) == x.snd.fst.snd) =
 false →
 ((-9223372036854775808 : Int) ≤ g.snd.fst + (1 : Int) ∧ g.snd.fst + (1 : Int) ≤ (9223372036854775807 : Int)) ∧
 (((0 : Int) ≤ g.snd.fst + (1 : Int) ∧
 g.snd.fst + (1 : Int) ≤ (↑(fq x.fst).fst.length : Int) ∧
 (-1 : Int) ≤ g.fst ∧
 g.fst < g.snd.fst + (1 : Int) ∧
 ((0 : Int) ≤ g.fst → (fq x.fst).fst.getD g.fst.toNat (0 : Int) = x.snd.fst.snd) ∧
 ∀ (j : Int),
 g.fst < j → (0 : Int) ≤ j → j < g.snd.fst + (1 : Int) → (fq x.fst).fst.getD j.toNat (0 : Int) ≠ x.snd.fst.snd) ∧
 ((↑(fq x.fst).fst.length : Int) - (g.snd.fst + (1 : Int))).toNat < ((↑(fq x.fst).fst.length : Int) - g.snd.fst).toNat) ∧
 ((True ∧ True) ∧
 (True ∧ True) ∧
 (True ∧ True) ∧
 (fq (x.fst.fst, x.fst.snd.fst, x.fst.snd.snd.fst, x.fst.snd.snd.snd)).snd =
 (fq (x.fst.fst, x.fst.snd.fst, x.fst.snd.snd.fst, x.fst.snd.snd.snd)).snd ∧
 g.fst = g.fst ∧
 (fq (x.fst.fst, x.fst.snd.fst, x.fst.snd.snd.fst, x.fst.snd.snd.snd)).fst =
 (fq (x.fst.fst, x.fst.snd.fst, x.fst.snd.snd.fst, x.fst.snd.snd.snd)).fst ∧
 (↑(fq (x.fst.fst, x.fst.snd.fst, x.fst.snd.snd.fst, x.fst.snd.snd.snd)).fst.length : Int) =
 (↑(fq (x.fst.fst, x.fst.snd.fst, x.fst.snd.snd.fst, x.fst.snd.snd.snd)).fst.length : Int) ∧
 g.snd.fst + (1 : Int) = g.snd.fst + (1 : Int) ∧ True) ∧
 ((x.fst.fst = x.fst.fst ∧
 x.fst.snd.fst = x.fst.snd.fst ∧
 x.fst.snd.snd.fst = x.fst.snd.snd.fst ∧ x.fst.snd.snd.snd = x.fst.snd.snd.snd ∧ True) ∧
 (x.snd.fst.fst = x.snd.fst.fst ∧ x.snd.fst.snd = x.snd.fst.snd ∧ True) ∧
 ((0 : Int) = (0 : Int) ∧
 (0 : Int) = (0 : Int) ∧
 (0 : Int) ::
 (0 : Int) ::
 (0 : Int) :: (0 : Int) :: (0 : Int) :: (0 : Int) :: (0 : Int) :: (0 : Int) :: ([] : List Int) =
 (0 : Int) ::
 (0 : Int) ::
 (0 : Int) :: (0 : Int) :: (0 : Int) :: (0 : Int) :: (0 : Int) :: (0 : Int) :: ([] : List Int) ∧
 false :: false :: false :: false :: false :: false :: false :: false :: ([] : List Bool) =
 false :: false :: false :: false :: false :: false :: false :: false :: ([] : List Bool) ∧
 True) ∧
 True) ∧
 True)) ∧
 (decide (g.snd.fst < (↑(fq (x.fst.fst, x.fst.snd.fst, x.fst.snd.snd.fst, x.fst.snd.snd.snd)).fst.length : Int)) = false →
 ((!(fq (x.fst.fst, x.fst.snd.fst, x.fst.snd.snd.fst, x.fst.snd.snd.snd)).snd) = true →
 (((1 : Int) != (0 : Int)) = true →
 ((0 : Int), (0 : Int),
 (0 : Int) :: (0 : Int) :: (0 : Int) :: (0 : Int) :: (0 : Int) :: (0 : Int) :: (0 : Int) :: (0 : Int) :: ([] : List Int),
 false :: false :: false :: false :: false :: false :: false :: false :: ([] : List Bool)) =
 (step x.fst x.snd.fst.fst x.snd.fst.snd).fst ∧
 false = (step x.fst x.snd.fst.fst x.snd.fst.snd).snd.fst ∧ (1 : Int) = (step x.fst x.snd.fst.fst x.snd.fst.snd).snd.snd.fst) ∧
 (((1 : Int) != (0 : Int)) = false →
 (x.fst.fst, x.fst.snd.fst, x.fst.snd.snd.fst, x.fst.snd.snd.snd) = (step x.fst x.snd.fst.fst x.snd.fst.snd).fst ∧
 false = (step x.fst x.snd.fst.fst x.snd.fst.snd).snd.fst ∧
 (1 : Int) = (step x.fst x.snd.fst.fst x.snd.fst.snd).snd.snd.fst)) ∧
 ((!(fq (x.fst.fst, x.fst.snd.fst, x.fst.snd.snd.fst, x.fst.snd.snd.snd)).snd) = false →
 ((x.snd.fst.fst != (1 : Int)) = true → (x.snd.fst.fst != (1 : Int)) = true) ∧
 ((x.snd.fst.fst != (1 : Int)) = true → (x.snd.fst.fst != (1 : Int)) = true) ∧
 ((x.snd.fst.fst != (1 : Int)) = true → (x.snd.fst.fst != (1 : Int)) = true) ∧
 ((x.snd.fst.fst != (1 : Int) && x.snd.fst.fst != (2 : Int)) = true →
 (x.snd.fst.fst != (1 : Int) && x.snd.fst.fst != (2 : Int)) = true) ∧
 ((x.snd.fst.fst != (1 : Int) && x.snd.fst.fst != (2 : Int)) = true →
 (x.snd.fst.fst != (1 : Int) && x.snd.fst.fst != (2 : Int)) = true) ∧
 ((x.snd.fst.fst != (1 : Int) && x.snd.fst.fst != (2 : Int)) = true →
 (x.snd.fst.fst != (1 : Int) && x.snd.fst.fst != (2 : Int)) = true) ∧
 ((x.snd.fst.fst != (1 : Int) && x.snd.fst.fst != (2 : Int) && x.snd.fst.fst != (3 : Int)) = true →
 (((5 : Int) != (0 : Int)) = true →
 ((0 : Int), (0 : Int),
 (0 : Int) ::
 (0 : Int) ::
 (0 : Int) :: (0 : Int) :: (0 : Int) :: (0 : Int) :: (0 : Int) :: (0 : Int) :: ([] : List Int),
 false :: false :: false :: false :: false :: false :: false :: false :: ([] : List Bool)) =
 (step x.fst x.snd.fst.fst x.snd.fst.snd).fst ∧
 false = (step x.fst x.snd.fst.fst x.snd.fst.snd).snd.fst ∧
 (5 : Int) = (step x.fst x.snd.fst.fst x.snd.fst.snd).snd.snd.fst) ∧
 (((5 : Int) != (0 : Int)) = false →
 (x.fst.fst, x.fst.snd.fst, x.fst.snd.snd.fst, x.fst.snd.snd.snd) =
 (step x.fst x.snd.fst.fst x.snd.fst.snd).fst ∧
 false = (step x.fst x.snd.fst.fst x.snd.fst.snd).snd.fst ∧
 (5 : Int) = (step x.fst x.snd.fst.fst x.snd.fst.snd).snd.snd.fst)) ∧
 ((x.snd.fst.fst != (1 : Int) && x.snd.fst.fst != (2 : Int) && x.snd.fst.fst != (3 : Int)) = false →
 ((!decide (x.snd.fst.snd < (0 : Int))) = true → (!decide (x.snd.fst.snd < (0 : Int))) = true) ∧
 ((!decide (x.snd.fst.snd < (0 : Int))) = true → (!decide (x.snd.fst.snd < (0 : Int))) = true) ∧
 (decide (x.snd.fst.snd < (0 : Int)) = false → (!decide (x.snd.fst.snd < (0 : Int))) = true) ∧
 ((decide (x.snd.fst.snd < (0 : Int)) || decide ((7 : Int) < x.snd.fst.snd)) = true →
 (((2 : Int) != (0 : Int)) = true →
 ((0 : Int), (0 : Int),
 (0 : Int) ::
 (0 : Int) ::
 (0 : Int) ::
 (0 : Int) :: (0 : Int) :: (0 : Int) :: (0 : Int) :: (0 : Int) :: ([] : List Int),
 false :: false :: false :: false :: false :: false :: false :: false :: ([] : List Bool)) =
 (step x.fst x.snd.fst.fst x.snd.fst.snd).fst ∧
 false = (step x.fst x.snd.fst.fst x.snd.fst.snd).snd.fst ∧
 (2 : Int) = (step x.fst x.snd.fst.fst x.snd.fst.snd).snd.snd.fst) ∧
 (((2 : Int) != (0 : Int)) = false →
 (x.fst.fst, x.fst.snd.fst, x.fst.snd.snd.fst, x.fst.snd.snd.snd) =
 (step x.fst x.snd.fst.fst x.snd.fst.snd).fst ∧
 false = (step x.fst x.snd.fst.fst x.snd.fst.snd).snd.fst ∧
 (2 : Int) = (step x.fst x.snd.fst.fst x.snd.fst.snd).snd.snd.fst)) ∧
 ((decide (x.snd.fst.snd < (0 : Int)) || decide ((7 : Int) < x.snd.fst.snd)) = false →
 ((x.snd.fst.fst == (1 : Int)) = true → (x.snd.fst.fst == (1 : Int)) = true) ∧
 ((x.snd.fst.fst == (1 : Int)) = true → (x.snd.fst.fst == (1 : Int)) = true) ∧
 ((x.snd.fst.fst == (1 : Int) && decide ((0 : Int) ≤ g.fst)) = true →
 (((6 : Int) != (0 : Int)) = true →
 ((0 : Int), (0 : Int),
 (0 : Int) ::
 (0 : Int) ::
 (0 : Int) ::
 (0 : Int) :: (0 : Int) :: (0 : Int) :: (0 : Int) :: (0 : Int) :: ([] : List Int),
 false ::
 false :: false :: false :: false :: false :: false :: false :: ([] : List Bool)) =
 (step x.fst x.snd.fst.fst x.snd.fst.snd).fst ∧
 false = (step x.fst x.snd.fst.fst x.snd.fst.snd).snd.fst ∧
 (6 : Int) = (step x.fst x.snd.fst.fst x.snd.fst.snd).snd.snd.fst) ∧
 (((6 : Int) != (0 : Int)) = false →
 (x.fst.fst, x.fst.snd.fst, x.fst.snd.snd.fst, x.fst.snd.snd.snd) =
 (step x.fst x.snd.fst.fst x.snd.fst.snd).fst ∧
 false = (step x.fst x.snd.fst.fst x.snd.fst.snd).snd.fst ∧
 (6 : Int) = (step x.fst x.snd.fst.fst x.snd.fst.snd).snd.snd.fst)) ∧
 ((x.snd.fst.fst == (1 : Int) && decide ((0 : Int) ≤ g.fst)) = false →
 ((x.snd.fst.fst == (1 : Int)) = true → (x.snd.fst.fst == (1 : Int)) = true) ∧
 ((x.snd.fst.fst == (1 : Int)) = true → (x.snd.fst.fst == (1 : Int)) = true) ∧
 ((x.snd.fst.fst == (1 : Int)) = true → (x.snd.fst.fst == (1 : Int)) = true) ∧
 ((x.snd.fst.fst == (1 : Int) && x.fst.fst == (1099511627776 : Int)) = true →
 (((4 : Int) != (0 : Int)) = true →
 ((0 : Int), (0 : Int),
 (0 : Int) ::
 (0 : Int) ::
 (0 : Int) ::
 (0 : Int) ::
 (0 : Int) :: (0 : Int) :: (0 : Int) :: (0 : Int) :: ([] : List Int),
 false ::
 false ::
 false :: false :: false :: false :: false :: false :: ([] : List Bool)) =
 (step x.fst x.snd.fst.fst x.snd.fst.snd).fst ∧
 false = (step x.fst x.snd.fst.fst x.snd.fst.snd).snd.fst ∧
 (4 : Int) = (step x.fst x.snd.fst.fst x.snd.fst.snd).snd.snd.fst) ∧
 (((4 : Int) != (0 : Int)) = false →
 (x.fst.fst, x.fst.snd.fst, x.fst.snd.snd.fst, x.fst.snd.snd.snd) =
 (step x.fst x.snd.fst.fst x.snd.fst.snd).fst ∧
 false = (step x.fst x.snd.fst.fst x.snd.fst.snd).snd.fst ∧
 (4 : Int) = (step x.fst x.snd.fst.fst x.snd.fst.snd).snd.snd.fst)) ∧
 ((x.snd.fst.fst == (1 : Int) && x.fst.fst == (1099511627776 : Int)) = false →
 ((x.snd.fst.fst == (1 : Int)) = true →
 ((-9223372036854775808 : Int) ≤ x.fst.fst + (1 : Int) ∧
 x.fst.fst + (1 : Int) ≤ (9223372036854775807 : Int)) ∧
 ((0 : Int) ≤ x.snd.fst.snd ∧ x.snd.fst.snd < (↑(8 : Nat) : Int)) ∧
 (((0 : Int) != (0 : Int)) = true →
 ((0 : Int), (0 : Int),
 (0 : Int) ::
 (0 : Int) ::
 (0 : Int) ::
 (0 : Int) ::
 (0 : Int) ::
 (0 : Int) :: (0 : Int) :: (0 : Int) :: ([] : List Int),
 false ::
 false ::
 false ::
 false :: false :: false :: false :: false :: ([] : List Bool)) =
 (step x.fst x.snd.fst.fst x.snd.fst.snd).fst ∧
 false = (step x.fst x.snd.fst.fst x.snd.fst.snd).snd.fst ∧
 (0 : Int) = (step x.fst x.snd.fst.fst x.snd.fst.snd).snd.snd.fst) ∧
 (((0 : Int) != (0 : Int)) = false →
 (x.fst.fst + (1 : Int), x.fst.snd.fst,
 x.fst.snd.snd.fst.set x.snd.fst.snd.toNat x.fst.fst,
 x.fst.snd.snd.snd) =
 (step x.fst x.snd.fst.fst x.snd.fst.snd).fst ∧
 false = (step x.fst x.snd.fst.fst x.snd.fst.snd).snd.fst ∧
 (0 : Int) = (step x.fst x.snd.fst.fst x.snd.fst.snd).snd.snd.fst)) ∧
 ((x.snd.fst.fst == (1 : Int)) = false →
 ((x.snd.fst.fst == (2 : Int)) = true → (x.snd.fst.fst == (2 : Int)) = true) ∧
 ((x.snd.fst.fst == (2 : Int)) = true → (x.snd.fst.fst == (2 : Int)) = true) ∧
 ((x.snd.fst.fst == (2 : Int) && decide (g.fst < (0 : Int))) = true →
 (((3 : Int) != (0 : Int)) = true →
 ((0 : Int), (0 : Int),
 (0 : Int) ::
 (0 : Int) ::
 (0 : Int) ::
 (0 : Int) ::
 (0 : Int) ::
 (0 : Int) :: (0 : Int) :: (0 : Int) :: ([] : List Int),
 false ::
 false ::
 false ::
 false ::
 false :: false :: false :: false :: ([] : List Bool)) =
 (step x.fst x.snd.fst.fst x.snd.fst.snd).fst ∧
 false = (step x.fst x.snd.fst.fst x.snd.fst.snd).snd.fst ∧
 (3 : Int) = (step x.fst x.snd.fst.fst x.snd.fst.snd).snd.snd.fst) ∧
 (((3 : Int) != (0 : Int)) = false →
 (x.fst.fst, x.fst.snd.fst, x.fst.snd.snd.fst, x.fst.snd.snd.snd) =
 (step x.fst x.snd.fst.fst x.snd.fst.snd).fst ∧
 false = (step x.fst x.snd.fst.fst x.snd.fst.snd).snd.fst ∧
 (3 : Int) = (step x.fst x.snd.fst.fst x.snd.fst.snd).snd.snd.fst)) ∧
 ((x.snd.fst.fst == (2 : Int) && decide (g.fst < (0 : Int))) = false →
 ((x.snd.fst.fst == (3 : Int)) = true →
 (x.snd.fst.fst == (3 : Int)) = true) ∧
 ((x.snd.fst.fst == (3 : Int)) = true →
 ((x.snd.fst.fst == (3 : Int)) = true ∧
 (x.snd.fst.fst == (3 : Int)) = true) ∧
 (0 : Int) ≤ x.snd.fst.snd ∧ x.snd.fst.snd < (↑(8 : Nat) : Int)) ∧
 ((x.snd.fst.fst == (3 : Int)) = true →
 (x.snd.fst.fst == (3 : Int)) = true) ∧
 ((x.snd.fst.fst == (3 : Int)) = true →
 (x.snd.fst.fst == (3 : Int)) = true) ∧
 ((x.snd.fst.fst == (3 : Int)) = true →
 (x.snd.fst.fst == (3 : Int)) = true) ∧
 ((x.snd.fst.fst == (3 : Int) &&
 !x.fst.snd.snd.snd.getD x.snd.fst.snd.toNat false) =
 true →
 (((3 : Int) != (0 : Int)) = true →
 ((0 : Int), (0 : Int),
 (0 : Int) ::
 (0 : Int) ::
 (0 : Int) ::
 (0 : Int) ::
 (0 : Int) ::
 (0 : Int) ::
 (0 : Int) ::
 (0 : Int) :: ([] : List Int),
 false ::
 false ::
 false ::
 false ::
 false ::
 false ::
 false :: false :: ([] : List Bool)) =
 (step x.fst x.snd.fst.fst x.snd.fst.snd).fst ∧
 false =
 (step x.fst x.snd.fst.fst x.snd.fst.snd).snd.fst ∧
 (3 : Int) =
 (step x.fst x.snd.fst.fst
 x.snd.fst.snd).snd.snd.fst) ∧
 (((3 : Int) != (0 : Int)) = false →
 (x.fst.fst, x.fst.snd.fst, x.fst.snd.snd.fst,
 x.fst.snd.snd.snd) =
 (step x.fst x.snd.fst.fst x.snd.fst.snd).fst ∧
 false =
 (step x.fst x.snd.fst.fst x.snd.fst.snd).snd.fst ∧
 (3 : Int) =
 (step x.fst x.snd.fst.fst
 x.snd.fst.snd).snd.snd.fst)) ∧
 ((x.snd.fst.fst == (3 : Int) &&
 !x.fst.snd.snd.snd.getD x.snd.fst.snd.toNat false) =
 false →
 ((x.snd.fst.fst == (2 : Int)) = true →
 ((0 : Int) ≤ x.snd.fst.snd ∧
 x.snd.fst.snd < (↑(8 : Nat) : Int)) ∧
 (((0 : Int) != (0 : Int)) = true →
 ((0 : Int), (0 : Int),
 (0 : Int) ::
 (0 : Int) ::
 (0 : Int) ::
 (0 : Int) ::
 (0 : Int) ::
 (0 : Int) ::
 (0 : Int) ::
 (0 : Int) :: ([] : List Int),
 false ::
 false ::
 false ::
 false ::
 false ::
 false ::
 false ::
 false :: ([] : List Bool)) =
 (step x.fst x.snd.fst.fst x.snd.fst.snd).fst ∧
 false =
 (step x.fst x.snd.fst.fst
 x.snd.fst.snd).snd.fst ∧
 (0 : Int) =
 (step x.fst x.snd.fst.fst
 x.snd.fst.snd).snd.snd.fst) ∧
 (((0 : Int) != (0 : Int)) = false →
 (x.fst.fst, x.fst.snd.fst, x.fst.snd.snd.fst,
 x.fst.snd.snd.snd.set x.snd.fst.snd.toNat
 (g.fst == (0 : Int))) =
 (step x.fst x.snd.fst.fst x.snd.fst.snd).fst ∧
 (g.fst == (0 : Int)) =
 (step x.fst x.snd.fst.fst
 x.snd.fst.snd).snd.fst ∧
 (0 : Int) =
 (step x.fst x.snd.fst.fst
 x.snd.fst.snd).snd.snd.fst)) ∧
 ((x.snd.fst.fst == (2 : Int)) = false →
 ((-9223372036854775808 : Int) ≤
 x.fst.snd.fst + (1 : Int) ∧
 x.fst.snd.fst + (1 : Int) ≤
 (9223372036854775807 : Int)) ∧
 ((0 : Int) ≤ x.snd.fst.snd ∧
 x.snd.fst.snd < (↑(8 : Nat) : Int)) ∧
 ((0 : Int) ≤ x.snd.fst.snd ∧
 x.snd.fst.snd < (↑(8 : Nat) : Int)) ∧
 (((0 : Int) != (0 : Int)) = true →
 ((0 : Int), (0 : Int),
 (0 : Int) ::
 (0 : Int) ::
 (0 : Int) ::
 (0 : Int) ::
 (0 : Int) ::
 (0 : Int) ::
 (0 : Int) ::
 (0 : Int) ::
 ([] : List Int),
 false ::
 false ::
 false ::
 false ::
 false ::
 false ::
 false ::
 false :: ([] : List Bool)) =
 (step x.fst x.snd.fst.fst
 x.snd.fst.snd).fst ∧
 false =
 (step x.fst x.snd.fst.fst
 x.snd.fst.snd).snd.fst ∧
 (0 : Int) =
 (step x.fst x.snd.fst.fst
 x.snd.fst.snd).snd.snd.fst) ∧
 (((0 : Int) != (0 : Int)) = false →
 (x.fst.fst, x.fst.snd.fst + (1 : Int),
 x.fst.snd.snd.fst.set x.snd.fst.snd.toNat
 (-1 : Int),
 x.fst.snd.snd.snd.set x.snd.fst.snd.toNat
 false) =
 (step x.fst x.snd.fst.fst
 x.snd.fst.snd).fst ∧
 false =
 (step x.fst x.snd.fst.fst
 x.snd.fst.snd).snd.fst ∧
 (0 : Int) =
 (step x.fst x.snd.fst.fst
 x.snd.fst.snd).snd.snd.fst)))))))))))

theorem E_fstep_eq (x : HL (cStep : Ctr).as) : vc (fx_fstep x) 1 36 Try.f36 (cStep) x = E_fstep x := by kernel_rfl

def E_steps (x : (Int × Int × List Int × List Bool) × (Int × Int) × Unit) : Prop :=
 Holds True ∧
 Holds True ∧
 Holds True ∧
 Holds True ∧
 ((right (x.fst.fst, x.fst.snd.fst, x.fst.snd.snd.fst, x.fst.snd.snd.snd) ==
 (fq (x.fst.fst, x.fst.snd.fst, x.fst.snd.snd.fst, x.fst.snd.snd.snd)).snd) =
 true →
 (right (x.fst.fst, x.fst.snd.fst, x.fst.snd.snd.fst, x.fst.snd.snd.snd) ==
 (fq (x.fst.fst, x.fst.snd.fst, x.fst.snd.snd.fst, x.fst.snd.snd.snd)).snd) =
 true ∧
 (right (x.fst.fst, x.fst.snd.fst, x.fst.snd.snd.fst, x.fst.snd.snd.snd) ==
 (fq (x.fst.fst, x.fst.snd.fst, x.fst.snd.snd.fst, x.fst.snd.snd.snd)).snd) =
 true) ∧
 ((right (x.fst.fst, x.fst.snd.fst, x.fst.snd.snd.fst, x.fst.snd.snd.snd) ==
 (fq (x.fst.fst, x.fst.snd.fst, x.fst.snd.snd.fst, x.fst.snd.snd.snd)).snd) =
 true →
 (right (x.fst.fst, x.fst.snd.fst, x.fst.snd.snd.fst, x.fst.snd.snd.snd) ==
 (fq (x.fst.fst, x.fst.snd.fst, x.fst.snd.snd.fst, x.fst.snd.snd.snd)).snd) =
 true) ∧
 ((right (x.fst.fst, x.fst.snd.fst, x.fst.snd.snd.fst, x.fst.snd.snd.snd) ==
 (fq (x.fst.fst, x.fst.snd.fst, x.fst.snd.snd.fst, x.fst.snd.snd.snd)).snd &&
 (step (x.fst.fst, x.fst.snd.fst, x.fst.snd.snd.fst, x.fst.snd.snd.snd) x.snd.fst.fst x.snd.fst.snd).snd.snd.fst ==
 (step (x.fst.fst, x.fst.snd.fst, x.fst.snd.snd.fst, x.fst.snd.snd.snd) x.snd.fst.fst x.snd.fst.snd).snd.snd.fst) =
 true →
 (right (x.fst.fst, x.fst.snd.fst, x.fst.snd.snd.fst, x.fst.snd.snd.snd) ==
 (fq (x.fst.fst, x.fst.snd.fst, x.fst.snd.snd.fst, x.fst.snd.snd.snd)).snd &&
 (step (x.fst.fst, x.fst.snd.fst, x.fst.snd.snd.fst, x.fst.snd.snd.snd) x.snd.fst.fst x.snd.fst.snd).snd.snd.fst ==
 (step (x.fst.fst, x.fst.snd.fst, x.fst.snd.snd.fst, x.fst.snd.snd.snd) x.snd.fst.fst x.snd.fst.snd).snd.snd.fst) =
 true ∧
 (right (x.fst.fst, x.fst.snd.fst, x.fst.snd.snd.fst, x.fst.snd.snd.snd) ==
 (fq (x.fst.fst, x.fst.snd.fst, x.fst.snd.snd.fst, x.fst.snd.snd.snd)).snd &&
 (step (x.fst.fst, x.fst.snd.fst, x.fst.snd.snd.fst, x.fst.snd.snd.snd) x.snd.fst.fst x.snd.fst.snd).snd.snd.fst ==
 (step (x.fst.fst, x.fst.snd.fst, x.fst.snd.snd.fst, x.fst.snd.snd.snd) x.snd.fst.fst x.snd.fst.snd).snd.snd.fst) =
 true) ∧
 ((right (x.fst.fst, x.fst.snd.fst, x.fst.snd.snd.fst, x.fst.snd.snd.snd) ==
 (fq (x.fst.fst, x.fst.snd.fst, x.fst.snd.snd.fst, x.fst.snd.snd.snd)).snd &&
 (step (x.fst.fst, x.fst.snd.fst, x.fst.snd.snd.fst, x.fst.snd.snd.snd) x.snd.fst.fst x.snd.fst.snd).snd.snd.fst ==
 (step (x.fst.fst, x.fst.snd.fst, x.fst.snd.snd.fst, x.fst.snd.snd.snd) x.snd.fst.fst x.snd.fst.snd).snd.snd.fst) =
 true →
 (right (x.fst.fst, x.fst.snd.fst, x.fst.snd.snd.fst, x.fst.snd.snd.snd) ==
 (fq (x.fst.fst, x.fst.snd.fst, x.fst.snd.snd.fst, x.fst.snd.snd.snd)).snd &&
 (step (x.fst.fst, x.fst.snd.fst, x.fst.snd.snd.fst, x.fst.snd.snd.snd) x.snd.fst.fst x.snd.fst.snd).snd.snd.fst ==
 (step (x.fst.fst, x.fst.snd.fst, x.fst.snd.snd.fst, x.fst.snd.snd.snd) x.snd.fst.fst x.snd.fst.snd).snd.snd.fst) =
 true) ∧
 ((right (x.fst.fst, x.fst.snd.fst, x.fst.snd.snd.fst, x.fst.snd.snd.snd) ==
 (fq (x.fst.fst, x.fst.snd.fst, x.fst.snd.snd.fst, x.fst.snd.snd.snd)).snd &&
 (step (x.fst.fst, x.fst.snd.fst, x.fst.snd.snd.fst, x.fst.snd.snd.snd) x.snd.fst.fst x.snd.fst.snd).snd.snd.fst ==
 (step (x.fst.fst, x.fst.snd.fst, x.fst.snd.snd.fst, x.fst.snd.snd.snd) x.snd.fst.fst x.snd.fst.snd).snd.snd.fst &&
 (step (x.fst.fst, x.fst.snd.fst, x.fst.snd.snd.fst, x.fst.snd.snd.snd) x.snd.fst.fst x.snd.fst.snd).snd.fst ==
 (step (x.fst.fst, x.fst.snd.fst, x.fst.snd.snd.fst, x.fst.snd.snd.snd) x.snd.fst.fst x.snd.fst.snd).snd.fst) =
 true →
 deq
 ((Ty.int IntKind.i64).pair
 ((Ty.int IntKind.i64).pair ((Ty.arr (8 : Nat) (Ty.int IntKind.i64)).pair (Ty.arr (8 : Nat) Ty.bool))))
 ((step (x.fst.fst, x.fst.snd.fst, x.fst.snd.snd.fst, x.fst.snd.snd.snd) x.snd.fst.fst x.snd.fst.snd).fst.fst,
 (step (x.fst.fst, x.fst.snd.fst, x.fst.snd.snd.fst, x.fst.snd.snd.snd) x.snd.fst.fst x.snd.fst.snd).fst.snd.fst,
 (step (x.fst.fst, x.fst.snd.fst, x.fst.snd.snd.fst, x.fst.snd.snd.snd) x.snd.fst.fst x.snd.fst.snd).fst.snd.snd.fst,
 (step (x.fst.fst, x.fst.snd.fst, x.fst.snd.snd.fst, x.fst.snd.snd.snd) x.snd.fst.fst x.snd.fst.snd).fst.snd.snd.snd)
 ((step (x.fst.fst, x.fst.snd.fst, x.fst.snd.snd.fst, x.fst.snd.snd.snd) x.snd.fst.fst x.snd.fst.snd).fst.fst,
 (step (x.fst.fst, x.fst.snd.fst, x.fst.snd.snd.fst, x.fst.snd.snd.snd) x.snd.fst.fst x.snd.fst.snd).fst.snd.fst,
 (step (x.fst.fst, x.fst.snd.fst, x.fst.snd.snd.fst, x.fst.snd.snd.snd) x.snd.fst.fst x.snd.fst.snd).fst.snd.snd.fst,
 (step (x.fst.fst, x.fst.snd.fst, x.fst.snd.snd.fst, x.fst.snd.snd.snd) x.snd.fst.fst x.snd.fst.snd).fst.snd.snd.snd) =
 true) ∧
 ((right (x.fst.fst, x.fst.snd.fst, x.fst.snd.snd.fst, x.fst.snd.snd.snd) ==
 (fq (x.fst.fst, x.fst.snd.fst, x.fst.snd.snd.fst, x.fst.snd.snd.snd)).snd &&
 (step (x.fst.fst, x.fst.snd.fst, x.fst.snd.snd.fst, x.fst.snd.snd.snd) x.snd.fst.fst x.snd.fst.snd).snd.snd.fst ==
 (step (x.fst.fst, x.fst.snd.fst, x.fst.snd.snd.fst, x.fst.snd.snd.snd) x.snd.fst.fst x.snd.fst.snd).snd.snd.fst &&
 (step (x.fst.fst, x.fst.snd.fst, x.fst.snd.snd.fst, x.fst.snd.snd.snd) x.snd.fst.fst x.snd.fst.snd).snd.fst ==
 (step (x.fst.fst, x.fst.snd.fst, x.fst.snd.snd.fst, x.fst.snd.snd.snd) x.snd.fst.fst x.snd.fst.snd).snd.fst) =
 !true →
 false = true)

theorem E_steps_eq (x : HL (cLaw : Ctr).as) : vc (fx_steps x) 1 8 Try.f8 (cLaw) x = E_steps x := by kernel_rfl

end Go.Proofs.Ytollphjlheabdaa.Ticket
