/-
  The conditions that the executor comes to, written out (by a tool of ours), and that they are the conditions (by the kernel).
-/
import Derived.Test.YtollphjlheabdaaUartpC
namespace Go.Proofs.Ytollphjlheabdaa.Uartp
open Go.Sx
set_option maxRecDepth 100000

def E_clone (x : List Int × Unit) : Prop :=
 ∀ (b : Bool),
 (b = true → x.fst = ([] : List Int)) →
 (b = true → ([] : List Int) = x.fst) ∧
 (b = false →
 (([] : List Int).length + x.fst.length ≤ (9223372036854775807 : Nat) ∧
 (([] : List Int).length + x.fst.length + (([] : List Int).length + x.fst.length) / (4 : Nat) + (192 : Nat)) * (1 : Nat) ≤
 (281474976710656 : Nat)) ∧
 ([] : List Int) ++ x.fst = x.fst)

theorem E_clone_eq (x : HL (cClone : Ctr).as) : vc (fx_clone x) 1 70 Try.f70 (cClone) x = E_clone x := by kernel_rfl

def E_right (x : (List Int × List Int × Int × Bool) × Unit) : Prop :=
 (decide ((↑x.fst.fst.length : Int) ≤ (16 : Int)) = true → decide ((↑x.fst.fst.length : Int) ≤ (16 : Int)) = true) ∧
 (decide ((↑x.fst.fst.length : Int) ≤ (16 : Int)) = true → decide ((↑x.fst.fst.length : Int) ≤ (16 : Int)) = true) ∧
 (decide ((↑x.fst.fst.length : Int) ≤ (16 : Int)) = true → decide ((↑x.fst.fst.length : Int) ≤ (16 : Int)) = true) ∧
 (decide ((↑x.fst.fst.length : Int) ≤ (16 : Int)) = true → decide ((↑x.fst.fst.length : Int) ≤ (16 : Int)) = true) ∧
 ((decide ((↑x.fst.fst.length : Int) ≤ (16 : Int)) && decide ((↑x.fst.snd.fst.length : Int) ≤ (16 : Int))) = true →
 (decide ((↑x.fst.fst.length : Int) ≤ (16 : Int)) && decide ((↑x.fst.snd.fst.length : Int) ≤ (16 : Int))) = true) ∧
 ((decide ((↑x.fst.fst.length : Int) ≤ (16 : Int)) && decide ((↑x.fst.snd.fst.length : Int) ≤ (16 : Int))) = true →
 (decide ((↑x.fst.fst.length : Int) ≤ (16 : Int)) && decide ((↑x.fst.snd.fst.length : Int) ≤ (16 : Int))) = true) ∧
 ((decide ((↑x.fst.fst.length : Int) ≤ (16 : Int)) && decide ((↑x.fst.snd.fst.length : Int) ≤ (16 : Int))) = true →
 (decide ((↑x.fst.fst.length : Int) ≤ (16 : Int)) && decide ((↑x.fst.snd.fst.length : Int) ≤ (16 : Int))) = true) ∧
 ((decide ((↑x.fst.fst.length : Int) ≤ (16 : Int)) && decide ((↑x.fst.snd.fst.length : Int) ≤ (16 : Int)) &&
 decide ((0 : Int) ≤ x.fst.snd.snd.fst)) =
 true →
 (decide ((↑x.fst.fst.length : Int) ≤ (16 : Int)) && decide ((↑x.fst.snd.fst.length : Int) ≤ (16 : Int)) &&
 decide ((0 : Int) ≤ x.fst.snd.snd.fst)) =
 true) ∧
 ((decide ((↑x.fst.fst.length : Int) ≤ (16 : Int)) && decide ((↑x.fst.snd.fst.length : Int) ≤ (16 : Int)) &&
 decide ((0 : Int) ≤ x.fst.snd.snd.fst)) =
 true →
 (decide ((↑x.fst.fst.length : Int) ≤ (16 : Int)) && decide ((↑x.fst.snd.fst.length : Int) ≤ (16 : Int)) &&
 decide ((0 : Int) ≤ x.fst.snd.snd.fst)) =
 true) ∧
 ((decide ((↑x.fst.fst.length : Int) ≤ (16 : Int)) && decide ((↑x.fst.snd.fst.length : Int) ≤ (16 : Int)) &&
 decide ((0 : Int) ≤ x.fst.snd.snd.fst)) =
 true →
 (decide ((↑x.fst.fst.length : Int) ≤ (16 : Int)) && decide ((↑x.fst.snd.fst.length : Int) ≤ (16 : Int)) &&
 decide ((0 : Int) ≤ x.fst.snd.snd.fst)) =
 true) ∧
 ((decide ((↑x.fst.fst.length : Int) ≤ (16 : Int)) && decide ((↑x.fst.snd.fst.length : Int) ≤ (16 : Int)) &&
 decide ((0 : Int) ≤ x.fst.snd.snd.fst) &&
 decide (x.fst.snd.snd.fst ≤ (1099511627776 : Int))) =
 true →
 (decide ((↑x.fst.fst.length : Int) ≤ (16 : Int)) && decide ((↑x.fst.snd.fst.length : Int) ≤ (16 : Int)) &&
 decide ((0 : Int) ≤ x.fst.snd.snd.fst) &&
 decide (x.fst.snd.snd.fst ≤ (1099511627776 : Int))) =
 true) ∧
 ((decide ((↑x.fst.fst.length : Int) ≤ (16 : Int)) && decide ((↑x.fst.snd.fst.length : Int) ≤ (16 : Int)) &&
 decide ((0 : Int) ≤ x.fst.snd.snd.fst) &&
 decide (x.fst.snd.snd.fst ≤ (1099511627776 : Int))) =
 true →
 (decide ((↑x.fst.fst.length : Int) ≤ (16 : Int)) && decide ((↑x.fst.snd.fst.length : Int) ≤ (16 : Int)) &&
 decide ((0 : Int) ≤ x.fst.snd.snd.fst) &&
 decide (x.fst.snd.snd.fst ≤ (1099511627776 : Int))) =
 true) ∧
 ((decide ((↑x.fst.fst.length : Int) ≤ (16 : Int)) && decide ((↑x.fst.snd.fst.length : Int) ≤ (16 : Int)) &&
 decide ((0 : Int) ≤ x.fst.snd.snd.fst) &&
 decide (x.fst.snd.snd.fst ≤ (1099511627776 : Int))) =
 true →
 (decide ((↑x.fst.fst.length : Int) ≤ (16 : Int)) && decide ((↑x.fst.snd.fst.length : Int) ≤ (16 : Int)) &&
 decide ((0 : Int) ≤ x.fst.snd.snd.fst) &&
 decide (x.fst.snd.snd.fst ≤ (1099511627776 : Int))) =
 true) ∧
 ((decide ((↑x.fst.fst.length : Int) ≤ (16 : Int)) && decide ((↑x.fst.snd.fst.length : Int) ≤ (16 : Int)) &&
 decide ((0 : Int) ≤ x.fst.snd.snd.fst) &&
 decide (x.fst.snd.snd.fst ≤ (1099511627776 : Int))) =
 true →
 (decide ((↑x.fst.fst.length : Int) ≤ (16 : Int)) && decide ((↑x.fst.snd.fst.length : Int) ≤ (16 : Int)) &&
 decide ((0 : Int) ≤ x.fst.snd.snd.fst) &&
 decide (x.fst.snd.snd.fst ≤ (1099511627776 : Int))) =
 true) ∧
 ((decide ((↑x.fst.fst.length : Int) ≤ (16 : Int)) && decide ((↑x.fst.snd.fst.length : Int) ≤ (16 : Int)) &&
 decide ((0 : Int) ≤ x.fst.snd.snd.fst) &&
 decide (x.fst.snd.snd.fst ≤ (1099511627776 : Int))) =
 true →
 (decide ((↑x.fst.fst.length : Int) ≤ (16 : Int)) && decide ((↑x.fst.snd.fst.length : Int) ≤ (16 : Int)) &&
 decide ((0 : Int) ≤ x.fst.snd.snd.fst) &&
 decide (x.fst.snd.snd.fst ≤ (1099511627776 : Int))) =
 true ∧
 (decide ((↑x.fst.fst.length : Int) ≤ (16 : Int)) && decide ((↑x.fst.snd.fst.length : Int) ≤ (16 : Int)) &&
 decide ((0 : Int) ≤ x.fst.snd.snd.fst) &&
 decide (x.fst.snd.snd.fst ≤ (1099511627776 : Int))) =
 true) ∧
 ((decide ((↑x.fst.fst.length : Int) ≤ (16 : Int)) && decide ((↑x.fst.snd.fst.length : Int) ≤ (16 : Int)) &&
 decide ((0 : Int) ≤ x.fst.snd.snd.fst) &&
 decide (x.fst.snd.snd.fst ≤ (1099511627776 : Int))) =
 true →
 (decide ((↑x.fst.fst.length : Int) ≤ (16 : Int)) && decide ((↑x.fst.snd.fst.length : Int) ≤ (16 : Int)) &&
 decide ((0 : Int) ≤ x.fst.snd.snd.fst) &&
 decide (x.fst.snd.snd.fst ≤ (1099511627776 : Int))) =
 true) ∧
 (decide ((↑x.fst.fst.length : Int) ≤ (16 : Int)) && decide ((↑x.fst.snd.fst.length : Int) ≤ (16 : Int)) &&
 decide ((0 : Int) ≤ x.fst.snd.snd.fst) &&
 decide (x.fst.snd.snd.fst ≤ (1099511627776 : Int)) &&
 x.fst.snd.snd.snd == decide ((0 : Int) < (↑x.fst.fst.length : Int))) =
 right x.fst

theorem E_right_eq (x : HL (cRight : Ctr).as) : vc (fx_right x) 1 29 Try.f29 (cRight) x = E_right x := by kernel_rfl

def E_pright (x : (List Int × List Int × Int × Bool) × Unit) : Prop :=
 (decide ((↑x.fst.fst.length : Int) < (17 : Int)) = true → decide ((↑x.fst.fst.length : Int) < (17 : Int)) = true) ∧
 (decide ((↑x.fst.fst.length : Int) < (17 : Int)) = true → decide ((↑x.fst.fst.length : Int) < (17 : Int)) = true) ∧
 (decide ((↑x.fst.fst.length : Int) < (17 : Int)) = true → decide ((↑x.fst.fst.length : Int) < (17 : Int)) = true) ∧
 (decide ((↑x.fst.fst.length : Int) < (17 : Int)) = true → decide ((↑x.fst.fst.length : Int) < (17 : Int)) = true) ∧
 ((decide ((↑x.fst.fst.length : Int) < (17 : Int)) && decide ((↑x.fst.snd.fst.length : Int) < (17 : Int))) = true →
 (decide ((↑x.fst.fst.length : Int) < (17 : Int)) && decide ((↑x.fst.snd.fst.length : Int) < (17 : Int))) = true) ∧
 ((decide ((↑x.fst.fst.length : Int) < (17 : Int)) && decide ((↑x.fst.snd.fst.length : Int) < (17 : Int))) = true →
 (decide ((↑x.fst.fst.length : Int) < (17 : Int)) && decide ((↑x.fst.snd.fst.length : Int) < (17 : Int))) = true) ∧
 ((decide ((↑x.fst.fst.length : Int) < (17 : Int)) && decide ((↑x.fst.snd.fst.length : Int) < (17 : Int))) = true →
 (decide ((↑x.fst.fst.length : Int) < (17 : Int)) && decide ((↑x.fst.snd.fst.length : Int) < (17 : Int))) = true) ∧
 ((decide ((↑x.fst.fst.length : Int) < (17 : Int)) && decide ((↑x.fst.snd.fst.length : Int) < (17 : Int)) &&
 decide ((0 : Int) ≤ x.fst.snd.snd.fst)) =
 true →
 (decide ((↑x.fst.fst.length : Int) < (17 : Int)) && decide ((↑x.fst.snd.fst.length : Int) < (17 : Int)) &&
 decide ((0 : Int) ≤ x.fst.snd.snd.fst)) =
 true) ∧
 ((decide ((↑x.fst.fst.length : Int) < (17 : Int)) && decide ((↑x.fst.snd.fst.length : Int) < (17 : Int)) &&
 decide ((0 : Int) ≤ x.fst.snd.snd.fst)) =
 true →
 (decide ((↑x.fst.fst.length : Int) < (17 : Int)) && decide ((↑x.fst.snd.fst.length : Int) < (17 : Int)) &&
 decide ((0 : Int) ≤ x.fst.snd.snd.fst)) =
 true) ∧
 ((decide ((↑x.fst.fst.length : Int) < (17 : Int)) && decide ((↑x.fst.snd.fst.length : Int) < (17 : Int)) &&
 decide ((0 : Int) ≤ x.fst.snd.snd.fst)) =
 true →
 (decide ((↑x.fst.fst.length : Int) < (17 : Int)) && decide ((↑x.fst.snd.fst.length : Int) < (17 : Int)) &&
 decide ((0 : Int) ≤ x.fst.snd.snd.fst)) =
 true) ∧
 ((decide ((↑x.fst.fst.length : Int) < (17 : Int)) && decide ((↑x.fst.snd.fst.length : Int) < (17 : Int)) &&
 decide ((0 : Int) ≤ x.fst.snd.snd.fst) &&
 decide (x.fst.snd.snd.fst ≤ (1099511627776 : Int))) =
 true →
 (decide ((↑x.fst.fst.length : Int) < (17 : Int)) && decide ((↑x.fst.snd.fst.length : Int) < (17 : Int)) &&
 decide ((0 : Int) ≤ x.fst.snd.snd.fst) &&
 decide (x.fst.snd.snd.fst ≤ (1099511627776 : Int))) =
 true) ∧
 ((decide ((↑x.fst.fst.length : Int) < (17 : Int)) && decide ((↑x.fst.snd.fst.length : Int) < (17 : Int)) &&
 decide ((0 : Int) ≤ x.fst.snd.snd.fst) &&
 decide (x.fst.snd.snd.fst ≤ (1099511627776 : Int))) =
 true →
 (decide ((↑x.fst.fst.length : Int) < (17 : Int)) && decide ((↑x.fst.snd.fst.length : Int) < (17 : Int)) &&
 decide ((0 : Int) ≤ x.fst.snd.snd.fst) &&
 decide (x.fst.snd.snd.fst ≤ (1099511627776 : Int))) =
 true) ∧
 ((decide ((↑x.fst.fst.length : Int) < (17 : Int)) && decide ((↑x.fst.snd.fst.length : Int) < (17 : Int)) &&
 decide ((0 : Int) ≤ x.fst.snd.snd.fst) &&
 decide (x.fst.snd.snd.fst ≤ (1099511627776 : Int))) =
 true →
 (decide ((↑x.fst.fst.length : Int) < (17 : Int)) && decide ((↑x.fst.snd.fst.length : Int) < (17 : Int)) &&
 decide ((0 : Int) ≤ x.fst.snd.snd.fst) &&
 decide (x.fst.snd.snd.fst ≤ (1099511627776 : Int))) =
 true) ∧
 ((decide ((↑x.fst.fst.length : Int) < (17 : Int)) && decide ((↑x.fst.snd.fst.length : Int) < (17 : Int)) &&
 decide ((0 : Int) ≤ x.fst.snd.snd.fst) &&
 decide (x.fst.snd.snd.fst ≤ (1099511627776 : Int))) =
 true →
 (decide ((↑x.fst.fst.length : Int) < (17 : Int)) && decide ((↑x.fst.snd.fst.length : Int) < (17 : Int)) &&
 decide ((0 : Int) ≤ x.fst.snd.snd.fst) &&
 decide (x.fst.snd.snd.fst ≤ (1099511627776 : Int))) =
 true) ∧
 ((decide ((↑x.fst.fst.length : Int) < (17 : Int)) && decide ((↑x.fst.snd.fst.length : Int) < (17 : Int)) &&
 decide ((0 : Int) ≤ x.fst.snd.snd.fst) &&
 decide (x.fst.snd.snd.fst ≤ (1099511627776 : Int))) =
 true →
 (decide ((↑x.fst.fst.length : Int) < (17 : Int)) && decide ((↑x.fst.snd.fst.length : Int) < (17 : Int)) &&
 decide ((0 : Int) ≤ x.fst.snd.snd.fst) &&
 decide (x.fst.snd.snd.fst ≤ (1099511627776 : Int))) =
 true ∧
 (decide ((↑x.fst.fst.length : Int) < (17 : Int)) && decide ((↑x.fst.snd.fst.length : Int) < (17 : Int)) &&
 decide ((0 : Int) ≤ x.fst.snd.snd.fst) &&
 decide (x.fst.snd.snd.fst ≤ (1099511627776 : Int))) =
 true) ∧
 ((decide ((↑x.fst.fst.length : Int) < (17 : Int)) && decide ((↑x.fst.snd.fst.length : Int) < (17 : Int)) &&
 decide ((0 : Int) ≤ x.fst.snd.snd.fst) &&
 decide (x.fst.snd.snd.fst ≤ (1099511627776 : Int))) =
 true →
 (decide ((↑x.fst.fst.length : Int) < (17 : Int)) && decide ((↑x.fst.snd.fst.length : Int) < (17 : Int)) &&
 decide ((0 : Int) ≤ x.fst.snd.snd.fst) &&
 decide (x.fst.snd.snd.fst ≤ (1099511627776 : Int))) =
 true) ∧
 (decide ((↑x.fst.fst.length : Int) < (17 : Int)) && decide ((↑x.fst.snd.fst.length : Int) < (17 : Int)) &&
 decide ((0 : Int) ≤ x.fst.snd.snd.fst) &&
 decide (x.fst.snd.snd.fst ≤ (1099511627776 : Int)) &&
 x.fst.snd.snd.snd == ((↑x.fst.fst.length : Int) != (0 : Int))) =
 right x.fst

theorem E_pright_eq (x : HL (cRight : Ctr).as) : vc (fx_pright x) 1 30 Try.f30 (cRight) x = E_pright x := by kernel_rfl

def E_step (x : (List Int × List Int × Int × Bool) × (Int × Int) × Unit) : Prop :=
 Holds True ∧
 ((!right (x.fst.fst, x.fst.snd.fst, x.fst.snd.snd.fst, x.fst.snd.snd.snd)) = true →
 (([] : List Int), ([] : List Int), (0 : Int), false) = (step x.fst x.snd.fst.fst x.snd.fst.snd).fst ∧
 (0 : Int) = (step x.fst x.snd.fst.fst x.snd.fst.snd).snd.fst ∧ (1 : Int) = (step x.fst x.snd.fst.fst x.snd.fst.snd).snd.snd.fst) ∧
 ((!right (x.fst.fst, x.fst.snd.fst, x.fst.snd.snd.fst, x.fst.snd.snd.snd)) = false →
 Holds (x.fst.fst.length ≤ (140737488355328 : Nat)) ∧
 Holds (x.fst.snd.fst.length ≤ (140737488355328 : Nat)) ∧
 ((x.snd.fst.fst == (1 : Int)) = true →
 (decide ((↑x.fst.fst.length : Int) < (16 : Int)) = true →
 (x.fst.fst.length + (((0 : Int) :: ([] : List Int)).set (0 : Nat) x.snd.fst.snd).length ≤ (9223372036854775807 : Nat) ∧
 (x.fst.fst.length + (((0 : Int) :: ([] : List Int)).set (0 : Nat) x.snd.fst.snd).length +
 (x.fst.fst.length + (((0 : Int) :: ([] : List Int)).set (0 : Nat) x.snd.fst.snd).length) / (4 : Nat) +
 (192 : Nat)) *
 (1 : Nat) ≤
 (281474976710656 : Nat)) ∧
 (x.fst.fst ++ ((0 : Int) :: ([] : List Int)).set (0 : Nat) x.snd.fst.snd, x.fst.snd.fst, x.fst.snd.snd.fst,
 decide ((0 : Int) < (↑(x.fst.fst ++ ((0 : Int) :: ([] : List Int)).set (0 : Nat) x.snd.fst.snd).length : Int))) =
 (step x.fst x.snd.fst.fst x.snd.fst.snd).fst ∧
 (0 : Int) = (step x.fst x.snd.fst.fst x.snd.fst.snd).snd.fst ∧
 (0 : Int) = (step x.fst x.snd.fst.fst x.snd.fst.snd).snd.snd.fst) ∧
 (decide ((↑x.fst.fst.length : Int) < (16 : Int)) = false →
 ((x.fst.snd.snd.fst == (1099511627776 : Int)) = true →
 (([] : List Int), ([] : List Int), (0 : Int), false) = (step x.fst x.snd.fst.fst x.snd.fst.snd).fst ∧
 (0 : Int) = (step x.fst x.snd.fst.fst x.snd.fst.snd).snd.fst ∧
 (4 : Int) = (step x.fst x.snd.fst.fst x.snd.fst.snd).snd.snd.fst) ∧
 ((x.fst.snd.snd.fst == (1099511627776 : Int)) = false →
 ((-9223372036854775808 : Int) ≤ x.fst.snd.snd.fst + (1 : Int) ∧ x.fst.snd.snd.fst + (1 : Int) ≤ (9223372036854775807 : Int)) ∧
 (x.fst.fst, x.fst.snd.fst, x.fst.snd.snd.fst + (1 : Int), decide ((0 : Int) < (↑x.fst.fst.length : Int))) =
 (step x.fst x.snd.fst.fst x.snd.fst.snd).fst ∧
 (0 : Int) = (step x.fst x.snd.fst.fst x.snd.fst.snd).snd.fst ∧
 (0 : Int) = (step x.fst x.snd.fst.fst x.snd.fst.snd).snd.snd.fst))) ∧
 ((x.snd.fst.fst == (1 : Int)) = false →
 ((x.snd.fst.fst == (2 : Int)) = true →
 (((↑x.fst.fst.length : Int) == (0 : Int)) = true →
 (([] : List Int), ([] : List Int), (0 : Int), false) = (step x.fst x.snd.fst.fst x.snd.fst.snd).fst ∧
 (0 : Int) = (step x.fst x.snd.fst.fst x.snd.fst.snd).snd.fst ∧
 (3 : Int) = (step x.fst x.snd.fst.fst x.snd.fst.snd).snd.snd.fst) ∧
 (((↑x.fst.fst.length : Int) == (0 : Int)) = false →
 ((0 : Int) ≤ (0 : Int) ∧ (0 : Int) < (↑x.fst.fst.length : Int)) ∧
 (((0 : Int) ≤ (1 : Int) ∧ (1 : Int) ≤ (↑x.fst.fst.length : Int)) ∧ (↑x.fst.fst.length : Int) ≤ (↑x.fst.fst.length : Int)) ∧
 (List.drop (Int.toNat (1 : Int)) (List.take (↑x.fst.fst.length : Int).toNat x.fst.fst), x.fst.snd.fst, x.fst.snd.snd.fst,
 decide
 ((0 : Int) <
 (↑(List.drop (Int.toNat (1 : Int)) (List.take (↑x.fst.fst.length : Int).toNat x.fst.fst)).length : Int))) =
 (step x.fst x.snd.fst.fst x.snd.fst.snd).fst ∧
 x.fst.fst.getD (Int.toNat (0 : Int)) (0 : Int) = (step x.fst x.snd.fst.fst x.snd.fst.snd).snd.fst ∧
 (0 : Int) = (step x.fst x.snd.fst.fst x.snd.fst.snd).snd.snd.fst)) ∧
 ((x.snd.fst.fst == (2 : Int)) = false →
 ((x.snd.fst.fst == (3 : Int)) = true →
 (((↑x.fst.snd.fst.length : Int) == (16 : Int)) = true →
 (([] : List Int), ([] : List Int), (0 : Int), false) = (step x.fst x.snd.fst.fst x.snd.fst.snd).fst ∧
 (0 : Int) = (step x.fst x.snd.fst.fst x.snd.fst.snd).snd.fst ∧
 (7 : Int) = (step x.fst x.snd.fst.fst x.snd.fst.snd).snd.snd.fst) ∧
 (((↑x.fst.snd.fst.length : Int) == (16 : Int)) = false →
 (x.fst.snd.fst.length + (((0 : Int) :: ([] : List Int)).set (0 : Nat) x.snd.fst.snd).length ≤ (9223372036854775807 : Nat) ∧
 (x.fst.snd.fst.length + (((0 : Int) :: ([] : List Int)).set (0 : Nat) x.snd.fst.snd).length +
 (x.fst.snd.fst.length + (((0 : Int) :: ([] : List Int)).set (0 : Nat) x.snd.fst.snd).length) / (4 : Nat) +
 (192 : Nat)) *
 (1 : Nat) ≤
 (281474976710656 : Nat)) ∧
 (x.fst.fst, x.fst.snd.fst ++ ((0 : Int) :: ([] : List Int)).set (0 : Nat) x.snd.fst.snd, x.fst.snd.snd.fst,
 decide ((0 : Int) < (↑x.fst.fst.length : Int))) =
 (step x.fst x.snd.fst.fst x.snd.fst.snd).fst ∧
 (0 : Int) = (step x.fst x.snd.fst.fst x.snd.fst.snd).snd.fst ∧
 (0 : Int) = (step x.fst x.snd.fst.fst x.snd.fst.snd).snd.snd.fst)) ∧
 ((x.snd.fst.fst == (3 : Int)) = false →
 ((x.snd.fst.fst == (4 : Int)) = true →
 (((↑x.fst.snd.fst.length : Int) == (0 : Int)) = true →
 (([] : List Int), ([] : List Int), (0 : Int), false) = (step x.fst x.snd.fst.fst x.snd.fst.snd).fst ∧
 (0 : Int) = (step x.fst x.snd.fst.fst x.snd.fst.snd).snd.fst ∧
 (3 : Int) = (step x.fst x.snd.fst.fst x.snd.fst.snd).snd.snd.fst) ∧
 (((↑x.fst.snd.fst.length : Int) == (0 : Int)) = false →
 ((0 : Int) ≤ (0 : Int) ∧ (0 : Int) < (↑x.fst.snd.fst.length : Int)) ∧
 (((0 : Int) ≤ (1 : Int) ∧ (1 : Int) ≤ (↑x.fst.snd.fst.length : Int)) ∧
 (↑x.fst.snd.fst.length : Int) ≤ (↑x.fst.snd.fst.length : Int)) ∧
 (x.fst.fst, List.drop (Int.toNat (1 : Int)) (List.take (↑x.fst.snd.fst.length : Int).toNat x.fst.snd.fst),
 x.fst.snd.snd.fst, decide ((0 : Int) < (↑x.fst.fst.length : Int))) =
 (step x.fst x.snd.fst.fst x.snd.fst.snd).fst ∧
 x.fst.snd.fst.getD (Int.toNat (0 : Int)) (0 : Int) = (step x.fst x.snd.fst.fst x.snd.fst.snd).snd.fst ∧
 (0 : Int) = (step x.fst x.snd.fst.fst x.snd.fst.snd).snd.snd.fst)) ∧
 ((x.snd.fst.fst == (4 : Int)) = false →
 (([] : List Int), ([] : List Int), (0 : Int), false) = (step x.fst x.snd.fst.fst x.snd.fst.snd).fst ∧
 (0 : Int) = (step x.fst x.snd.fst.fst x.snd.fst.snd).snd.fst ∧
 (5 : Int) = (step x.fst x.snd.fst.fst x.snd.fst.snd).snd.snd.fst)))))

theorem E_step_eq (x : HL (cStep : Ctr).as) : vc (fx_step x) 2 27 Try.f27 (cStep) x = E_step x := by kernel_rfl

def E_pstep (x : (List Int × List Int × Int × Bool) × (Int × Int) × Unit) : Prop :=
 Holds True ∧
 ((!right (x.fst.fst, x.fst.snd.fst, x.fst.snd.snd.fst, x.fst.snd.snd.snd)) = true →
 (([] : List Int), ([] : List Int), (0 : Int), false) = (step x.fst x.snd.fst.fst x.snd.fst.snd).fst ∧
 (0 : Int) = (step x.fst x.snd.fst.fst x.snd.fst.snd).snd.fst ∧ (1 : Int) = (step x.fst x.snd.fst.fst x.snd.fst.snd).snd.snd.fst) ∧
 ((!right (x.fst.fst, x.fst.snd.fst, x.fst.snd.snd.fst, x.fst.snd.snd.snd)) = false →
 (((x.snd.fst.fst == (1 : Int)) = true → (x.snd.fst.fst == (1 : Int)) = true) ∧
 ((x.snd.fst.fst == (1 : Int)) = true → (x.snd.fst.fst == (1 : Int)) = true) ∧
 ((x.snd.fst.fst == (1 : Int)) = true → (x.snd.fst.fst == (1 : Int)) = true) ∧
 ((x.snd.fst.fst == (1 : Int) && decide ((↑x.fst.fst.length : Int) < (16 : Int))) = true →
 x.fst.fst.length + (((0 : Int) :: ([] : List Int)).set (0 : Nat) x.snd.fst.snd).length ≤ (9223372036854775807 : Nat) ∧
 ((step x.fst x.snd.fst.fst x.snd.fst.snd =
 if (0 : Int) = (0 : Int) then
 fin (x.fst.fst ++ ((0 : Int) :: ([] : List Int)).set (0 : Nat) x.snd.fst.snd) x.fst.snd.fst x.fst.snd.snd.fst (0 : Int)
 else bad (0 : Int)) ∧
 True) ∧
 (x.fst.fst ++ ((0 : Int) :: ([] : List Int)).set (0 : Nat) x.snd.fst.snd =
 x.fst.fst ++ ((0 : Int) :: ([] : List Int)).set (0 : Nat) x.snd.fst.snd ∧
 x.fst.snd.fst = x.fst.snd.fst ∧
 x.fst.snd.snd.fst = x.fst.snd.snd.fst ∧ (0 : Int) = (0 : Int) ∧ (0 : Int) = (0 : Int) ∧ (True ∧ True) ∧ True) ∧
 ((Value.slice none (0 : Nat) (0 : Nat) = Value.slice none (0 : Nat) (0 : Nat) ∧
 Value.slice none (0 : Nat) (0 : Nat) = Value.slice none (0 : Nat) (0 : Nat) ∧
 (0 : Int) = (0 : Int) ∧ false = false ∧ True) ∧
 True) ∧
 True) ∧
 ((x.snd.fst.fst == (1 : Int) && decide ((↑x.fst.fst.length : Int) < (16 : Int))) = false →
 ((x.snd.fst.fst == (1 : Int)) = true → (x.snd.fst.fst == (1 : Int)) = true) ∧
 ((x.snd.fst.fst == (1 : Int)) = true → (x.snd.fst.fst == (1 : Int)) = true) ∧
 ((x.snd.fst.fst == (1 : Int) && x.fst.snd.snd.fst == (1099511627776 : Int)) = true →
 ((step x.fst x.snd.fst.fst x.snd.fst.snd =
 if (4 : Int) = (0 : Int) then fin x.fst.fst x.fst.snd.fst x.fst.snd.snd.fst (0 : Int) else bad (4 : Int)) ∧
 True) ∧
 (x.fst.fst = x.fst.fst ∧
 x.fst.snd.fst = x.fst.snd.fst ∧
 x.fst.snd.snd.fst = x.fst.snd.snd.fst ∧ (0 : Int) = (0 : Int) ∧ (4 : Int) = (4 : Int) ∧ (True ∧ True) ∧ True) ∧
 ((Value.slice none (0 : Nat) (0 : Nat) = Value.slice none (0 : Nat) (0 : Nat) ∧
 Value.slice none (0 : Nat) (0 : Nat) = Value.slice none (0 : Nat) (0 : Nat) ∧
 (0 : Int) = (0 : Int) ∧ false = false ∧ True) ∧
 True) ∧
 True) ∧
 ((x.snd.fst.fst == (1 : Int) && x.fst.snd.snd.fst == (1099511627776 : Int)) = false →
 ((x.snd.fst.fst == (1 : Int)) = true →
 ((-9223372036854775808 : Int) ≤ x.fst.snd.snd.fst + (1 : Int) ∧
 x.fst.snd.snd.fst + (1 : Int) ≤ (9223372036854775807 : Int)) ∧
 ((step x.fst x.snd.fst.fst x.snd.fst.snd =
 if (0 : Int) = (0 : Int) then fin x.fst.fst x.fst.snd.fst (x.fst.snd.snd.fst + (1 : Int)) (0 : Int)
 else bad (0 : Int)) ∧
 True) ∧
 (x.fst.fst = x.fst.fst ∧
 x.fst.snd.fst = x.fst.snd.fst ∧
 x.fst.snd.snd.fst + (1 : Int) = x.fst.snd.snd.fst + (1 : Int) ∧
 (0 : Int) = (0 : Int) ∧ (0 : Int) = (0 : Int) ∧ (True ∧ True) ∧ True) ∧
 ((Value.slice none (0 : Nat) (0 : Nat) = Value.slice none (0 : Nat) (0 : Nat) ∧
 Value.slice none (0 : Nat) (0 : Nat) = Value.slice none (0 : Nat) (0 : Nat) ∧
 (0 : Int) = (0 : Int) ∧ false = false ∧ True) ∧
 True) ∧
 True) ∧
 ((x.snd.fst.fst == (1 : Int)) = false →
 ((x.snd.fst.fst == (2 : Int)) = true → (x.snd.fst.fst == (2 : Int)) = true) ∧
 ((x.snd.fst.fst == (2 : Int)) = true → (x.snd.fst.fst == (2 : Int)) = true) ∧
 ((x.snd.fst.fst == (2 : Int) && decide (x.fst.fst = ([] : List Int))) = true →
 ((step x.fst x.snd.fst.fst x.snd.fst.snd =
 if (3 : Int) = (0 : Int) then fin x.fst.fst x.fst.snd.fst x.fst.snd.snd.fst (0 : Int)
 else bad (3 : Int)) ∧
 True) ∧
 (x.fst.fst = x.fst.fst ∧
 x.fst.snd.fst = x.fst.snd.fst ∧
 x.fst.snd.snd.fst = x.fst.snd.snd.fst ∧
 (0 : Int) = (0 : Int) ∧ (3 : Int) = (3 : Int) ∧ (True ∧ True) ∧ True) ∧
 ((Value.slice none (0 : Nat) (0 : Nat) = Value.slice none (0 : Nat) (0 : Nat) ∧
 Value.slice none (0 : Nat) (0 : Nat) = Value.slice none (0 : Nat) (0 : Nat) ∧
 (0 : Int) = (0 : Int) ∧ false = false ∧ True) ∧
 True) ∧
 True) ∧
 ((x.snd.fst.fst == (2 : Int) && decide (x.fst.fst = ([] : List Int))) = false →
 ((x.snd.fst.fst == (4 : Int)) = true → (x.snd.fst.fst == (4 : Int)) = true) ∧
 ((x.snd.fst.fst == (4 : Int)) = true → (x.snd.fst.fst == (4 : Int)) = true) ∧
 ((x.snd.fst.fst == (4 : Int) && decide (x.fst.snd.fst = ([] : List Int))) = true →
 ((step x.fst x.snd.fst.fst x.snd.fst.snd =
 if (3 : Int) = (0 : Int) then fin x.fst.fst x.fst.snd.fst x.fst.snd.snd.fst (0 : Int)
 else bad (3 : Int)) ∧
 True) ∧
 (x.fst.fst = x.fst.fst ∧
 x.fst.snd.fst = x.fst.snd.fst ∧
 x.fst.snd.snd.fst = x.fst.snd.snd.fst ∧
 (0 : Int) = (0 : Int) ∧ (3 : Int) = (3 : Int) ∧ (True ∧ True) ∧ True) ∧
 ((Value.slice none (0 : Nat) (0 : Nat) = Value.slice none (0 : Nat) (0 : Nat) ∧
 Value.slice none (0 : Nat) (0 : Nat) = Value.slice none (0 : Nat) (0 : Nat) ∧
 (0 : Int) = (0 : Int) ∧ false = false ∧ True) ∧
 True) ∧
 True) ∧
 ((x.snd.fst.fst == (4 : Int) && decide (x.fst.snd.fst = ([] : List Int))) = false →
 ((x.snd.fst.fst == (2 : Int)) = true →
 ((0 : Int) ≤ (0 : Int) ∧ (0 : Int) < (↑x.fst.fst.length : Int)) ∧
 (((0 : Int) ≤ (1 : Int) ∧ (1 : Int) ≤ (↑x.fst.fst.length : Int)) ∧
 (↑x.fst.fst.length : Int) ≤ (↑x.fst.fst.length : Int)) ∧
 ((step x.fst x.snd.fst.fst x.snd.fst.snd =
 if (0 : Int) = (0 : Int) then
 fin
 (List.drop (Int.toNat (1 : Int))
 (List.take (↑x.fst.fst.length : Int).toNat x.fst.fst))
 x.fst.snd.fst x.fst.snd.snd.fst (x.fst.fst.getD (Int.toNat (0 : Int)) (0 : Int))
 else bad (0 : Int)) ∧
 True) ∧
 (List.drop (Int.toNat (1 : Int)) (List.take (↑x.fst.fst.length : Int).toNat x.fst.fst) =
 List.drop (Int.toNat (1 : Int)) (List.take (↑x.fst.fst.length : Int).toNat x.fst.fst) ∧
 x.fst.snd.fst = x.fst.snd.fst ∧
 x.fst.snd.snd.fst = x.fst.snd.snd.fst ∧
 x.fst.fst.getD (Int.toNat (0 : Int)) (0 : Int) =
 x.fst.fst.getD (Int.toNat (0 : Int)) (0 : Int) ∧
 (0 : Int) = (0 : Int) ∧ (True ∧ True) ∧ True) ∧
 ((Value.slice none (0 : Nat) (0 : Nat) = Value.slice none (0 : Nat) (0 : Nat) ∧
 Value.slice none (0 : Nat) (0 : Nat) = Value.slice none (0 : Nat) (0 : Nat) ∧
 (0 : Int) = (0 : Int) ∧ false = false ∧ True) ∧
 True) ∧
 True) ∧
 ((x.snd.fst.fst == (2 : Int)) = false →
 ((x.snd.fst.fst == (4 : Int)) = true →
 ((0 : Int) ≤ (0 : Int) ∧ (0 : Int) < (↑x.fst.snd.fst.length : Int)) ∧
 (((0 : Int) ≤ (1 : Int) ∧ (1 : Int) ≤ (↑x.fst.snd.fst.length : Int)) ∧
 (↑x.fst.snd.fst.length : Int) ≤ (↑x.fst.snd.fst.length : Int)) ∧
 ((step x.fst x.snd.fst.fst x.snd.fst.snd =
 if (0 : Int) = (0 : Int) then
 fin x.fst.fst
 (List.drop (Int.toNat (1 : Int))
 (List.take (↑x.fst.snd.fst.length : Int).toNat x.fst.snd.fst))
 x.fst.snd.snd.fst (x.fst.snd.fst.getD (Int.toNat (0 : Int)) (0 : Int))
 else bad (0 : Int)) ∧
 True) ∧
 (x.fst.fst = x.fst.fst ∧
 List.drop (Int.toNat (1 : Int))
 (List.take (↑x.fst.snd.fst.length : Int).toNat x.fst.snd.fst) =
 List.drop (Int.toNat (1 : Int))
 (List.take (↑x.fst.snd.fst.length : Int).toNat x.fst.snd.fst) ∧
 x.fst.snd.snd.fst = x.fst.snd.snd.fst ∧
 x.fst.snd.fst.getD (Int.toNat (0 : Int)) (0 : Int) =
 x.fst.snd.fst.getD (Int.toNat (0 : Int)) (0 : Int) ∧
 (0 : Int) = (0 : Int) ∧ (True ∧ True) ∧ True) ∧
 ((Value.slice none (0 : Nat) (0 : Nat) = Value.slice none (0 : Nat) (0 : Nat) ∧
 Value.slice none (0 : Nat) (0 : Nat) = Value.slice none (0 : Nat) (0 : Nat) ∧
 (0 : Int) = (0 : Int) ∧ false = false ∧ True) ∧
 True) ∧
 True) ∧
 ((x.snd.fst.fst == (4 : Int)) = false →
 ((x.snd.fst.fst == (3 : Int)) = true → (x.snd.fst.fst == (3 : Int)) = true) ∧
 ((x.snd.fst.fst == (3 : Int)) = true → (x.snd.fst.fst == (3 : Int)) = true) ∧
 ((x.snd.fst.fst == (3 : Int)) = true → (x.snd.fst.fst == (3 : Int)) = true) ∧
 ((x.snd.fst.fst == (3 : Int) && (↑x.fst.snd.fst.length : Int) == (16 : Int)) = true →
 ((step x.fst x.snd.fst.fst x.snd.fst.snd =
 if (7 : Int) = (0 : Int) then
 fin x.fst.fst x.fst.snd.fst x.fst.snd.snd.fst (0 : Int)
 else bad (7 : Int)) ∧
 True) ∧
 (x.fst.fst = x.fst.fst ∧
 x.fst.snd.fst = x.fst.snd.fst ∧
 x.fst.snd.snd.fst = x.fst.snd.snd.fst ∧
 (0 : Int) = (0 : Int) ∧ (7 : Int) = (7 : Int) ∧ (True ∧ True) ∧ True) ∧
 ((Value.slice none (0 : Nat) (0 : Nat) = Value.slice none (0 : Nat) (0 : Nat) ∧
 Value.slice none (0 : Nat) (0 : Nat) =
 Value.slice none (0 : Nat) (0 : Nat) ∧
 (0 : Int) = (0 : Int) ∧ false = false ∧ True) ∧
 True) ∧
 True) ∧
 ((x.snd.fst.fst == (3 : Int) && (↑x.fst.snd.fst.length : Int) == (16 : Int)) = false →
 ((x.snd.fst.fst == (3 : Int)) = true →
 x.fst.snd.fst.length +
 (((0 : Int) :: ([] : List Int)).set (0 : Nat) x.snd.fst.snd).length ≤
 (9223372036854775807 : Nat) ∧
 ((step x.fst x.snd.fst.fst x.snd.fst.snd =
 if (0 : Int) = (0 : Int) then
 fin x.fst.fst
 (x.fst.snd.fst ++
 ((0 : Int) :: ([] : List Int)).set (0 : Nat) x.snd.fst.snd)
 x.fst.snd.snd.fst (0 : Int)
 else bad (0 : Int)) ∧
 True) ∧
 (x.fst.fst = x.fst.fst ∧
 x.fst.snd.fst ++
 ((0 : Int) :: ([] : List Int)).set (0 : Nat) x.snd.fst.snd =
 x.fst.snd.fst ++
 ((0 : Int) :: ([] : List Int)).set (0 : Nat) x.snd.fst.snd ∧
 x.fst.snd.snd.fst = x.fst.snd.snd.fst ∧
 (0 : Int) = (0 : Int) ∧
 (0 : Int) = (0 : Int) ∧ (True ∧ True) ∧ True) ∧
 ((Value.slice none (0 : Nat) (0 : Nat) =
 Value.slice none (0 : Nat) (0 : Nat) ∧
 Value.slice none (0 : Nat) (0 : Nat) =
 Value.slice none (0 : Nat) (0 : Nat) ∧
 (0 : Int) = (0 : Int) ∧ false = false ∧ True) ∧
 True) ∧
 True) ∧
 ((x.snd.fst.fst == (3 : Int)) = false →
 ((step x.fst x.snd.fst.fst x.snd.fst.snd =
 if (5 : Int) = (0 : Int) then
 fin x.fst.fst x.fst.snd.fst x.fst.snd.snd.fst (0 : Int)
 else bad (5 : Int)) ∧
 True) ∧
 (x.fst.fst = x.fst.fst ∧
 x.fst.snd.fst = x.fst.snd.fst ∧
 x.fst.snd.snd.fst = x.fst.snd.snd.fst ∧
 (0 : Int) = (0 : Int) ∧ (5 : Int) = (5 : Int) ∧ (True ∧ True) ∧ True) ∧
 ((Value.slice none (0 : Nat) (0 : Nat) =
 Value.slice none (0 : Nat) (0 : Nat) ∧
 Value.slice none (0 : Nat) (0 : Nat) =
 Value.slice none (0 : Nat) (0 : Nat) ∧
 (0 : Int) = (0 : Int) ∧ false = false ∧ True) ∧
 True) ∧
 True)))))))))) ∧
 ∀ (g : List Int × List Int × Int × Int × Int × Unit),
 (step x.fst x.snd.fst.fst x.snd.fst.snd =
 if g.snd.snd.snd.snd.fst = (0 : Int) then fin g.fst g.snd.fst g.snd.snd.fst g.snd.snd.snd.fst else bad g.snd.snd.snd.snd.fst) →
 (g.fst.length ≤ (9223372036854775807 : Nat) ∧ ∀ (b : Int), b ∈ g.fst → (0 : Int) ≤ b ∧ b ≤ (255 : Int)) ∧
 (g.snd.fst.length ≤ (9223372036854775807 : Nat) ∧ ∀ (b : Int), b ∈ g.snd.fst → (0 : Int) ≤ b ∧ b ≤ (255 : Int)) ∧
 ((-9223372036854775808 : Int) ≤ g.snd.snd.fst ∧ g.snd.snd.fst ≤ (9223372036854775807 : Int)) ∧
 ((0 : Int) ≤ g.snd.snd.snd.fst ∧ g.snd.snd.snd.fst ≤ (255 : Int)) ∧
 ((-9223372036854775808 : Int) ≤ g.snd.snd.snd.snd.fst ∧ g.snd.snd.snd.snd.fst ≤ (9223372036854775807 : Int)) ∧ True →
 ((g.snd.snd.snd.snd.fst != (0 : Int)) = true →
 (([] : List Int), ([] : List Int), (0 : Int), false) = (step x.fst x.snd.fst.fst x.snd.fst.snd).fst ∧
 (0 : Int) = (step x.fst x.snd.fst.fst x.snd.fst.snd).snd.fst ∧
 g.snd.snd.snd.snd.fst = (step x.fst x.snd.fst.fst x.snd.fst.snd).snd.snd.fst) ∧
 ((g.snd.snd.snd.snd.fst != (0 : Int)) = false →
 (g.fst, g.snd.fst, g.snd.snd.fst, !decide (g.fst = ([] : List Int))) = (step x.fst x.snd.fst.fst x.snd.fst.snd).fst ∧
 g.snd.snd.snd.fst = (step x.fst x.snd.fst.fst x.snd.fst.snd).snd.fst ∧
 g.snd.snd.snd.snd.fst = (step x.fst x.snd.fst.fst x.snd.fst.snd).snd.snd.fst))

theorem E_pstep_eq (x : HL (cStep : Ctr).as) : vc (fx_pstep x) 1 28 Try.f28 (cStep) x = E_pstep x := by kernel_rfl

def E_same (x : (List Int × List Int × Int × Bool) × (List Int × List Int × Int × Bool) × Unit) : Prop :=
 (decide (x.fst.fst = x.snd.fst.fst) = true → decide (x.fst.fst = x.snd.fst.fst) = true) ∧
 (decide (x.fst.fst = x.snd.fst.fst) = true → decide (x.fst.fst = x.snd.fst.fst) = true) ∧
 (decide (x.fst.fst = x.snd.fst.fst) = true → decide (x.fst.fst = x.snd.fst.fst) = true) ∧
 (decide (x.fst.fst = x.snd.fst.fst) = true → decide (x.fst.fst = x.snd.fst.fst) = true) ∧
 (decide (x.fst.fst = x.snd.fst.fst) = true → decide (x.fst.fst = x.snd.fst.fst) = true ∧ decide (x.fst.fst = x.snd.fst.fst) = true) ∧
 (decide (x.fst.fst = x.snd.fst.fst) = true → decide (x.fst.fst = x.snd.fst.fst) = true) ∧
 ((decide (x.fst.fst = x.snd.fst.fst) && decide (x.fst.snd.fst = x.snd.fst.snd.fst)) = true →
 (decide (x.fst.fst = x.snd.fst.fst) && decide (x.fst.snd.fst = x.snd.fst.snd.fst)) = true) ∧
 ((decide (x.fst.fst = x.snd.fst.fst) && decide (x.fst.snd.fst = x.snd.fst.snd.fst)) = true →
 (decide (x.fst.fst = x.snd.fst.fst) && decide (x.fst.snd.fst = x.snd.fst.snd.fst)) = true) ∧
 ((decide (x.fst.fst = x.snd.fst.fst) && decide (x.fst.snd.fst = x.snd.fst.snd.fst)) = true →
 (decide (x.fst.fst = x.snd.fst.fst) && decide (x.fst.snd.fst = x.snd.fst.snd.fst)) = true ∧
 (decide (x.fst.fst = x.snd.fst.fst) && decide (x.fst.snd.fst = x.snd.fst.snd.fst)) = true) ∧
 ((decide (x.fst.fst = x.snd.fst.fst) && decide (x.fst.snd.fst = x.snd.fst.snd.fst)) = true →
 (decide (x.fst.fst = x.snd.fst.fst) && decide (x.fst.snd.fst = x.snd.fst.snd.fst)) = true) ∧
 ((decide (x.fst.fst = x.snd.fst.fst) && decide (x.fst.snd.fst = x.snd.fst.snd.fst) &&
 x.fst.snd.snd.fst == x.snd.fst.snd.snd.fst) =
 true →
 (decide (x.fst.fst = x.snd.fst.fst) && decide (x.fst.snd.fst = x.snd.fst.snd.fst) &&
 x.fst.snd.snd.fst == x.snd.fst.snd.snd.fst) =
 true) ∧
 ((decide (x.fst.fst = x.snd.fst.fst) && decide (x.fst.snd.fst = x.snd.fst.snd.fst) &&
 x.fst.snd.snd.fst == x.snd.fst.snd.snd.fst) =
 true →
 (decide (x.fst.fst = x.snd.fst.fst) && decide (x.fst.snd.fst = x.snd.fst.snd.fst) &&
 x.fst.snd.snd.fst == x.snd.fst.snd.snd.fst) =
 true) ∧
 ((decide (x.fst.fst = x.snd.fst.fst) && decide (x.fst.snd.fst = x.snd.fst.snd.fst) &&
 x.fst.snd.snd.fst == x.snd.fst.snd.snd.fst) =
 true →
 (decide (x.fst.fst = x.snd.fst.fst) && decide (x.fst.snd.fst = x.snd.fst.snd.fst) &&
 x.fst.snd.snd.fst == x.snd.fst.snd.snd.fst) =
 true ∧
 (decide (x.fst.fst = x.snd.fst.fst) && decide (x.fst.snd.fst = x.snd.fst.snd.fst) &&
 x.fst.snd.snd.fst == x.snd.fst.snd.snd.fst) =
 true) ∧
 ((decide (x.fst.fst = x.snd.fst.fst) && decide (x.fst.snd.fst = x.snd.fst.snd.fst) &&
 x.fst.snd.snd.fst == x.snd.fst.snd.snd.fst) =
 true →
 (decide (x.fst.fst = x.snd.fst.fst) && decide (x.fst.snd.fst = x.snd.fst.snd.fst) &&
 x.fst.snd.snd.fst == x.snd.fst.snd.snd.fst) =
 true) ∧
 (decide (x.fst.fst = x.snd.fst.fst) && decide (x.fst.snd.fst = x.snd.fst.snd.fst) &&
 x.fst.snd.snd.fst == x.snd.fst.snd.snd.fst &&
 x.fst.snd.snd.snd == x.snd.fst.snd.snd.snd) =
 same x.fst x.snd.fst

theorem E_same_eq (x : HL (cSame : Ctr).as) : vc (fx_same x) 1 31 Try.f31 (cSame) x = E_same x := by kernel_rfl

def E_play (x : List (Int × Int) × Unit) : Prop :=
 ((((0 : Int) ≤ (0 : Int) ∧
 (0 : Int) ≤ (↑x.fst.length : Int) ∧
 ppl (List.take (Int.toNat (0 : Int)) x.fst) = ((([] : List Int), ([] : List Int), (0 : Int), false), ([] : List Int), ([] : List Int)) ∧
 (↑([] : List Int).length : Int) + (↑([] : List Int).length : Int) ≤ (0 : Int)) ∧
 True) ∧
 ((True ∧ True) ∧ (True ∧ True) ∧ True ∧ True ∧ x.fst = x.fst ∧ (↑x.fst.length : Int) = (↑x.fst.length : Int) ∧ (0 : Int) = (0 : Int) ∧ True) ∧
 ((([] : List Int) = ([] : List Int) ∧ ([] : List Int) = ([] : List Int) ∧ (0 : Int) = (0 : Int) ∧ false = false ∧ True) ∧
 ([] : List Int) = ([] : List Int) ∧
 ([] : List Int) = ([] : List Int) ∧
 (Value.slice none (0 : Nat) (0 : Nat) = Value.slice none (0 : Nat) (0 : Nat) ∧
 Value.slice none (0 : Nat) (0 : Nat) = Value.slice none (0 : Nat) (0 : Nat) ∧ (0 : Int) = (0 : Int) ∧ false = false ∧ True) ∧
 True) ∧
 True) ∧
 ∀ (g : (List Int × List Int × Int × Bool) × List Int × List Int × Int × Unit),
 (0 : Int) ≤ g.snd.snd.snd.fst ∧
 g.snd.snd.snd.fst ≤ (↑x.fst.length : Int) ∧
 ppl (List.take g.snd.snd.snd.fst.toNat x.fst) = (g.fst, g.snd.fst, g.snd.snd.fst) ∧
 (↑g.snd.fst.length : Int) + (↑g.snd.snd.fst.length : Int) ≤ g.snd.snd.snd.fst →
 ((g.fst.fst.length ≤ (9223372036854775807 : Nat) ∧ ∀ (x : Int), x ∈ g.fst.fst → (0 : Int) ≤ x ∧ x ≤ (255 : Int)) ∧
 (g.fst.snd.fst.length ≤ (9223372036854775807 : Nat) ∧ ∀ (x : Int), x ∈ g.fst.snd.fst → (0 : Int) ≤ x ∧ x ≤ (255 : Int)) ∧
 ((-9223372036854775808 : Int) ≤ g.fst.snd.snd.fst ∧ g.fst.snd.snd.fst ≤ (9223372036854775807 : Int)) ∧ True) ∧
 (g.snd.fst.length ≤ (9223372036854775807 : Nat) ∧ ∀ (x : Int), x ∈ g.snd.fst → (0 : Int) ≤ x ∧ x ≤ (255 : Int)) ∧
 (g.snd.snd.fst.length ≤ (9223372036854775807 : Nat) ∧ ∀ (x : Int), x ∈ g.snd.snd.fst → (0 : Int) ≤ x ∧ x ≤ (255 : Int)) ∧
 ((-9223372036854775808 : Int) ≤ g.snd.snd.snd.fst ∧ g.snd.snd.snd.fst ≤ (9223372036854775807 : Int)) ∧ True →
 (decide (g.snd.snd.snd.fst < (↑x.fst.length : Int)) = true →
 ((0 : Int) ≤ g.snd.snd.snd.fst ∧ g.snd.snd.snd.fst < (↑x.fst.length : Int)) ∧
 Holds True ∧
 (((step (g.fst.fst, g.fst.snd.fst, g.fst.snd.snd.fst, g.fst.snd.snd.snd)
 (x.fst.getD g.snd.snd.snd.fst.toNat ((0 : Int), (0 : Int))).fst
 (x.fst.getD g.snd.snd.snd.fst.toNat ((0 : Int), (0 : Int))).snd).snd.snd.fst !=
 (0 : Int)) =
 true →
 ((-9223372036854775808 : Int) ≤ g.snd.snd.snd.fst + (1 : Int) ∧ g.snd.snd.snd.fst + (1 : Int) ≤ (9223372036854775807 : Int)) ∧
 (((0 : Int) ≤ g.snd.snd.snd.fst + (1 : Int) ∧
 g.snd.snd.snd.fst + (1 : Int) ≤ (↑x.fst.length : Int) ∧
 ppl (List.take (g.snd.snd.snd.fst + (1 : Int)).toNat x.fst) =
 ((g.fst.fst, g.fst.snd.fst, g.fst.snd.snd.fst, g.fst.snd.snd.snd), g.snd.fst, g.snd.snd.fst) ∧
 (↑g.snd.fst.length : Int) + (↑g.snd.snd.fst.length : Int) ≤ g.snd.snd.snd.fst + (1 : Int)) ∧
 ((↑x.fst.length : Int) - (g.snd.snd.snd.fst + (1 : Int))).toNat < ((↑x.fst.length : Int) - g.snd.snd.snd.fst).toNat) ∧
 ((True ∧ True) ∧
 (True ∧ True) ∧
 True ∧
 True ∧
 x.fst = x.fst ∧
 (↑x.fst.length : Int) = (↑x.fst.length : Int) ∧
 g.snd.snd.snd.fst + (1 : Int) = g.snd.snd.snd.fst + (1 : Int) ∧ True) ∧
 ((g.fst.fst = g.fst.fst ∧
 g.fst.snd.fst = g.fst.snd.fst ∧
 g.fst.snd.snd.fst = g.fst.snd.snd.fst ∧ g.fst.snd.snd.snd = g.fst.snd.snd.snd ∧ True) ∧
 g.snd.fst = g.snd.fst ∧
 g.snd.snd.fst = g.snd.snd.fst ∧
 (Value.slice none (0 : Nat) (0 : Nat) = Value.slice none (0 : Nat) (0 : Nat) ∧
 Value.slice none (0 : Nat) (0 : Nat) = Value.slice none (0 : Nat) (0 : Nat) ∧
 (0 : Int) = (0 : Int) ∧ false = false ∧ True) ∧
 True) ∧
 True) ∧
 (((step (g.fst.fst, g.fst.snd.fst, g.fst.snd.snd.fst, g.fst.snd.snd.snd)
 (x.fst.getD g.snd.snd.snd.fst.toNat ((0 : Int), (0 : Int))).fst
 (x.fst.getD g.snd.snd.snd.fst.toNat ((0 : Int), (0 : Int))).snd).snd.snd.fst !=
 (0 : Int)) =
 false →
 (((x.fst.getD g.snd.snd.snd.fst.toNat ((0 : Int), (0 : Int))).fst == (2 : Int)) = true →
 (g.snd.fst.length +
 (((0 : Int) :: ([] : List Int)).set (0 : Nat)
 (step (g.fst.fst, g.fst.snd.fst, g.fst.snd.snd.fst, g.fst.snd.snd.snd)
 (x.fst.getD g.snd.snd.snd.fst.toNat ((0 : Int), (0 : Int))).fst
 (x.fst.getD g.snd.snd.snd.fst.toNat ((0 : Int), (0 : Int))).snd).snd.fst).length ≤
 (9223372036854775807 : Nat) ∧
 (g.snd.fst.length +
 (((0 : Int) :: ([] : List Int)).set (0 : Nat)
 (step (g.fst.fst, g.fst.snd.fst, g.fst.snd.snd.fst, g.fst.snd.snd.snd)
 (x.fst.getD g.snd.snd.snd.fst.toNat ((0 : Int), (0 : Int))).fst
 (x.fst.getD g.snd.snd.snd.fst.toNat ((0 : Int), (0 : Int))).snd).snd.fst).length +
 (g.snd.fst.length +
 (((0 : Int) :: ([] : List Int)).set (0 : Nat)
 (step (g.fst.fst, g.fst.snd.fst, g.fst.snd.snd.fst, g.fst.snd.snd.snd)
 (x.fst.getD g.snd.snd.snd.fst.toNat ((0 : Int), (0 : Int))).fst
 (x.fst.getD g.snd.snd.snd.fst.toNat ((0 : Int), (0 : Int))).snd).snd.fst).length) /
 (4 : Nat) +
 (192 : Nat)) *
 (1 : Nat) ≤
 (281474976710656 : Nat)) ∧
 ((-9223372036854775808 : Int) ≤ g.snd.snd.snd.fst + (1 : Int) ∧
 g.snd.snd.snd.fst + (1 : Int) ≤ (9223372036854775807 : Int)) ∧
 (((0 : Int) ≤ g.snd.snd.snd.fst + (1 : Int) ∧
 g.snd.snd.snd.fst + (1 : Int) ≤ (↑x.fst.length : Int) ∧
 ppl (List.take (g.snd.snd.snd.fst + (1 : Int)).toNat x.fst) =
 (((step (g.fst.fst, g.fst.snd.fst, g.fst.snd.snd.fst, g.fst.snd.snd.snd)
 (x.fst.getD g.snd.snd.snd.fst.toNat ((0 : Int), (0 : Int))).fst
 (x.fst.getD g.snd.snd.snd.fst.toNat ((0 : Int), (0 : Int))).snd).fst.fst,
 (step (g.fst.fst, g.fst.snd.fst, g.fst.snd.snd.fst, g.fst.snd.snd.snd)
 (x.fst.getD g.snd.snd.snd.fst.toNat ((0 : Int), (0 : Int))).fst
 (x.fst.getD g.snd.snd.snd.fst.toNat ((0 : Int), (0 : Int))).snd).fst.snd.fst,
 (step (g.fst.fst, g.fst.snd.fst, g.fst.snd.snd.fst, g.fst.snd.snd.snd)
 (x.fst.getD g.snd.snd.snd.fst.toNat ((0 : Int), (0 : Int))).fst
 (x.fst.getD g.snd.snd.snd.fst.toNat ((0 : Int), (0 : Int))).snd).fst.snd.snd.fst,
 (step (g.fst.fst, g.fst.snd.fst, g.fst.snd.snd.fst, g.fst.snd.snd.snd)
 (x.fst.getD g.snd.snd.snd.fst.toNat ((0 : Int), (0 : Int))).fst
 (x.fst.getD g.snd.snd.snd.fst.toNat ((0 : Int), (0 : Int))).snd).fst.snd.snd.snd),
 g.snd.fst ++
 ((0 : Int) :: ([] : List Int)).set (0 : Nat)
 (step (g.fst.fst, g.fst.snd.fst, g.fst.snd.snd.fst, g.fst.snd.snd.snd)
 (x.fst.getD g.snd.snd.snd.fst.toNat ((0 : Int), (0 : Int))).fst
 (x.fst.getD g.snd.snd.snd.fst.toNat ((0 : Int), (0 : Int))).snd).snd.fst,
 g.snd.snd.fst) ∧
 (↑(g.snd.fst ++
 ((0 : Int) :: ([] : List Int)).set (0 : Nat)
 (step (g.fst.fst, g.fst.snd.fst, g.fst.snd.snd.fst, g.fst.snd.snd.snd)
 (x.fst.getD g.snd.snd.snd.fst.toNat ((0 : Int), (0 : Int))).fst
 (x.fst.getD g.snd.snd.snd.fst.toNat ((0 : Int), (0 : Int))).snd).snd.fst).length :
 Int) +
 (↑g.snd.snd.fst.length : Int) ≤
 g.snd.snd.snd.fst + (1 : Int)) ∧
 ((↑x.fst.length : Int) - (g.snd.snd.snd.fst + (1 : Int))).toNat < ((↑x.fst.length : Int) - g.snd.snd.snd.fst).toNat) ∧
 ((True ∧ True) ∧
 (True ∧ True) ∧
 True ∧
 True ∧
 x.fst = x.fst ∧
 (↑x.fst.length : Int) = (↑x.fst.length : Int) ∧
 g.snd.snd.snd.fst + (1 : Int) = g.snd.snd.snd.fst + (1 : Int) ∧ True) ∧
 (((step (g.fst.fst, g.fst.snd.fst, g.fst.snd.snd.fst, g.fst.snd.snd.snd)
 (x.fst.getD g.snd.snd.snd.fst.toNat ((0 : Int), (0 : Int))).fst
 (x.fst.getD g.snd.snd.snd.fst.toNat ((0 : Int), (0 : Int))).snd).fst.fst =
 (step (g.fst.fst, g.fst.snd.fst, g.fst.snd.snd.fst, g.fst.snd.snd.snd)
 (x.fst.getD g.snd.snd.snd.fst.toNat ((0 : Int), (0 : Int))).fst
 (x.fst.getD g.snd.snd.snd.fst.toNat ((0 : Int), (0 : Int))).snd).fst.fst ∧
 (step (g.fst.fst, g.fst.snd.fst, g.fst.snd.snd.fst, g.fst.snd.snd.snd)
 (x.fst.getD g.snd.snd.snd.fst.toNat ((0 : Int), (0 : Int))).fst
 (x.fst.getD g.snd.snd.snd.fst.toNat ((0 : Int), (0 : Int))).snd).fst.snd.fst =
 (step (g.fst.fst, g.fst.snd.fst, g.fst.snd.snd.fst, g.fst.snd.snd.snd)
 (x.fst.getD g.snd.snd.snd.fst.toNat ((0 : Int), (0 : Int))).fst
 (x.fst.getD g.snd.snd.snd.fst.toNat ((0 : Int), (0 : Int))).snd).fst.snd.fst ∧
 (step (g.fst.fst, g.fst.snd.fst, g.fst.snd.snd.fst, g.fst.snd.snd.snd)
 (x.fst.getD g.snd.snd.snd.fst.toNat ((0 : Int), (0 : Int))).fst
 (x.fst.getD g.snd.snd.snd.fst.toNat ((0 : Int), (0 : Int))).snd).fst.snd.snd.fst =
 (step (g.fst.fst, g.fst.snd.fst, g.fst.snd.snd.fst, g.fst.snd.snd.snd)
 (x.fst.getD g.snd.snd.snd.fst.toNat ((0 : Int), (0 : Int))).fst
 (x.fst.getD g.snd.snd.snd.fst.toNat ((0 : Int), (0 : Int))).snd).fst.snd.snd.fst ∧
 (step (g.fst.fst, g.fst.snd.fst, g.fst.snd.snd.fst, g.fst.snd.snd.snd)
 (x.fst.getD g.snd.snd.snd.fst.toNat ((0 : Int), (0 : Int))).fst
 (x.fst.getD g.snd.snd.snd.fst.toNat ((0 : Int), (0 : Int))).snd).fst.snd.snd.snd =
 (step (g.fst.fst, g.fst.snd.fst, g.fst.snd.snd.fst, g.fst.snd.snd.snd)
 (x.fst.getD g.snd.snd.snd.fst.toNat ((0 : Int), (0 : Int))).fst
 (x.fst.getD g.snd.snd.snd.fst.toNat ((0 : Int), (0 : Int))).snd).fst.snd.snd.snd ∧
 True) ∧
 g.snd.fst ++
 ((0 : Int) :: ([] : List Int)).set (0 : Nat)
 (step (g.fst.fst, g.fst.snd.fst, g.fst.snd.snd.fst, g.fst.snd.snd.snd)
 (x.fst.getD g.snd.snd.snd.fst.toNat ((0 : Int), (0 : Int))).fst
 (x.fst.getD g.snd.snd.snd.fst.toNat ((0 : Int), (0 : Int))).snd).snd.fst =
 g.snd.fst ++
 ((0 : Int) :: ([] : List Int)).set (0 : Nat)
 (step (g.fst.fst, g.fst.snd.fst, g.fst.snd.snd.fst, g.fst.snd.snd.snd)
 (x.fst.getD g.snd.snd.snd.fst.toNat ((0 : Int), (0 : Int))).fst
 (x.fst.getD g.snd.snd.snd.fst.toNat ((0 : Int), (0 : Int))).snd).snd.fst ∧
 g.snd.snd.fst = g.snd.snd.fst ∧
 (Value.slice none (0 : Nat) (0 : Nat) = Value.slice none (0 : Nat) (0 : Nat) ∧
 Value.slice none (0 : Nat) (0 : Nat) = Value.slice none (0 : Nat) (0 : Nat) ∧
 (0 : Int) = (0 : Int) ∧ false = false ∧ True) ∧
 True) ∧
 True) ∧
 (((x.fst.getD g.snd.snd.snd.fst.toNat ((0 : Int), (0 : Int))).fst == (2 : Int)) = false →
 (((x.fst.getD g.snd.snd.snd.fst.toNat ((0 : Int), (0 : Int))).fst == (4 : Int)) = true →
 (g.snd.snd.fst.length +
 (((0 : Int) :: ([] : List Int)).set (0 : Nat)
 (step (g.fst.fst, g.fst.snd.fst, g.fst.snd.snd.fst, g.fst.snd.snd.snd)
 (x.fst.getD g.snd.snd.snd.fst.toNat ((0 : Int), (0 : Int))).fst
 (x.fst.getD g.snd.snd.snd.fst.toNat ((0 : Int), (0 : Int))).snd).snd.fst).length ≤
 (9223372036854775807 : Nat) ∧
 (g.snd.snd.fst.length +
 (((0 : Int) :: ([] : List Int)).set (0 : Nat)
 (step (g.fst.fst, g.fst.snd.fst, g.fst.snd.snd.fst, g.fst.snd.snd.snd)
 (x.fst.getD g.snd.snd.snd.fst.toNat ((0 : Int), (0 : Int))).fst
 (x.fst.getD g.snd.snd.snd.fst.toNat ((0 : Int), (0 : Int))).snd).snd.fst).length +
 (g.snd.snd.fst.length +
 (((0 : Int) :: ([] : List Int)).set (0 : Nat)
 (step (g.fst.fst, g.fst.snd.fst, g.fst.snd.snd.fst, g.fst.snd.snd.snd)
 (x.fst.getD g.snd.snd.snd.fst.toNat ((0 : Int), (0 : Int))).fst
 (x.fst.getD g.snd.snd.snd.fst.toNat ((0 : Int), (0 : Int))).snd).snd.fst).length) /
 (4 : Nat) +
 (192 : Nat)) *
 (1 : Nat) ≤
 (281474976710656 : Nat)) ∧
 ((-9223372036854775808 : Int) ≤ g.snd.snd.snd.fst + (1 : Int) ∧
 g.snd.snd.snd.fst + (1 : Int) ≤ (9223372036854775807 : Int)) ∧
 (((0 : Int) ≤ g.snd.snd.snd.fst + (1 : Int) ∧
 g.snd.snd.snd.fst + (1 : Int) ≤ (↑x.fst.length : Int) ∧
 ppl (List.take (g.snd.snd.snd.fst + (1 : Int)).toNat x.fst) =
 (((step (g.fst.fst, g.fst.snd.fst, g.fst.snd.snd.fst, g.fst.snd.snd.snd)
 (x.fst.getD g.snd.snd.snd.fst.toNat ((0 : Int), (0 : Int))).fst
 (x.fst.getD g.snd.snd.snd.fst.toNat ((0 : Int), (0 : Int))).snd).fst.fst,
 (step (g.fst.fst, g.fst.snd.fst, g.fst.snd.snd.fst, g.fst.snd.snd.snd)
 (x.fst.getD g.snd.snd.snd.fst.toNat ((0 : Int), (0 : Int))).fst
 (x.fst.getD g.snd.snd.snd.fst.toNat ((0 : Int), (0 : Int))).snd).fst.snd.fst,
 (step (g.fst.fst, g.fst.snd.fst, g.fst.snd.snd.fst, g.fst.snd.snd.snd)
 (x.fst.getD g.snd.snd.snd.fst.toNat ((0 : Int), (0 : Int))).fst
 (x.fst.getD g.snd.snd.snd.fst.toNat ((0 : Int), (0 : Int))).snd).fst.snd.snd.fst,
 (step (g.fst.fst, g.fst.snd.fst, g.fst.snd.snd.fst, g.fst.snd.snd.snd)
 (x.fst.getD g.snd.snd.snd.fst.toNat ((0 : Int), (0 : Int))).fst
 (x.fst.getD g.snd.snd.snd.fst.toNat ((0 : Int), (0 : Int))).snd).fst.snd.snd.snd),
 g.snd.fst,
 g.snd.snd.fst ++
 ((0 : Int) :: ([] : List Int)).set (0 : Nat)
 (step (g.fst.fst, g.fst.snd.fst, g.fst.snd.snd.fst, g.fst.snd.snd.snd)
 (x.fst.getD g.snd.snd.snd.fst.toNat ((0 : Int), (0 : Int))).fst
 (x.fst.getD g.snd.snd.snd.fst.toNat ((0 : Int), (0 : Int))).snd).snd.fst) ∧
 (↑g.snd.fst.length : Int) +
 (↑(g.snd.snd.fst ++
 ((0 : Int) :: ([] : List Int)).set (0 : Nat)
 (step (g.fst.fst, g.fst.snd.fst, g.fst.snd.snd.fst, g.fst.snd.snd.snd)
 (x.fst.getD g.snd.snd.snd.fst.toNat ((0 : Int), (0 : Int))).fst
 (x.fst.getD g.snd.snd.snd.fst.toNat ((0 : Int), (0 : Int))).snd).snd.fst).length :
 Int) ≤
 g.snd.snd.snd.fst + (1 : Int)) ∧
 ((↑x.fst.length : Int) - (g.snd.snd.snd.fst + (1 : Int))).toNat <
 ((↑x.fst.length : Int) - g.snd.snd.snd.fst).toNat) ∧
 ((True ∧ True) ∧
 (True ∧ True) ∧
 True ∧
 True ∧
 x.fst = x.fst ∧
 (↑x.fst.length : Int) = (↑x.fst.length : Int) ∧
 g.snd.snd.snd.fst + (1 : Int) = g.snd.snd.snd.fst + (1 : Int) ∧ True) ∧
 (((step (g.fst.fst, g.fst.snd.fst, g.fst.snd.snd.fst, g.fst.snd.snd.snd)
 (x.fst.getD g.snd.snd.snd.fst.toNat ((0 : Int), (0 : Int))).fst
 (x.fst.getD g.snd.snd.snd.fst.toNat ((0 : Int), (0 : Int))).snd).fst.fst =
 (step (g.fst.fst, g.fst.snd.fst, g.fst.snd.snd.fst, g.fst.snd.snd.snd)
 (x.fst.getD g.snd.snd.snd.fst.toNat ((0 : Int), (0 : Int))).fst
 (x.fst.getD g.snd.snd.snd.fst.toNat ((0 : Int), (0 : Int))).snd).fst.fst ∧
 (step (g.fst.fst, g.fst.snd.fst, g.fst.snd.snd.fst, g.fst.snd.snd.snd)
 (x.fst.getD g.snd.snd.snd.fst.toNat ((0 : Int), (0 : Int))).fst
 (x.fst.getD g.snd.snd.snd.fst.toNat ((0 : Int), (0 : Int))).snd).fst.snd.fst =
 (step (g.fst.fst, g.fst.snd.fst, g.fst.snd.snd.fst, g.fst.snd.snd.snd)
 (x.fst.getD g.snd.snd.snd.fst.toNat ((0 : Int), (0 : Int))).fst
 (x.fst.getD g.snd.snd.snd.fst.toNat ((0 : Int), (0 : Int))).snd).fst.snd.fst ∧
 (step (g.fst.fst, g.fst.snd.fst, g.fst.snd.snd.fst, g.fst.snd.snd.snd)
 (x.fst.getD g.snd.snd.snd.fst.toNat ((0 : Int), (0 : Int))).fst
 (x.fst.getD g.snd.snd.snd.fst.toNat ((0 : Int), (0 : Int))).snd).fst.snd.snd.fst =
 (step (g.fst.fst, g.fst.snd.fst, g.fst.snd.snd.fst, g.fst.snd.snd.snd)
 (x.fst.getD g.snd.snd.snd.fst.toNat ((0 : Int), (0 : Int))).fst
 (x.fst.getD g.snd.snd.snd.fst.toNat ((0 : Int), (0 : Int))).snd).fst.snd.snd.fst ∧
 (step (g.fst.fst, g.fst.snd.fst, g.fst.snd.snd.fst, g.fst.snd.snd.snd)
 (x.fst.getD g.snd.snd.snd.fst.toNat ((0 : Int), (0 : Int))).fst
 (x.fst.getD g.snd.snd.snd.fst.toNat ((0 : Int), (0 : Int))).snd).fst.snd.snd.snd =
 (step (g.fst.fst, g.fst.snd.fst, g.fst.snd.snd.fst, g.fst.snd.snd.snd)
 (x.fst.getD g.snd.snd.snd.fst.toNat ((0 : Int), (0 : Int))).fst
 (x.fst.getD g.snd.snd.snd.fst.toNat ((0 : Int), (0 : Int))).snd).fst.snd.snd.snd ∧
 True) ∧
 g.snd.fst = g.snd.fst ∧
 g.snd.snd.fst ++
 ((0 : Int) :: ([] : List Int)).set (0 : Nat)
 (step (g.fst.fst, g.fst.snd.fst, g.fst.snd.snd.fst, g.fst.snd.snd.snd)
 (x.fst.getD g.snd.snd.snd.fst.toNat ((0 : Int), (0 : Int))).fst
 (x.fst.getD g.snd.snd.snd.fst.toNat ((0 : Int), (0 : Int))).snd).snd.fst =
 g.snd.snd.fst ++
 ((0 : Int) :: ([] : List Int)).set (0 : Nat)
 (step (g.fst.fst, g.fst.snd.fst, g.fst.snd.snd.fst, g.fst.snd.snd.snd)
 (x.fst.getD g.snd.snd.snd.fst.toNat ((0 : Int), (0 : Int))).fst
 (x.fst.getD g.snd.snd.snd.fst.toNat ((0 : Int), (0 : Int))).snd).snd.fst ∧
 (Value.slice none (0 : Nat) (0 : Nat) = Value.slice none (0 : Nat) (0 : Nat) ∧
 Value.slice none (0 : Nat) (0 : Nat) = Value.slice none (0 : Nat) (0 : Nat) ∧
 (0 : Int) = (0 : Int) ∧ false = false ∧ True) ∧
 True) ∧
 True) ∧
 (((x.fst.getD g.snd.snd.snd.fst.toNat ((0 : Int), (0 : Int))).fst == (4 : Int)) = false →
 ((-9223372036854775808 : Int) ≤ g.snd.snd.snd.fst + (1 : Int) ∧
 g.snd.snd.snd.fst + (1 : Int) ≤ (9223372036854775807 : Int)) ∧
 (((0 : Int) ≤ g.snd.snd.snd.fst + (1 : Int) ∧
 g.snd.snd.snd.fst + (1 : Int) ≤ (↑x.fst.length : Int) ∧
 ppl (List.take (g.snd.snd.snd.fst + (1 : Int)).toNat x.fst) =
 (((step (g.fst.fst, g.fst.snd.fst, g.fst.snd.snd.fst, g.fst.snd.snd.snd)
 (x.fst.getD g.snd.snd.snd.fst.toNat ((0 : Int), (0 : Int))).fst
 (x.fst.getD g.snd.snd.snd.fst.toNat ((0 : Int), (0 : Int))).snd).fst.fst,
 (step (g.fst.fst, g.fst.snd.fst, g.fst.snd.snd.fst, g.fst.snd.snd.snd)
 (x.fst.getD g.snd.snd.snd.fst.toNat ((0 : Int), (0 : Int))).fst
 (x.fst.getD g.snd.snd.snd.fst.toNat ((0 : Int), (0 : Int))).snd).fst.snd.fst,
 (step (g.fst.fst, g.fst.snd.fst, g.fst.snd.snd.fst, g.fst.snd.snd.snd)
 (x.fst.getD g.snd.snd.snd.fst.toNat ((0 : Int), (0 : Int))).fst
 (x.fst.getD g.snd.snd.snd.fst.toNat ((0 : Int), (0 : Int))).snd).fst.snd.snd.fst,
 (step (g.fst.fst, g.fst.snd.fst, g.fst.snd.snd.fst, g.fst.snd.snd.snd)
 (x.fst.getD g.snd.snd.snd.fst.toNat ((0 : Int), (0 : Int))).fst
 (x.fst.getD g.snd.snd.snd.fst.toNat ((0 : Int), (0 : Int))).snd).fst.snd.snd.snd),
 g.snd.fst, g.snd.snd.fst) ∧
 (↑g.snd.fst.length : Int) + (↑g.snd.snd.fst.length : Int) ≤ g.snd.snd.snd.fst + (1 : Int)) ∧
 ((↑x.fst.length : Int) - (g.snd.snd.snd.fst + (1 : Int))).toNat <
 ((↑x.fst.length : Int) - g.snd.snd.snd.fst).toNat) ∧
 ((True ∧ True) ∧
 (True ∧ True) ∧
 True ∧
 True ∧
 x.fst = x.fst ∧
 (↑x.fst.length : Int) = (↑x.fst.length : Int) ∧
 g.snd.snd.snd.fst + (1 : Int) = g.snd.snd.snd.fst + (1 : Int) ∧ True) ∧
 (((step (g.fst.fst, g.fst.snd.fst, g.fst.snd.snd.fst, g.fst.snd.snd.snd)
 (x.fst.getD g.snd.snd.snd.fst.toNat ((0 : Int), (0 : Int))).fst
 (x.fst.getD g.snd.snd.snd.fst.toNat ((0 : Int), (0 : Int))).snd).fst.fst =
 (step (g.fst.fst, g.fst.snd.fst, g.fst.snd.snd.fst, g.fst.snd.snd.snd)
 (x.fst.getD g.snd.snd.snd.fst.toNat ((0 : Int), (0 : Int))).fst
 (x.fst.getD g.snd.snd.snd.fst.toNat ((0 : Int), (0 : Int))).snd).fst.fst ∧
 (step (g.fst.fst, g.fst.snd.fst, g.fst.snd.snd.fst, g.fst.snd.snd.snd)
 (x.fst.getD g.snd.snd.snd.fst.toNat ((0 : Int), (0 : Int))).fst
 (x.fst.getD g.snd.snd.snd.fst.toNat ((0 : Int), (0 : Int))).snd).fst.snd.fst =
 (step (g.fst.fst, g.fst.snd.fst, g.fst.snd.snd.fst, g.fst.snd.snd.snd)
 (x.fst.getD g.snd.snd.snd.fst.toNat ((0 : Int), (0 : Int))).fst
 (x.fst.getD g.snd.snd.snd.fst.toNat ((0 : Int), (0 : Int))).snd).fst.snd.fst ∧
 (step (g.fst.fst, g.fst.snd.fst, g.fst.snd.snd.fst, g.fst.snd.snd.snd)
 (x.fst.getD g.snd.snd.snd.fst.toNat ((0 : Int), (0 : Int))).fst
 (x.fst.getD g.snd.snd.snd.fst.toNat ((0 : Int), (0 : Int))).snd).fst.snd.snd.fst =
 (step (g.fst.fst, g.fst.snd.fst, g.fst.snd.snd.fst, g.fst.snd.snd.snd)
 (x.fst.getD g.snd.snd.snd.fst.toNat ((0 : Int), (0 : Int))).fst
 (x.fst.getD g.snd.snd.snd.fst.toNat ((0 : Int), (0 : Int))).snd).fst.snd.snd.fst ∧
 (step (g.fst.fst, g.fst.snd.fst, g.fst.snd.snd.fst, g.fst.snd.snd.snd)
 (x.fst.getD g.snd.snd.snd.fst.toNat ((0 : Int), (0 : Int))).fst
 (x.fst.getD g.snd.snd.snd.fst.toNat ((0 : Int), (0 : Int))).snd).fst.snd.snd.snd =
 (step (g.fst.fst, g.fst.snd.fst, g.fst.snd.snd.fst, g.fst.snd.snd.snd)
 (x.fst.getD g.snd.snd.snd.fst.toNat ((0 : Int), (0 : Int))).fst
 (x.fst.getD g.snd.snd.snd.fst.toNat ((0 : Int), (0 : Int))).snd).fst.snd.snd.snd ∧
 True) ∧
 g.snd.fst = g.snd.fst ∧
 g.snd.snd.fst = g.snd.snd.fst ∧
 (Value.slice none (0 : Nat) (0 : Nat) = Value.slice none (0 : Nat) (0 : Nat) ∧
 Value.slice none (0 : Nat) (0 : Nat) = Value.slice none (0 : Nat) (0 : Nat) ∧
 (0 : Int) = (0 : Int) ∧ false = false ∧ True) ∧
 True) ∧
 True)))) ∧
 (decide (g.snd.snd.snd.fst < (↑x.fst.length : Int)) = false →
 g.snd.fst = (ppl x.fst).snd.fst ∧
 g.snd.snd.fst = (ppl x.fst).snd.snd ∧ (g.fst.fst, g.fst.snd.fst, g.fst.snd.snd.fst, g.fst.snd.snd.snd) = (ppl x.fst).fst)

theorem E_play_eq (x : HL (cPlay : Ctr).as) : vc (fx_play x) 1 64 Try.f64 (cPlay) x = E_play x := by kernel_rfl

def E_pplay (x : List (Int × Int) × Unit) : Prop :=
 ((((0 : Int) ≤ (0 : Int) ∧
 (0 : Int) ≤ (↑x.fst.length : Int) ∧
 ppl (List.take (Int.toNat (0 : Int)) x.fst) = ((([] : List Int), ([] : List Int), (0 : Int), false), ([] : List Int), ([] : List Int)) ∧
 (↑([] : List Int).length : Int) + (↑([] : List Int).length : Int) ≤ (0 : Int)) ∧
 True) ∧
 ((True ∧ True) ∧ (True ∧ True) ∧ (True ∧ True) ∧ x.fst = x.fst ∧ (↑x.fst.length : Int) = (↑x.fst.length : Int) ∧ (0 : Int) = (0 : Int) ∧ True) ∧
 ((([] : List Int) = ([] : List Int) ∧ ([] : List Int) = ([] : List Int) ∧ (0 : Int) = (0 : Int) ∧ false = false ∧ True) ∧
 (True ∧ True ∧ True) ∧
 ([] : List Int) = ([] : List Int) ∧
 ([] : List Int) = ([] : List Int) ∧
 (Value.slice none (0 : Nat) (0 : Nat) = Value.slice none (0 : Nat) (0 : Nat) ∧
 Value.slice none (0 : Nat) (0 : Nat) = Value.slice none (0 : Nat) (0 : Nat) ∧ (0 : Int) = (0 : Int) ∧ false = false ∧ True) ∧
 True) ∧
 True) ∧
 ∀ (g : (List Int × List Int × Int × Bool) × (List Int × List Int) × Int × Unit),
 (0 : Int) ≤ g.snd.snd.fst ∧
 g.snd.snd.fst ≤ (↑x.fst.length : Int) ∧
 ppl (List.take g.snd.snd.fst.toNat x.fst) = (g.fst, g.snd.fst.fst, g.snd.fst.snd) ∧
 (↑g.snd.fst.fst.length : Int) + (↑g.snd.fst.snd.length : Int) ≤ g.snd.snd.fst →
 ((g.fst.fst.length ≤ (9223372036854775807 : Nat) ∧ ∀ (x : Int), x ∈ g.fst.fst → (0 : Int) ≤ x ∧ x ≤ (255 : Int)) ∧
 (g.fst.snd.fst.length ≤ (9223372036854775807 : Nat) ∧ ∀ (x : Int), x ∈ g.fst.snd.fst → (0 : Int) ≤ x ∧ x ≤ (255 : Int)) ∧
 ((-9223372036854775808 : Int) ≤ g.fst.snd.snd.fst ∧ g.fst.snd.snd.fst ≤ (9223372036854775807 : Int)) ∧ True) ∧
 ((g.snd.fst.fst.length ≤ (9223372036854775807 : Nat) ∧ ∀ (x : Int), x ∈ g.snd.fst.fst → (0 : Int) ≤ x ∧ x ≤ (255 : Int)) ∧
 g.snd.fst.snd.length ≤ (9223372036854775807 : Nat) ∧ ∀ (x : Int), x ∈ g.snd.fst.snd → (0 : Int) ≤ x ∧ x ≤ (255 : Int)) ∧
 ((-9223372036854775808 : Int) ≤ g.snd.snd.fst ∧ g.snd.snd.fst ≤ (9223372036854775807 : Int)) ∧ True →
 (decide (g.snd.snd.fst < (↑x.fst.length : Int)) = true →
 ((0 : Int) ≤ g.snd.snd.fst ∧ g.snd.snd.fst < (↑x.fst.length : Int)) ∧
 Holds True ∧
 (((step (g.fst.fst, g.fst.snd.fst, g.fst.snd.snd.fst, g.fst.snd.snd.snd) (x.fst.getD g.snd.snd.fst.toNat ((0 : Int), (0 : Int))).fst
 (x.fst.getD g.snd.snd.fst.toNat ((0 : Int), (0 : Int))).snd).snd.snd.fst ==
 (0 : Int)) =
 true →
 (((((step (g.fst.fst, g.fst.snd.fst, g.fst.snd.snd.fst, g.fst.snd.snd.snd)
 (x.fst.getD g.snd.snd.fst.toNat ((0 : Int), (0 : Int))).fst
 (x.fst.getD g.snd.snd.fst.toNat ((0 : Int), (0 : Int))).snd).fst.fst,
 (step (g.fst.fst, g.fst.snd.fst, g.fst.snd.snd.fst, g.fst.snd.snd.snd)
 (x.fst.getD g.snd.snd.fst.toNat ((0 : Int), (0 : Int))).fst
 (x.fst.getD g.snd.snd.fst.toNat ((0 : Int), (0 : Int))).snd).fst.snd.fst,
 (step (g.fst.fst, g.fst.snd.fst, g.fst.snd.snd.fst, g.fst.snd.snd.snd)
 (x.fst.getD g.snd.snd.fst.toNat ((0 : Int), (0 : Int))).fst
 (x.fst.getD g.snd.snd.fst.toNat ((0 : Int), (0 : Int))).snd).fst.snd.snd.fst,
 (step (g.fst.fst, g.fst.snd.fst, g.fst.snd.snd.fst, g.fst.snd.snd.snd)
 (x.fst.getD g.snd.snd.fst.toNat ((0 : Int), (0 : Int))).fst
 (x.fst.getD g.snd.snd.fst.toNat ((0 : Int), (0 : Int))).snd).fst.snd.snd.snd) =
 ((step (g.fst.fst, g.fst.snd.fst, g.fst.snd.snd.fst, g.fst.snd.snd.snd)
 (x.fst.getD g.snd.snd.fst.toNat ((0 : Int), (0 : Int))).fst
 (x.fst.getD g.snd.snd.fst.toNat ((0 : Int), (0 : Int))).snd).fst.fst,
 (step (g.fst.fst, g.fst.snd.fst, g.fst.snd.snd.fst, g.fst.snd.snd.snd)
 (x.fst.getD g.snd.snd.fst.toNat ((0 : Int), (0 : Int))).fst
 (x.fst.getD g.snd.snd.fst.toNat ((0 : Int), (0 : Int))).snd).fst.snd.fst,
 (step (g.fst.fst, g.fst.snd.fst, g.fst.snd.snd.fst, g.fst.snd.snd.snd)
 (x.fst.getD g.snd.snd.fst.toNat ((0 : Int), (0 : Int))).fst
 (x.fst.getD g.snd.snd.fst.toNat ((0 : Int), (0 : Int))).snd).fst.snd.snd.fst,
 (step (g.fst.fst, g.fst.snd.fst, g.fst.snd.snd.fst, g.fst.snd.snd.snd)
 (x.fst.getD g.snd.snd.fst.toNat ((0 : Int), (0 : Int))).fst
 (x.fst.getD g.snd.snd.fst.toNat ((0 : Int), (0 : Int))).snd).fst.snd.snd.snd) ∧
 (x.fst.getD g.snd.snd.fst.toNat ((0 : Int), (0 : Int))).fst = (1 : Int)) ∧
 True) ∧
 ((True ∧ True) ∧
 (True ∧ True) ∧
 (True ∧ True) ∧
 (True ∧ True) ∧
 (step (g.fst.fst, g.fst.snd.fst, g.fst.snd.snd.fst, g.fst.snd.snd.snd)
 (x.fst.getD g.snd.snd.fst.toNat ((0 : Int), (0 : Int))).fst
 (x.fst.getD g.snd.snd.fst.toNat ((0 : Int), (0 : Int))).snd).snd.fst =
 (step (g.fst.fst, g.fst.snd.fst, g.fst.snd.snd.fst, g.fst.snd.snd.snd)
 (x.fst.getD g.snd.snd.fst.toNat ((0 : Int), (0 : Int))).fst
 (x.fst.getD g.snd.snd.fst.toNat ((0 : Int), (0 : Int))).snd).snd.fst ∧
 x.fst = x.fst ∧ (↑x.fst.length : Int) = (↑x.fst.length : Int) ∧ g.snd.snd.fst = g.snd.snd.fst ∧ True) ∧
 (((step (g.fst.fst, g.fst.snd.fst, g.fst.snd.snd.fst, g.fst.snd.snd.snd)
 (x.fst.getD g.snd.snd.fst.toNat ((0 : Int), (0 : Int))).fst
 (x.fst.getD g.snd.snd.fst.toNat ((0 : Int), (0 : Int))).snd).fst.fst =
 (step (g.fst.fst, g.fst.snd.fst, g.fst.snd.snd.fst, g.fst.snd.snd.snd)
 (x.fst.getD g.snd.snd.fst.toNat ((0 : Int), (0 : Int))).fst
 (x.fst.getD g.snd.snd.fst.toNat ((0 : Int), (0 : Int))).snd).fst.fst ∧
 (step (g.fst.fst, g.fst.snd.fst, g.fst.snd.snd.fst, g.fst.snd.snd.snd)
 (x.fst.getD g.snd.snd.fst.toNat ((0 : Int), (0 : Int))).fst
 (x.fst.getD g.snd.snd.fst.toNat ((0 : Int), (0 : Int))).snd).fst.snd.fst =
 (step (g.fst.fst, g.fst.snd.fst, g.fst.snd.snd.fst, g.fst.snd.snd.snd)
 (x.fst.getD g.snd.snd.fst.toNat ((0 : Int), (0 : Int))).fst
 (x.fst.getD g.snd.snd.fst.toNat ((0 : Int), (0 : Int))).snd).fst.snd.fst ∧
 (step (g.fst.fst, g.fst.snd.fst, g.fst.snd.snd.fst, g.fst.snd.snd.snd)
 (x.fst.getD g.snd.snd.fst.toNat ((0 : Int), (0 : Int))).fst
 (x.fst.getD g.snd.snd.fst.toNat ((0 : Int), (0 : Int))).snd).fst.snd.snd.fst =
 (step (g.fst.fst, g.fst.snd.fst, g.fst.snd.snd.fst, g.fst.snd.snd.snd)
 (x.fst.getD g.snd.snd.fst.toNat ((0 : Int), (0 : Int))).fst
 (x.fst.getD g.snd.snd.fst.toNat ((0 : Int), (0 : Int))).snd).fst.snd.snd.fst ∧
 (step (g.fst.fst, g.fst.snd.fst, g.fst.snd.snd.fst, g.fst.snd.snd.snd)
 (x.fst.getD g.snd.snd.fst.toNat ((0 : Int), (0 : Int))).fst
 (x.fst.getD g.snd.snd.fst.toNat ((0 : Int), (0 : Int))).snd).fst.snd.snd.snd =
 (step (g.fst.fst, g.fst.snd.fst, g.fst.snd.snd.fst, g.fst.snd.snd.snd)
 (x.fst.getD g.snd.snd.fst.toNat ((0 : Int), (0 : Int))).fst
 (x.fst.getD g.snd.snd.fst.toNat ((0 : Int), (0 : Int))).snd).fst.snd.snd.snd ∧
 True) ∧
 ((x.fst.getD g.snd.snd.fst.toNat ((0 : Int), (0 : Int))).fst = (1 : Int) ∧
 (x.fst.getD g.snd.snd.fst.toNat ((0 : Int), (0 : Int))).snd =
 (x.fst.getD g.snd.snd.fst.toNat ((0 : Int), (0 : Int))).snd ∧
 True) ∧
 (Value.slice none (0 : Nat) (0 : Nat) = Value.slice none (0 : Nat) (0 : Nat) ∧
 Value.slice none (0 : Nat) (0 : Nat) = Value.slice none (0 : Nat) (0 : Nat) ∧
 (0 : Int) = (0 : Int) ∧ false = false ∧ True) ∧
 (True ∧ True ∧ True) ∧ g.snd.fst.fst = g.snd.fst.fst ∧ g.snd.fst.snd = g.snd.fst.snd ∧ True) ∧
 True ∨
 ((((step (g.fst.fst, g.fst.snd.fst, g.fst.snd.snd.fst, g.fst.snd.snd.snd)
 (x.fst.getD g.snd.snd.fst.toNat ((0 : Int), (0 : Int))).fst
 (x.fst.getD g.snd.snd.fst.toNat ((0 : Int), (0 : Int))).snd).fst.fst,
 (step (g.fst.fst, g.fst.snd.fst, g.fst.snd.snd.fst, g.fst.snd.snd.snd)
 (x.fst.getD g.snd.snd.fst.toNat ((0 : Int), (0 : Int))).fst
 (x.fst.getD g.snd.snd.fst.toNat ((0 : Int), (0 : Int))).snd).fst.snd.fst,
 (step (g.fst.fst, g.fst.snd.fst, g.fst.snd.snd.fst, g.fst.snd.snd.snd)
 (x.fst.getD g.snd.snd.fst.toNat ((0 : Int), (0 : Int))).fst
 (x.fst.getD g.snd.snd.fst.toNat ((0 : Int), (0 : Int))).snd).fst.snd.snd.fst,
 (step (g.fst.fst, g.fst.snd.fst, g.fst.snd.snd.fst, g.fst.snd.snd.snd)
 (x.fst.getD g.snd.snd.fst.toNat ((0 : Int), (0 : Int))).fst
 (x.fst.getD g.snd.snd.fst.toNat ((0 : Int), (0 : Int))).snd).fst.snd.snd.snd) =
 ((step (g.fst.fst, g.fst.snd.fst, g.fst.snd.snd.fst, g.fst.snd.snd.snd)
 (x.fst.getD g.snd.snd.fst.toNat ((0 : Int), (0 : Int))).fst
 (x.fst.getD g.snd.snd.fst.toNat ((0 : Int), (0 : Int))).snd).fst.fst,
 (step (g.fst.fst, g.fst.snd.fst, g.fst.snd.snd.fst, g.fst.snd.snd.snd)
 (x.fst.getD g.snd.snd.fst.toNat ((0 : Int), (0 : Int))).fst
 (x.fst.getD g.snd.snd.fst.toNat ((0 : Int), (0 : Int))).snd).fst.snd.fst,
 (step (g.fst.fst, g.fst.snd.fst, g.fst.snd.snd.fst, g.fst.snd.snd.snd)
 (x.fst.getD g.snd.snd.fst.toNat ((0 : Int), (0 : Int))).fst
 (x.fst.getD g.snd.snd.fst.toNat ((0 : Int), (0 : Int))).snd).fst.snd.snd.fst,
 (step (g.fst.fst, g.fst.snd.fst, g.fst.snd.snd.fst, g.fst.snd.snd.snd)
 (x.fst.getD g.snd.snd.fst.toNat ((0 : Int), (0 : Int))).fst
 (x.fst.getD g.snd.snd.fst.toNat ((0 : Int), (0 : Int))).snd).fst.snd.snd.snd) ∧
 (x.fst.getD g.snd.snd.fst.toNat ((0 : Int), (0 : Int))).fst = (2 : Int)) ∧
 True) ∧
 ((True ∧ True) ∧
 (True ∧ True) ∧
 (True ∧ True) ∧
 (True ∧ True) ∧
 (step (g.fst.fst, g.fst.snd.fst, g.fst.snd.snd.fst, g.fst.snd.snd.snd)
 (x.fst.getD g.snd.snd.fst.toNat ((0 : Int), (0 : Int))).fst
 (x.fst.getD g.snd.snd.fst.toNat ((0 : Int), (0 : Int))).snd).snd.fst =
 (step (g.fst.fst, g.fst.snd.fst, g.fst.snd.snd.fst, g.fst.snd.snd.snd)
 (x.fst.getD g.snd.snd.fst.toNat ((0 : Int), (0 : Int))).fst
 (x.fst.getD g.snd.snd.fst.toNat ((0 : Int), (0 : Int))).snd).snd.fst ∧
 x.fst = x.fst ∧ (↑x.fst.length : Int) = (↑x.fst.length : Int) ∧ g.snd.snd.fst = g.snd.snd.fst ∧ True) ∧
 (((step (g.fst.fst, g.fst.snd.fst, g.fst.snd.snd.fst, g.fst.snd.snd.snd)
 (x.fst.getD g.snd.snd.fst.toNat ((0 : Int), (0 : Int))).fst
 (x.fst.getD g.snd.snd.fst.toNat ((0 : Int), (0 : Int))).snd).fst.fst =
 (step (g.fst.fst, g.fst.snd.fst, g.fst.snd.snd.fst, g.fst.snd.snd.snd)
 (x.fst.getD g.snd.snd.fst.toNat ((0 : Int), (0 : Int))).fst
 (x.fst.getD g.snd.snd.fst.toNat ((0 : Int), (0 : Int))).snd).fst.fst ∧
 (step (g.fst.fst, g.fst.snd.fst, g.fst.snd.snd.fst, g.fst.snd.snd.snd)
 (x.fst.getD g.snd.snd.fst.toNat ((0 : Int), (0 : Int))).fst
 (x.fst.getD g.snd.snd.fst.toNat ((0 : Int), (0 : Int))).snd).fst.snd.fst =
 (step (g.fst.fst, g.fst.snd.fst, g.fst.snd.snd.fst, g.fst.snd.snd.snd)
 (x.fst.getD g.snd.snd.fst.toNat ((0 : Int), (0 : Int))).fst
 (x.fst.getD g.snd.snd.fst.toNat ((0 : Int), (0 : Int))).snd).fst.snd.fst ∧
 (step (g.fst.fst, g.fst.snd.fst, g.fst.snd.snd.fst, g.fst.snd.snd.snd)
 (x.fst.getD g.snd.snd.fst.toNat ((0 : Int), (0 : Int))).fst
 (x.fst.getD g.snd.snd.fst.toNat ((0 : Int), (0 : Int))).snd).fst.snd.snd.fst =
 (step (g.fst.fst, g.fst.snd.fst, g.fst.snd.snd.fst, g.fst.snd.snd.snd)
 (x.fst.getD g.snd.snd.fst.toNat ((0 : Int), (0 : Int))).fst
 (x.fst.getD g.snd.snd.fst.toNat ((0 : Int), (0 : Int))).snd).fst.snd.snd.fst ∧
 (step (g.fst.fst, g.fst.snd.fst, g.fst.snd.snd.fst, g.fst.snd.snd.snd)
 (x.fst.getD g.snd.snd.fst.toNat ((0 : Int), (0 : Int))).fst
 (x.fst.getD g.snd.snd.fst.toNat ((0 : Int), (0 : Int))).snd).fst.snd.snd.snd =
 (step (g.fst.fst, g.fst.snd.fst, g.fst.snd.snd.fst, g.fst.snd.snd.snd)
 (x.fst.getD g.snd.snd.fst.toNat ((0 : Int), (0 : Int))).fst
 (x.fst.getD g.snd.snd.fst.toNat ((0 : Int), (0 : Int))).snd).fst.snd.snd.snd ∧
 True) ∧
 ((x.fst.getD g.snd.snd.fst.toNat ((0 : Int), (0 : Int))).fst = (2 : Int) ∧
 (x.fst.getD g.snd.snd.fst.toNat ((0 : Int), (0 : Int))).snd =
 (x.fst.getD g.snd.snd.fst.toNat ((0 : Int), (0 : Int))).snd ∧
 True) ∧
 (Value.slice none (0 : Nat) (0 : Nat) = Value.slice none (0 : Nat) (0 : Nat) ∧
 Value.slice none (0 : Nat) (0 : Nat) = Value.slice none (0 : Nat) (0 : Nat) ∧
 (0 : Int) = (0 : Int) ∧ false = false ∧ True) ∧
 (True ∧ True ∧ True) ∧ g.snd.fst.fst = g.snd.fst.fst ∧ g.snd.fst.snd = g.snd.fst.snd ∧ True) ∧
 True ∨
 ((((step (g.fst.fst, g.fst.snd.fst, g.fst.snd.snd.fst, g.fst.snd.snd.snd)
 (x.fst.getD g.snd.snd.fst.toNat ((0 : Int), (0 : Int))).fst
 (x.fst.getD g.snd.snd.fst.toNat ((0 : Int), (0 : Int))).snd).fst.fst,
 (step (g.fst.fst, g.fst.snd.fst, g.fst.snd.snd.fst, g.fst.snd.snd.snd)
 (x.fst.getD g.snd.snd.fst.toNat ((0 : Int), (0 : Int))).fst
 (x.fst.getD g.snd.snd.fst.toNat ((0 : Int), (0 : Int))).snd).fst.snd.fst,
 (step (g.fst.fst, g.fst.snd.fst, g.fst.snd.snd.fst, g.fst.snd.snd.snd)
 (x.fst.getD g.snd.snd.fst.toNat ((0 : Int), (0 : Int))).fst
 (x.fst.getD g.snd.snd.fst.toNat ((0 : Int), (0 : Int))).snd).fst.snd.snd.fst,
 (step (g.fst.fst, g.fst.snd.fst, g.fst.snd.snd.fst, g.fst.snd.snd.snd)
 (x.fst.getD g.snd.snd.fst.toNat ((0 : Int), (0 : Int))).fst
 (x.fst.getD g.snd.snd.fst.toNat ((0 : Int), (0 : Int))).snd).fst.snd.snd.snd) =
 ((step (g.fst.fst, g.fst.snd.fst, g.fst.snd.snd.fst, g.fst.snd.snd.snd)
 (x.fst.getD g.snd.snd.fst.toNat ((0 : Int), (0 : Int))).fst
 (x.fst.getD g.snd.snd.fst.toNat ((0 : Int), (0 : Int))).snd).fst.fst,
 (step (g.fst.fst, g.fst.snd.fst, g.fst.snd.snd.fst, g.fst.snd.snd.snd)
 (x.fst.getD g.snd.snd.fst.toNat ((0 : Int), (0 : Int))).fst
 (x.fst.getD g.snd.snd.fst.toNat ((0 : Int), (0 : Int))).snd).fst.snd.fst,
 (step (g.fst.fst, g.fst.snd.fst, g.fst.snd.snd.fst, g.fst.snd.snd.snd)
 (x.fst.getD g.snd.snd.fst.toNat ((0 : Int), (0 : Int))).fst
 (x.fst.getD g.snd.snd.fst.toNat ((0 : Int), (0 : Int))).snd).fst.snd.snd.fst,
 (step (g.fst.fst, g.fst.snd.fst, g.fst.snd.snd.fst, g.fst.snd.snd.snd)
 (x.fst.getD g.snd.snd.fst.toNat ((0 : Int), (0 : Int))).fst
 (x.fst.getD g.snd.snd.fst.toNat ((0 : Int), (0 : Int))).snd).fst.snd.snd.snd) ∧
 (x.fst.getD g.snd.snd.fst.toNat ((0 : Int), (0 : Int))).fst = (3 : Int)) ∧
 True) ∧
 ((True ∧ True) ∧
 (True ∧ True) ∧
 (True ∧ True) ∧
 (True ∧ True) ∧
 (step (g.fst.fst, g.fst.snd.fst, g.fst.snd.snd.fst, g.fst.snd.snd.snd)
 (x.fst.getD g.snd.snd.fst.toNat ((0 : Int), (0 : Int))).fst
 (x.fst.getD g.snd.snd.fst.toNat ((0 : Int), (0 : Int))).snd).snd.fst =
 (step (g.fst.fst, g.fst.snd.fst, g.fst.snd.snd.fst, g.fst.snd.snd.snd)
 (x.fst.getD g.snd.snd.fst.toNat ((0 : Int), (0 : Int))).fst
 (x.fst.getD g.snd.snd.fst.toNat ((0 : Int), (0 : Int))).snd).snd.fst ∧
 x.fst = x.fst ∧ (↑x.fst.length : Int) = (↑x.fst.length : Int) ∧ g.snd.snd.fst = g.snd.snd.fst ∧ True) ∧
 (((step (g.fst.fst, g.fst.snd.fst, g.fst.snd.snd.fst, g.fst.snd.snd.snd)
 (x.fst.getD g.snd.snd.fst.toNat ((0 : Int), (0 : Int))).fst
 (x.fst.getD g.snd.snd.fst.toNat ((0 : Int), (0 : Int))).snd).fst.fst =
 (step (g.fst.fst, g.fst.snd.fst, g.fst.snd.snd.fst, g.fst.snd.snd.snd)
 (x.fst.getD g.snd.snd.fst.toNat ((0 : Int), (0 : Int))).fst
 (x.fst.getD g.snd.snd.fst.toNat ((0 : Int), (0 : Int))).snd).fst.fst ∧
 (step (g.fst.fst, g.fst.snd.fst, g.fst.snd.snd.fst, g.fst.snd.snd.snd)
 (x.fst.getD g.snd.snd.fst.toNat ((0 : Int), (0 : Int))).fst
 (x.fst.getD g.snd.snd.fst.toNat ((0 : Int), (0 : Int))).snd).fst.snd.fst =
 (step (g.fst.fst, g.fst.snd.fst, g.fst.snd.snd.fst, g.fst.snd.snd.snd)
 (x.fst.getD g.snd.snd.fst.toNat ((0 : Int), (0 : Int))).fst
 (x.fst.getD g.snd.snd.fst.toNat ((0 : Int), (0 : Int))).snd).fst.snd.fst ∧
 (step (g.fst.fst, g.fst.snd.fst, g.fst.snd.snd.fst, g.fst.snd.snd.snd)
 (x.fst.getD g.snd.snd.fst.toNat ((0 : Int), (0 : Int))).fst
 (x.fst.getD g.snd.snd.fst.toNat ((0 : Int), (0 : Int))).snd).fst.snd.snd.fst =
 (step (g.fst.fst, g.fst.snd.fst, g.fst.snd.snd.fst, g.fst.snd.snd.snd)
 (x.fst.getD g.snd.snd.fst.toNat ((0 : Int), (0 : Int))).fst
 (x.fst.getD g.snd.snd.fst.toNat ((0 : Int), (0 : Int))).snd).fst.snd.snd.fst ∧
 (step (g.fst.fst, g.fst.snd.fst, g.fst.snd.snd.fst, g.fst.snd.snd.snd)
 (x.fst.getD g.snd.snd.fst.toNat ((0 : Int), (0 : Int))).fst
 (x.fst.getD g.snd.snd.fst.toNat ((0 : Int), (0 : Int))).snd).fst.snd.snd.snd =
 (step (g.fst.fst, g.fst.snd.fst, g.fst.snd.snd.fst, g.fst.snd.snd.snd)
 (x.fst.getD g.snd.snd.fst.toNat ((0 : Int), (0 : Int))).fst
 (x.fst.getD g.snd.snd.fst.toNat ((0 : Int), (0 : Int))).snd).fst.snd.snd.snd ∧
 True) ∧
 ((x.fst.getD g.snd.snd.fst.toNat ((0 : Int), (0 : Int))).fst = (3 : Int) ∧
 (x.fst.getD g.snd.snd.fst.toNat ((0 : Int), (0 : Int))).snd =
 (x.fst.getD g.snd.snd.fst.toNat ((0 : Int), (0 : Int))).snd ∧
 True) ∧
 (Value.slice none (0 : Nat) (0 : Nat) = Value.slice none (0 : Nat) (0 : Nat) ∧
 Value.slice none (0 : Nat) (0 : Nat) = Value.slice none (0 : Nat) (0 : Nat) ∧
 (0 : Int) = (0 : Int) ∧ false = false ∧ True) ∧
 (True ∧ True ∧ True) ∧ g.snd.fst.fst = g.snd.fst.fst ∧ g.snd.fst.snd = g.snd.fst.snd ∧ True) ∧
 True ∨
 ((((step (g.fst.fst, g.fst.snd.fst, g.fst.snd.snd.fst, g.fst.snd.snd.snd)
 (x.fst.getD g.snd.snd.fst.toNat ((0 : Int), (0 : Int))).fst
 (x.fst.getD g.snd.snd.fst.toNat ((0 : Int), (0 : Int))).snd).fst.fst,
 (step (g.fst.fst, g.fst.snd.fst, g.fst.snd.snd.fst, g.fst.snd.snd.snd)
 (x.fst.getD g.snd.snd.fst.toNat ((0 : Int), (0 : Int))).fst
 (x.fst.getD g.snd.snd.fst.toNat ((0 : Int), (0 : Int))).snd).fst.snd.fst,
 (step (g.fst.fst, g.fst.snd.fst, g.fst.snd.snd.fst, g.fst.snd.snd.snd)
 (x.fst.getD g.snd.snd.fst.toNat ((0 : Int), (0 : Int))).fst
 (x.fst.getD g.snd.snd.fst.toNat ((0 : Int), (0 : Int))).snd).fst.snd.snd.fst,
 (step (g.fst.fst, g.fst.snd.fst, g.fst.snd.snd.fst, g.fst.snd.snd.snd)
 (x.fst.getD g.snd.snd.fst.toNat ((0 : Int), (0 : Int))).fst
 (x.fst.getD g.snd.snd.fst.toNat ((0 : Int), (0 : Int))).snd).fst.snd.snd.snd) =
 ((step (g.fst.fst, g.fst.snd.fst, g.fst.snd.snd.fst, g.fst.snd.snd.snd)
 (x.fst.getD g.snd.snd.fst.toNat ((0 : Int), (0 : Int))).fst
 (x.fst.getD g.snd.snd.fst.toNat ((0 : Int), (0 : Int))).snd).fst.fst,
 (step (g.fst.fst, g.fst.snd.fst, g.fst.snd.snd.fst, g.fst.snd.snd.snd)
 (x.fst.getD g.snd.snd.fst.toNat ((0 : Int), (0 : Int))).fst
 (x.fst.getD g.snd.snd.fst.toNat ((0 : Int), (0 : Int))).snd).fst.snd.fst,
 (step (g.fst.fst, g.fst.snd.fst, g.fst.snd.snd.fst, g.fst.snd.snd.snd)
 (x.fst.getD g.snd.snd.fst.toNat ((0 : Int), (0 : Int))).fst
 (x.fst.getD g.snd.snd.fst.toNat ((0 : Int), (0 : Int))).snd).fst.snd.snd.fst,
 (step (g.fst.fst, g.fst.snd.fst, g.fst.snd.snd.fst, g.fst.snd.snd.snd)
 (x.fst.getD g.snd.snd.fst.toNat ((0 : Int), (0 : Int))).fst
 (x.fst.getD g.snd.snd.fst.toNat ((0 : Int), (0 : Int))).snd).fst.snd.snd.snd) ∧
 (x.fst.getD g.snd.snd.fst.toNat ((0 : Int), (0 : Int))).fst = (4 : Int)) ∧
 True) ∧
 ((True ∧ True) ∧
 (True ∧ True) ∧
 (True ∧ True) ∧
 (True ∧ True) ∧
 (step (g.fst.fst, g.fst.snd.fst, g.fst.snd.snd.fst, g.fst.snd.snd.snd)
 (x.fst.getD g.snd.snd.fst.toNat ((0 : Int), (0 : Int))).fst
 (x.fst.getD g.snd.snd.fst.toNat ((0 : Int), (0 : Int))).snd).snd.fst =
 (step (g.fst.fst, g.fst.snd.fst, g.fst.snd.snd.fst, g.fst.snd.snd.snd)
 (x.fst.getD g.snd.snd.fst.toNat ((0 : Int), (0 : Int))).fst
 (x.fst.getD g.snd.snd.fst.toNat ((0 : Int), (0 : Int))).snd).snd.fst ∧
 x.fst = x.fst ∧ (↑x.fst.length : Int) = (↑x.fst.length : Int) ∧ g.snd.snd.fst = g.snd.snd.fst ∧ True) ∧
 (((step (g.fst.fst, g.fst.snd.fst, g.fst.snd.snd.fst, g.fst.snd.snd.snd)
 (x.fst.getD g.snd.snd.fst.toNat ((0 : Int), (0 : Int))).fst
 (x.fst.getD g.snd.snd.fst.toNat ((0 : Int), (0 : Int))).snd).fst.fst =
 (step (g.fst.fst, g.fst.snd.fst, g.fst.snd.snd.fst, g.fst.snd.snd.snd)
 (x.fst.getD g.snd.snd.fst.toNat ((0 : Int), (0 : Int))).fst
 (x.fst.getD g.snd.snd.fst.toNat ((0 : Int), (0 : Int))).snd).fst.fst ∧
 (step (g.fst.fst, g.fst.snd.fst, g.fst.snd.snd.fst, g.fst.snd.snd.snd)
 (x.fst.getD g.snd.snd.fst.toNat ((0 : Int), (0 : Int))).fst
 (x.fst.getD g.snd.snd.fst.toNat ((0 : Int), (0 : Int))).snd).fst.snd.fst =
 (step (g.fst.fst, g.fst.snd.fst, g.fst.snd.snd.fst, g.fst.snd.snd.snd)
 (x.fst.getD g.snd.snd.fst.toNat ((0 : Int), (0 : Int))).fst
 (x.fst.getD g.snd.snd.fst.toNat ((0 : Int), (0 : Int))).snd).fst.snd.fst ∧
 (step (g.fst.fst, g.fst.snd.fst, g.fst.snd.snd.fst, g.fst.snd.snd.snd)
 (x.fst.getD g.snd.snd.fst.toNat ((0 : Int), (0 : Int))).fst
 (x.fst.getD g.snd.snd.fst.toNat ((0 : Int), (0 : Int))).snd).fst.snd.snd.fst =
 (step (g.fst.fst, g.fst.snd.fst, g.fst.snd.snd.fst, g.fst.snd.snd.snd)
 (x.fst.getD g.snd.snd.fst.toNat ((0 : Int), (0 : Int))).fst
 (x.fst.getD g.snd.snd.fst.toNat ((0 : Int), (0 : Int))).snd).fst.snd.snd.fst ∧
 (step (g.fst.fst, g.fst.snd.fst, g.fst.snd.snd.fst, g.fst.snd.snd.snd)
 (x.fst.getD g.snd.snd.fst.toNat ((0 : Int), (0 : Int))).fst
 (x.fst.getD g.snd.snd.fst.toNat ((0 : Int), (0 : Int))).snd).fst.snd.snd.snd =
 (step (g.fst.fst, g.fst.snd.fst, g.fst.snd.snd.fst, g.fst.snd.snd.snd)
 (x.fst.getD g.snd.snd.fst.toNat ((0 : Int), (0 : Int))).fst
 (x.fst.getD g.snd.snd.fst.toNat ((0 : Int), (0 : Int))).snd).fst.snd.snd.snd ∧
 True) ∧
 ((x.fst.getD g.snd.snd.fst.toNat ((0 : Int), (0 : Int))).fst = (4 : Int) ∧
 (x.fst.getD g.snd.snd.fst.toNat ((0 : Int), (0 : Int))).snd =
 (x.fst.getD g.snd.snd.fst.toNat ((0 : Int), (0 : Int))).snd ∧
 True) ∧
 (Value.slice none (0 : Nat) (0 : Nat) = Value.slice none (0 : Nat) (0 : Nat) ∧
 Value.slice none (0 : Nat) (0 : Nat) = Value.slice none (0 : Nat) (0 : Nat) ∧
 (0 : Int) = (0 : Int) ∧ false = false ∧ True) ∧
 (True ∧ True ∧ True) ∧ g.snd.fst.fst = g.snd.fst.fst ∧ g.snd.fst.snd = g.snd.fst.snd ∧ True) ∧
 True) ∧
 (∀ (g_1 : (List Int × List Int × Int × Bool) × (Unit × Unit) × Unit),
 g_1.fst =
 ((step (g.fst.fst, g.fst.snd.fst, g.fst.snd.snd.fst, g.fst.snd.snd.snd)
 (x.fst.getD g.snd.snd.fst.toNat ((0 : Int), (0 : Int))).fst
 (x.fst.getD g.snd.snd.fst.toNat ((0 : Int), (0 : Int))).snd).fst.fst,
 (step (g.fst.fst, g.fst.snd.fst, g.fst.snd.snd.fst, g.fst.snd.snd.snd)
 (x.fst.getD g.snd.snd.fst.toNat ((0 : Int), (0 : Int))).fst
 (x.fst.getD g.snd.snd.fst.toNat ((0 : Int), (0 : Int))).snd).fst.snd.fst,
 (step (g.fst.fst, g.fst.snd.fst, g.fst.snd.snd.fst, g.fst.snd.snd.snd)
 (x.fst.getD g.snd.snd.fst.toNat ((0 : Int), (0 : Int))).fst
 (x.fst.getD g.snd.snd.fst.toNat ((0 : Int), (0 : Int))).snd).fst.snd.snd.fst,
 (step (g.fst.fst, g.fst.snd.fst, g.fst.snd.snd.fst, g.fst.snd.snd.snd)
 (x.fst.getD g.snd.snd.fst.toNat ((0 : Int), (0 : Int))).fst
 (x.fst.getD g.snd.snd.fst.toNat ((0 : Int), (0 : Int))).snd).fst.snd.snd.snd) ∧
 (x.fst.getD g.snd.snd.fst.toNat ((0 : Int), (0 : Int))).fst = (1 : Int) →
 ((g_1.fst.fst.length ≤ (9223372036854775807 : Nat) ∧ ∀ (x : Int), x ∈ g_1.fst.fst → (0 : Int) ≤ x ∧ x ≤ (255 : Int)) ∧
 (g_1.fst.snd.fst.length ≤ (9223372036854775807 : Nat) ∧
 ∀ (x : Int), x ∈ g_1.fst.snd.fst → (0 : Int) ≤ x ∧ x ≤ (255 : Int)) ∧
 ((-9223372036854775808 : Int) ≤ g_1.fst.snd.snd.fst ∧ g_1.fst.snd.snd.fst ≤ (9223372036854775807 : Int)) ∧ True) ∧
 (True ∧ True) ∧ True →
 ((0 : Int) ≤ (1 : Int) ∧ (0 : Int) < (2 : Int)) ∧
 (((1 : Int) % (2 : Int) == (0 : Int)) = true →
 ((0 : Int) ≤ (1 : Int) ∧ (0 : Int) < (2 : Int)) ∧
 ((-9223372036854775808 : Int) ≤ (1 / 2 : Int) - (1 : Int) ∧
 (1 / 2 : Int) - (1 : Int) ≤ (9223372036854775807 : Int)) ∧
 ((0 : Int) ≤ (1 : Int) ∧ (0 : Int) < (2 : Int)) ∧
 ((-9223372036854775808 : Int) ≤ (1 / 2 : Int) - (1 : Int) ∧
 (1 / 2 : Int) - (1 : Int) ≤ (9223372036854775807 : Int)) ∧
 ((0 : Int) ≤ (1 / 2 : Int) - (1 : Int) ∧ (1 / 2 : Int) - (1 : Int) < (↑(2 : Nat) : Int)) ∧
 (g.snd.fst.fst.length +
 (((0 : Int) :: ([] : List Int)).set (0 : Nat)
 (step (g.fst.fst, g.fst.snd.fst, g.fst.snd.snd.fst, g.fst.snd.snd.snd)
 (x.fst.getD g.snd.snd.fst.toNat ((0 : Int), (0 : Int))).fst
 (x.fst.getD g.snd.snd.fst.toNat ((0 : Int), (0 : Int))).snd).snd.fst).length ≤
 (9223372036854775807 : Nat) ∧
 (g.snd.fst.fst.length +
 (((0 : Int) :: ([] : List Int)).set (0 : Nat)
 (step (g.fst.fst, g.fst.snd.fst, g.fst.snd.snd.fst, g.fst.snd.snd.snd)
 (x.fst.getD g.snd.snd.fst.toNat ((0 : Int), (0 : Int))).fst
 (x.fst.getD g.snd.snd.fst.toNat ((0 : Int), (0 : Int))).snd).snd.fst).length +
 (g.snd.fst.fst.length +
 (((0 : Int) :: ([] : List Int)).set (0 : Nat)
 (step (g.fst.fst, g.fst.snd.fst, g.fst.snd.snd.fst, g.fst.snd.snd.snd)
 (x.fst.getD g.snd.snd.fst.toNat ((0 : Int), (0 : Int))).fst
 (x.fst.getD g.snd.snd.fst.toNat
 ((0 : Int), (0 : Int))).snd).snd.fst).length) /
 (4 : Nat) +
 (192 : Nat)) *
 (1 : Nat) ≤
 (281474976710656 : Nat)) ∧
 ((0 : Int) ≤ (1 / 2 : Int) - (1 : Int) ∧ (1 / 2 : Int) - (1 : Int) < (↑(2 : Nat) : Int)) ∧
 ((-9223372036854775808 : Int) ≤ g.snd.snd.fst + (1 : Int) ∧
 g.snd.snd.fst + (1 : Int) ≤ (9223372036854775807 : Int)) ∧
 (((0 : Int) ≤ g.snd.snd.fst + (1 : Int) ∧
 g.snd.snd.fst + (1 : Int) ≤ (↑x.fst.length : Int) ∧
 ppl (List.take (g.snd.snd.fst + (1 : Int)).toNat x.fst) =
 ((g_1.fst.fst, g_1.fst.snd.fst, g_1.fst.snd.snd.fst, g_1.fst.snd.snd.snd),
 g.snd.fst.fst ++
 ((0 : Int) :: ([] : List Int)).set (0 : Nat)
 (step (g.fst.fst, g.fst.snd.fst, g.fst.snd.snd.fst, g.fst.snd.snd.snd)
 (x.fst.getD g.snd.snd.fst.toNat ((0 : Int), (0 : Int))).fst
 (x.fst.getD g.snd.snd.fst.toNat ((0 : Int), (0 : Int))).snd).snd.fst,
 g.snd.fst.snd) ∧
 (↑(g.snd.fst.fst ++
 ((0 : Int) :: ([] : List Int)).set (0 : Nat)
 (step (g.fst.fst, g.fst.snd.fst, g.fst.snd.snd.fst, g.fst.snd.snd.snd)
 (x.fst.getD g.snd.snd.fst.toNat ((0 : Int), (0 : Int))).fst
 (x.fst.getD g.snd.snd.fst.toNat
 ((0 : Int), (0 : Int))).snd).snd.fst).length :
 Int) +
 (↑g.snd.fst.snd.length : Int) ≤
 g.snd.snd.fst + (1 : Int)) ∧
 ((↑x.fst.length : Int) - (g.snd.snd.fst + (1 : Int))).toNat <
 ((↑x.fst.length : Int) - g.snd.snd.fst).toNat) ∧
 ((True ∧ True) ∧
 (True ∧ True) ∧
 (True ∧ True) ∧
 x.fst = x.fst ∧
 (↑x.fst.length : Int) = (↑x.fst.length : Int) ∧
 g.snd.snd.fst + (1 : Int) = g.snd.snd.fst + (1 : Int) ∧ True) ∧
 ((g_1.fst.fst = g_1.fst.fst ∧
 g_1.fst.snd.fst = g_1.fst.snd.fst ∧
 g_1.fst.snd.snd.fst = g_1.fst.snd.snd.fst ∧
 g_1.fst.snd.snd.snd = g_1.fst.snd.snd.snd ∧ True) ∧
 (True ∧ True ∧ True) ∧
 g.snd.fst.fst ++
 ((0 : Int) :: ([] : List Int)).set (0 : Nat)
 (step (g.fst.fst, g.fst.snd.fst, g.fst.snd.snd.fst, g.fst.snd.snd.snd)
 (x.fst.getD g.snd.snd.fst.toNat ((0 : Int), (0 : Int))).fst
 (x.fst.getD g.snd.snd.fst.toNat ((0 : Int), (0 : Int))).snd).snd.fst =
 g.snd.fst.fst ++
 ((0 : Int) :: ([] : List Int)).set (0 : Nat)
 (step (g.fst.fst, g.fst.snd.fst, g.fst.snd.snd.fst, g.fst.snd.snd.snd)
 (x.fst.getD g.snd.snd.fst.toNat ((0 : Int), (0 : Int))).fst
 (x.fst.getD g.snd.snd.fst.toNat ((0 : Int), (0 : Int))).snd).snd.fst ∧
 g.snd.fst.snd = g.snd.fst.snd ∧
 (Value.slice none (0 : Nat) (0 : Nat) = Value.slice none (0 : Nat) (0 : Nat) ∧
 Value.slice none (0 : Nat) (0 : Nat) = Value.slice none (0 : Nat) (0 : Nat) ∧
 (0 : Int) = (0 : Int) ∧ false = false ∧ True) ∧
 True) ∧
 True) ∧
 (((1 : Int) % (2 : Int) == (0 : Int)) = false →
 ((-9223372036854775808 : Int) ≤ g.snd.snd.fst + (1 : Int) ∧
 g.snd.snd.fst + (1 : Int) ≤ (9223372036854775807 : Int)) ∧
 (((0 : Int) ≤ g.snd.snd.fst + (1 : Int) ∧
 g.snd.snd.fst + (1 : Int) ≤ (↑x.fst.length : Int) ∧
 ppl (List.take (g.snd.snd.fst + (1 : Int)).toNat x.fst) =
 ((g_1.fst.fst, g_1.fst.snd.fst, g_1.fst.snd.snd.fst, g_1.fst.snd.snd.snd), g.snd.fst.fst,
 g.snd.fst.snd) ∧
 (↑g.snd.fst.fst.length : Int) + (↑g.snd.fst.snd.length : Int) ≤ g.snd.snd.fst + (1 : Int)) ∧
 ((↑x.fst.length : Int) - (g.snd.snd.fst + (1 : Int))).toNat <
 ((↑x.fst.length : Int) - g.snd.snd.fst).toNat) ∧
 ((True ∧ True) ∧
 (True ∧ True) ∧
 (True ∧ True) ∧
 x.fst = x.fst ∧
 (↑x.fst.length : Int) = (↑x.fst.length : Int) ∧
 g.snd.snd.fst + (1 : Int) = g.snd.snd.fst + (1 : Int) ∧ True) ∧
 ((g_1.fst.fst = g_1.fst.fst ∧
 g_1.fst.snd.fst = g_1.fst.snd.fst ∧
 g_1.fst.snd.snd.fst = g_1.fst.snd.snd.fst ∧ g_1.fst.snd.snd.snd = g_1.fst.snd.snd.snd ∧ True) ∧
 (True ∧ True ∧ True) ∧
 g.snd.fst.fst = g.snd.fst.fst ∧
 g.snd.fst.snd = g.snd.fst.snd ∧
 (Value.slice none (0 : Nat) (0 : Nat) = Value.slice none (0 : Nat) (0 : Nat) ∧
 Value.slice none (0 : Nat) (0 : Nat) = Value.slice none (0 : Nat) (0 : Nat) ∧
 (0 : Int) = (0 : Int) ∧ false = false ∧ True) ∧
 True) ∧
 True)) ∧
 (∀ (g_1 : (List Int × List Int × Int × Bool) × (Unit × Unit) × Unit),
 g_1.fst =
 ((step (g.fst.fst, g.fst.snd.fst, g.fst.snd.snd.fst, g.fst.snd.snd.snd)
 (x.fst.getD g.snd.snd.fst.toNat ((0 : Int), (0 : Int))).fst
 (x.fst.getD g.snd.snd.fst.toNat ((0 : Int), (0 : Int))).snd).fst.fst,
 (step (g.fst.fst, g.fst.snd.fst, g.fst.snd.snd.fst, g.fst.snd.snd.snd)
 (x.fst.getD g.snd.snd.fst.toNat ((0 : Int), (0 : Int))).fst
 (x.fst.getD g.snd.snd.fst.toNat ((0 : Int), (0 : Int))).snd).fst.snd.fst,
 (step (g.fst.fst, g.fst.snd.fst, g.fst.snd.snd.fst, g.fst.snd.snd.snd)
 (x.fst.getD g.snd.snd.fst.toNat ((0 : Int), (0 : Int))).fst
 (x.fst.getD g.snd.snd.fst.toNat ((0 : Int), (0 : Int))).snd).fst.snd.snd.fst,
 (step (g.fst.fst, g.fst.snd.fst, g.fst.snd.snd.fst, g.fst.snd.snd.snd)
 (x.fst.getD g.snd.snd.fst.toNat ((0 : Int), (0 : Int))).fst
 (x.fst.getD g.snd.snd.fst.toNat ((0 : Int), (0 : Int))).snd).fst.snd.snd.snd) ∧
 (x.fst.getD g.snd.snd.fst.toNat ((0 : Int), (0 : Int))).fst = (2 : Int) →
 ((g_1.fst.fst.length ≤ (9223372036854775807 : Nat) ∧ ∀ (x : Int), x ∈ g_1.fst.fst → (0 : Int) ≤ x ∧ x ≤ (255 : Int)) ∧
 (g_1.fst.snd.fst.length ≤ (9223372036854775807 : Nat) ∧
 ∀ (x : Int), x ∈ g_1.fst.snd.fst → (0 : Int) ≤ x ∧ x ≤ (255 : Int)) ∧
 ((-9223372036854775808 : Int) ≤ g_1.fst.snd.snd.fst ∧ g_1.fst.snd.snd.fst ≤ (9223372036854775807 : Int)) ∧
 True) ∧
 (True ∧ True) ∧ True →
 ((0 : Int) ≤ (2 : Int) ∧ (0 : Int) < (2 : Int)) ∧
 (((2 : Int) % (2 : Int) == (0 : Int)) = true →
 ((0 : Int) ≤ (2 : Int) ∧ (0 : Int) < (2 : Int)) ∧
 ((-9223372036854775808 : Int) ≤ (2 / 2 : Int) - (1 : Int) ∧
 (2 / 2 : Int) - (1 : Int) ≤ (9223372036854775807 : Int)) ∧
 ((0 : Int) ≤ (2 : Int) ∧ (0 : Int) < (2 : Int)) ∧
 ((-9223372036854775808 : Int) ≤ (2 / 2 : Int) - (1 : Int) ∧
 (2 / 2 : Int) - (1 : Int) ≤ (9223372036854775807 : Int)) ∧
 ((0 : Int) ≤ (2 / 2 : Int) - (1 : Int) ∧ (2 / 2 : Int) - (1 : Int) < (↑(2 : Nat) : Int)) ∧
 (g.snd.fst.fst.length +
 (((0 : Int) :: ([] : List Int)).set (0 : Nat)
 (step (g.fst.fst, g.fst.snd.fst, g.fst.snd.snd.fst, g.fst.snd.snd.snd)
 (x.fst.getD g.snd.snd.fst.toNat ((0 : Int), (0 : Int))).fst
 (x.fst.getD g.snd.snd.fst.toNat ((0 : Int), (0 : Int))).snd).snd.fst).length ≤
 (9223372036854775807 : Nat) ∧
 (g.snd.fst.fst.length +
 (((0 : Int) :: ([] : List Int)).set (0 : Nat)
 (step (g.fst.fst, g.fst.snd.fst, g.fst.snd.snd.fst, g.fst.snd.snd.snd)
 (x.fst.getD g.snd.snd.fst.toNat ((0 : Int), (0 : Int))).fst
 (x.fst.getD g.snd.snd.fst.toNat ((0 : Int), (0 : Int))).snd).snd.fst).length +
 (g.snd.fst.fst.length +
 (((0 : Int) :: ([] : List Int)).set (0 : Nat)
 (step (g.fst.fst, g.fst.snd.fst, g.fst.snd.snd.fst, g.fst.snd.snd.snd)
 (x.fst.getD g.snd.snd.fst.toNat ((0 : Int), (0 : Int))).fst
 (x.fst.getD g.snd.snd.fst.toNat
 ((0 : Int), (0 : Int))).snd).snd.fst).length) /
 (4 : Nat) +
 (192 : Nat)) *
 (1 : Nat) ≤
 (281474976710656 : Nat)) ∧
 ((0 : Int) ≤ (2 / 2 : Int) - (1 : Int) ∧ (2 / 2 : Int) - (1 : Int) < (↑(2 : Nat) : Int)) ∧
 ((-9223372036854775808 : Int) ≤ g.snd.snd.fst + (1 : Int) ∧
 g.snd.snd.fst + (1 : Int) ≤ (9223372036854775807 : Int)) ∧
 (((0 : Int) ≤ g.snd.snd.fst + (1 : Int) ∧
 g.snd.snd.fst + (1 : Int) ≤ (↑x.fst.length : Int) ∧
 ppl (List.take (g.snd.snd.fst + (1 : Int)).toNat x.fst) =
 ((g_1.fst.fst, g_1.fst.snd.fst, g_1.fst.snd.snd.fst, g_1.fst.snd.snd.snd),
 g.snd.fst.fst ++
 ((0 : Int) :: ([] : List Int)).set (0 : Nat)
 (step (g.fst.fst, g.fst.snd.fst, g.fst.snd.snd.fst, g.fst.snd.snd.snd)
 (x.fst.getD g.snd.snd.fst.toNat ((0 : Int), (0 : Int))).fst
 (x.fst.getD g.snd.snd.fst.toNat ((0 : Int), (0 : Int))).snd).snd.fst,
 g.snd.fst.snd) ∧
 (↑(g.snd.fst.fst ++
 ((0 : Int) :: ([] : List Int)).set (0 : Nat)
 (step (g.fst.fst, g.fst.snd.fst, g.fst.snd.snd.fst, g.fst.snd.snd.snd)
 (x.fst.getD g.snd.snd.fst.toNat ((0 : Int), (0 : Int))).fst
 (x.fst.getD g.snd.snd.fst.toNat
 ((0 : Int), (0 : Int))).snd).snd.fst).length :
 Int) +
 (↑g.snd.fst.snd.length : Int) ≤
 g.snd.snd.fst + (1 : Int)) ∧
 ((↑x.fst.length : Int) - (g.snd.snd.fst + (1 : Int))).toNat <
 ((↑x.fst.length : Int) - g.snd.snd.fst).toNat) ∧
 ((True ∧ True) ∧
 (True ∧ True) ∧
 (True ∧ True) ∧
 x.fst = x.fst ∧
 (↑x.fst.length : Int) = (↑x.fst.length : Int) ∧
 g.snd.snd.fst + (1 : Int) = g.snd.snd.fst + (1 : Int) ∧ True) ∧
 ((g_1.fst.fst = g_1.fst.fst ∧
 g_1.fst.snd.fst = g_1.fst.snd.fst ∧
 g_1.fst.snd.snd.fst = g_1.fst.snd.snd.fst ∧
 g_1.fst.snd.snd.snd = g_1.fst.snd.snd.snd ∧ True) ∧
 (True ∧ True ∧ True) ∧
 g.snd.fst.fst ++
 ((0 : Int) :: ([] : List Int)).set (0 : Nat)
 (step (g.fst.fst, g.fst.snd.fst, g.fst.snd.snd.fst, g.fst.snd.snd.snd)
 (x.fst.getD g.snd.snd.fst.toNat ((0 : Int), (0 : Int))).fst
 (x.fst.getD g.snd.snd.fst.toNat ((0 : Int), (0 : Int))).snd).snd.fst =
 g.snd.fst.fst ++
 ((0 : Int) :: ([] : List Int)).set (0 : Nat)
 (step (g.fst.fst, g.fst.snd.fst, g.fst.snd.snd.fst, g.fst.snd.snd.snd)
 (x.fst.getD g.snd.snd.fst.toNat ((0 : Int), (0 : Int))).fst
 (x.fst.getD g.snd.snd.fst.toNat ((0 : Int), (0 : Int))).snd).snd.fst ∧
 g.snd.fst.snd = g.snd.fst.snd ∧
 (Value.slice none (0 : Nat) (0 : Nat) = Value.slice none (0 : Nat) (0 : Nat) ∧
 Value.slice none (0 : Nat) (0 : Nat) = Value.slice none (0 : Nat) (0 : Nat) ∧
 (0 : Int) = (0 : Int) ∧ false = false ∧ True) ∧
 True) ∧
 True) ∧
 (((2 : Int) % (2 : Int) == (0 : Int)) = false →
 ((-9223372036854775808 : Int) ≤ g.snd.snd.fst + (1 : Int) ∧
 g.snd.snd.fst + (1 : Int) ≤ (9223372036854775807 : Int)) ∧
 (((0 : Int) ≤ g.snd.snd.fst + (1 : Int) ∧
 g.snd.snd.fst + (1 : Int) ≤ (↑x.fst.length : Int) ∧
 ppl (List.take (g.snd.snd.fst + (1 : Int)).toNat x.fst) =
 ((g_1.fst.fst, g_1.fst.snd.fst, g_1.fst.snd.snd.fst, g_1.fst.snd.snd.snd), g.snd.fst.fst,
 g.snd.fst.snd) ∧
 (↑g.snd.fst.fst.length : Int) + (↑g.snd.fst.snd.length : Int) ≤ g.snd.snd.fst + (1 : Int)) ∧
 ((↑x.fst.length : Int) - (g.snd.snd.fst + (1 : Int))).toNat <
 ((↑x.fst.length : Int) - g.snd.snd.fst).toNat) ∧
 ((True ∧ True) ∧
 (True ∧ True) ∧
 (True ∧ True) ∧
 x.fst = x.fst ∧
 (↑x.fst.length : Int) = (↑x.fst.length : Int) ∧
 g.snd.snd.fst + (1 : Int) = g.snd.snd.fst + (1 : Int) ∧ True) ∧
 ((g_1.fst.fst = g_1.fst.fst ∧
 g_1.fst.snd.fst = g_1.fst.snd.fst ∧
 g_1.fst.snd.snd.fst = g_1.fst.snd.snd.fst ∧ g_1.fst.snd.snd.snd = g_1.fst.snd.snd.snd ∧ True) ∧
 (True ∧ True ∧ True) ∧
 g.snd.fst.fst = g.snd.fst.fst ∧
 g.snd.fst.snd = g.snd.fst.snd ∧
 (Value.slice none (0 : Nat) (0 : Nat) = Value.slice none (0 : Nat) (0 : Nat) ∧
 Value.slice none (0 : Nat) (0 : Nat) = Value.slice none (0 : Nat) (0 : Nat) ∧
 (0 : Int) = (0 : Int) ∧ false = false ∧ True) ∧
 True) ∧
 True)) ∧
 (∀ (g_1 : (List Int × List Int × Int × Bool) × (Unit × Unit) × Unit),
 g_1.fst =
 ((step (g.fst.fst, g.fst.snd.fst, g.fst.snd.snd.fst, g.fst.snd.snd.snd)
 (x.fst.getD g.snd.snd.fst.toNat ((0 : Int), (0 : Int))).fst
 (x.fst.getD g.snd.snd.fst.toNat ((0 : Int), (0 : Int))).snd).fst.fst,
 (step (g.fst.fst, g.fst.snd.fst, g.fst.snd.snd.fst, g.fst.snd.snd.snd)
 (x.fst.getD g.snd.snd.fst.toNat ((0 : Int), (0 : Int))).fst
 (x.fst.getD g.snd.snd.fst.toNat ((0 : Int), (0 : Int))).snd).fst.snd.fst,
 (step (g.fst.fst, g.fst.snd.fst, g.fst.snd.snd.fst, g.fst.snd.snd.snd)
 (x.fst.getD g.snd.snd.fst.toNat ((0 : Int), (0 : Int))).fst
 (x.fst.getD g.snd.snd.fst.toNat ((0 : Int), (0 : Int))).snd).fst.snd.snd.fst,
 (step (g.fst.fst, g.fst.snd.fst, g.fst.snd.snd.fst, g.fst.snd.snd.snd)
 (x.fst.getD g.snd.snd.fst.toNat ((0 : Int), (0 : Int))).fst
 (x.fst.getD g.snd.snd.fst.toNat ((0 : Int), (0 : Int))).snd).fst.snd.snd.snd) ∧
 (x.fst.getD g.snd.snd.fst.toNat ((0 : Int), (0 : Int))).fst = (3 : Int) →
 ((g_1.fst.fst.length ≤ (9223372036854775807 : Nat) ∧ ∀ (x : Int), x ∈ g_1.fst.fst → (0 : Int) ≤ x ∧ x ≤ (255 : Int)) ∧
 (g_1.fst.snd.fst.length ≤ (9223372036854775807 : Nat) ∧
 ∀ (x : Int), x ∈ g_1.fst.snd.fst → (0 : Int) ≤ x ∧ x ≤ (255 : Int)) ∧
 ((-9223372036854775808 : Int) ≤ g_1.fst.snd.snd.fst ∧ g_1.fst.snd.snd.fst ≤ (9223372036854775807 : Int)) ∧
 True) ∧
 (True ∧ True) ∧ True →
 ((0 : Int) ≤ (3 : Int) ∧ (0 : Int) < (2 : Int)) ∧
 (((3 : Int) % (2 : Int) == (0 : Int)) = true →
 ((0 : Int) ≤ (3 : Int) ∧ (0 : Int) < (2 : Int)) ∧
 ((-9223372036854775808 : Int) ≤ (3 / 2 : Int) - (1 : Int) ∧
 (3 / 2 : Int) - (1 : Int) ≤ (9223372036854775807 : Int)) ∧
 ((0 : Int) ≤ (3 : Int) ∧ (0 : Int) < (2 : Int)) ∧
 ((-9223372036854775808 : Int) ≤ (3 / 2 : Int) - (1 : Int) ∧
 (3 / 2 : Int) - (1 : Int) ≤ (9223372036854775807 : Int)) ∧
 ((0 : Int) ≤ (3 / 2 : Int) - (1 : Int) ∧ (3 / 2 : Int) - (1 : Int) < (↑(2 : Nat) : Int)) ∧
 (g.snd.fst.fst.length +
 (((0 : Int) :: ([] : List Int)).set (0 : Nat)
 (step (g.fst.fst, g.fst.snd.fst, g.fst.snd.snd.fst, g.fst.snd.snd.snd)
 (x.fst.getD g.snd.snd.fst.toNat ((0 : Int), (0 : Int))).fst
 (x.fst.getD g.snd.snd.fst.toNat ((0 : Int), (0 : Int))).snd).snd.fst).length ≤
 (9223372036854775807 : Nat) ∧
 (g.snd.fst.fst.length +
 (((0 : Int) :: ([] : List Int)).set (0 : Nat)
 (step (g.fst.fst, g.fst.snd.fst, g.fst.snd.snd.fst, g.fst.snd.snd.snd)
 (x.fst.getD g.snd.snd.fst.toNat ((0 : Int), (0 : Int))).fst
 (x.fst.getD g.snd.snd.fst.toNat
 ((0 : Int), (0 : Int))).snd).snd.fst).length +
 (g.snd.fst.fst.length +
 (((0 : Int) :: ([] : List Int)).set (0 : Nat)
 (step (g.fst.fst, g.fst.snd.fst, g.fst.snd.snd.fst, g.fst.snd.snd.snd)
 (x.fst.getD g.snd.snd.fst.toNat ((0 : Int), (0 : Int))).fst
 (x.fst.getD g.snd.snd.fst.toNat
 ((0 : Int), (0 : Int))).snd).snd.fst).length) /
 (4 : Nat) +
 (192 : Nat)) *
 (1 : Nat) ≤
 (281474976710656 : Nat)) ∧
 ((0 : Int) ≤ (3 / 2 : Int) - (1 : Int) ∧ (3 / 2 : Int) - (1 : Int) < (↑(2 : Nat) : Int)) ∧
 ((-9223372036854775808 : Int) ≤ g.snd.snd.fst + (1 : Int) ∧
 g.snd.snd.fst + (1 : Int) ≤ (9223372036854775807 : Int)) ∧
 (((0 : Int) ≤ g.snd.snd.fst + (1 : Int) ∧
 g.snd.snd.fst + (1 : Int) ≤ (↑x.fst.length : Int) ∧
 ppl (List.take (g.snd.snd.fst + (1 : Int)).toNat x.fst) =
 ((g_1.fst.fst, g_1.fst.snd.fst, g_1.fst.snd.snd.fst, g_1.fst.snd.snd.snd),
 g.snd.fst.fst ++
 ((0 : Int) :: ([] : List Int)).set (0 : Nat)
 (step (g.fst.fst, g.fst.snd.fst, g.fst.snd.snd.fst, g.fst.snd.snd.snd)
 (x.fst.getD g.snd.snd.fst.toNat ((0 : Int), (0 : Int))).fst
 (x.fst.getD g.snd.snd.fst.toNat ((0 : Int), (0 : Int))).snd).snd.fst,
 g.snd.fst.snd) ∧
 (↑(g.snd.fst.fst ++
 ((0 : Int) :: ([] : List Int)).set (0 : Nat)
 (step (g.fst.fst, g.fst.snd.fst, g.fst.snd.snd.fst, g.fst.snd.snd.snd)
 (x.fst.getD g.snd.snd.fst.toNat ((0 : Int), (0 : Int))).fst
 (x.fst.getD g.snd.snd.fst.toNat
 ((0 : Int), (0 : Int))).snd).snd.fst).length :
 Int) +
 (↑g.snd.fst.snd.length : Int) ≤
 g.snd.snd.fst + (1 : Int)) ∧
 ((↑x.fst.length : Int) - (g.snd.snd.fst + (1 : Int))).toNat <
 ((↑x.fst.length : Int) - g.snd.snd.fst).toNat) ∧
 ((True ∧ True) ∧
 (True ∧ True) ∧
 (True ∧ True) ∧
 x.fst = x.fst ∧
 (↑x.fst.length : Int) = (↑x.fst.length : Int) ∧
 g.snd.snd.fst + (1 : Int) = g.snd.snd.fst + (1 : Int) ∧ True) ∧
 ((g_1.fst.fst = g_1.fst.fst ∧
 g_1.fst.snd.fst = g_1.fst.snd.fst ∧
 g_1.fst.snd.snd.fst = g_1.fst.snd.snd.fst ∧
 g_1.fst.snd.snd.snd = g_1.fst.snd.snd.snd ∧ True) ∧
 (True ∧ True ∧ True) ∧
 g.snd.fst.fst ++
 ((0 : Int) :: ([] : List Int)).set (0 : Nat)
 (step (g.fst.fst, g.fst.snd.fst, g.fst.snd.snd.fst, g.fst.snd.snd.snd)
 (x.fst.getD g.snd.snd.fst.toNat ((0 : Int), (0 : Int))).fst
 (x.fst.getD g.snd.snd.fst.toNat ((0 : Int), (0 : Int))).snd).snd.fst =
 g.snd.fst.fst ++
 ((0 : Int) :: ([] : List Int)).set (0 : Nat)
 (step (g.fst.fst, g.fst.snd.fst, g.fst.snd.snd.fst, g.fst.snd.snd.snd)
 (x.fst.getD g.snd.snd.fst.toNat ((0 : Int), (0 : Int))).fst
 (x.fst.getD g.snd.snd.fst.toNat ((0 : Int), (0 : Int))).snd).snd.fst ∧
 g.snd.fst.snd = g.snd.fst.snd ∧
 (Value.slice none (0 : Nat) (0 : Nat) = Value.slice none (0 : Nat) (0 : Nat) ∧
 Value.slice none (0 : Nat) (0 : Nat) =
 Value.slice none (0 : Nat) (0 : Nat) ∧
 (0 : Int) = (0 : Int) ∧ false = false ∧ True) ∧
 True) ∧
 True) ∧
 (((3 : Int) % (2 : Int) == (0 : Int)) = false →
 ((-9223372036854775808 : Int) ≤ g.snd.snd.fst + (1 : Int) ∧
 g.snd.snd.fst + (1 : Int) ≤ (9223372036854775807 : Int)) ∧
 (((0 : Int) ≤ g.snd.snd.fst + (1 : Int) ∧
 g.snd.snd.fst + (1 : Int) ≤ (↑x.fst.length : Int) ∧
 ppl (List.take (g.snd.snd.fst + (1 : Int)).toNat x.fst) =
 ((g_1.fst.fst, g_1.fst.snd.fst, g_1.fst.snd.snd.fst, g_1.fst.snd.snd.snd), g.snd.fst.fst,
 g.snd.fst.snd) ∧
 (↑g.snd.fst.fst.length : Int) + (↑g.snd.fst.snd.length : Int) ≤ g.snd.snd.fst + (1 : Int)) ∧
 ((↑x.fst.length : Int) - (g.snd.snd.fst + (1 : Int))).toNat <
 ((↑x.fst.length : Int) - g.snd.snd.fst).toNat) ∧
 ((True ∧ True) ∧
 (True ∧ True) ∧
 (True ∧ True) ∧
 x.fst = x.fst ∧
 (↑x.fst.length : Int) = (↑x.fst.length : Int) ∧
 g.snd.snd.fst + (1 : Int) = g.snd.snd.fst + (1 : Int) ∧ True) ∧
 ((g_1.fst.fst = g_1.fst.fst ∧
 g_1.fst.snd.fst = g_1.fst.snd.fst ∧
 g_1.fst.snd.snd.fst = g_1.fst.snd.snd.fst ∧ g_1.fst.snd.snd.snd = g_1.fst.snd.snd.snd ∧ True) ∧
 (True ∧ True ∧ True) ∧
 g.snd.fst.fst = g.snd.fst.fst ∧
 g.snd.fst.snd = g.snd.fst.snd ∧
 (Value.slice none (0 : Nat) (0 : Nat) = Value.slice none (0 : Nat) (0 : Nat) ∧
 Value.slice none (0 : Nat) (0 : Nat) = Value.slice none (0 : Nat) (0 : Nat) ∧
 (0 : Int) = (0 : Int) ∧ false = false ∧ True) ∧
 True) ∧
 True)) ∧
 ∀ (g_1 : (List Int × List Int × Int × Bool) × (Unit × Unit) × Unit),
 g_1.fst =
 ((step (g.fst.fst, g.fst.snd.fst, g.fst.snd.snd.fst, g.fst.snd.snd.snd)
 (x.fst.getD g.snd.snd.fst.toNat ((0 : Int), (0 : Int))).fst
 (x.fst.getD g.snd.snd.fst.toNat ((0 : Int), (0 : Int))).snd).fst.fst,
 (step (g.fst.fst, g.fst.snd.fst, g.fst.snd.snd.fst, g.fst.snd.snd.snd)
 (x.fst.getD g.snd.snd.fst.toNat ((0 : Int), (0 : Int))).fst
 (x.fst.getD g.snd.snd.fst.toNat ((0 : Int), (0 : Int))).snd).fst.snd.fst,
 (step (g.fst.fst, g.fst.snd.fst, g.fst.snd.snd.fst, g.fst.snd.snd.snd)
 (x.fst.getD g.snd.snd.fst.toNat ((0 : Int), (0 : Int))).fst
 (x.fst.getD g.snd.snd.fst.toNat ((0 : Int), (0 : Int))).snd).fst.snd.snd.fst,
 (step (g.fst.fst, g.fst.snd.fst, g.fst.snd.snd.fst, g.fst.snd.snd.snd)
 (x.fst.getD g.snd.snd.fst.toNat ((0 : Int), (0 : Int))).fst
 (x.fst.getD g.snd.snd.fst.toNat ((0 : Int), (0 : Int))).snd).fst.snd.snd.snd) ∧
 (x.fst.getD g.snd.snd.fst.toNat ((0 : Int), (0 : Int))).fst = (4 : Int) →
 ((g_1.fst.fst.length ≤ (9223372036854775807 : Nat) ∧ ∀ (x : Int), x ∈ g_1.fst.fst → (0 : Int) ≤ x ∧ x ≤ (255 : Int)) ∧
 (g_1.fst.snd.fst.length ≤ (9223372036854775807 : Nat) ∧
 ∀ (x : Int), x ∈ g_1.fst.snd.fst → (0 : Int) ≤ x ∧ x ≤ (255 : Int)) ∧
 ((-9223372036854775808 : Int) ≤ g_1.fst.snd.snd.fst ∧ g_1.fst.snd.snd.fst ≤ (9223372036854775807 : Int)) ∧
 True) ∧
 (True ∧ True) ∧ True →
 ((0 : Int) ≤ (4 : Int) ∧ (0 : Int) < (2 : Int)) ∧
 (((4 : Int) % (2 : Int) == (0 : Int)) = true →
 ((0 : Int) ≤ (4 : Int) ∧ (0 : Int) < (2 : Int)) ∧
 ((-9223372036854775808 : Int) ≤ (4 / 2 : Int) - (1 : Int) ∧
 (4 / 2 : Int) - (1 : Int) ≤ (9223372036854775807 : Int)) ∧
 ((0 : Int) ≤ (4 : Int) ∧ (0 : Int) < (2 : Int)) ∧
 ((-9223372036854775808 : Int) ≤ (4 / 2 : Int) - (1 : Int) ∧
 (4 / 2 : Int) - (1 : Int) ≤ (9223372036854775807 : Int)) ∧
 ((0 : Int) ≤ (4 / 2 : Int) - (1 : Int) ∧ (4 / 2 : Int) - (1 : Int) < (↑(2 : Nat) : Int)) ∧
 (g.snd.fst.snd.length +
 (((0 : Int) :: ([] : List Int)).set (0 : Nat)
 (step (g.fst.fst, g.fst.snd.fst, g.fst.snd.snd.fst, g.fst.snd.snd.snd)
 (x.fst.getD g.snd.snd.fst.toNat ((0 : Int), (0 : Int))).fst
 (x.fst.getD g.snd.snd.fst.toNat ((0 : Int), (0 : Int))).snd).snd.fst).length ≤
 (9223372036854775807 : Nat) ∧
 (g.snd.fst.snd.length +
 (((0 : Int) :: ([] : List Int)).set (0 : Nat)
 (step (g.fst.fst, g.fst.snd.fst, g.fst.snd.snd.fst, g.fst.snd.snd.snd)
 (x.fst.getD g.snd.snd.fst.toNat ((0 : Int), (0 : Int))).fst
 (x.fst.getD g.snd.snd.fst.toNat
 ((0 : Int), (0 : Int))).snd).snd.fst).length +
 (g.snd.fst.snd.length +
 (((0 : Int) :: ([] : List Int)).set (0 : Nat)
 (step (g.fst.fst, g.fst.snd.fst, g.fst.snd.snd.fst, g.fst.snd.snd.snd)
 (x.fst.getD g.snd.snd.fst.toNat ((0 : Int), (0 : Int))).fst
 (x.fst.getD g.snd.snd.fst.toNat
 ((0 : Int), (0 : Int))).snd).snd.fst).length) /
 (4 : Nat) +
 (192 : Nat)) *
 (1 : Nat) ≤
 (281474976710656 : Nat)) ∧
 ((0 : Int) ≤ (4 / 2 : Int) - (1 : Int) ∧ (4 / 2 : Int) - (1 : Int) < (↑(2 : Nat) : Int)) ∧
 ((-9223372036854775808 : Int) ≤ g.snd.snd.fst + (1 : Int) ∧
 g.snd.snd.fst + (1 : Int) ≤ (9223372036854775807 : Int)) ∧
 (((0 : Int) ≤ g.snd.snd.fst + (1 : Int) ∧
 g.snd.snd.fst + (1 : Int) ≤ (↑x.fst.length : Int) ∧
 ppl (List.take (g.snd.snd.fst + (1 : Int)).toNat x.fst) =
 ((g_1.fst.fst, g_1.fst.snd.fst, g_1.fst.snd.snd.fst, g_1.fst.snd.snd.snd),
 g.snd.fst.fst,
 g.snd.fst.snd ++
 ((0 : Int) :: ([] : List Int)).set (0 : Nat)
 (step (g.fst.fst, g.fst.snd.fst, g.fst.snd.snd.fst, g.fst.snd.snd.snd)
 (x.fst.getD g.snd.snd.fst.toNat ((0 : Int), (0 : Int))).fst
 (x.fst.getD g.snd.snd.fst.toNat
 ((0 : Int), (0 : Int))).snd).snd.fst) ∧
 (↑g.snd.fst.fst.length : Int) +
 (↑(g.snd.fst.snd ++
 ((0 : Int) :: ([] : List Int)).set (0 : Nat)
 (step (g.fst.fst, g.fst.snd.fst, g.fst.snd.snd.fst, g.fst.snd.snd.snd)
 (x.fst.getD g.snd.snd.fst.toNat ((0 : Int), (0 : Int))).fst
 (x.fst.getD g.snd.snd.fst.toNat
 ((0 : Int), (0 : Int))).snd).snd.fst).length :
 Int) ≤
 g.snd.snd.fst + (1 : Int)) ∧
 ((↑x.fst.length : Int) - (g.snd.snd.fst + (1 : Int))).toNat <
 ((↑x.fst.length : Int) - g.snd.snd.fst).toNat) ∧
 ((True ∧ True) ∧
 (True ∧ True) ∧
 (True ∧ True) ∧
 x.fst = x.fst ∧
 (↑x.fst.length : Int) = (↑x.fst.length : Int) ∧
 g.snd.snd.fst + (1 : Int) = g.snd.snd.fst + (1 : Int) ∧ True) ∧
 ((g_1.fst.fst = g_1.fst.fst ∧
 g_1.fst.snd.fst = g_1.fst.snd.fst ∧
 g_1.fst.snd.snd.fst = g_1.fst.snd.snd.fst ∧
 g_1.fst.snd.snd.snd = g_1.fst.snd.snd.snd ∧ True) ∧
 (True ∧ True ∧ True) ∧
 g.snd.fst.fst = g.snd.fst.fst ∧
 g.snd.fst.snd ++
 ((0 : Int) :: ([] : List Int)).set (0 : Nat)
 (step (g.fst.fst, g.fst.snd.fst, g.fst.snd.snd.fst, g.fst.snd.snd.snd)
 (x.fst.getD g.snd.snd.fst.toNat ((0 : Int), (0 : Int))).fst
 (x.fst.getD g.snd.snd.fst.toNat
 ((0 : Int), (0 : Int))).snd).snd.fst =
 g.snd.fst.snd ++
 ((0 : Int) :: ([] : List Int)).set (0 : Nat)
 (step (g.fst.fst, g.fst.snd.fst, g.fst.snd.snd.fst, g.fst.snd.snd.snd)
 (x.fst.getD g.snd.snd.fst.toNat ((0 : Int), (0 : Int))).fst
 (x.fst.getD g.snd.snd.fst.toNat
 ((0 : Int), (0 : Int))).snd).snd.fst ∧
 (Value.slice none (0 : Nat) (0 : Nat) = Value.slice none (0 : Nat) (0 : Nat) ∧
 Value.slice none (0 : Nat) (0 : Nat) =
 Value.slice none (0 : Nat) (0 : Nat) ∧
 (0 : Int) = (0 : Int) ∧ false = false ∧ True) ∧
 True) ∧
 True) ∧
 (((4 : Int) % (2 : Int) == (0 : Int)) = false →
 ((-9223372036854775808 : Int) ≤ g.snd.snd.fst + (1 : Int) ∧
 g.snd.snd.fst + (1 : Int) ≤ (9223372036854775807 : Int)) ∧
 (((0 : Int) ≤ g.snd.snd.fst + (1 : Int) ∧
 g.snd.snd.fst + (1 : Int) ≤ (↑x.fst.length : Int) ∧
 ppl (List.take (g.snd.snd.fst + (1 : Int)).toNat x.fst) =
 ((g_1.fst.fst, g_1.fst.snd.fst, g_1.fst.snd.snd.fst, g_1.fst.snd.snd.snd), g.snd.fst.fst,
 g.snd.fst.snd) ∧
 (↑g.snd.fst.fst.length : Int) + (↑g.snd.fst.snd.length : Int) ≤ g.snd.snd.fst + (1 : Int)) ∧
 ((↑x.fst.length : Int) - (g.snd.snd.fst + (1 : Int))).toNat <
 ((↑x.fst.length : Int) - g.snd.snd.fst).toNat) ∧
 ((True ∧ True) ∧
 (True ∧ True) ∧
 (True ∧ True) ∧
 x.fst = x.fst ∧
 (↑x.fst.length : Int) = (↑x.fst.length : Int) ∧
 g.snd.snd.fst + (1 : Int) = g.snd.snd.fst + (1 : Int) ∧ True) ∧
 ((g_1.fst.fst = g_1.fst.fst ∧
 g_1.fst.snd.fst = g_1.fst.snd.fst ∧
 g_1.fst.snd.snd.fst = g_1.fst.snd.snd.fst ∧ g_1.fst.snd.snd.snd = g_1.fst.snd.snd.snd ∧ True) ∧
 (True ∧ True ∧ True) ∧
 g.snd.fst.fst = g.snd.fst.fst ∧
 g.snd.fst.snd = g.snd.fst.snd ∧
 (Value.slice none (0 : Nat) (0 : Nat) = Value.slice none (0 : Nat) (0 : Nat) ∧
 Value.slice none (0 : Nat) (0 : Nat) = Value.slice none (0 : Nat) (0 : Nat) ∧
 (0 : Int) = (0 : Int) ∧ false = false ∧ True) ∧
 True) ∧
 True)) ∧
 (((step (g.fst.fst, g.fst.snd.fst, g.fst.snd.snd.fst, g.fst.snd.snd.snd) (x.fst.getD g.snd.snd.fst.toNat ((0 : Int), (0 : Int))).fst
 (x.fst.getD g.snd.snd.fst.toNat ((0 : Int), (0 : Int))).snd).snd.snd.fst ==
 (0 : Int)) =
 false →
 ((-9223372036854775808 : Int) ≤ g.snd.snd.fst + (1 : Int) ∧ g.snd.snd.fst + (1 : Int) ≤ (9223372036854775807 : Int)) ∧
 (((0 : Int) ≤ g.snd.snd.fst + (1 : Int) ∧
 g.snd.snd.fst + (1 : Int) ≤ (↑x.fst.length : Int) ∧
 ppl (List.take (g.snd.snd.fst + (1 : Int)).toNat x.fst) =
 ((g.fst.fst, g.fst.snd.fst, g.fst.snd.snd.fst, g.fst.snd.snd.snd), g.snd.fst.fst, g.snd.fst.snd) ∧
 (↑g.snd.fst.fst.length : Int) + (↑g.snd.fst.snd.length : Int) ≤ g.snd.snd.fst + (1 : Int)) ∧
 ((↑x.fst.length : Int) - (g.snd.snd.fst + (1 : Int))).toNat < ((↑x.fst.length : Int) - g.snd.snd.fst).toNat) ∧
 ((True ∧ True) ∧
 (True ∧ True) ∧
 (True ∧ True) ∧
 x.fst = x.fst ∧
 (↑x.fst.length : Int) = (↑x.fst.length : Int) ∧ g.snd.snd.fst + (1 : Int) = g.snd.snd.fst + (1 : Int) ∧ True) ∧
 ((g.fst.fst = g.fst.fst ∧
 g.fst.snd.fst = g.fst.snd.fst ∧
 g.fst.snd.snd.fst = g.fst.snd.snd.fst ∧ g.fst.snd.snd.snd = g.fst.snd.snd.snd ∧ True) ∧
 (True ∧ True ∧ True) ∧
 g.snd.fst.fst = g.snd.fst.fst ∧
 g.snd.fst.snd = g.snd.fst.snd ∧
 (Value.slice none (0 : Nat) (0 : Nat) = Value.slice none (0 : Nat) (0 : Nat) ∧
 Value.slice none (0 : Nat) (0 : Nat) = Value.slice none (0 : Nat) (0 : Nat) ∧
 (0 : Int) = (0 : Int) ∧ false = false ∧ True) ∧
 True) ∧
 True)) ∧
 (decide (g.snd.snd.fst < (↑x.fst.length : Int)) = false →
 ((0 : Int) ≤ (0 : Int) ∧ (0 : Int) < (↑(2 : Nat) : Int)) ∧
 ((0 : Int) ≤ (1 : Int) ∧ (1 : Int) < (↑(2 : Nat) : Int)) ∧
 g.snd.fst.fst = (ppl x.fst).snd.fst ∧
 g.snd.fst.snd = (ppl x.fst).snd.snd ∧ (g.fst.fst, g.fst.snd.fst, g.fst.snd.snd.fst, g.fst.snd.snd.snd) = (ppl x.fst).fst)

theorem E_pplay_eq (x : HL (cPlay : Ctr).as) : vc (fx_pplay x) 1 65 Try.f65 (cPlay) x = E_pplay x := by kernel_rfl

def E_plays (x : List (Int × Int) × Unit) : Prop :=
 Holds (x.fst.length * (16 : Nat) ≤ (140737488355328 : Nat)) ∧
 Holds (x.fst.length * (16 : Nat) ≤ (140737488355328 : Nat)) ∧
 (decide ((ppl x.fst).snd.fst = (ppl x.fst).snd.fst) = true → decide ((ppl x.fst).snd.fst = (ppl x.fst).snd.fst) = true) ∧
 (decide ((ppl x.fst).snd.fst = (ppl x.fst).snd.fst) = true → decide ((ppl x.fst).snd.fst = (ppl x.fst).snd.fst) = true) ∧
 (decide ((ppl x.fst).snd.fst = (ppl x.fst).snd.fst) = true →
 decide ((ppl x.fst).snd.fst = (ppl x.fst).snd.fst) = true ∧ decide ((ppl x.fst).snd.fst = (ppl x.fst).snd.fst) = true) ∧
 (decide ((ppl x.fst).snd.fst = (ppl x.fst).snd.fst) = true → decide ((ppl x.fst).snd.fst = (ppl x.fst).snd.fst) = true) ∧
 ((decide ((ppl x.fst).snd.fst = (ppl x.fst).snd.fst) && decide ((ppl x.fst).snd.snd = (ppl x.fst).snd.snd)) = true →
 Holds True ∧
 same ((ppl x.fst).fst.fst, (ppl x.fst).fst.snd.fst, (ppl x.fst).fst.snd.snd.fst, (ppl x.fst).fst.snd.snd.snd)
 ((ppl x.fst).fst.fst, (ppl x.fst).fst.snd.fst, (ppl x.fst).fst.snd.snd.fst, (ppl x.fst).fst.snd.snd.snd) =
 true) ∧
 ((decide ((ppl x.fst).snd.fst = (ppl x.fst).snd.fst) && decide ((ppl x.fst).snd.snd = (ppl x.fst).snd.snd)) = !true → false = true)

theorem E_plays_eq (x : HL (cLawP : Ctr).as) : vc (fx_plays x) 1 13 Try.f13 (cLawP) x = E_plays x := by kernel_rfl

end Go.Proofs.Ytollphjlheabdaa.Uartp
