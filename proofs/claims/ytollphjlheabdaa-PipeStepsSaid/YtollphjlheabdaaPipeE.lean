/-
  The conditions that the executor comes to, written out (by a tool of ours), and that they are the conditions (by the kernel).
-/
import Derived.Test.YtollphjlheabdaaPipeC
namespace Go.Proofs.Ytollphjlheabdaa.Pipe
open Go.Sx
set_option maxRecDepth 100000

def E_clone (x : List Int × Unit) : Prop :=
 ∀ (b : Bool),
 (b = true → x.fst = ([] : List Int)) →
 (b = true → ([] : List Int) = x.fst) ∧
 (b = false →
 (([] : List Int).length + x.fst.length ≤ (9223372036854775807 : Nat) ∧
 (([] : List Int).length + x.fst.length + (([] : List Int).length + x.fst.length) / (4 : Nat) + (192 : Nat)) * (1 : Nat) ≤
 (281474976710656 : Nat)) ∧
 ([] : List Int) ++ x.fst = x.fst)

theorem E_clone_eq (x : HL (cClone : Ctr).as) : vc (fx_clone x) 1 70 Try.f70 (cClone) x = E_clone x := by kernel_rfl

def E_equal (x : List Int × List Int × Unit) : Prop :=
 (((↑x.fst.length : Int) != (↑x.snd.fst.length : Int)) = true → false = decide (x.fst = x.snd.fst)) ∧
 (((↑x.fst.length : Int) != (↑x.snd.fst.length : Int)) = false →
 ((((0 : Int) ≤ (0 : Int) ∧
 (0 : Int) ≤ (↑x.fst.length : Int) ∧ List.take (Int.toNat (0 : Int)) x.fst = List.take (Int.toNat (0 : Int)) x.snd.fst) ∧
 True) ∧
 (x.fst = x.fst ∧ x.snd.fst = x.snd.fst ∧ (↑x.fst.length : Int) = (↑x.fst.length : Int) ∧ (0 : Int) = (0 : Int) ∧ True) ∧ True ∧ True) ∧
 ∀ (g : Int × Unit),
 (0 : Int) ≤ g.fst ∧ g.fst ≤ (↑x.fst.length : Int) ∧ List.take g.fst.toNat x.fst = List.take g.fst.toNat x.snd.fst →
 ((-9223372036854775808 : Int) ≤ g.fst ∧ g.fst ≤ (9223372036854775807 : Int)) ∧ True →
 (decide (g.fst < (↑x.fst.length : Int)) = true →
 ((0 : Int) ≤ g.fst ∧ g.fst < (↑x.fst.length : Int)) ∧
 ((0 : Int) ≤ g.fst ∧ g.fst < (↑x.snd.fst.length : Int)) ∧
 ((x.fst.getD g.fst.toNat (0 : Int) != x.snd.fst.getD g.fst.toNat (0 : Int)) = true → false = decide (x.fst = x.snd.fst)) ∧
 ((x.fst.getD g.fst.toNat (0 : Int) != x.snd.fst.getD g.fst.toNat (0 : Int)) = false →
 ((-9223372036854775808 : Int) ≤ g.fst + (1 : Int) ∧ g.fst + (1 : Int) ≤ (9223372036854775807 : Int)) ∧
 (((0 : Int) ≤ g.fst + (1 : Int) ∧
 g.fst + (1 : Int) ≤ (↑x.fst.length : Int) ∧
 List.take (g.fst + (1 : Int)).toNat x.fst = List.take (g.fst + (1 : Int)).toNat x.snd.fst) ∧
 ((↑x.fst.length : Int) - (g.fst + (1 : Int))).toNat < ((↑x.fst.length : Int) - g.fst).toNat) ∧
 (x.fst = x.fst ∧
 x.snd.fst = x.snd.fst ∧
 (↑x.fst.length : Int) = (↑x.fst.length : Int) ∧ g.fst + (1 : Int) = g.fst + (1 : Int) ∧ True) ∧
 True ∧ True)) ∧
 (decide (g.fst < (↑x.fst.length : Int)) = false → true = decide (x.fst = x.snd.fst)))

theorem E_equal_eq (x : HL (cEqual : Ctr).as) : vc (fx_equal x) 1 63 Try.f63 (cEqual) x = E_equal x := by kernel_rfl

def E_right (x : (List Int × Int × Int) × Unit) : Prop :=
 (decide ((↑x.fst.fst.length : Int) ≤ (64 : Int)) = true → decide ((↑x.fst.fst.length : Int) ≤ (64 : Int)) = true) ∧
 (decide ((↑x.fst.fst.length : Int) ≤ (64 : Int)) = true → decide ((↑x.fst.fst.length : Int) ≤ (64 : Int)) = true) ∧
 (decide ((↑x.fst.fst.length : Int) ≤ (64 : Int)) = true → decide ((↑x.fst.fst.length : Int) ≤ (64 : Int)) = true) ∧
 ((decide ((↑x.fst.fst.length : Int) ≤ (64 : Int)) && decide ((0 : Int) ≤ x.fst.snd.fst)) = true →
 (decide ((↑x.fst.fst.length : Int) ≤ (64 : Int)) && decide ((0 : Int) ≤ x.fst.snd.fst)) = true) ∧
 ((decide ((↑x.fst.fst.length : Int) ≤ (64 : Int)) && decide ((0 : Int) ≤ x.fst.snd.fst)) = true →
 (decide ((↑x.fst.fst.length : Int) ≤ (64 : Int)) && decide ((0 : Int) ≤ x.fst.snd.fst)) = true) ∧
 ((decide ((↑x.fst.fst.length : Int) ≤ (64 : Int)) && decide ((0 : Int) ≤ x.fst.snd.fst)) = true →
 (decide ((↑x.fst.fst.length : Int) ≤ (64 : Int)) && decide ((0 : Int) ≤ x.fst.snd.fst)) = true) ∧
 ((decide ((↑x.fst.fst.length : Int) ≤ (64 : Int)) && decide ((0 : Int) ≤ x.fst.snd.fst) &&
 decide (x.fst.snd.fst ≤ (1099511627776 : Int))) =
 true →
 (decide ((↑x.fst.fst.length : Int) ≤ (64 : Int)) && decide ((0 : Int) ≤ x.fst.snd.fst) &&
 decide (x.fst.snd.fst ≤ (1099511627776 : Int))) =
 true) ∧
 ((decide ((↑x.fst.fst.length : Int) ≤ (64 : Int)) && decide ((0 : Int) ≤ x.fst.snd.fst) &&
 decide (x.fst.snd.fst ≤ (1099511627776 : Int))) =
 true →
 (decide ((↑x.fst.fst.length : Int) ≤ (64 : Int)) && decide ((0 : Int) ≤ x.fst.snd.fst) &&
 decide (x.fst.snd.fst ≤ (1099511627776 : Int))) =
 true) ∧
 ((decide ((↑x.fst.fst.length : Int) ≤ (64 : Int)) && decide ((0 : Int) ≤ x.fst.snd.fst) &&
 decide (x.fst.snd.fst ≤ (1099511627776 : Int))) =
 true →
 (decide ((↑x.fst.fst.length : Int) ≤ (64 : Int)) && decide ((0 : Int) ≤ x.fst.snd.fst) &&
 decide (x.fst.snd.fst ≤ (1099511627776 : Int))) =
 true) ∧
 ((decide ((↑x.fst.fst.length : Int) ≤ (64 : Int)) && decide ((0 : Int) ≤ x.fst.snd.fst) &&
 decide (x.fst.snd.fst ≤ (1099511627776 : Int)) &&
 decide ((0 : Int) ≤ x.fst.snd.snd)) =
 true →
 (decide ((↑x.fst.fst.length : Int) ≤ (64 : Int)) && decide ((0 : Int) ≤ x.fst.snd.fst) &&
 decide (x.fst.snd.fst ≤ (1099511627776 : Int)) &&
 decide ((0 : Int) ≤ x.fst.snd.snd)) =
 true) ∧
 ((decide ((↑x.fst.fst.length : Int) ≤ (64 : Int)) && decide ((0 : Int) ≤ x.fst.snd.fst) &&
 decide (x.fst.snd.fst ≤ (1099511627776 : Int)) &&
 decide ((0 : Int) ≤ x.fst.snd.snd)) =
 true →
 (decide ((↑x.fst.fst.length : Int) ≤ (64 : Int)) && decide ((0 : Int) ≤ x.fst.snd.fst) &&
 decide (x.fst.snd.fst ≤ (1099511627776 : Int)) &&
 decide ((0 : Int) ≤ x.fst.snd.snd)) =
 true) ∧
 ((decide ((↑x.fst.fst.length : Int) ≤ (64 : Int)) && decide ((0 : Int) ≤ x.fst.snd.fst) &&
 decide (x.fst.snd.fst ≤ (1099511627776 : Int)) &&
 decide ((0 : Int) ≤ x.fst.snd.snd)) =
 true →
 (decide ((↑x.fst.fst.length : Int) ≤ (64 : Int)) && decide ((0 : Int) ≤ x.fst.snd.fst) &&
 decide (x.fst.snd.fst ≤ (1099511627776 : Int)) &&
 decide ((0 : Int) ≤ x.fst.snd.snd)) =
 true) ∧
 (decide ((↑x.fst.fst.length : Int) ≤ (64 : Int)) && decide ((0 : Int) ≤ x.fst.snd.fst) &&
 decide (x.fst.snd.fst ≤ (1099511627776 : Int)) &&
 decide ((0 : Int) ≤ x.fst.snd.snd) &&
 decide (x.fst.snd.snd ≤ (1099511627776 : Int))) =
 right x.fst

theorem E_right_eq (x : HL (cRight : Ctr).as) : vc (fx_right x) 1 46 Try.f46 (cRight) x = E_right x := by kernel_rfl

def E_uright (x : (List Int × Int × Int) × Unit) : Prop :=
 (decide ((↑x.fst.fst.length : Int) < (65 : Int)) = true → decide ((↑x.fst.fst.length : Int) < (65 : Int)) = true) ∧
 (decide ((↑x.fst.fst.length : Int) < (65 : Int)) = true → decide ((↑x.fst.fst.length : Int) < (65 : Int)) = true) ∧
 (decide ((↑x.fst.fst.length : Int) < (65 : Int)) = true →
 decide ((↑x.fst.fst.length : Int) < (65 : Int)) = true ∧ decide ((↑x.fst.fst.length : Int) < (65 : Int)) = true) ∧
 (decide ((↑x.fst.fst.length : Int) < (65 : Int)) = true → decide ((↑x.fst.fst.length : Int) < (65 : Int)) = true) ∧
 (decide ((↑x.fst.fst.length : Int) < (65 : Int)) = true → decide ((↑x.fst.fst.length : Int) < (65 : Int)) = true) ∧
 ((decide ((↑x.fst.fst.length : Int) < (65 : Int)) && decide ((0 : Int) ≤ min x.fst.snd.fst x.fst.snd.snd)) = true →
 (decide ((↑x.fst.fst.length : Int) < (65 : Int)) && decide ((0 : Int) ≤ min x.fst.snd.fst x.fst.snd.snd)) = true) ∧
 ((decide ((↑x.fst.fst.length : Int) < (65 : Int)) && decide ((0 : Int) ≤ min x.fst.snd.fst x.fst.snd.snd)) = true →
 (decide ((↑x.fst.fst.length : Int) < (65 : Int)) && decide ((0 : Int) ≤ min x.fst.snd.fst x.fst.snd.snd)) = true) ∧
 ((decide ((↑x.fst.fst.length : Int) < (65 : Int)) && decide ((0 : Int) ≤ min x.fst.snd.fst x.fst.snd.snd)) = true →
 (decide ((↑x.fst.fst.length : Int) < (65 : Int)) && decide ((0 : Int) ≤ min x.fst.snd.fst x.fst.snd.snd)) = true ∧
 (decide ((↑x.fst.fst.length : Int) < (65 : Int)) && decide ((0 : Int) ≤ min x.fst.snd.fst x.fst.snd.snd)) = true) ∧
 ((decide ((↑x.fst.fst.length : Int) < (65 : Int)) && decide ((0 : Int) ≤ min x.fst.snd.fst x.fst.snd.snd)) = true →
 (decide ((↑x.fst.fst.length : Int) < (65 : Int)) && decide ((0 : Int) ≤ min x.fst.snd.fst x.fst.snd.snd)) = true) ∧
 ((decide ((↑x.fst.fst.length : Int) < (65 : Int)) && decide ((0 : Int) ≤ min x.fst.snd.fst x.fst.snd.snd)) = true →
 (decide ((↑x.fst.fst.length : Int) < (65 : Int)) && decide ((0 : Int) ≤ min x.fst.snd.fst x.fst.snd.snd)) = true) ∧
 (decide ((↑x.fst.fst.length : Int) < (65 : Int)) && decide ((0 : Int) ≤ min x.fst.snd.fst x.fst.snd.snd) &&
 decide (max x.fst.snd.fst x.fst.snd.snd ≤ (1099511627776 : Int))) =
 right x.fst

theorem E_uright_eq (x : HL (cRight : Ctr).as) : vc (fx_uright x) 1 47 Try.f47 (cRight) x = E_uright x := by kernel_rfl

def E_step (x : (List Int × Int × Int) × (Int × Int × List Int) × Unit) : Prop :=
 Holds True ∧
 ((!right (x.fst.fst, x.fst.snd.fst, x.fst.snd.snd)) = true →
 (([] : List Int), (0 : Int), (0 : Int)) = (step x.fst x.snd.fst).fst ∧
 (0 : Int) = (step x.fst x.snd.fst).snd.fst ∧
 ([] : List Int) = (step x.fst x.snd.fst).snd.snd.fst ∧ (1 : Int) = (step x.fst x.snd.fst).snd.snd.snd.fst) ∧
 ((!right (x.fst.fst, x.fst.snd.fst, x.fst.snd.snd)) = false →
 Holds (x.fst.fst.length ≤ (140737488355328 : Nat)) ∧
 ((x.snd.fst.fst == (1 : Int)) = true →
 ((-9223372036854775808 : Int) ≤ (64 : Int) - (↑x.fst.fst.length : Int) ∧
 (64 : Int) - (↑x.fst.fst.length : Int) ≤ (9223372036854775807 : Int)) ∧
 ((x.fst.snd.fst == (0 : Int)) = true →
 (([] : List Int), (0 : Int), (0 : Int)) = (step x.fst x.snd.fst).fst ∧
 (0 : Int) = (step x.fst x.snd.fst).snd.fst ∧
 ([] : List Int) = (step x.fst x.snd.fst).snd.snd.fst ∧ (6 : Int) = (step x.fst x.snd.fst).snd.snd.snd.fst) ∧
 ((x.fst.snd.fst == (0 : Int)) = false →
 ((x.fst.snd.snd == (0 : Int)) = true →
 (([] : List Int), (0 : Int), (0 : Int)) = (step x.fst x.snd.fst).fst ∧
 (0 : Int) = (step x.fst x.snd.fst).snd.fst ∧
 ([] : List Int) = (step x.fst x.snd.fst).snd.snd.fst ∧ (3 : Int) = (step x.fst x.snd.fst).snd.snd.snd.fst) ∧
 ((x.fst.snd.snd == (0 : Int)) = false →
 (decide ((64 : Int) - (↑x.fst.fst.length : Int) < (↑x.snd.fst.snd.snd.length : Int)) = true →
 decide ((64 : Int) - (↑x.fst.fst.length : Int) < (↑x.snd.fst.snd.snd.length : Int)) = true) ∧
 (decide ((64 : Int) - (↑x.fst.fst.length : Int) < (↑x.snd.fst.snd.snd.length : Int)) = true →
 decide ((64 : Int) - (↑x.fst.fst.length : Int) < (↑x.snd.fst.snd.snd.length : Int)) = true) ∧
 ((decide ((64 : Int) - (↑x.fst.fst.length : Int) < (↑x.snd.fst.snd.snd.length : Int)) &&
 !(64 : Int) - (↑x.fst.fst.length : Int) == (0 : Int)) =
 true →
 (decide ((64 : Int) - (↑x.fst.fst.length : Int) < (↑x.snd.fst.snd.snd.length : Int)) &&
 !(64 : Int) - (↑x.fst.fst.length : Int) == (0 : Int)) =
 true) ∧
 ((decide ((64 : Int) - (↑x.fst.fst.length : Int) < (↑x.snd.fst.snd.snd.length : Int)) &&
 !(64 : Int) - (↑x.fst.fst.length : Int) == (0 : Int)) =
 true →
 (decide ((64 : Int) - (↑x.fst.fst.length : Int) < (↑x.snd.fst.snd.snd.length : Int)) &&
 !(64 : Int) - (↑x.fst.fst.length : Int) == (0 : Int)) =
 true) ∧
 ((decide ((64 : Int) - (↑x.fst.fst.length : Int) < (↑x.snd.fst.snd.snd.length : Int)) &&
 !(64 : Int) - (↑x.fst.fst.length : Int) == (0 : Int)) =
 true →
 (decide ((64 : Int) - (↑x.fst.fst.length : Int) < (↑x.snd.fst.snd.snd.length : Int)) &&
 !(64 : Int) - (↑x.fst.fst.length : Int) == (0 : Int)) =
 true) ∧
 (decide ((64 : Int) - (↑x.fst.fst.length : Int) < (↑x.snd.fst.snd.snd.length : Int)) = true →
 decide ((64 : Int) - (↑x.fst.fst.length : Int) < (↑x.snd.fst.snd.snd.length : Int)) = true ∧
 (((64 : Int) - (↑x.fst.fst.length : Int) == (0 : Int)) = false →
 (decide ((64 : Int) - (↑x.fst.fst.length : Int) < (↑x.snd.fst.snd.snd.length : Int)) &&
 !(64 : Int) - (↑x.fst.fst.length : Int) == (0 : Int)) =
 true)) ∧
 (decide ((64 : Int) - (↑x.fst.fst.length : Int) < (↑x.snd.fst.snd.snd.length : Int)) = true →
 decide ((64 : Int) - (↑x.fst.fst.length : Int) < (↑x.snd.fst.snd.snd.length : Int)) = true) ∧
 ((decide ((64 : Int) - (↑x.fst.fst.length : Int) < (↑x.snd.fst.snd.snd.length : Int)) &&
 ((64 : Int) - (↑x.fst.fst.length : Int) == (0 : Int) ||
 decide ((↑x.snd.fst.snd.snd.length : Int) ≤ (16 : Int)))) =
 true →
 (([] : List Int), (0 : Int), (0 : Int)) = (step x.fst x.snd.fst).fst ∧
 (0 : Int) = (step x.fst x.snd.fst).snd.fst ∧
 ([] : List Int) = (step x.fst x.snd.fst).snd.snd.fst ∧
 (7 : Int) = (step x.fst x.snd.fst).snd.snd.snd.fst) ∧
 ((decide ((64 : Int) - (↑x.fst.fst.length : Int) < (↑x.snd.fst.snd.snd.length : Int)) &&
 ((64 : Int) - (↑x.fst.fst.length : Int) == (0 : Int) ||
 decide ((↑x.snd.fst.snd.snd.length : Int) ≤ (16 : Int)))) =
 false →
 (((0 : Int) ≤ (0 : Int) ∧
 (0 : Int) ≤ min ((64 : Int) - (↑x.fst.fst.length : Int)) (↑x.snd.fst.snd.snd.length : Int)) ∧
 min ((64 : Int) - (↑x.fst.fst.length : Int)) (↑x.snd.fst.snd.snd.length : Int) ≤
 (↑x.snd.fst.snd.snd.length : Int)) ∧
 (x.fst.fst.length +
 (List.drop (Int.toNat (0 : Int))
 (List.take
 (min ((64 : Int) - (↑x.fst.fst.length : Int)) (↑x.snd.fst.snd.snd.length : Int)).toNat
 x.snd.fst.snd.snd)).length ≤
 (9223372036854775807 : Nat) ∧
 (x.fst.fst.length +
 (List.drop (Int.toNat (0 : Int))
 (List.take
 (min ((64 : Int) - (↑x.fst.fst.length : Int)) (↑x.snd.fst.snd.snd.length : Int)).toNat
 x.snd.fst.snd.snd)).length +
 (x.fst.fst.length +
 (List.drop (Int.toNat (0 : Int))
 (List.take
 (min ((64 : Int) - (↑x.fst.fst.length : Int)) (↑x.snd.fst.snd.snd.length : Int)).toNat
 x.snd.fst.snd.snd)).length) /
 (4 : Nat) +
 (192 : Nat)) *
 (1 : Nat) ≤
 (281474976710656 : Nat)) ∧
 (x.fst.fst ++
 List.drop (Int.toNat (0 : Int))
 (List.take
 (min ((64 : Int) - (↑x.fst.fst.length : Int)) (↑x.snd.fst.snd.snd.length : Int)).toNat
 x.snd.fst.snd.snd),
 x.fst.snd.fst, x.fst.snd.snd) =
 (step x.fst x.snd.fst).fst ∧
 min ((64 : Int) - (↑x.fst.fst.length : Int)) (↑x.snd.fst.snd.snd.length : Int) =
 (step x.fst x.snd.fst).snd.fst ∧
 ([] : List Int) = (step x.fst x.snd.fst).snd.snd.fst ∧
 (0 : Int) = (step x.fst x.snd.fst).snd.snd.snd.fst)))) ∧
 ((x.snd.fst.fst == (1 : Int)) = false →
 ((x.snd.fst.fst == (2 : Int)) = true →
 ((x.fst.snd.snd == (0 : Int)) = true →
 (([] : List Int), (0 : Int), (0 : Int)) = (step x.fst x.snd.fst).fst ∧
 (0 : Int) = (step x.fst x.snd.fst).snd.fst ∧
 ([] : List Int) = (step x.fst x.snd.fst).snd.snd.fst ∧ (6 : Int) = (step x.fst x.snd.fst).snd.snd.snd.fst) ∧
 ((x.fst.snd.snd == (0 : Int)) = false →
 (decide (x.snd.fst.snd.fst < (1 : Int)) = true →
 (([] : List Int), (0 : Int), (0 : Int)) = (step x.fst x.snd.fst).fst ∧
 (0 : Int) = (step x.fst x.snd.fst).snd.fst ∧
 ([] : List Int) = (step x.fst x.snd.fst).snd.snd.fst ∧ (2 : Int) = (step x.fst x.snd.fst).snd.snd.snd.fst) ∧
 (decide (x.snd.fst.snd.fst < (1 : Int)) = false →
 (((↑x.fst.fst.length : Int) == (0 : Int)) = true → ((↑x.fst.fst.length : Int) == (0 : Int)) = true) ∧
 (((↑x.fst.fst.length : Int) == (0 : Int)) = true → ((↑x.fst.fst.length : Int) == (0 : Int)) = true) ∧
 (((↑x.fst.fst.length : Int) == (0 : Int)) = true → ((↑x.fst.fst.length : Int) == (0 : Int)) = true) ∧
 (((↑x.fst.fst.length : Int) == (0 : Int) && decide ((0 : Int) < x.fst.snd.fst)) = true →
 (([] : List Int), (0 : Int), (0 : Int)) = (step x.fst x.snd.fst).fst ∧
 (0 : Int) = (step x.fst x.snd.fst).snd.fst ∧
 ([] : List Int) = (step x.fst x.snd.fst).snd.snd.fst ∧ (7 : Int) = (step x.fst x.snd.fst).snd.snd.snd.fst) ∧
 (((↑x.fst.fst.length : Int) == (0 : Int) && decide ((0 : Int) < x.fst.snd.fst)) = false →
 (((0 : Int) ≤ (0 : Int) ∧ (0 : Int) ≤ min x.snd.fst.snd.fst (↑x.fst.fst.length : Int)) ∧
 min x.snd.fst.snd.fst (↑x.fst.fst.length : Int) ≤ (↑x.fst.fst.length : Int)) ∧
 Holds
 ((List.drop (Int.toNat (0 : Int))
 (List.take (min x.snd.fst.snd.fst (↑x.fst.fst.length : Int)).toNat x.fst.fst)).length ≤
 (140737488355328 : Nat)) ∧
 (((0 : Int) ≤ min x.snd.fst.snd.fst (↑x.fst.fst.length : Int) ∧
 min x.snd.fst.snd.fst (↑x.fst.fst.length : Int) ≤ (↑x.fst.fst.length : Int)) ∧
 (↑x.fst.fst.length : Int) ≤ (↑x.fst.fst.length : Int)) ∧
 Holds
 ((List.drop (min x.snd.fst.snd.fst (↑x.fst.fst.length : Int)).toNat
 (List.take (↑x.fst.fst.length : Int).toNat x.fst.fst)).length ≤
 (140737488355328 : Nat)) ∧
 (List.drop (min x.snd.fst.snd.fst (↑x.fst.fst.length : Int)).toNat
 (List.take (↑x.fst.fst.length : Int).toNat x.fst.fst),
 x.fst.snd.fst, x.fst.snd.snd) =
 (step x.fst x.snd.fst).fst ∧
 (0 : Int) = (step x.fst x.snd.fst).snd.fst ∧
 List.drop (Int.toNat (0 : Int))
 (List.take (min x.snd.fst.snd.fst (↑x.fst.fst.length : Int)).toNat x.fst.fst) =
 (step x.fst x.snd.fst).snd.snd.fst ∧
 (0 : Int) = (step x.fst x.snd.fst).snd.snd.snd.fst)))) ∧
 ((x.snd.fst.fst == (2 : Int)) = false →
 (x.snd.fst.fst = (3 : Int) →
 ((!x.snd.fst.fst == (3 : Int)) = true → (!x.snd.fst.fst == (3 : Int)) = true) ∧
 ((!x.snd.fst.fst == (3 : Int)) = true → (!x.snd.fst.fst == (3 : Int)) = true) ∧
 ((x.snd.fst.fst == (3 : Int)) = false → (!x.snd.fst.fst == (3 : Int)) = true) ∧
 ((x.snd.fst.fst == (3 : Int) || x.snd.fst.fst == (4 : Int)) = true →
 ((x.fst.snd.fst == (1099511627776 : Int)) = true →
 (([] : List Int), (0 : Int), (0 : Int)) = (step x.fst x.snd.fst).fst ∧
 (0 : Int) = (step x.fst x.snd.fst).snd.fst ∧
 ([] : List Int) = (step x.fst x.snd.fst).snd.snd.fst ∧ (4 : Int) = (step x.fst x.snd.fst).snd.snd.snd.fst) ∧
 ((x.fst.snd.fst == (1099511627776 : Int)) = false →
 ((-9223372036854775808 : Int) ≤ x.fst.snd.fst + (1 : Int) ∧
 x.fst.snd.fst + (1 : Int) ≤ (9223372036854775807 : Int)) ∧
 (x.fst.fst, x.fst.snd.fst + (1 : Int), x.fst.snd.snd) = (step x.fst x.snd.fst).fst ∧
 (0 : Int) = (step x.fst x.snd.fst).snd.fst ∧
 ([] : List Int) = (step x.fst x.snd.fst).snd.snd.fst ∧ (0 : Int) = (step x.fst x.snd.fst).snd.snd.snd.fst)) ∧
 ((x.snd.fst.fst == (3 : Int) || x.snd.fst.fst == (4 : Int)) = false →
 ((x.fst.snd.fst == (0 : Int)) = true →
 (([] : List Int), (0 : Int), (0 : Int)) = (step x.fst x.snd.fst).fst ∧
 (0 : Int) = (step x.fst x.snd.fst).snd.fst ∧
 ([] : List Int) = (step x.fst x.snd.fst).snd.snd.fst ∧ (3 : Int) = (step x.fst x.snd.fst).snd.snd.snd.fst) ∧
 ((x.fst.snd.fst == (0 : Int)) = false →
 ((-9223372036854775808 : Int) ≤ x.fst.snd.fst - (1 : Int) ∧
 x.fst.snd.fst - (1 : Int) ≤ (9223372036854775807 : Int)) ∧
 (x.fst.fst, x.fst.snd.fst - (1 : Int), x.fst.snd.snd) = (step x.fst x.snd.fst).fst ∧
 (0 : Int) = (step x.fst x.snd.fst).snd.fst ∧
 ([] : List Int) = (step x.fst x.snd.fst).snd.snd.fst ∧ (0 : Int) = (step x.fst x.snd.fst).snd.snd.snd.fst))) ∧
 (¬x.snd.fst.fst = (3 : Int) →
 (x.snd.fst.fst = (5 : Int) →
 ((!x.snd.fst.fst == (3 : Int)) = true → (!x.snd.fst.fst == (3 : Int)) = true) ∧
 ((!x.snd.fst.fst == (3 : Int)) = true → (!x.snd.fst.fst == (3 : Int)) = true) ∧
 ((x.snd.fst.fst == (3 : Int)) = false → (!x.snd.fst.fst == (3 : Int)) = true) ∧
 ((x.snd.fst.fst == (3 : Int) || x.snd.fst.fst == (4 : Int)) = true →
 ((x.fst.snd.fst == (1099511627776 : Int)) = true →
 (([] : List Int), (0 : Int), (0 : Int)) = (step x.fst x.snd.fst).fst ∧
 (0 : Int) = (step x.fst x.snd.fst).snd.fst ∧
 ([] : List Int) = (step x.fst x.snd.fst).snd.snd.fst ∧ (4 : Int) = (step x.fst x.snd.fst).snd.snd.snd.fst) ∧
 ((x.fst.snd.fst == (1099511627776 : Int)) = false →
 ((-9223372036854775808 : Int) ≤ x.fst.snd.fst + (1 : Int) ∧
 x.fst.snd.fst + (1 : Int) ≤ (9223372036854775807 : Int)) ∧
 (x.fst.fst, x.fst.snd.fst + (1 : Int), x.fst.snd.snd) = (step x.fst x.snd.fst).fst ∧
 (0 : Int) = (step x.fst x.snd.fst).snd.fst ∧
 ([] : List Int) = (step x.fst x.snd.fst).snd.snd.fst ∧
 (0 : Int) = (step x.fst x.snd.fst).snd.snd.snd.fst)) ∧
 ((x.snd.fst.fst == (3 : Int) || x.snd.fst.fst == (4 : Int)) = false →
 ((x.fst.snd.fst == (0 : Int)) = true →
 (([] : List Int), (0 : Int), (0 : Int)) = (step x.fst x.snd.fst).fst ∧
 (0 : Int) = (step x.fst x.snd.fst).snd.fst ∧
 ([] : List Int) = (step x.fst x.snd.fst).snd.snd.fst ∧ (3 : Int) = (step x.fst x.snd.fst).snd.snd.snd.fst) ∧
 ((x.fst.snd.fst == (0 : Int)) = false →
 ((-9223372036854775808 : Int) ≤ x.fst.snd.fst - (1 : Int) ∧
 x.fst.snd.fst - (1 : Int) ≤ (9223372036854775807 : Int)) ∧
 (x.fst.fst, x.fst.snd.fst - (1 : Int), x.fst.snd.snd) = (step x.fst x.snd.fst).fst ∧
 (0 : Int) = (step x.fst x.snd.fst).snd.fst ∧
 ([] : List Int) = (step x.fst x.snd.fst).snd.snd.fst ∧
 (0 : Int) = (step x.fst x.snd.fst).snd.snd.snd.fst))) ∧
 (¬x.snd.fst.fst = (5 : Int) →
 (x.snd.fst.fst = (4 : Int) →
 ((!x.snd.fst.fst == (3 : Int)) = true → (!x.snd.fst.fst == (3 : Int)) = true) ∧
 ((!x.snd.fst.fst == (3 : Int)) = true → (!x.snd.fst.fst == (3 : Int)) = true) ∧
 ((x.snd.fst.fst == (3 : Int)) = false → (!x.snd.fst.fst == (3 : Int)) = true) ∧
 ((x.snd.fst.fst == (3 : Int) || x.snd.fst.fst == (4 : Int)) = true →
 ((x.fst.snd.snd == (1099511627776 : Int)) = true →
 (([] : List Int), (0 : Int), (0 : Int)) = (step x.fst x.snd.fst).fst ∧
 (0 : Int) = (step x.fst x.snd.fst).snd.fst ∧
 ([] : List Int) = (step x.fst x.snd.fst).snd.snd.fst ∧
 (4 : Int) = (step x.fst x.snd.fst).snd.snd.snd.fst) ∧
 ((x.fst.snd.snd == (1099511627776 : Int)) = false →
 ((-9223372036854775808 : Int) ≤ x.fst.snd.snd + (1 : Int) ∧
 x.fst.snd.snd + (1 : Int) ≤ (9223372036854775807 : Int)) ∧
 (x.fst.fst, x.fst.snd.fst, x.fst.snd.snd + (1 : Int)) = (step x.fst x.snd.fst).fst ∧
 (0 : Int) = (step x.fst x.snd.fst).snd.fst ∧
 ([] : List Int) = (step x.fst x.snd.fst).snd.snd.fst ∧
 (0 : Int) = (step x.fst x.snd.fst).snd.snd.snd.fst)) ∧
 ((x.snd.fst.fst == (3 : Int) || x.snd.fst.fst == (4 : Int)) = false →
 ((x.fst.snd.snd == (0 : Int)) = true →
 (([] : List Int), (0 : Int), (0 : Int)) = (step x.fst x.snd.fst).fst ∧
 (0 : Int) = (step x.fst x.snd.fst).snd.fst ∧
 ([] : List Int) = (step x.fst x.snd.fst).snd.snd.fst ∧
 (3 : Int) = (step x.fst x.snd.fst).snd.snd.snd.fst) ∧
 ((x.fst.snd.snd == (0 : Int)) = false →
 ((-9223372036854775808 : Int) ≤ x.fst.snd.snd - (1 : Int) ∧
 x.fst.snd.snd - (1 : Int) ≤ (9223372036854775807 : Int)) ∧
 (x.fst.fst, x.fst.snd.fst, x.fst.snd.snd - (1 : Int)) = (step x.fst x.snd.fst).fst ∧
 (0 : Int) = (step x.fst x.snd.fst).snd.fst ∧
 ([] : List Int) = (step x.fst x.snd.fst).snd.snd.fst ∧
 (0 : Int) = (step x.fst x.snd.fst).snd.snd.snd.fst))) ∧
 (¬x.snd.fst.fst = (4 : Int) →
 (x.snd.fst.fst = (6 : Int) →
 ((!x.snd.fst.fst == (3 : Int)) = true → (!x.snd.fst.fst == (3 : Int)) = true) ∧
 ((!x.snd.fst.fst == (3 : Int)) = true → (!x.snd.fst.fst == (3 : Int)) = true) ∧
 ((x.snd.fst.fst == (3 : Int)) = false → (!x.snd.fst.fst == (3 : Int)) = true) ∧
 ((x.snd.fst.fst == (3 : Int) || x.snd.fst.fst == (4 : Int)) = true →
 ((x.fst.snd.snd == (1099511627776 : Int)) = true →
 (([] : List Int), (0 : Int), (0 : Int)) = (step x.fst x.snd.fst).fst ∧
 (0 : Int) = (step x.fst x.snd.fst).snd.fst ∧
 ([] : List Int) = (step x.fst x.snd.fst).snd.snd.fst ∧
 (4 : Int) = (step x.fst x.snd.fst).snd.snd.snd.fst) ∧
 ((x.fst.snd.snd == (1099511627776 : Int)) = false →
 ((-9223372036854775808 : Int) ≤ x.fst.snd.snd + (1 : Int) ∧
 x.fst.snd.snd + (1 : Int) ≤ (9223372036854775807 : Int)) ∧
 (x.fst.fst, x.fst.snd.fst, x.fst.snd.snd + (1 : Int)) = (step x.fst x.snd.fst).fst ∧
 (0 : Int) = (step x.fst x.snd.fst).snd.fst ∧
 ([] : List Int) = (step x.fst x.snd.fst).snd.snd.fst ∧
 (0 : Int) = (step x.fst x.snd.fst).snd.snd.snd.fst)) ∧
 ((x.snd.fst.fst == (3 : Int) || x.snd.fst.fst == (4 : Int)) = false →
 ((x.fst.snd.snd == (0 : Int)) = true →
 (([] : List Int), (0 : Int), (0 : Int)) = (step x.fst x.snd.fst).fst ∧
 (0 : Int) = (step x.fst x.snd.fst).snd.fst ∧
 ([] : List Int) = (step x.fst x.snd.fst).snd.snd.fst ∧
 (3 : Int) = (step x.fst x.snd.fst).snd.snd.snd.fst) ∧
 ((x.fst.snd.snd == (0 : Int)) = false →
 ((-9223372036854775808 : Int) ≤ x.fst.snd.snd - (1 : Int) ∧
 x.fst.snd.snd - (1 : Int) ≤ (9223372036854775807 : Int)) ∧
 (x.fst.fst, x.fst.snd.fst, x.fst.snd.snd - (1 : Int)) = (step x.fst x.snd.fst).fst ∧
 (0 : Int) = (step x.fst x.snd.fst).snd.fst ∧
 ([] : List Int) = (step x.fst x.snd.fst).snd.snd.fst ∧
 (0 : Int) = (step x.fst x.snd.fst).snd.snd.snd.fst))) ∧
 (¬x.snd.fst.fst = (6 : Int) →
 (([] : List Int), (0 : Int), (0 : Int)) = (step x.fst x.snd.fst).fst ∧
 (0 : Int) = (step x.fst x.snd.fst).snd.fst ∧
 ([] : List Int) = (step x.fst x.snd.fst).snd.snd.fst ∧ (5 : Int) = (step x.fst x.snd.fst).snd.snd.snd.fst)))))))

theorem E_step_eq (x : HL (cStep : Ctr).as) : vc (fx_step x) 2 44 Try.f44 (cStep) x = E_step x := by kernel_rfl

def E_ustep (x : (List Int × Int × Int) × (Int × Int × List Int) × Unit) : Prop :=
 Holds True ∧
 ((!right (x.fst.fst, x.fst.snd.fst, x.fst.snd.snd)) = true →
 (((1 : Int) != (0 : Int)) = true →
 (([] : List Int), (0 : Int), (0 : Int)) = (step x.fst x.snd.fst).fst ∧
 (0 : Int) = (step x.fst x.snd.fst).snd.fst ∧
 ([] : List Int) = (step x.fst x.snd.fst).snd.snd.fst ∧ (1 : Int) = (step x.fst x.snd.fst).snd.snd.snd.fst) ∧
 (((1 : Int) != (0 : Int)) = false →
 (x.fst.fst, x.fst.snd.fst, x.fst.snd.snd) = (step x.fst x.snd.fst).fst ∧
 (0 : Int) = (step x.fst x.snd.fst).snd.fst ∧
 ([] : List Int) = (step x.fst x.snd.fst).snd.snd.fst ∧ (1 : Int) = (step x.fst x.snd.fst).snd.snd.snd.fst)) ∧
 ((!right (x.fst.fst, x.fst.snd.fst, x.fst.snd.snd)) = false →
 ((!decide (x.snd.fst.fst < (1 : Int))) = true → (!decide (x.snd.fst.fst < (1 : Int))) = true) ∧
 ((!decide (x.snd.fst.fst < (1 : Int))) = true → (!decide (x.snd.fst.fst < (1 : Int))) = true) ∧
 (decide (x.snd.fst.fst < (1 : Int)) = false → (!decide (x.snd.fst.fst < (1 : Int))) = true) ∧
 ((decide (x.snd.fst.fst < (1 : Int)) || decide ((6 : Int) < x.snd.fst.fst)) = true →
 (((5 : Int) != (0 : Int)) = true →
 (([] : List Int), (0 : Int), (0 : Int)) = (step x.fst x.snd.fst).fst ∧
 (0 : Int) = (step x.fst x.snd.fst).snd.fst ∧
 ([] : List Int) = (step x.fst x.snd.fst).snd.snd.fst ∧ (5 : Int) = (step x.fst x.snd.fst).snd.snd.snd.fst) ∧
 (((5 : Int) != (0 : Int)) = false →
 (x.fst.fst, x.fst.snd.fst, x.fst.snd.snd) = (step x.fst x.snd.fst).fst ∧
 (0 : Int) = (step x.fst x.snd.fst).snd.fst ∧
 ([] : List Int) = (step x.fst x.snd.fst).snd.snd.fst ∧ (5 : Int) = (step x.fst x.snd.fst).snd.snd.snd.fst)) ∧
 ((decide (x.snd.fst.fst < (1 : Int)) || decide ((6 : Int) < x.snd.fst.fst)) = false →
 ((x.snd.fst.fst == (1 : Int)) = true → (x.snd.fst.fst == (1 : Int)) = true) ∧
 ((x.snd.fst.fst == (1 : Int)) = true → (x.snd.fst.fst == (1 : Int)) = true) ∧
 ((x.snd.fst.fst == (1 : Int)) = true → (x.snd.fst.fst == (1 : Int)) = true) ∧
 ((x.snd.fst.fst == (1 : Int) && decide (x.fst.snd.fst < (1 : Int))) = true →
 (((6 : Int) != (0 : Int)) = true →
 (([] : List Int), (0 : Int), (0 : Int)) = (step x.fst x.snd.fst).fst ∧
 (0 : Int) = (step x.fst x.snd.fst).snd.fst ∧
 ([] : List Int) = (step x.fst x.snd.fst).snd.snd.fst ∧ (6 : Int) = (step x.fst x.snd.fst).snd.snd.snd.fst) ∧
 (((6 : Int) != (0 : Int)) = false →
 (x.fst.fst, x.fst.snd.fst, x.fst.snd.snd) = (step x.fst x.snd.fst).fst ∧
 (0 : Int) = (step x.fst x.snd.fst).snd.fst ∧
 ([] : List Int) = (step x.fst x.snd.fst).snd.snd.fst ∧ (6 : Int) = (step x.fst x.snd.fst).snd.snd.snd.fst)) ∧
 ((x.snd.fst.fst == (1 : Int) && decide (x.fst.snd.fst < (1 : Int))) = false →
 ((x.snd.fst.fst == (2 : Int)) = true → (x.snd.fst.fst == (2 : Int)) = true) ∧
 ((x.snd.fst.fst == (2 : Int)) = true → (x.snd.fst.fst == (2 : Int)) = true) ∧
 ((x.snd.fst.fst == (2 : Int)) = true → (x.snd.fst.fst == (2 : Int)) = true) ∧
 ((x.snd.fst.fst == (2 : Int) && decide (x.fst.snd.snd < (1 : Int))) = true →
 (((6 : Int) != (0 : Int)) = true →
 (([] : List Int), (0 : Int), (0 : Int)) = (step x.fst x.snd.fst).fst ∧
 (0 : Int) = (step x.fst x.snd.fst).snd.fst ∧
 ([] : List Int) = (step x.fst x.snd.fst).snd.snd.fst ∧
 (6 : Int) = (step x.fst x.snd.fst).snd.snd.snd.fst) ∧
 (((6 : Int) != (0 : Int)) = false →
 (x.fst.fst, x.fst.snd.fst, x.fst.snd.snd) = (step x.fst x.snd.fst).fst ∧
 (0 : Int) = (step x.fst x.snd.fst).snd.fst ∧
 ([] : List Int) = (step x.fst x.snd.fst).snd.snd.fst ∧
 (6 : Int) = (step x.fst x.snd.fst).snd.snd.snd.fst)) ∧
 ((x.snd.fst.fst == (2 : Int) && decide (x.fst.snd.snd < (1 : Int))) = false →
 ((x.snd.fst.fst == (1 : Int)) = true → (x.snd.fst.fst == (1 : Int)) = true) ∧
 ((x.snd.fst.fst == (1 : Int)) = true → (x.snd.fst.fst == (1 : Int)) = true) ∧
 ((x.snd.fst.fst == (1 : Int)) = true → (x.snd.fst.fst == (1 : Int)) = true) ∧
 ((x.snd.fst.fst == (1 : Int) && decide (x.fst.snd.snd < (1 : Int))) = true →
 (((3 : Int) != (0 : Int)) = true →
 (([] : List Int), (0 : Int), (0 : Int)) = (step x.fst x.snd.fst).fst ∧
 (0 : Int) = (step x.fst x.snd.fst).snd.fst ∧
 ([] : List Int) = (step x.fst x.snd.fst).snd.snd.fst ∧
 (3 : Int) = (step x.fst x.snd.fst).snd.snd.snd.fst) ∧
 (((3 : Int) != (0 : Int)) = false →
 (x.fst.fst, x.fst.snd.fst, x.fst.snd.snd) = (step x.fst x.snd.fst).fst ∧
 (0 : Int) = (step x.fst x.snd.fst).snd.fst ∧
 ([] : List Int) = (step x.fst x.snd.fst).snd.snd.fst ∧
 (3 : Int) = (step x.fst x.snd.fst).snd.snd.snd.fst)) ∧
 ((x.snd.fst.fst == (1 : Int) && decide (x.fst.snd.snd < (1 : Int))) = false →
 ((x.snd.fst.fst == (5 : Int)) = true → (x.snd.fst.fst == (5 : Int)) = true) ∧
 ((x.snd.fst.fst == (5 : Int)) = true → (x.snd.fst.fst == (5 : Int)) = true) ∧
 ((x.snd.fst.fst == (5 : Int)) = true → (x.snd.fst.fst == (5 : Int)) = true) ∧
 ((x.snd.fst.fst == (5 : Int) && decide (x.fst.snd.fst < (1 : Int))) = true →
 (((3 : Int) != (0 : Int)) = true →
 (([] : List Int), (0 : Int), (0 : Int)) = (step x.fst x.snd.fst).fst ∧
 (0 : Int) = (step x.fst x.snd.fst).snd.fst ∧
 ([] : List Int) = (step x.fst x.snd.fst).snd.snd.fst ∧
 (3 : Int) = (step x.fst x.snd.fst).snd.snd.snd.fst) ∧
 (((3 : Int) != (0 : Int)) = false →
 (x.fst.fst, x.fst.snd.fst, x.fst.snd.snd) = (step x.fst x.snd.fst).fst ∧
 (0 : Int) = (step x.fst x.snd.fst).snd.fst ∧
 ([] : List Int) = (step x.fst x.snd.fst).snd.snd.fst ∧
 (3 : Int) = (step x.fst x.snd.fst).snd.snd.snd.fst)) ∧
 ((x.snd.fst.fst == (5 : Int) && decide (x.fst.snd.fst < (1 : Int))) = false →
 ((x.snd.fst.fst == (6 : Int)) = true → (x.snd.fst.fst == (6 : Int)) = true) ∧
 ((x.snd.fst.fst == (6 : Int)) = true → (x.snd.fst.fst == (6 : Int)) = true) ∧
 ((x.snd.fst.fst == (6 : Int)) = true → (x.snd.fst.fst == (6 : Int)) = true) ∧
 ((x.snd.fst.fst == (6 : Int) && decide (x.fst.snd.snd < (1 : Int))) = true →
 (((3 : Int) != (0 : Int)) = true →
 (([] : List Int), (0 : Int), (0 : Int)) = (step x.fst x.snd.fst).fst ∧
 (0 : Int) = (step x.fst x.snd.fst).snd.fst ∧
 ([] : List Int) = (step x.fst x.snd.fst).snd.snd.fst ∧
 (3 : Int) = (step x.fst x.snd.fst).snd.snd.snd.fst) ∧
 (((3 : Int) != (0 : Int)) = false →
 (x.fst.fst, x.fst.snd.fst, x.fst.snd.snd) = (step x.fst x.snd.fst).fst ∧
 (0 : Int) = (step x.fst x.snd.fst).snd.fst ∧
 ([] : List Int) = (step x.fst x.snd.fst).snd.snd.fst ∧
 (3 : Int) = (step x.fst x.snd.fst).snd.snd.snd.fst)) ∧
 ((x.snd.fst.fst == (6 : Int) && decide (x.fst.snd.snd < (1 : Int))) = false →
 ((x.snd.fst.fst == (2 : Int)) = true → (x.snd.fst.fst == (2 : Int)) = true) ∧
 ((x.snd.fst.fst == (2 : Int)) = true → (x.snd.fst.fst == (2 : Int)) = true) ∧
 ((x.snd.fst.fst == (2 : Int)) = true → (x.snd.fst.fst == (2 : Int)) = true) ∧
 ((x.snd.fst.fst == (2 : Int) && decide (x.snd.fst.snd.fst < (1 : Int))) =
 true →
 (((2 : Int) != (0 : Int)) = true →
 (([] : List Int), (0 : Int), (0 : Int)) = (step x.fst x.snd.fst).fst ∧
 (0 : Int) = (step x.fst x.snd.fst).snd.fst ∧
 ([] : List Int) = (step x.fst x.snd.fst).snd.snd.fst ∧
 (2 : Int) = (step x.fst x.snd.fst).snd.snd.snd.fst) ∧
 (((2 : Int) != (0 : Int)) = false →
 (x.fst.fst, x.fst.snd.fst, x.fst.snd.snd) =
 (step x.fst x.snd.fst).fst ∧
 (0 : Int) = (step x.fst x.snd.fst).snd.fst ∧
 ([] : List Int) = (step x.fst x.snd.fst).snd.snd.fst ∧
 (2 : Int) = (step x.fst x.snd.fst).snd.snd.snd.fst)) ∧
 ((x.snd.fst.fst == (2 : Int) && decide (x.snd.fst.snd.fst < (1 : Int))) =
 false →
 ((x.snd.fst.fst == (3 : Int)) = true →
 (x.snd.fst.fst == (3 : Int)) = true) ∧
 ((x.snd.fst.fst == (3 : Int)) = true →
 (x.snd.fst.fst == (3 : Int)) = true) ∧
 ((x.snd.fst.fst == (3 : Int)) = true →
 (x.snd.fst.fst == (3 : Int)) = true) ∧
 ((x.snd.fst.fst == (3 : Int) &&
 x.fst.snd.fst == (1099511627776 : Int)) =
 true →
 (((4 : Int) != (0 : Int)) = true →
 (([] : List Int), (0 : Int), (0 : Int)) =
 (step x.fst x.snd.fst).fst ∧
 (0 : Int) = (step x.fst x.snd.fst).snd.fst ∧
 ([] : List Int) = (step x.fst x.snd.fst).snd.snd.fst ∧
 (4 : Int) = (step x.fst x.snd.fst).snd.snd.snd.fst) ∧
 (((4 : Int) != (0 : Int)) = false →
 (x.fst.fst, x.fst.snd.fst, x.fst.snd.snd) =
 (step x.fst x.snd.fst).fst ∧
 (0 : Int) = (step x.fst x.snd.fst).snd.fst ∧
 ([] : List Int) = (step x.fst x.snd.fst).snd.snd.fst ∧
 (4 : Int) = (step x.fst x.snd.fst).snd.snd.snd.fst)) ∧
 ((x.snd.fst.fst == (3 : Int) &&
 x.fst.snd.fst == (1099511627776 : Int)) =
 false →
 ((x.snd.fst.fst == (4 : Int)) = true →
 (x.snd.fst.fst == (4 : Int)) = true) ∧
 ((x.snd.fst.fst == (4 : Int)) = true →
 (x.snd.fst.fst == (4 : Int)) = true) ∧
 ((x.snd.fst.fst == (4 : Int)) = true →
 (x.snd.fst.fst == (4 : Int)) = true) ∧
 ((x.snd.fst.fst == (4 : Int) &&
 x.fst.snd.snd == (1099511627776 : Int)) =
 true →
 (((4 : Int) != (0 : Int)) = true →
 (([] : List Int), (0 : Int), (0 : Int)) =
 (step x.fst x.snd.fst).fst ∧
 (0 : Int) = (step x.fst x.snd.fst).snd.fst ∧
 ([] : List Int) =
 (step x.fst x.snd.fst).snd.snd.fst ∧
 (4 : Int) =
 (step x.fst x.snd.fst).snd.snd.snd.fst) ∧
 (((4 : Int) != (0 : Int)) = false →
 (x.fst.fst, x.fst.snd.fst, x.fst.snd.snd) =
 (step x.fst x.snd.fst).fst ∧
 (0 : Int) = (step x.fst x.snd.fst).snd.fst ∧
 ([] : List Int) =
 (step x.fst x.snd.fst).snd.snd.fst ∧
 (4 : Int) =
 (step x.fst x.snd.fst).snd.snd.snd.fst)) ∧
 ((x.snd.fst.fst == (4 : Int) &&
 x.fst.snd.snd == (1099511627776 : Int)) =
 false →
 ((x.snd.fst.fst == (3 : Int)) = true →
 ((-9223372036854775808 : Int) ≤
 x.fst.snd.fst + (1 : Int) ∧
 x.fst.snd.fst + (1 : Int) ≤
 (9223372036854775807 : Int)) ∧
 (((0 : Int) != (0 : Int)) = true →
 (([] : List Int), (0 : Int), (0 : Int)) =
 (step x.fst x.snd.fst).fst ∧
 (0 : Int) =
 (step x.fst x.snd.fst).snd.fst ∧
 ([] : List Int) =
 (step x.fst x.snd.fst).snd.snd.fst ∧
 (0 : Int) =
 (step x.fst
 x.snd.fst).snd.snd.snd.fst) ∧
 (((0 : Int) != (0 : Int)) = false →
 (x.fst.fst, x.fst.snd.fst + (1 : Int),
 x.fst.snd.snd) =
 (step x.fst x.snd.fst).fst ∧
 (0 : Int) =
 (step x.fst x.snd.fst).snd.fst ∧
 ([] : List Int) =
 (step x.fst x.snd.fst).snd.snd.fst ∧
 (0 : Int) =
 (step x.fst
 x.snd.fst).snd.snd.snd.fst)) ∧
 ((x.snd.fst.fst == (3 : Int)) = false →
 ((x.snd.fst.fst == (4 : Int)) = true →
 ((-9223372036854775808 : Int) ≤
 x.fst.snd.snd + (1 : Int) ∧
 x.fst.snd.snd + (1 : Int) ≤
 (9223372036854775807 : Int)) ∧
 (((0 : Int) != (0 : Int)) = true →
 (([] : List Int), (0 : Int),
 (0 : Int)) =
 (step x.fst x.snd.fst).fst ∧
 (0 : Int) =
 (step x.fst x.snd.fst).snd.fst ∧
 ([] : List Int) =
 (step x.fst
 x.snd.fst).snd.snd.fst ∧
 (0 : Int) =
 (step x.fst
 x.snd.fst).snd.snd.snd.fst) ∧
 (((0 : Int) != (0 : Int)) = false →
 (x.fst.fst, x.fst.snd.fst,
 x.fst.snd.snd + (1 : Int)) =
 (step x.fst x.snd.fst).fst ∧
 (0 : Int) =
 (step x.fst x.snd.fst).snd.fst ∧
 ([] : List Int) =
 (step x.fst
 x.snd.fst).snd.snd.fst ∧
 (0 : Int) =
 (step x.fst
 x.snd.fst).snd.snd.snd.fst)) ∧
 ((x.snd.fst.fst == (4 : Int)) = false →
 ((x.snd.fst.fst == (5 : Int)) = true →
 ((-9223372036854775808 : Int) ≤
 x.fst.snd.fst - (1 : Int) ∧
 x.fst.snd.fst - (1 : Int) ≤
 (9223372036854775807 : Int)) ∧
 (((0 : Int) != (0 : Int)) = true →
 (([] : List Int), (0 : Int),
 (0 : Int)) =
 (step x.fst x.snd.fst).fst ∧
 (0 : Int) =
 (step x.fst
 x.snd.fst).snd.fst ∧
 ([] : List Int) =
 (step x.fst
 x.snd.fst).snd.snd.fst ∧
 (0 : Int) =
 (step x.fst
 x.snd.fst).snd.snd.snd.fst) ∧
 (((0 : Int) != (0 : Int)) = false →
 (x.fst.fst,
 x.fst.snd.fst - (1 : Int),
 x.fst.snd.snd) =
 (step x.fst x.snd.fst).fst ∧
 (0 : Int) =
 (step x.fst
 x.snd.fst).snd.fst ∧
 ([] : List Int) =
 (step x.fst
 x.snd.fst).snd.snd.fst ∧
 (0 : Int) =
 (step x.fst
 x.snd.fst).snd.snd.snd.fst)) ∧
 ((x.snd.fst.fst == (5 : Int)) = false →
 ((x.snd.fst.fst == (6 : Int)) = true →
 ((-9223372036854775808 : Int) ≤
 x.fst.snd.snd - (1 : Int) ∧
 x.fst.snd.snd - (1 : Int) ≤
 (9223372036854775807 : Int)) ∧
 (((0 : Int) != (0 : Int)) = true →
 (([] : List Int), (0 : Int),
 (0 : Int)) =
 (step x.fst x.snd.fst).fst ∧
 (0 : Int) =
 (step x.fst
 x.snd.fst).snd.fst ∧
 ([] : List Int) =
 (step x.fst
 x.snd.fst).snd.snd.fst ∧
 (0 : Int) =
 (step x.fst
 x.snd.fst).snd.snd.snd.fst) ∧
 (((0 : Int) != (0 : Int)) =
 false →
 (x.fst.fst, x.fst.snd.fst,
 x.fst.snd.snd -
 (1 : Int)) =
 (step x.fst x.snd.fst).fst ∧
 (0 : Int) =
 (step x.fst
 x.snd.fst).snd.fst ∧
 ([] : List Int) =
 (step x.fst
 x.snd.fst).snd.snd.fst ∧
 (0 : Int) =
 (step x.fst
 x.snd.fst).snd.snd.snd.fst)) ∧
 ((x.snd.fst.fst == (6 : Int)) = false →
 ((x.snd.fst.fst == (2 : Int)) = true →
 (x.snd.fst.fst == (2 : Int)) =
 true) ∧
 ((x.snd.fst.fst == (2 : Int)) =
 true →
 (x.snd.fst.fst == (2 : Int)) =
 true) ∧
 ((x.snd.fst.fst == (2 : Int) &&
 decide
 (x.fst.fst =
 ([] : List Int))) =
 true →
 (x.snd.fst.fst == (2 : Int) &&
 decide
 (x.fst.fst =
 ([] : List Int))) =
 true) ∧
 ((x.snd.fst.fst == (2 : Int) &&
 decide
 (x.fst.fst =
 ([] : List Int))) =
 true →
 (x.snd.fst.fst ==
 (2 : Int) &&
 decide
 (x.fst.fst =
 ([] : List Int))) =
 true) ∧
 ((x.snd.fst.fst ==
 (2 : Int) &&
 decide
 (x.fst.fst =
 ([] :
 List Int))) =
 true →
 (x.snd.fst.fst ==
 (2 : Int) &&
 decide
 (x.fst.fst =
 ([] :
 List Int))) =
 true) ∧
 ((x.snd.fst.fst ==
 (2 : Int) &&
 decide
 (x.fst.fst =
 ([] :
 List
 Int)) &&
 decide
 ((0 : Int) <
 x.fst.snd.fst)) =
 true →
 (((7 : Int) !=
 (0 : Int)) =
 true →
 (([] : List Int),
 (0 : Int),
 (0 : Int)) =
 (step x.fst
 x.snd.fst).fst ∧
 (0 : Int) =
 (step x.fst
 x.snd.fst).snd.fst ∧
 ([] :
 List
 Int) =
 (step x.fst
 x.snd.fst).snd.snd.fst ∧
 (7 : Int) =
 (step x.fst
 x.snd.fst).snd.snd.snd.fst) ∧
 (((7 : Int) !=
 (0 : Int)) =
 false →
 (x.fst.fst,
 x.fst.snd.fst,
 x.fst.snd.snd) =
 (step x.fst
 x.snd.fst).fst ∧
 (0 : Int) =
 (step x.fst
 x.snd.fst).snd.fst ∧
 ([] :
 List
 Int) =
 (step x.fst
 x.snd.fst).snd.snd.fst ∧
 (7 : Int) =
 (step x.fst
 x.snd.fst).snd.snd.snd.fst)) ∧
 ((x.snd.fst.fst ==
 (2 : Int) &&
 decide
 (x.fst.fst =
 ([] :
 List
 Int)) &&
 decide
 ((0 : Int) <
 x.fst.snd.fst)) =
 false →
 ((x.snd.fst.fst ==
 (2 : Int)) =
 true →
 (((([] :
 List
 Int) ++
 x.fst.fst =
 x.fst.fst ∧
 (↑([] :
 List
 Int).length :
 Int) ≤
 x.snd.fst.snd.fst) ∧
 True) ∧
 (x.fst.fst =
 x.fst.fst ∧
 (True ∧
 True) ∧
 (True ∧
 True) ∧
 (0 :
 Int) =
 (0 :
 Int) ∧
 ([] :
 List
 Int) =
 ([] :
 List
 Int) ∧
 (0 :
 Int) =
 (0 :
 Int) ∧
 (True ∧
 True) ∧
 True) ∧
 ((x.snd.fst.fst =
 x.snd.fst.fst ∧
 x.snd.fst.snd.fst =
 x.snd.fst.snd.fst ∧
 x.snd.fst.snd.snd =
 x.snd.fst.snd.snd ∧
 True) ∧
 (x.fst.fst =
 x.fst.fst ∧
 x.fst.snd.fst =
 x.fst.snd.fst ∧
 x.fst.snd.snd =
 x.fst.snd.snd ∧
 True) ∧
 (Value.slice
 none
 (0 :
 Nat)
 (0 :
 Nat) =
 Value.slice
 none
 (0 :
 Nat)
 (0 :
 Nat) ∧
 (0 :
 Int) =
 (0 :
 Int) ∧
 (0 :
 Int) =
 (0 :
 Int) ∧
 True) ∧
 True) ∧
 True) ∧
 ∀
 (g :
 List Int ×
 List Int ×
 Unit),
 g.snd.fst ++
 g.fst =
 x.fst.fst ∧
 (↑g.snd.fst.length :
 Int) ≤
 x.snd.fst.snd.fst →
 (g.fst.length ≤
 (9223372036854775807 :
 Nat) ∧
 ∀
 (b :
 Int),
 b ∈
 g.fst →
 (0 :
 Int) ≤
 b ∧
 b ≤
 (255 :
 Int)) ∧
 (g.snd.fst.length ≤
 (9223372036854775807 :
 Nat) ∧
 ∀
 (b :
 Int),
 b ∈
 g.snd.fst →
 (0 :
 Int) ≤
 b ∧
 b ≤
 (255 :
 Int)) ∧
 True →
 ((!decide
 (g.fst =
 ([] :
 List
 Int))) =
 true →
 (!decide
 (g.fst =
 ([] :
 List
 Int))) =
 true) ∧
 ((!decide
 (g.fst =
 ([] :
 List
 Int))) =
 true →
 (!decide
 (g.fst =
 ([] :
 List
 Int))) =
 true) ∧
 ((!decide
 (g.fst =
 ([] :
 List
 Int))) =
 true →
 (!decide
 (g.fst =
 ([] :
 List
 Int))) =
 true ∧
 (!decide
 (g.fst =
 ([] :
 List
 Int))) =
 true) ∧
 ((!decide
 (g.fst =
 ([] :
 List
 Int))) =
 true →
 (!decide
 (g.fst =
 ([] :
 List
 Int))) =
 true) ∧
 ((!decide
 (g.fst =
 ([] :
 List
 Int)) &&
 decide
 ((↑g.snd.fst.length :
 Int) <
 x.snd.fst.snd.fst)) =
 true →
 (((0 :
 Int) ≤
 (0 :
 Int) ∧
 (0 :
 Int) ≤
 (1 :
 Int)) ∧
 (1 :
 Int) ≤
 (↑g.fst.length :
 Int)) ∧
 g.snd.fst.length +
 (List.drop
 (Int.toNat
 (0 :
 Int))
 (List.take
 (Int.toNat
 (1 :
 Int))
 g.fst)).length ≤
 (9223372036854775807 :
 Nat) ∧
 (((0 :
 Int) ≤
 (1 :
 Int) ∧
 (1 :
 Int) ≤
 (↑g.fst.length :
 Int)) ∧
 (↑g.fst.length :
 Int) ≤
 (↑g.fst.length :
 Int)) ∧
 ((g.snd.fst ++
 List.drop
 (Int.toNat
 (0 :
 Int))
 (List.take
 (Int.toNat
 (1 :
 Int))
 g.fst) ++
 List.drop
 (Int.toNat
 (1 :
 Int))
 (List.take
 (↑g.fst.length :
 Int).toNat
 g.fst) =
 x.fst.fst ∧
 (↑(g.snd.fst ++
 List.drop
 (Int.toNat
 (0 :
 Int))
 (List.take
 (Int.toNat
 (1 :
 Int))
 g.fst)).length :
 Int) ≤
 x.snd.fst.snd.fst) ∧
 (List.drop
 (Int.toNat
 (1 :
 Int))
 (List.take
 (↑g.fst.length :
 Int).toNat
 g.fst)).length <
 g.fst.length) ∧
 (List.drop
 (Int.toNat
 (1 :
 Int))
 (List.take
 (↑g.fst.length :
 Int).toNat
 g.fst) =
 List.drop
 (Int.toNat
 (1 :
 Int))
 (List.take
 (↑g.fst.length :
 Int).toNat
 g.fst) ∧
 (True ∧
 True) ∧
 (True ∧
 True) ∧
 (0 :
 Int) =
 (0 :
 Int) ∧
 g.snd.fst ++
 List.drop
 (Int.toNat
 (0 :
 Int))
 (List.take
 (Int.toNat
 (1 :
 Int))
 g.fst) =
 g.snd.fst ++
 List.drop
 (Int.toNat
 (0 :
 Int))
 (List.take
 (Int.toNat
 (1 :
 Int))
 g.fst) ∧
 (0 :
 Int) =
 (0 :
 Int) ∧
 (True ∧
 True) ∧
 True) ∧
 ((x.snd.fst.fst =
 x.snd.fst.fst ∧
 x.snd.fst.snd.fst =
 x.snd.fst.snd.fst ∧
 x.snd.fst.snd.snd =
 x.snd.fst.snd.snd ∧
 True) ∧
 (x.fst.fst =
 x.fst.fst ∧
 x.fst.snd.fst =
 x.fst.snd.fst ∧
 x.fst.snd.snd =
 x.fst.snd.snd ∧
 True) ∧
 (Value.slice
 none
 (0 :
 Nat)
 (0 :
 Nat) =
 Value.slice
 none
 (0 :
 Nat)
 (0 :
 Nat) ∧
 (0 :
 Int) =
 (0 :
 Int) ∧
 (0 :
 Int) =
 (0 :
 Int) ∧
 True) ∧
 True) ∧
 True) ∧
 ((!decide
 (g.fst =
 ([] :
 List
 Int)) &&
 decide
 ((↑g.snd.fst.length :
 Int) <
 x.snd.fst.snd.fst)) =
 false →
 (((0 :
 Int) !=
 (0 :
 Int)) =
 true →
 (([] :
 List
 Int),
 (0 :
 Int),
 (0 :
 Int)) =
 (step
 x.fst
 x.snd.fst).fst ∧
 (0 :
 Int) =
 (step
 x.fst
 x.snd.fst).snd.fst ∧
 ([] :
 List
 Int) =
 (step
 x.fst
 x.snd.fst).snd.snd.fst ∧
 (0 :
 Int) =
 (step
 x.fst
 x.snd.fst).snd.snd.snd.fst) ∧
 (((0 :
 Int) !=
 (0 :
 Int)) =
 false →
 (g.fst,
 x.fst.snd.fst,
 x.fst.snd.snd) =
 (step
 x.fst
 x.snd.fst).fst ∧
 (0 :
 Int) =
 (step
 x.fst
 x.snd.fst).snd.fst ∧
 g.snd.fst =
 (step
 x.fst
 x.snd.fst).snd.snd.fst ∧
 (0 :
 Int) =
 (step
 x.fst
 x.snd.fst).snd.snd.snd.fst))) ∧
 ((x.snd.fst.fst ==
 (2 : Int)) =
 false →
 ((-9223372036854775808 :
 Int) ≤
 (↑x.fst.fst.length :
 Int) +
 (↑x.snd.fst.snd.snd.length :
 Int) ∧
 (↑x.fst.fst.length :
 Int) +
 (↑x.snd.fst.snd.snd.length :
 Int) ≤
 (9223372036854775807 :
 Int)) ∧
 (decide
 ((↑x.fst.fst.length :
 Int) +
 (↑x.snd.fst.snd.snd.length :
 Int) ≤
 (64 :
 Int)) =
 true →
 x.fst.fst.length +
 x.snd.fst.snd.snd.length ≤
 (9223372036854775807 :
 Nat) ∧
 (((0 :
 Int) !=
 (0 :
 Int)) =
 true →
 (([] :
 List
 Int),
 (0 :
 Int),
 (0 :
 Int)) =
 (step
 x.fst
 x.snd.fst).fst ∧
 (0 :
 Int) =
 (step
 x.fst
 x.snd.fst).snd.fst ∧
 ([] :
 List
 Int) =
 (step
 x.fst
 x.snd.fst).snd.snd.fst ∧
 (0 :
 Int) =
 (step
 x.fst
 x.snd.fst).snd.snd.snd.fst) ∧
 (((0 :
 Int) !=
 (0 :
 Int)) =
 false →
 (x.fst.fst ++
 x.snd.fst.snd.snd,
 x.fst.snd.fst,
 x.fst.snd.snd) =
 (step
 x.fst
 x.snd.fst).fst ∧
 (↑x.snd.fst.snd.snd.length :
 Int) =
 (step
 x.fst
 x.snd.fst).snd.fst ∧
 ([] :
 List
 Int) =
 (step
 x.fst
 x.snd.fst).snd.snd.fst ∧
 (0 :
 Int) =
 (step
 x.fst
 x.snd.fst).snd.snd.snd.fst)) ∧
 (decide
 ((↑x.fst.fst.length :
 Int) +
 (↑x.snd.fst.snd.snd.length :
 Int) ≤
 (64 :
 Int)) =
 false →
 ((!decide
 ((↑x.snd.fst.snd.snd.length :
 Int) ≤
 (16 :
 Int))) =
 true →
 (!decide
 ((↑x.snd.fst.snd.snd.length :
 Int) ≤
 (16 :
 Int))) =
 true) ∧
 ((!decide
 ((↑x.snd.fst.snd.snd.length :
 Int) ≤
 (16 :
 Int))) =
 true →
 (!decide
 ((↑x.snd.fst.snd.snd.length :
 Int) ≤
 (16 :
 Int))) =
 true) ∧
 (decide
 ((↑x.snd.fst.snd.snd.length :
 Int) ≤
 (16 :
 Int)) =
 false →
 (!decide
 ((↑x.snd.fst.snd.snd.length :
 Int) ≤
 (16 :
 Int))) =
 true) ∧
 ((decide
 ((↑x.snd.fst.snd.snd.length :
 Int) ≤
 (16 :
 Int)) ||
 (↑x.fst.fst.length :
 Int) ==
 (64 :
 Int)) =
 true →
 (((7 :
 Int) !=
 (0 :
 Int)) =
 true →
 (([] :
 List
 Int),
 (0 :
 Int),
 (0 :
 Int)) =
 (step
 x.fst
 x.snd.fst).fst ∧
 (0 :
 Int) =
 (step
 x.fst
 x.snd.fst).snd.fst ∧
 ([] :
 List
 Int) =
 (step
 x.fst
 x.snd.fst).snd.snd.fst ∧
 (7 :
 Int) =
 (step
 x.fst
 x.snd.fst).snd.snd.snd.fst) ∧
 (((7 :
 Int) !=
 (0 :
 Int)) =
 false →
 (x.fst.fst,
 x.fst.snd.fst,
 x.fst.snd.snd) =
 (step
 x.fst
 x.snd.fst).fst ∧
 (0 :
 Int) =
 (step
 x.fst
 x.snd.fst).snd.fst ∧
 ([] :
 List
 Int) =
 (step
 x.fst
 x.snd.fst).snd.snd.fst ∧
 (7 :
 Int) =
 (step
 x.fst
 x.snd.fst).snd.snd.snd.fst)) ∧
 ((decide
 ((↑x.snd.fst.snd.snd.length :
 Int) ≤
 (16 :
 Int)) ||
 (↑x.fst.fst.length :
 Int) ==
 (64 :
 Int)) =
 false →
 ((-9223372036854775808 :
 Int) ≤
 (64 :
 Int) -
 (↑x.fst.fst.length :
 Int) ∧
 (64 :
 Int) -
 (↑x.fst.fst.length :
 Int) ≤
 (9223372036854775807 :
 Int)) ∧
 (((0 :
 Int) ≤
 (0 :
 Int) ∧
 (0 :
 Int) ≤
 (64 :
 Int) -
 (↑x.fst.fst.length :
 Int)) ∧
 (64 :
 Int) -
 (↑x.fst.fst.length :
 Int) ≤
 (↑x.snd.fst.snd.snd.length :
 Int)) ∧
 x.fst.fst.length +
 (List.drop
 (Int.toNat
 (0 :
 Int))
 (List.take
 ((64 :
 Int) -
 (↑x.fst.fst.length :
 Int)).toNat
 x.snd.fst.snd.snd)).length ≤
 (9223372036854775807 :
 Nat) ∧
 (((0 :
 Int) !=
 (0 :
 Int)) =
 true →
 (([] :
 List
 Int),
 (0 :
 Int),
 (0 :
 Int)) =
 (step
 x.fst
 x.snd.fst).fst ∧
 (0 :
 Int) =
 (step
 x.fst
 x.snd.fst).snd.fst ∧
 ([] :
 List
 Int) =
 (step
 x.fst
 x.snd.fst).snd.snd.fst ∧
 (0 :
 Int) =
 (step
 x.fst
 x.snd.fst).snd.snd.snd.fst) ∧
 (((0 :
 Int) !=
 (0 :
 Int)) =
 false →
 (x.fst.fst ++
 List.drop
 (Int.toNat
 (0 :
 Int))
 (List.take
 ((64 :
 Int) -
 (↑x.fst.fst.length :
 Int)).toNat
 x.snd.fst.snd.snd),
 x.fst.snd.fst,
 x.fst.snd.snd) =
 (step
 x.fst
 x.snd.fst).fst ∧
 (64 :
 Int) -
 (↑x.fst.fst.length :
 Int) =
 (step
 x.fst
 x.snd.fst).snd.fst ∧
 ([] :
 List
 Int) =
 (step
 x.fst
 x.snd.fst).snd.snd.fst ∧
 (0 :
 Int) =
 (step
 x.fst
 x.snd.fst).snd.snd.snd.fst)))))))))))))))))))

theorem E_ustep_eq (x : HL (cStep : Ctr).as) : vc (fx_ustep x) 1 45 Try.f45 (cStep) x = E_ustep x := by kernel_rfl

def E_same (x : (List Int × Int × Int) × (List Int × Int × Int) × Unit) : Prop :=
 (decide (x.fst.fst = x.snd.fst.fst) = true → decide (x.fst.fst = x.snd.fst.fst) = true) ∧
 (decide (x.fst.fst = x.snd.fst.fst) = true → decide (x.fst.fst = x.snd.fst.fst) = true) ∧
 (decide (x.fst.fst = x.snd.fst.fst) = true → decide (x.fst.fst = x.snd.fst.fst) = true ∧ decide (x.fst.fst = x.snd.fst.fst) = true) ∧
 (decide (x.fst.fst = x.snd.fst.fst) = true → decide (x.fst.fst = x.snd.fst.fst) = true) ∧
 ((decide (x.fst.fst = x.snd.fst.fst) && x.fst.snd.fst == x.snd.fst.snd.fst) = true →
 (decide (x.fst.fst = x.snd.fst.fst) && x.fst.snd.fst == x.snd.fst.snd.fst) = true) ∧
 ((decide (x.fst.fst = x.snd.fst.fst) && x.fst.snd.fst == x.snd.fst.snd.fst) = true →
 (decide (x.fst.fst = x.snd.fst.fst) && x.fst.snd.fst == x.snd.fst.snd.fst) = true) ∧
 ((decide (x.fst.fst = x.snd.fst.fst) && x.fst.snd.fst == x.snd.fst.snd.fst) = true →
 (decide (x.fst.fst = x.snd.fst.fst) && x.fst.snd.fst == x.snd.fst.snd.fst) = true ∧
 (decide (x.fst.fst = x.snd.fst.fst) && x.fst.snd.fst == x.snd.fst.snd.fst) = true) ∧
 ((decide (x.fst.fst = x.snd.fst.fst) && x.fst.snd.fst == x.snd.fst.snd.fst) = true →
 (decide (x.fst.fst = x.snd.fst.fst) && x.fst.snd.fst == x.snd.fst.snd.fst) = true) ∧
 (decide (x.fst.fst = x.snd.fst.fst) && x.fst.snd.fst == x.snd.fst.snd.fst && x.fst.snd.snd == x.snd.fst.snd.snd) =
 same x.fst x.snd.fst

theorem E_same_eq (x : HL (cSame : Ctr).as) : vc (fx_same x) 1 48 Try.f48 (cSame) x = E_same x := by kernel_rfl

def E_steps (x : (List Int × Int × Int) × (Int × Int × List Int) × Unit) : Prop :=
 Holds (x.snd.fst.snd.snd.length ≤ (140737488355328 : Nat)) ∧
 Holds (x.snd.fst.snd.snd.length ≤ (140737488355328 : Nat)) ∧
 Holds True ∧
 Holds True ∧
 ((right (x.fst.fst, x.fst.snd.fst, x.fst.snd.snd) == right (x.fst.fst, x.fst.snd.fst, x.fst.snd.snd)) = true →
 (((step (x.fst.fst, x.fst.snd.fst, x.fst.snd.snd) (x.snd.fst.fst, x.snd.fst.snd.fst, x.snd.fst.snd.snd)).snd.snd.snd.fst ==
 (step (x.fst.fst, x.fst.snd.fst, x.fst.snd.snd) (x.snd.fst.fst, x.snd.fst.snd.fst, x.snd.fst.snd.snd)).snd.snd.snd.fst) =
 true →
 (((step (x.fst.fst, x.fst.snd.fst, x.fst.snd.snd) (x.snd.fst.fst, x.snd.fst.snd.fst, x.snd.fst.snd.snd)).snd.fst ==
 (step (x.fst.fst, x.fst.snd.fst, x.fst.snd.snd) (x.snd.fst.fst, x.snd.fst.snd.fst, x.snd.fst.snd.snd)).snd.fst) =
 true →
 (decide
 ((step (x.fst.fst, x.fst.snd.fst, x.fst.snd.snd) (x.snd.fst.fst, x.snd.fst.snd.fst, x.snd.fst.snd.snd)).snd.snd.fst =
 (step (x.fst.fst, x.fst.snd.fst, x.fst.snd.snd) (x.snd.fst.fst, x.snd.fst.snd.fst, x.snd.fst.snd.snd)).snd.snd.fst) =
 true →
 Holds True ∧
 same
 ((step (x.fst.fst, x.fst.snd.fst, x.fst.snd.snd) (x.snd.fst.fst, x.snd.fst.snd.fst, x.snd.fst.snd.snd)).fst.fst,
 (step (x.fst.fst, x.fst.snd.fst, x.fst.snd.snd) (x.snd.fst.fst, x.snd.fst.snd.fst, x.snd.fst.snd.snd)).fst.snd.fst,
 (step (x.fst.fst, x.fst.snd.fst, x.fst.snd.snd) (x.snd.fst.fst, x.snd.fst.snd.fst, x.snd.fst.snd.snd)).fst.snd.snd)
 ((step (x.fst.fst, x.fst.snd.fst, x.fst.snd.snd) (x.snd.fst.fst, x.snd.fst.snd.fst, x.snd.fst.snd.snd)).fst.fst,
 (step (x.fst.fst, x.fst.snd.fst, x.fst.snd.snd) (x.snd.fst.fst, x.snd.fst.snd.fst, x.snd.fst.snd.snd)).fst.snd.fst,
 (step (x.fst.fst, x.fst.snd.fst, x.fst.snd.snd) (x.snd.fst.fst, x.snd.fst.snd.fst, x.snd.fst.snd.snd)).fst.snd.snd) =
 true) ∧
 (decide
 ((step (x.fst.fst, x.fst.snd.fst, x.fst.snd.snd) (x.snd.fst.fst, x.snd.fst.snd.fst, x.snd.fst.snd.snd)).snd.snd.fst =
 (step (x.fst.fst, x.fst.snd.fst, x.fst.snd.snd) (x.snd.fst.fst, x.snd.fst.snd.fst, x.snd.fst.snd.snd)).snd.snd.fst) =
 !true →
 false = true)) ∧
 (((step (x.fst.fst, x.fst.snd.fst, x.fst.snd.snd) (x.snd.fst.fst, x.snd.fst.snd.fst, x.snd.fst.snd.snd)).snd.fst ==
 (step (x.fst.fst, x.fst.snd.fst, x.fst.snd.snd) (x.snd.fst.fst, x.snd.fst.snd.fst, x.snd.fst.snd.snd)).snd.fst) =
 !true →
 false = true)) ∧
 (((step (x.fst.fst, x.fst.snd.fst, x.fst.snd.snd) (x.snd.fst.fst, x.snd.fst.snd.fst, x.snd.fst.snd.snd)).snd.snd.snd.fst ==
 (step (x.fst.fst, x.fst.snd.fst, x.fst.snd.snd) (x.snd.fst.fst, x.snd.fst.snd.fst, x.snd.fst.snd.snd)).snd.snd.snd.fst) =
 !true →
 false = true)) ∧
 ((right (x.fst.fst, x.fst.snd.fst, x.fst.snd.snd) == right (x.fst.fst, x.fst.snd.fst, x.fst.snd.snd)) = !true → false = true)

theorem E_steps_eq (x : HL (cLaw : Ctr).as) : vc (fx_steps x) 1 10 Try.f10 (cLaw) x = E_steps x := by kernel_rfl

end Go.Proofs.Ytollphjlheabdaa.Pipe
