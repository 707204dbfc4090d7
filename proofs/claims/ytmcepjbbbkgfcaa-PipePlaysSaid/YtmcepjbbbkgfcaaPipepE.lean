/-
  The conditions that the executor comes to, written out (by a tool of ours), and that they are the conditions (by the kernel).
-/
import Derived.Test.YtmcepjbbbkgfcaaPipepC
namespace Go.Proofs.Ytmcepjbbbkgfcaa.Pipep
open Go.Sx
set_option maxRecDepth 100000

def E_clone (x : List Int × Unit) : Prop :=
 ∀ (b : Bool),
 (b = true → x.fst = ([] : List Int)) →
 (b = true → ([] : List Int) = x.fst) ∧
 (b = false →
 (([] : List Int).length + x.fst.length ≤ (9223372036854775807 : Nat) ∧
 (([] : List Int).length + x.fst.length + (([] : List Int).length + x.fst.length) / (4 : Nat) + (192 : Nat)) * (1 : Nat) ≤
 (281474976710656 : Nat)) ∧
 ([] : List Int) ++ x.fst = x.fst)

theorem E_clone_eq (x : HL (cClone : Ctr).as) : vc (fx_clone x) 1 83 Try.f83 (cClone) x = E_clone x := by kernel_rfl

def E_equal (x : List Int × List Int × Unit) : Prop :=
 (((↑x.fst.length : Int) != (↑x.snd.fst.length : Int)) = true → false = decide (x.fst = x.snd.fst)) ∧
 (((↑x.fst.length : Int) != (↑x.snd.fst.length : Int)) = false →
 ((((0 : Int) ≤ (0 : Int) ∧
 (0 : Int) ≤ (↑x.fst.length : Int) ∧ List.take (Int.toNat (0 : Int)) x.fst = List.take (Int.toNat (0 : Int)) x.snd.fst) ∧
 True) ∧
 (x.fst = x.fst ∧ x.snd.fst = x.snd.fst ∧ (↑x.fst.length : Int) = (↑x.fst.length : Int) ∧ (0 : Int) = (0 : Int) ∧ True) ∧ True ∧ True) ∧
 ∀ (g : Int × Unit),
 (0 : Int) ≤ g.fst ∧ g.fst ≤ (↑x.fst.length : Int) ∧ List.take g.fst.toNat x.fst = List.take g.fst.toNat x.snd.fst →
 ((-9223372036854775808 : Int) ≤ g.fst ∧ g.fst ≤ (9223372036854775807 : Int)) ∧ True →
 (decide (g.fst < (↑x.fst.length : Int)) = true →
 ((0 : Int) ≤ g.fst ∧ g.fst < (↑x.fst.length : Int)) ∧
 ((0 : Int) ≤ g.fst ∧ g.fst < (↑x.snd.fst.length : Int)) ∧
 ((x.fst.getD g.fst.toNat (0 : Int) != x.snd.fst.getD g.fst.toNat (0 : Int)) = true → false = decide (x.fst = x.snd.fst)) ∧
 ((x.fst.getD g.fst.toNat (0 : Int) != x.snd.fst.getD g.fst.toNat (0 : Int)) = false →
 ((-9223372036854775808 : Int) ≤ g.fst + (1 : Int) ∧ g.fst + (1 : Int) ≤ (9223372036854775807 : Int)) ∧
 (((0 : Int) ≤ g.fst + (1 : Int) ∧
 g.fst + (1 : Int) ≤ (↑x.fst.length : Int) ∧
 List.take (g.fst + (1 : Int)).toNat x.fst = List.take (g.fst + (1 : Int)).toNat x.snd.fst) ∧
 ((↑x.fst.length : Int) - (g.fst + (1 : Int))).toNat < ((↑x.fst.length : Int) - g.fst).toNat) ∧
 (x.fst = x.fst ∧
 x.snd.fst = x.snd.fst ∧
 (↑x.fst.length : Int) = (↑x.fst.length : Int) ∧ g.fst + (1 : Int) = g.fst + (1 : Int) ∧ True) ∧
 True ∧ True)) ∧
 (decide (g.fst < (↑x.fst.length : Int)) = false → true = decide (x.fst = x.snd.fst)))

theorem E_equal_eq (x : HL (cEqual : Ctr).as) : vc (fx_equal x) 1 21 Try.f21 (cEqual) x = E_equal x := by kernel_rfl

def E_right (x : (List Int × Int × Int) × Unit) : Prop :=
 (decide ((↑x.fst.fst.length : Int) ≤ (64 : Int)) = true → decide ((↑x.fst.fst.length : Int) ≤ (64 : Int)) = true) ∧
 (decide ((↑x.fst.fst.length : Int) ≤ (64 : Int)) = true → decide ((↑x.fst.fst.length : Int) ≤ (64 : Int)) = true) ∧
 (decide ((↑x.fst.fst.length : Int) ≤ (64 : Int)) = true → decide ((↑x.fst.fst.length : Int) ≤ (64 : Int)) = true) ∧
 ((decide ((↑x.fst.fst.length : Int) ≤ (64 : Int)) && decide ((0 : Int) ≤ x.fst.snd.fst)) = true →
 (decide ((↑x.fst.fst.length : Int) ≤ (64 : Int)) && decide ((0 : Int) ≤ x.fst.snd.fst)) = true) ∧
 ((decide ((↑x.fst.fst.length : Int) ≤ (64 : Int)) && decide ((0 : Int) ≤ x.fst.snd.fst)) = true →
 (decide ((↑x.fst.fst.length : Int) ≤ (64 : Int)) && decide ((0 : Int) ≤ x.fst.snd.fst)) = true) ∧
 ((decide ((↑x.fst.fst.length : Int) ≤ (64 : Int)) && decide ((0 : Int) ≤ x.fst.snd.fst)) = true →
 (decide ((↑x.fst.fst.length : Int) ≤ (64 : Int)) && decide ((0 : Int) ≤ x.fst.snd.fst)) = true) ∧
 ((decide ((↑x.fst.fst.length : Int) ≤ (64 : Int)) && decide ((0 : Int) ≤ x.fst.snd.fst) &&
 decide (x.fst.snd.fst ≤ (1099511627776 : Int))) =
 true →
 (decide ((↑x.fst.fst.length : Int) ≤ (64 : Int)) && decide ((0 : Int) ≤ x.fst.snd.fst) &&
 decide (x.fst.snd.fst ≤ (1099511627776 : Int))) =
 true) ∧
 ((decide ((↑x.fst.fst.length : Int) ≤ (64 : Int)) && decide ((0 : Int) ≤ x.fst.snd.fst) &&
 decide (x.fst.snd.fst ≤ (1099511627776 : Int))) =
 true →
 (decide ((↑x.fst.fst.length : Int) ≤ (64 : Int)) && decide ((0 : Int) ≤ x.fst.snd.fst) &&
 decide (x.fst.snd.fst ≤ (1099511627776 : Int))) =
 true) ∧
 ((decide ((↑x.fst.fst.length : Int) ≤ (64 : Int)) && decide ((0 : Int) ≤ x.fst.snd.fst) &&
 decide (x.fst.snd.fst ≤ (1099511627776 : Int))) =
 true →
 (decide ((↑x.fst.fst.length : Int) ≤ (64 : Int)) && decide ((0 : Int) ≤ x.fst.snd.fst) &&
 decide (x.fst.snd.fst ≤ (1099511627776 : Int))) =
 true) ∧
 ((decide ((↑x.fst.fst.length : Int) ≤ (64 : Int)) && decide ((0 : Int) ≤ x.fst.snd.fst) &&
 decide (x.fst.snd.fst ≤ (1099511627776 : Int)) &&
 decide ((0 : Int) ≤ x.fst.snd.snd)) =
 true →
 (decide ((↑x.fst.fst.length : Int) ≤ (64 : Int)) && decide ((0 : Int) ≤ x.fst.snd.fst) &&
 decide (x.fst.snd.fst ≤ (1099511627776 : Int)) &&
 decide ((0 : Int) ≤ x.fst.snd.snd)) =
 true) ∧
 ((decide ((↑x.fst.fst.length : Int) ≤ (64 : Int)) && decide ((0 : Int) ≤ x.fst.snd.fst) &&
 decide (x.fst.snd.fst ≤ (1099511627776 : Int)) &&
 decide ((0 : Int) ≤ x.fst.snd.snd)) =
 true →
 (decide ((↑x.fst.fst.length : Int) ≤ (64 : Int)) && decide ((0 : Int) ≤ x.fst.snd.fst) &&
 decide (x.fst.snd.fst ≤ (1099511627776 : Int)) &&
 decide ((0 : Int) ≤ x.fst.snd.snd)) =
 true) ∧
 ((decide ((↑x.fst.fst.length : Int) ≤ (64 : Int)) && decide ((0 : Int) ≤ x.fst.snd.fst) &&
 decide (x.fst.snd.fst ≤ (1099511627776 : Int)) &&
 decide ((0 : Int) ≤ x.fst.snd.snd)) =
 true →
 (decide ((↑x.fst.fst.length : Int) ≤ (64 : Int)) && decide ((0 : Int) ≤ x.fst.snd.fst) &&
 decide (x.fst.snd.fst ≤ (1099511627776 : Int)) &&
 decide ((0 : Int) ≤ x.fst.snd.snd)) =
 true) ∧
 (decide ((↑x.fst.fst.length : Int) ≤ (64 : Int)) && decide ((0 : Int) ≤ x.fst.snd.fst) &&
 decide (x.fst.snd.fst ≤ (1099511627776 : Int)) &&
 decide ((0 : Int) ≤ x.fst.snd.snd) &&
 decide (x.fst.snd.snd ≤ (1099511627776 : Int))) =
 right x.fst

theorem E_right_eq (x : HL (cRight : Ctr).as) : vc (fx_right x) 1 82 Try.f82 (cRight) x = E_right x := by kernel_rfl

def E_uright (x : (List Int × Int × Int) × Unit) : Prop :=
 (decide ((↑x.fst.fst.length : Int) < (65 : Int)) = true → decide ((↑x.fst.fst.length : Int) < (65 : Int)) = true) ∧
 (decide ((↑x.fst.fst.length : Int) < (65 : Int)) = true → decide ((↑x.fst.fst.length : Int) < (65 : Int)) = true) ∧
 (decide ((↑x.fst.fst.length : Int) < (65 : Int)) = true →
 decide ((↑x.fst.fst.length : Int) < (65 : Int)) = true ∧ decide ((↑x.fst.fst.length : Int) < (65 : Int)) = true) ∧
 (decide ((↑x.fst.fst.length : Int) < (65 : Int)) = true → decide ((↑x.fst.fst.length : Int) < (65 : Int)) = true) ∧
 (decide ((↑x.fst.fst.length : Int) < (65 : Int)) = true → decide ((↑x.fst.fst.length : Int) < (65 : Int)) = true) ∧
 ((decide ((↑x.fst.fst.length : Int) < (65 : Int)) && decide ((0 : Int) ≤ min x.fst.snd.fst x.fst.snd.snd)) = true →
 (decide ((↑x.fst.fst.length : Int) < (65 : Int)) && decide ((0 : Int) ≤ min x.fst.snd.fst x.fst.snd.snd)) = true) ∧
 ((decide ((↑x.fst.fst.length : Int) < (65 : Int)) && decide ((0 : Int) ≤ min x.fst.snd.fst x.fst.snd.snd)) = true →
 (decide ((↑x.fst.fst.length : Int) < (65 : Int)) && decide ((0 : Int) ≤ min x.fst.snd.fst x.fst.snd.snd)) = true) ∧
 ((decide ((↑x.fst.fst.length : Int) < (65 : Int)) && decide ((0 : Int) ≤ min x.fst.snd.fst x.fst.snd.snd)) = true →
 (decide ((↑x.fst.fst.length : Int) < (65 : Int)) && decide ((0 : Int) ≤ min x.fst.snd.fst x.fst.snd.snd)) = true ∧
 (decide ((↑x.fst.fst.length : Int) < (65 : Int)) && decide ((0 : Int) ≤ min x.fst.snd.fst x.fst.snd.snd)) = true) ∧
 ((decide ((↑x.fst.fst.length : Int) < (65 : Int)) && decide ((0 : Int) ≤ min x.fst.snd.fst x.fst.snd.snd)) = true →
 (decide ((↑x.fst.fst.length : Int) < (65 : Int)) && decide ((0 : Int) ≤ min x.fst.snd.fst x.fst.snd.snd)) = true) ∧
 ((decide ((↑x.fst.fst.length : Int) < (65 : Int)) && decide ((0 : Int) ≤ min x.fst.snd.fst x.fst.snd.snd)) = true →
 (decide ((↑x.fst.fst.length : Int) < (65 : Int)) && decide ((0 : Int) ≤ min x.fst.snd.fst x.fst.snd.snd)) = true) ∧
 (decide ((↑x.fst.fst.length : Int) < (65 : Int)) && decide ((0 : Int) ≤ min x.fst.snd.fst x.fst.snd.snd) &&
 decide (max x.fst.snd.fst x.fst.snd.snd ≤ (1099511627776 : Int))) =
 right x.fst

theorem E_uright_eq (x : HL (cRight : Ctr).as) : vc (fx_uright x) 1 84 Try.f84 (cRight) x = E_uright x := by kernel_rfl

def E_step (x : (List Int × Int × Int) × (Int × Int × List Int) × Unit) : Prop :=
 Holds True ∧
 ((!right (x.fst.fst, x.fst.snd.fst, x.fst.snd.snd)) = true →
 (([] : List Int), (0 : Int), (0 : Int)) = (step x.fst x.snd.fst).fst ∧
 (0 : Int) = (step x.fst x.snd.fst).snd.fst ∧
 ([] : List Int) = (step x.fst x.snd.fst).snd.snd.fst ∧ (1 : Int) = (step x.fst x.snd.fst).snd.snd.snd.fst) ∧
 ((!right (x.fst.fst, x.fst.snd.fst, x.fst.snd.snd)) = false →
 Holds (x.fst.fst.length ≤ (140737488355328 : Nat)) ∧
 ((x.snd.fst.fst == (1 : Int)) = true →
 ((-9223372036854775808 : Int) ≤ (64 : Int) - (↑x.fst.fst.length : Int) ∧
 (64 : Int) - (↑x.fst.fst.length : Int) ≤ (9223372036854775807 : Int)) ∧
 ((x.fst.snd.fst == (0 : Int)) = true →
 (([] : List Int), (0 : Int), (0 : Int)) = (step x.fst x.snd.fst).fst ∧
 (0 : Int) = (step x.fst x.snd.fst).snd.fst ∧
 ([] : List Int) = (step x.fst x.snd.fst).snd.snd.fst ∧ (6 : Int) = (step x.fst x.snd.fst).snd.snd.snd.fst) ∧
 ((x.fst.snd.fst == (0 : Int)) = false →
 ((x.fst.snd.snd == (0 : Int)) = true →
 (([] : List Int), (0 : Int), (0 : Int)) = (step x.fst x.snd.fst).fst ∧
 (0 : Int) = (step x.fst x.snd.fst).snd.fst ∧
 ([] : List Int) = (step x.fst x.snd.fst).snd.snd.fst ∧ (3 : Int) = (step x.fst x.snd.fst).snd.snd.snd.fst) ∧
 ((x.fst.snd.snd == (0 : Int)) = false →
 (decide ((64 : Int) - (↑x.fst.fst.length : Int) < (↑x.snd.fst.snd.snd.length : Int)) = true →
 decide ((64 : Int) - (↑x.fst.fst.length : Int) < (↑x.snd.fst.snd.snd.length : Int)) = true) ∧
 (decide ((64 : Int) - (↑x.fst.fst.length : Int) < (↑x.snd.fst.snd.snd.length : Int)) = true →
 decide ((64 : Int) - (↑x.fst.fst.length : Int) < (↑x.snd.fst.snd.snd.length : Int)) = true) ∧
 ((decide ((64 : Int) - (↑x.fst.fst.length : Int) < (↑x.snd.fst.snd.snd.length : Int)) &&
 !(64 : Int) - (↑x.fst.fst.length : Int) == (0 : Int)) =
 true →
 (decide ((64 : Int) - (↑x.fst.fst.length : Int) < (↑x.snd.fst.snd.snd.length : Int)) &&
 !(64 : Int) - (↑x.fst.fst.length : Int) == (0 : Int)) =
 true) ∧
 ((decide ((64 : Int) - (↑x.fst.fst.length : Int) < (↑x.snd.fst.snd.snd.length : Int)) &&
 !(64 : Int) - (↑x.fst.fst.length : Int) == (0 : Int)) =
 true →
 (decide ((64 : Int) - (↑x.fst.fst.length : Int) < (↑x.snd.fst.snd.snd.length : Int)) &&
 !(64 : Int) - (↑x.fst.fst.length : Int) == (0 : Int)) =
 true) ∧
 ((decide ((64 : Int) - (↑x.fst.fst.length : Int) < (↑x.snd.fst.snd.snd.length : Int)) &&
 !(64 : Int) - (↑x.fst.fst.length : Int) == (0 : Int)) =
 true →
 (decide ((64 : Int) - (↑x.fst.fst.length : Int) < (↑x.snd.fst.snd.snd.length : Int)) &&
 !(64 : Int) - (↑x.fst.fst.length : Int) == (0 : Int)) =
 true) ∧
 (decide ((64 : Int) - (↑x.fst.fst.length : Int) < (↑x.snd.fst.snd.snd.length : Int)) = true →
 decide ((64 : Int) - (↑x.fst.fst.length : Int) < (↑x.snd.fst.snd.snd.length : Int)) = true ∧
 (((64 : Int) - (↑x.fst.fst.length : Int) == (0 : Int)) = false →
 (decide ((64 : Int) - (↑x.fst.fst.length : Int) < (↑x.snd.fst.snd.snd.length : Int)) &&
 !(64 : Int) - (↑x.fst.fst.length : Int) == (0 : Int)) =
 true)) ∧
 (decide ((64 : Int) - (↑x.fst.fst.length : Int) < (↑x.snd.fst.snd.snd.length : Int)) = true →
 decide ((64 : Int) - (↑x.fst.fst.length : Int) < (↑x.snd.fst.snd.snd.length : Int)) = true) ∧
 ((decide ((64 : Int) - (↑x.fst.fst.length : Int) < (↑x.snd.fst.snd.snd.length : Int)) &&
 ((64 : Int) - (↑x.fst.fst.length : Int) == (0 : Int) ||
 decide ((↑x.snd.fst.snd.snd.length : Int) ≤ (16 : Int)))) =
 true →
 (([] : List Int), (0 : Int), (0 : Int)) = (step x.fst x.snd.fst).fst ∧
 (0 : Int) = (step x.fst x.snd.fst).snd.fst ∧
 ([] : List Int) = (step x.fst x.snd.fst).snd.snd.fst ∧
 (7 : Int) = (step x.fst x.snd.fst).snd.snd.snd.fst) ∧
 ((decide ((64 : Int) - (↑x.fst.fst.length : Int) < (↑x.snd.fst.snd.snd.length : Int)) &&
 ((64 : Int) - (↑x.fst.fst.length : Int) == (0 : Int) ||
 decide ((↑x.snd.fst.snd.snd.length : Int) ≤ (16 : Int)))) =
 false →
 (((0 : Int) ≤ (0 : Int) ∧
 (0 : Int) ≤ min ((64 : Int) - (↑x.fst.fst.length : Int)) (↑x.snd.fst.snd.snd.length : Int)) ∧
 min ((64 : Int) - (↑x.fst.fst.length : Int)) (↑x.snd.fst.snd.snd.length : Int) ≤
 (↑x.snd.fst.snd.snd.length : Int)) ∧
 (x.fst.fst.length +
 (List.drop (Int.toNat (0 : Int))
 (List.take
 (min ((64 : Int) - (↑x.fst.fst.length : Int)) (↑x.snd.fst.snd.snd.length : Int)).toNat
 x.snd.fst.snd.snd)).length ≤
 (9223372036854775807 : Nat) ∧
 (x.fst.fst.length +
 (List.drop (Int.toNat (0 : Int))
 (List.take
 (min ((64 : Int) - (↑x.fst.fst.length : Int)) (↑x.snd.fst.snd.snd.length : Int)).toNat
 x.snd.fst.snd.snd)).length +
 (x.fst.fst.length +
 (List.drop (Int.toNat (0 : Int))
 (List.take
 (min ((64 : Int) - (↑x.fst.fst.length : Int)) (↑x.snd.fst.snd.snd.length : Int)).toNat
 x.snd.fst.snd.snd)).length) /
 (4 : Nat) +
 (192 : Nat)) *
 (1 : Nat) ≤
 (281474976710656 : Nat)) ∧
 (x.fst.fst ++
 List.drop (Int.toNat (0 : Int))
 (List.take
 (min ((64 : Int) - (↑x.fst.fst.length : Int)) (↑x.snd.fst.snd.snd.length : Int)).toNat
 x.snd.fst.snd.snd),
 x.fst.snd.fst, x.fst.snd.snd) =
 (step x.fst x.snd.fst).fst ∧
 min ((64 : Int) - (↑x.fst.fst.length : Int)) (↑x.snd.fst.snd.snd.length : Int) =
 (step x.fst x.snd.fst).snd.fst ∧
 ([] : List Int) = (step x.fst x.snd.fst).snd.snd.fst ∧
 (0 : Int) = (step x.fst x.snd.fst).snd.snd.snd.fst)))) ∧
 ((x.snd.fst.fst == (1 : Int)) = false →
 ((x.snd.fst.fst == (2 : Int)) = true →
 ((x.fst.snd.snd == (0 : Int)) = true →
 (([] : List Int), (0 : Int), (0 : Int)) = (step x.fst x.snd.fst).fst ∧
 (0 : Int) = (step x.fst x.snd.fst).snd.fst ∧
 ([] : List Int) = (step x.fst x.snd.fst).snd.snd.fst ∧ (6 : Int) = (step x.fst x.snd.fst).snd.snd.snd.fst) ∧
 ((x.fst.snd.snd == (0 : Int)) = false →
 (decide (x.snd.fst.snd.fst < (1 : Int)) = true →
 (([] : List Int), (0 : Int), (0 : Int)) = (step x.fst x.snd.fst).fst ∧
 (0 : Int) = (step x.fst x.snd.fst).snd.fst ∧
 ([] : List Int) = (step x.fst x.snd.fst).snd.snd.fst ∧ (2 : Int) = (step x.fst x.snd.fst).snd.snd.snd.fst) ∧
 (decide (x.snd.fst.snd.fst < (1 : Int)) = false →
 (((↑x.fst.fst.length : Int) == (0 : Int)) = true → ((↑x.fst.fst.length : Int) == (0 : Int)) = true) ∧
 (((↑x.fst.fst.length : Int) == (0 : Int)) = true → ((↑x.fst.fst.length : Int) == (0 : Int)) = true) ∧
 (((↑x.fst.fst.length : Int) == (0 : Int)) = true → ((↑x.fst.fst.length : Int) == (0 : Int)) = true) ∧
 (((↑x.fst.fst.length : Int) == (0 : Int) && decide ((0 : Int) < x.fst.snd.fst)) = true →
 (([] : List Int), (0 : Int), (0 : Int)) = (step x.fst x.snd.fst).fst ∧
 (0 : Int) = (step x.fst x.snd.fst).snd.fst ∧
 ([] : List Int) = (step x.fst x.snd.fst).snd.snd.fst ∧ (7 : Int) = (step x.fst x.snd.fst).snd.snd.snd.fst) ∧
 (((↑x.fst.fst.length : Int) == (0 : Int) && decide ((0 : Int) < x.fst.snd.fst)) = false →
 (((0 : Int) ≤ (0 : Int) ∧ (0 : Int) ≤ min x.snd.fst.snd.fst (↑x.fst.fst.length : Int)) ∧
 min x.snd.fst.snd.fst (↑x.fst.fst.length : Int) ≤ (↑x.fst.fst.length : Int)) ∧
 Holds
 ((List.drop (Int.toNat (0 : Int))
 (List.take (min x.snd.fst.snd.fst (↑x.fst.fst.length : Int)).toNat x.fst.fst)).length ≤
 (140737488355328 : Nat)) ∧
 (((0 : Int) ≤ min x.snd.fst.snd.fst (↑x.fst.fst.length : Int) ∧
 min x.snd.fst.snd.fst (↑x.fst.fst.length : Int) ≤ (↑x.fst.fst.length : Int)) ∧
 (↑x.fst.fst.length : Int) ≤ (↑x.fst.fst.length : Int)) ∧
 Holds
 ((List.drop (min x.snd.fst.snd.fst (↑x.fst.fst.length : Int)).toNat
 (List.take (↑x.fst.fst.length : Int).toNat x.fst.fst)).length ≤
 (140737488355328 : Nat)) ∧
 (List.drop (min x.snd.fst.snd.fst (↑x.fst.fst.length : Int)).toNat
 (List.take (↑x.fst.fst.length : Int).toNat x.fst.fst),
 x.fst.snd.fst, x.fst.snd.snd) =
 (step x.fst x.snd.fst).fst ∧
 (0 : Int) = (step x.fst x.snd.fst).snd.fst ∧
 List.drop (Int.toNat (0 : Int))
 (List.take (min x.snd.fst.snd.fst (↑x.fst.fst.length : Int)).toNat x.fst.fst) =
 (step x.fst x.snd.fst).snd.snd.fst ∧
 (0 : Int) = (step x.fst x.snd.fst).snd.snd.snd.fst)))) ∧
 ((x.snd.fst.fst == (2 : Int)) = false →
 (x.snd.fst.fst = (3 : Int) →
 ((!x.snd.fst.fst == (3 : Int)) = true → (!x.snd.fst.fst == (3 : Int)) = true) ∧
 ((!x.snd.fst.fst == (3 : Int)) = true → (!x.snd.fst.fst == (3 : Int)) = true) ∧
 ((x.snd.fst.fst == (3 : Int)) = false → (!x.snd.fst.fst == (3 : Int)) = true) ∧
 ((x.snd.fst.fst == (3 : Int) || x.snd.fst.fst == (4 : Int)) = true →
 ((x.fst.snd.fst == (1099511627776 : Int)) = true →
 (([] : List Int), (0 : Int), (0 : Int)) = (step x.fst x.snd.fst).fst ∧
 (0 : Int) = (step x.fst x.snd.fst).snd.fst ∧
 ([] : List Int) = (step x.fst x.snd.fst).snd.snd.fst ∧ (4 : Int) = (step x.fst x.snd.fst).snd.snd.snd.fst) ∧
 ((x.fst.snd.fst == (1099511627776 : Int)) = false →
 ((-9223372036854775808 : Int) ≤ x.fst.snd.fst + (1 : Int) ∧
 x.fst.snd.fst + (1 : Int) ≤ (9223372036854775807 : Int)) ∧
 (x.fst.fst, x.fst.snd.fst + (1 : Int), x.fst.snd.snd) = (step x.fst x.snd.fst).fst ∧
 (0 : Int) = (step x.fst x.snd.fst).snd.fst ∧
 ([] : List Int) = (step x.fst x.snd.fst).snd.snd.fst ∧ (0 : Int) = (step x.fst x.snd.fst).snd.snd.snd.fst)) ∧
 ((x.snd.fst.fst == (3 : Int) || x.snd.fst.fst == (4 : Int)) = false →
 ((x.fst.snd.fst == (0 : Int)) = true →
 (([] : List Int), (0 : Int), (0 : Int)) = (step x.fst x.snd.fst).fst ∧
 (0 : Int) = (step x.fst x.snd.fst).snd.fst ∧
 ([] : List Int) = (step x.fst x.snd.fst).snd.snd.fst ∧ (3 : Int) = (step x.fst x.snd.fst).snd.snd.snd.fst) ∧
 ((x.fst.snd.fst == (0 : Int)) = false →
 ((-9223372036854775808 : Int) ≤ x.fst.snd.fst - (1 : Int) ∧
 x.fst.snd.fst - (1 : Int) ≤ (9223372036854775807 : Int)) ∧
 (x.fst.fst, x.fst.snd.fst - (1 : Int), x.fst.snd.snd) = (step x.fst x.snd.fst).fst ∧
 (0 : Int) = (step x.fst x.snd.fst).snd.fst ∧
 ([] : List Int) = (step x.fst x.snd.fst).snd.snd.fst ∧ (0 : Int) = (step x.fst x.snd.fst).snd.snd.snd.fst))) ∧
 (¬x.snd.fst.fst = (3 : Int) →
 (x.snd.fst.fst = (5 : Int) →
 ((!x.snd.fst.fst == (3 : Int)) = true → (!x.snd.fst.fst == (3 : Int)) = true) ∧
 ((!x.snd.fst.fst == (3 : Int)) = true → (!x.snd.fst.fst == (3 : Int)) = true) ∧
 ((x.snd.fst.fst == (3 : Int)) = false → (!x.snd.fst.fst == (3 : Int)) = true) ∧
 ((x.snd.fst.fst == (3 : Int) || x.snd.fst.fst == (4 : Int)) = true →
 ((x.fst.snd.fst == (1099511627776 : Int)) = true →
 (([] : List Int), (0 : Int), (0 : Int)) = (step x.fst x.snd.fst).fst ∧
 (0 : Int) = (step x.fst x.snd.fst).snd.fst ∧
 ([] : List Int) = (step x.fst x.snd.fst).snd.snd.fst ∧ (4 : Int) = (step x.fst x.snd.fst).snd.snd.snd.fst) ∧
 ((x.fst.snd.fst == (1099511627776 : Int)) = false →
 ((-9223372036854775808 : Int) ≤ x.fst.snd.fst + (1 : Int) ∧
 x.fst.snd.fst + (1 : Int) ≤ (9223372036854775807 : Int)) ∧
 (x.fst.fst, x.fst.snd.fst + (1 : Int), x.fst.snd.snd) = (step x.fst x.snd.fst).fst ∧
 (0 : Int) = (step x.fst x.snd.fst).snd.fst ∧
 ([] : List Int) = (step x.fst x.snd.fst).snd.snd.fst ∧
 (0 : Int) = (step x.fst x.snd.fst).snd.snd.snd.fst)) ∧
 ((x.snd.fst.fst == (3 : Int) || x.snd.fst.fst == (4 : Int)) = false →
 ((x.fst.snd.fst == (0 : Int)) = true →
 (([] : List Int), (0 : Int), (0 : Int)) = (step x.fst x.snd.fst).fst ∧
 (0 : Int) = (step x.fst x.snd.fst).snd.fst ∧
 ([] : List Int) = (step x.fst x.snd.fst).snd.snd.fst ∧ (3 : Int) = (step x.fst x.snd.fst).snd.snd.snd.fst) ∧
 ((x.fst.snd.fst == (0 : Int)) = false →
 ((-9223372036854775808 : Int) ≤ x.fst.snd.fst - (1 : Int) ∧
 x.fst.snd.fst - (1 : Int) ≤ (9223372036854775807 : Int)) ∧
 (x.fst.fst, x.fst.snd.fst - (1 : Int), x.fst.snd.snd) = (step x.fst x.snd.fst).fst ∧
 (0 : Int) = (step x.fst x.snd.fst).snd.fst ∧
 ([] : List Int) = (step x.fst x.snd.fst).snd.snd.fst ∧
 (0 : Int) = (step x.fst x.snd.fst).snd.snd.snd.fst))) ∧
 (¬x.snd.fst.fst = (5 : Int) →
 (x.snd.fst.fst = (4 : Int) →
 ((!x.snd.fst.fst == (3 : Int)) = true → (!x.snd.fst.fst == (3 : Int)) = true) ∧
 ((!x.snd.fst.fst == (3 : Int)) = true → (!x.snd.fst.fst == (3 : Int)) = true) ∧
 ((x.snd.fst.fst == (3 : Int)) = false → (!x.snd.fst.fst == (3 : Int)) = true) ∧
 ((x.snd.fst.fst == (3 : Int) || x.snd.fst.fst == (4 : Int)) = true →
 ((x.fst.snd.snd == (1099511627776 : Int)) = true →
 (([] : List Int), (0 : Int), (0 : Int)) = (step x.fst x.snd.fst).fst ∧
 (0 : Int) = (step x.fst x.snd.fst).snd.fst ∧
 ([] : List Int) = (step x.fst x.snd.fst).snd.snd.fst ∧
 (4 : Int) = (step x.fst x.snd.fst).snd.snd.snd.fst) ∧
 ((x.fst.snd.snd == (1099511627776 : Int)) = false →
 ((-9223372036854775808 : Int) ≤ x.fst.snd.snd + (1 : Int) ∧
 x.fst.snd.snd + (1 : Int) ≤ (9223372036854775807 : Int)) ∧
 (x.fst.fst, x.fst.snd.fst, x.fst.snd.snd + (1 : Int)) = (step x.fst x.snd.fst).fst ∧
 (0 : Int) = (step x.fst x.snd.fst).snd.fst ∧
 ([] : List Int) = (step x.fst x.snd.fst).snd.snd.fst ∧
 (0 : Int) = (step x.fst x.snd.fst).snd.snd.snd.fst)) ∧
 ((x.snd.fst.fst == (3 : Int) || x.snd.fst.fst == (4 : Int)) = false →
 ((x.fst.snd.snd == (0 : Int)) = true →
 (([] : List Int), (0 : Int), (0 : Int)) = (step x.fst x.snd.fst).fst ∧
 (0 : Int) = (step x.fst x.snd.fst).snd.fst ∧
 ([] : List Int) = (step x.fst x.snd.fst).snd.snd.fst ∧
 (3 : Int) = (step x.fst x.snd.fst).snd.snd.snd.fst) ∧
 ((x.fst.snd.snd == (0 : Int)) = false →
 ((-9223372036854775808 : Int) ≤ x.fst.snd.snd - (1 : Int) ∧
 x.fst.snd.snd - (1 : Int) ≤ (9223372036854775807 : Int)) ∧
 (x.fst.fst, x.fst.snd.fst, x.fst.snd.snd - (1 : Int)) = (step x.fst x.snd.fst).fst ∧
 (0 : Int) = (step x.fst x.snd.fst).snd.fst ∧
 ([] : List Int) = (step x.fst x.snd.fst).snd.snd.fst ∧
 (0 : Int) = (step x.fst x.snd.fst).snd.snd.snd.fst))) ∧
 (¬x.snd.fst.fst = (4 : Int) →
 (x.snd.fst.fst = (6 : Int) →
 ((!x.snd.fst.fst == (3 : Int)) = true → (!x.snd.fst.fst == (3 : Int)) = true) ∧
 ((!x.snd.fst.fst == (3 : Int)) = true → (!x.snd.fst.fst == (3 : Int)) = true) ∧
 ((x.snd.fst.fst == (3 : Int)) = false → (!x.snd.fst.fst == (3 : Int)) = true) ∧
 ((x.snd.fst.fst == (3 : Int) || x.snd.fst.fst == (4 : Int)) = true →
 ((x.fst.snd.snd == (1099511627776 : Int)) = true →
 (([] : List Int), (0 : Int), (0 : Int)) = (step x.fst x.snd.fst).fst ∧
 (0 : Int) = (step x.fst x.snd.fst).snd.fst ∧
 ([] : List Int) = (step x.fst x.snd.fst).snd.snd.fst ∧
 (4 : Int) = (step x.fst x.snd.fst).snd.snd.snd.fst) ∧
 ((x.fst.snd.snd == (1099511627776 : Int)) = false →
 ((-9223372036854775808 : Int) ≤ x.fst.snd.snd + (1 : Int) ∧
 x.fst.snd.snd + (1 : Int) ≤ (9223372036854775807 : Int)) ∧
 (x.fst.fst, x.fst.snd.fst, x.fst.snd.snd + (1 : Int)) = (step x.fst x.snd.fst).fst ∧
 (0 : Int) = (step x.fst x.snd.fst).snd.fst ∧
 ([] : List Int) = (step x.fst x.snd.fst).snd.snd.fst ∧
 (0 : Int) = (step x.fst x.snd.fst).snd.snd.snd.fst)) ∧
 ((x.snd.fst.fst == (3 : Int) || x.snd.fst.fst == (4 : Int)) = false →
 ((x.fst.snd.snd == (0 : Int)) = true →
 (([] : List Int), (0 : Int), (0 : Int)) = (step x.fst x.snd.fst).fst ∧
 (0 : Int) = (step x.fst x.snd.fst).snd.fst ∧
 ([] : List Int) = (step x.fst x.snd.fst).snd.snd.fst ∧
 (3 : Int) = (step x.fst x.snd.fst).snd.snd.snd.fst) ∧
 ((x.fst.snd.snd == (0 : Int)) = false →
 ((-9223372036854775808 : Int) ≤ x.fst.snd.snd - (1 : Int) ∧
 x.fst.snd.snd - (1 : Int) ≤ (9223372036854775807 : Int)) ∧
 (x.fst.fst, x.fst.snd.fst, x.fst.snd.snd - (1 : Int)) = (step x.fst x.snd.fst).fst ∧
 (0 : Int) = (step x.fst x.snd.fst).snd.fst ∧
 ([] : List Int) = (step x.fst x.snd.fst).snd.snd.fst ∧
 (0 : Int) = (step x.fst x.snd.fst).snd.snd.snd.fst))) ∧
 (¬x.snd.fst.fst = (6 : Int) →
 (([] : List Int), (0 : Int), (0 : Int)) = (step x.fst x.snd.fst).fst ∧
 (0 : Int) = (step x.fst x.snd.fst).snd.fst ∧
 ([] : List Int) = (step x.fst x.snd.fst).snd.snd.fst ∧ (5 : Int) = (step x.fst x.snd.fst).snd.snd.snd.fst)))))))

theorem E_step_eq (x : HL (cStep : Ctr).as) : vc (fx_step x) 2 66 Try.f66 (cStep) x = E_step x := by kernel_rfl

def E_ustep (x : (List Int × Int × Int) × (Int × Int × List Int) × Unit) : Prop :=
 Holds True ∧
 ((!right (x.fst.fst, x.fst.snd.fst, x.fst.snd.snd)) = true →
 (((1 : Int) != (0 : Int)) = true →
 (([] : List Int), (0 : Int), (0 : Int)) = (step x.fst x.snd.fst).fst ∧
 (0 : Int) = (step x.fst x.snd.fst).snd.fst ∧
 ([] : List Int) = (step x.fst x.snd.fst).snd.snd.fst ∧ (1 : Int) = (step x.fst x.snd.fst).snd.snd.snd.fst) ∧
 (((1 : Int) != (0 : Int)) = false →
 (x.fst.fst, x.fst.snd.fst, x.fst.snd.snd) = (step x.fst x.snd.fst).fst ∧
 (0 : Int) = (step x.fst x.snd.fst).snd.fst ∧
 ([] : List Int) = (step x.fst x.snd.fst).snd.snd.fst ∧ (1 : Int) = (step x.fst x.snd.fst).snd.snd.snd.fst)) ∧
 ((!right (x.fst.fst, x.fst.snd.fst, x.fst.snd.snd)) = false →
 ((!decide (x.snd.fst.fst < (1 : Int))) = true → (!decide (x.snd.fst.fst < (1 : Int))) = true) ∧
 ((!decide (x.snd.fst.fst < (1 : Int))) = true → (!decide (x.snd.fst.fst < (1 : Int))) = true) ∧
 (decide (x.snd.fst.fst < (1 : Int)) = false → (!decide (x.snd.fst.fst < (1 : Int))) = true) ∧
 ((decide (x.snd.fst.fst < (1 : Int)) || decide ((6 : Int) < x.snd.fst.fst)) = true →
 (((5 : Int) != (0 : Int)) = true →
 (([] : List Int), (0 : Int), (0 : Int)) = (step x.fst x.snd.fst).fst ∧
 (0 : Int) = (step x.fst x.snd.fst).snd.fst ∧
 ([] : List Int) = (step x.fst x.snd.fst).snd.snd.fst ∧ (5 : Int) = (step x.fst x.snd.fst).snd.snd.snd.fst) ∧
 (((5 : Int) != (0 : Int)) = false →
 (x.fst.fst, x.fst.snd.fst, x.fst.snd.snd) = (step x.fst x.snd.fst).fst ∧
 (0 : Int) = (step x.fst x.snd.fst).snd.fst ∧
 ([] : List Int) = (step x.fst x.snd.fst).snd.snd.fst ∧ (5 : Int) = (step x.fst x.snd.fst).snd.snd.snd.fst)) ∧
 ((decide (x.snd.fst.fst < (1 : Int)) || decide ((6 : Int) < x.snd.fst.fst)) = false →
 ((x.snd.fst.fst == (1 : Int)) = true → (x.snd.fst.fst == (1 : Int)) = true) ∧
 ((x.snd.fst.fst == (1 : Int)) = true → (x.snd.fst.fst == (1 : Int)) = true) ∧
 ((x.snd.fst.fst == (1 : Int)) = true → (x.snd.fst.fst == (1 : Int)) = true) ∧
 ((x.snd.fst.fst == (1 : Int) && decide (x.fst.snd.fst < (1 : Int))) = true →
 (((6 : Int) != (0 : Int)) = true →
 (([] : List Int), (0 : Int), (0 : Int)) = (step x.fst x.snd.fst).fst ∧
 (0 : Int) = (step x.fst x.snd.fst).snd.fst ∧
 ([] : List Int) = (step x.fst x.snd.fst).snd.snd.fst ∧ (6 : Int) = (step x.fst x.snd.fst).snd.snd.snd.fst) ∧
 (((6 : Int) != (0 : Int)) = false →
 (x.fst.fst, x.fst.snd.fst, x.fst.snd.snd) = (step x.fst x.snd.fst).fst ∧
 (0 : Int) = (step x.fst x.snd.fst).snd.fst ∧
 ([] : List Int) = (step x.fst x.snd.fst).snd.snd.fst ∧ (6 : Int) = (step x.fst x.snd.fst).snd.snd.snd.fst)) ∧
 ((x.snd.fst.fst == (1 : Int) && decide (x.fst.snd.fst < (1 : Int))) = false →
 ((x.snd.fst.fst == (2 : Int)) = true → (x.snd.fst.fst == (2 : Int)) = true) ∧
 ((x.snd.fst.fst == (2 : Int)) = true → (x.snd.fst.fst == (2 : Int)) = true) ∧
 ((x.snd.fst.fst == (2 : Int)) = true → (x.snd.fst.fst == (2 : Int)) = true) ∧
 ((x.snd.fst.fst == (2 : Int) && decide (x.fst.snd.snd < (1 : Int))) = true →
 (((6 : Int) != (0 : Int)) = true →
 (([] : List Int), (0 : Int), (0 : Int)) = (step x.fst x.snd.fst).fst ∧
 (0 : Int) = (step x.fst x.snd.fst).snd.fst ∧
 ([] : List Int) = (step x.fst x.snd.fst).snd.snd.fst ∧
 (6 : Int) = (step x.fst x.snd.fst).snd.snd.snd.fst) ∧
 (((6 : Int) != (0 : Int)) = false →
 (x.fst.fst, x.fst.snd.fst, x.fst.snd.snd) = (step x.fst x.snd.fst).fst ∧
 (0 : Int) = (step x.fst x.snd.fst).snd.fst ∧
 ([] : List Int) = (step x.fst x.snd.fst).snd.snd.fst ∧
 (6 : Int) = (step x.fst x.snd.fst).snd.snd.snd.fst)) ∧
 ((x.snd.fst.fst == (2 : Int) && decide (x.fst.snd.snd < (1 : Int))) = false →
 ((x.snd.fst.fst == (1 : Int)) = true → (x.snd.fst.fst == (1 : Int)) = true) ∧
 ((x.snd.fst.fst == (1 : Int)) = true → (x.snd.fst.fst == (1 : Int)) = true) ∧
 ((x.snd.fst.fst == (1 : Int)) = true → (x.snd.fst.fst == (1 : Int)) = true) ∧
 ((x.snd.fst.fst == (1 : Int) && decide (x.fst.snd.snd < (1 : Int))) = true →
 (((3 : Int) != (0 : Int)) = true →
 (([] : List Int), (0 : Int), (0 : Int)) = (step x.fst x.snd.fst).fst ∧
 (0 : Int) = (step x.fst x.snd.fst).snd.fst ∧
 ([] : List Int) = (step x.fst x.snd.fst).snd.snd.fst ∧
 (3 : Int) = (step x.fst x.snd.fst).snd.snd.snd.fst) ∧
 (((3 : Int) != (0 : Int)) = false →
 (x.fst.fst, x.fst.snd.fst, x.fst.snd.snd) = (step x.fst x.snd.fst).fst ∧
 (0 : Int) = (step x.fst x.snd.fst).snd.fst ∧
 ([] : List Int) = (step x.fst x.snd.fst).snd.snd.fst ∧
 (3 : Int) = (step x.fst x.snd.fst).snd.snd.snd.fst)) ∧
 ((x.snd.fst.fst == (1 : Int) && decide (x.fst.snd.snd < (1 : Int))) = false →
 ((x.snd.fst.fst == (5 : Int)) = true → (x.snd.fst.fst == (5 : Int)) = true) ∧
 ((x.snd.fst.fst == (5 : Int)) = true → (x.snd.fst.fst == (5 : Int)) = true) ∧
 ((x.snd.fst.fst == (5 : Int)) = true → (x.snd.fst.fst == (5 : Int)) = true) ∧
 ((x.snd.fst.fst == (5 : Int) && decide (x.fst.snd.fst < (1 : Int))) = true →
 (((3 : Int) != (0 : Int)) = true →
 (([] : List Int), (0 : Int), (0 : Int)) = (step x.fst x.snd.fst).fst ∧
 (0 : Int) = (step x.fst x.snd.fst).snd.fst ∧
 ([] : List Int) = (step x.fst x.snd.fst).snd.snd.fst ∧
 (3 : Int) = (step x.fst x.snd.fst).snd.snd.snd.fst) ∧
 (((3 : Int) != (0 : Int)) = false →
 (x.fst.fst, x.fst.snd.fst, x.fst.snd.snd) = (step x.fst x.snd.fst).fst ∧
 (0 : Int) = (step x.fst x.snd.fst).snd.fst ∧
 ([] : List Int) = (step x.fst x.snd.fst).snd.snd.fst ∧
 (3 : Int) = (step x.fst x.snd.fst).snd.snd.snd.fst)) ∧
 ((x.snd.fst.fst == (5 : Int) && decide (x.fst.snd.fst < (1 : Int))) = false →
 ((x.snd.fst.fst == (6 : Int)) = true → (x.snd.fst.fst == (6 : Int)) = true) ∧
 ((x.snd.fst.fst == (6 : Int)) = true → (x.snd.fst.fst == (6 : Int)) = true) ∧
 ((x.snd.fst.fst == (6 : Int)) = true → (x.snd.fst.fst == (6 : Int)) = true) ∧
 ((x.snd.fst.fst == (6 : Int) && decide (x.fst.snd.snd < (1 : Int))) = true →
 (((3 : Int) != (0 : Int)) = true →
 (([] : List Int), (0 : Int), (0 : Int)) = (step x.fst x.snd.fst).fst ∧
 (0 : Int) = (step x.fst x.snd.fst).snd.fst ∧
 ([] : List Int) = (step x.fst x.snd.fst).snd.snd.fst ∧
 (3 : Int) = (step x.fst x.snd.fst).snd.snd.snd.fst) ∧
 (((3 : Int) != (0 : Int)) = false →
 (x.fst.fst, x.fst.snd.fst, x.fst.snd.snd) = (step x.fst x.snd.fst).fst ∧
 (0 : Int) = (step x.fst x.snd.fst).snd.fst ∧
 ([] : List Int) = (step x.fst x.snd.fst).snd.snd.fst ∧
 (3 : Int) = (step x.fst x.snd.fst).snd.snd.snd.fst)) ∧
 ((x.snd.fst.fst == (6 : Int) && decide (x.fst.snd.snd < (1 : Int))) = false →
 ((x.snd.fst.fst == (2 : Int)) = true → (x.snd.fst.fst == (2 : Int)) = true) ∧
 ((x.snd.fst.fst == (2 : Int)) = true → (x.snd.fst.fst == (2 : Int)) = true) ∧
 ((x.snd.fst.fst == (2 : Int)) = true → (x.snd.fst.fst == (2 : Int)) = true) ∧
 ((x.snd.fst.fst == (2 : Int) && decide (x.snd.fst.snd.fst < (1 : Int))) =
 true →
 (((2 : Int) != (0 : Int)) = true →
 (([] : List Int), (0 : Int), (0 : Int)) = (step x.fst x.snd.fst).fst ∧
 (0 : Int) = (step x.fst x.snd.fst).snd.fst ∧
 ([] : List Int) = (step x.fst x.snd.fst).snd.snd.fst ∧
 (2 : Int) = (step x.fst x.snd.fst).snd.snd.snd.fst) ∧
 (((2 : Int) != (0 : Int)) = false →
 (x.fst.fst, x.fst.snd.fst, x.fst.snd.snd) =
 (step x.fst x.snd.fst).fst ∧
 (0 : Int) = (step x.fst x.snd.fst).snd.fst ∧
 ([] : List Int) = (step x.fst x.snd.fst).snd.snd.fst ∧
 (2 : Int) = (step x.fst x.snd.fst).snd.snd.snd.fst)) ∧
 ((x.snd.fst.fst == (2 : Int) && decide (x.snd.fst.snd.fst < (1 : Int))) =
 false →
 ((x.snd.fst.fst == (3 : Int)) = true →
 (x.snd.fst.fst == (3 : Int)) = true) ∧
 ((x.snd.fst.fst == (3 : Int)) = true →
 (x.snd.fst.fst == (3 : Int)) = true) ∧
 ((x.snd.fst.fst == (3 : Int)) = true →
 (x.snd.fst.fst == (3 : Int)) = true) ∧
 ((x.snd.fst.fst == (3 : Int) &&
 x.fst.snd.fst == (1099511627776 : Int)) =
 true →
 (((4 : Int) != (0 : Int)) = true →
 (([] : List Int), (0 : Int), (0 : Int)) =
 (step x.fst x.snd.fst).fst ∧
 (0 : Int) = (step x.fst x.snd.fst).snd.fst ∧
 ([] : List Int) = (step x.fst x.snd.fst).snd.snd.fst ∧
 (4 : Int) = (step x.fst x.snd.fst).snd.snd.snd.fst) ∧
 (((4 : Int) != (0 : Int)) = false →
 (x.fst.fst, x.fst.snd.fst, x.fst.snd.snd) =
 (step x.fst x.snd.fst).fst ∧
 (0 : Int) = (step x.fst x.snd.fst).snd.fst ∧
 ([] : List Int) = (step x.fst x.snd.fst).snd.snd.fst ∧
 (4 : Int) = (step x.fst x.snd.fst).snd.snd.snd.fst)) ∧
 ((x.snd.fst.fst == (3 : Int) &&
 x.fst.snd.fst == (1099511627776 : Int)) =
 false →
 ((x.snd.fst.fst == (4 : Int)) = true →
 (x.snd.fst.fst == (4 : Int)) = true) ∧
 ((x.snd.fst.fst == (4 : Int)) = true →
 (x.snd.fst.fst == (4 : Int)) = true) ∧
 ((x.snd.fst.fst == (4 : Int)) = true →
 (x.snd.fst.fst == (4 : Int)) = true) ∧
 ((x.snd.fst.fst == (4 : Int) &&
 x.fst.snd.snd == (1099511627776 : Int)) =
 true →
 (((4 : Int) != (0 : Int)) = true →
 (([] : List Int), (0 : Int), (0 : Int)) =
 (step x.fst x.snd.fst).fst ∧
 (0 : Int) = (step x.fst x.snd.fst).snd.fst ∧
 ([] : List Int) =
 (step x.fst x.snd.fst).snd.snd.fst ∧
 (4 : Int) =
 (step x.fst x.snd.fst).snd.snd.snd.fst) ∧
 (((4 : Int) != (0 : Int)) = false →
 (x.fst.fst, x.fst.snd.fst, x.fst.snd.snd) =
 (step x.fst x.snd.fst).fst ∧
 (0 : Int) = (step x.fst x.snd.fst).snd.fst ∧
 ([] : List Int) =
 (step x.fst x.snd.fst).snd.snd.fst ∧
 (4 : Int) =
 (step x.fst x.snd.fst).snd.snd.snd.fst)) ∧
 ((x.snd.fst.fst == (4 : Int) &&
 x.fst.snd.snd == (1099511627776 : Int)) =
 false →
 ((x.snd.fst.fst == (3 : Int)) = true →
 ((-9223372036854775808 : Int) ≤
 x.fst.snd.fst + (1 : Int) ∧
 x.fst.snd.fst + (1 : Int) ≤
 (9223372036854775807 : Int)) ∧
 (((0 : Int) != (0 : Int)) = true →
 (([] : List Int), (0 : Int), (0 : Int)) =
 (step x.fst x.snd.fst).fst ∧
 (0 : Int) =
 (step x.fst x.snd.fst).snd.fst ∧
 ([] : List Int) =
 (step x.fst x.snd.fst).snd.snd.fst ∧
 (0 : Int) =
 (step x.fst
 x.snd.fst).snd.snd.snd.fst) ∧
 (((0 : Int) != (0 : Int)) = false →
 (x.fst.fst, x.fst.snd.fst + (1 : Int),
 x.fst.snd.snd) =
 (step x.fst x.snd.fst).fst ∧
 (0 : Int) =
 (step x.fst x.snd.fst).snd.fst ∧
 ([] : List Int) =
 (step x.fst x.snd.fst).snd.snd.fst ∧
 (0 : Int) =
 (step x.fst
 x.snd.fst).snd.snd.snd.fst)) ∧
 ((x.snd.fst.fst == (3 : Int)) = false →
 ((x.snd.fst.fst == (4 : Int)) = true →
 ((-9223372036854775808 : Int) ≤
 x.fst.snd.snd + (1 : Int) ∧
 x.fst.snd.snd + (1 : Int) ≤
 (9223372036854775807 : Int)) ∧
 (((0 : Int) != (0 : Int)) = true →
 (([] : List Int), (0 : Int),
 (0 : Int)) =
 (step x.fst x.snd.fst).fst ∧
 (0 : Int) =
 (step x.fst x.snd.fst).snd.fst ∧
 ([] : List Int) =
 (step x.fst
 x.snd.fst).snd.snd.fst ∧
 (0 : Int) =
 (step x.fst
 x.snd.fst).snd.snd.snd.fst) ∧
 (((0 : Int) != (0 : Int)) = false →
 (x.fst.fst, x.fst.snd.fst,
 x.fst.snd.snd + (1 : Int)) =
 (step x.fst x.snd.fst).fst ∧
 (0 : Int) =
 (step x.fst x.snd.fst).snd.fst ∧
 ([] : List Int) =
 (step x.fst
 x.snd.fst).snd.snd.fst ∧
 (0 : Int) =
 (step x.fst
 x.snd.fst).snd.snd.snd.fst)) ∧
 ((x.snd.fst.fst == (4 : Int)) = false →
 ((x.snd.fst.fst == (5 : Int)) = true →
 ((-9223372036854775808 : Int) ≤
 x.fst.snd.fst - (1 : Int) ∧
 x.fst.snd.fst - (1 : Int) ≤
 (9223372036854775807 : Int)) ∧
 (((0 : Int) != (0 : Int)) = true →
 (([] : List Int), (0 : Int),
 (0 : Int)) =
 (step x.fst x.snd.fst).fst ∧
 (0 : Int) =
 (step x.fst
 x.snd.fst).snd.fst ∧
 ([] : List Int) =
 (step x.fst
 x.snd.fst).snd.snd.fst ∧
 (0 : Int) =
 (step x.fst
 x.snd.fst).snd.snd.snd.fst) ∧
 (((0 : Int) != (0 : Int)) = false →
 (x.fst.fst,
 x.fst.snd.fst - (1 : Int),
 x.fst.snd.snd) =
 (step x.fst x.snd.fst).fst ∧
 (0 : Int) =
 (step x.fst
 x.snd.fst).snd.fst ∧
 ([] : List Int) =
 (step x.fst
 x.snd.fst).snd.snd.fst ∧
 (0 : Int) =
 (step x.fst
 x.snd.fst).snd.snd.snd.fst)) ∧
 ((x.snd.fst.fst == (5 : Int)) = false →
 ((x.snd.fst.fst == (6 : Int)) = true →
 ((-9223372036854775808 : Int) ≤
 x.fst.snd.snd - (1 : Int) ∧
 x.fst.snd.snd - (1 : Int) ≤
 (9223372036854775807 : Int)) ∧
 (((0 : Int) != (0 : Int)) = true →
 (([] : List Int), (0 : Int),
 (0 : Int)) =
 (step x.fst x.snd.fst).fst ∧
 (0 : Int) =
 (step x.fst
 x.snd.fst).snd.fst ∧
 ([] : List Int) =
 (step x.fst
 x.snd.fst).snd.snd.fst ∧
 (0 : Int) =
 (step x.fst
 x.snd.fst).snd.snd.snd.fst) ∧
 (((0 : Int) != (0 : Int)) =
 false →
 (x.fst.fst, x.fst.snd.fst,
 x.fst.snd.snd -
 (1 : Int)) =
 (step x.fst x.snd.fst).fst ∧
 (0 : Int) =
 (step x.fst
 x.snd.fst).snd.fst ∧
 ([] : List Int) =
 (step x.fst
 x.snd.fst).snd.snd.fst ∧
 (0 : Int) =
 (step x.fst
 x.snd.fst).snd.snd.snd.fst)) ∧
 ((x.snd.fst.fst == (6 : Int)) = false →
 ((x.snd.fst.fst == (2 : Int)) = true →
 (x.snd.fst.fst == (2 : Int)) =
 true) ∧
 ((x.snd.fst.fst == (2 : Int)) =
 true →
 (x.snd.fst.fst == (2 : Int)) =
 true) ∧
 ((x.snd.fst.fst == (2 : Int) &&
 decide
 (x.fst.fst =
 ([] : List Int))) =
 true →
 (x.snd.fst.fst == (2 : Int) &&
 decide
 (x.fst.fst =
 ([] : List Int))) =
 true) ∧
 ((x.snd.fst.fst == (2 : Int) &&
 decide
 (x.fst.fst =
 ([] : List Int))) =
 true →
 (x.snd.fst.fst ==
 (2 : Int) &&
 decide
 (x.fst.fst =
 ([] : List Int))) =
 true) ∧
 ((x.snd.fst.fst ==
 (2 : Int) &&
 decide
 (x.fst.fst =
 ([] :
 List Int))) =
 true →
 (x.snd.fst.fst ==
 (2 : Int) &&
 decide
 (x.fst.fst =
 ([] :
 List Int))) =
 true) ∧
 ((x.snd.fst.fst ==
 (2 : Int) &&
 decide
 (x.fst.fst =
 ([] :
 List
 Int)) &&
 decide
 ((0 : Int) <
 x.fst.snd.fst)) =
 true →
 (((7 : Int) !=
 (0 : Int)) =
 true →
 (([] : List Int),
 (0 : Int),
 (0 : Int)) =
 (step x.fst
 x.snd.fst).fst ∧
 (0 : Int) =
 (step x.fst
 x.snd.fst).snd.fst ∧
 ([] :
 List
 Int) =
 (step x.fst
 x.snd.fst).snd.snd.fst ∧
 (7 : Int) =
 (step x.fst
 x.snd.fst).snd.snd.snd.fst) ∧
 (((7 : Int) !=
 (0 : Int)) =
 false →
 (x.fst.fst,
 x.fst.snd.fst,
 x.fst.snd.snd) =
 (step x.fst
 x.snd.fst).fst ∧
 (0 : Int) =
 (step x.fst
 x.snd.fst).snd.fst ∧
 ([] :
 List
 Int) =
 (step x.fst
 x.snd.fst).snd.snd.fst ∧
 (7 : Int) =
 (step x.fst
 x.snd.fst).snd.snd.snd.fst)) ∧
 ((x.snd.fst.fst ==
 (2 : Int) &&
 decide
 (x.fst.fst =
 ([] :
 List
 Int)) &&
 decide
 ((0 : Int) <
 x.fst.snd.fst)) =
 false →
 ((x.snd.fst.fst ==
 (2 : Int)) =
 true →
 (((([] :
 List
 Int) ++
 x.fst.fst =
 x.fst.fst ∧
 (↑([] :
 List
 Int).length :
 Int) ≤
 x.snd.fst.snd.fst) ∧
 True) ∧
 (x.fst.fst =
 x.fst.fst ∧
 (True ∧
 True) ∧
 (True ∧
 True) ∧
 (0 :
 Int) =
 (0 :
 Int) ∧
 ([] :
 List
 Int) =
 ([] :
 List
 Int) ∧
 (0 :
 Int) =
 (0 :
 Int) ∧
 (True ∧
 True) ∧
 True) ∧
 ((x.snd.fst.fst =
 x.snd.fst.fst ∧
 x.snd.fst.snd.fst =
 x.snd.fst.snd.fst ∧
 x.snd.fst.snd.snd =
 x.snd.fst.snd.snd ∧
 True) ∧
 (x.fst.fst =
 x.fst.fst ∧
 x.fst.snd.fst =
 x.fst.snd.fst ∧
 x.fst.snd.snd =
 x.fst.snd.snd ∧
 True) ∧
 (Value.slice
 none
 (0 :
 Nat)
 (0 :
 Nat) =
 Value.slice
 none
 (0 :
 Nat)
 (0 :
 Nat) ∧
 (0 :
 Int) =
 (0 :
 Int) ∧
 (0 :
 Int) =
 (0 :
 Int) ∧
 True) ∧
 True) ∧
 True) ∧
 ∀
 (g :
 List Int ×
 List Int ×
 Unit),
 g.snd.fst ++
 g.fst =
 x.fst.fst ∧
 (↑g.snd.fst.length :
 Int) ≤
 x.snd.fst.snd.fst →
 (g.fst.length ≤
 (9223372036854775807 :
 Nat) ∧
 ∀
 (b :
 Int),
 b ∈
 g.fst →
 (0 :
 Int) ≤
 b ∧
 b ≤
 (255 :
 Int)) ∧
 (g.snd.fst.length ≤
 (9223372036854775807 :
 Nat) ∧
 ∀
 (b :
 Int),
 b ∈
 g.snd.fst →
 (0 :
 Int) ≤
 b ∧
 b ≤
 (255 :
 Int)) ∧
 True →
 ((!decide
 (g.fst =
 ([] :
 List
 Int))) =
 true →
 (!decide
 (g.fst =
 ([] :
 List
 Int))) =
 true) ∧
 ((!decide
 (g.fst =
 ([] :
 List
 Int))) =
 true →
 (!decide
 (g.fst =
 ([] :
 List
 Int))) =
 true) ∧
 ((!decide
 (g.fst =
 ([] :
 List
 Int))) =
 true →
 (!decide
 (g.fst =
 ([] :
 List
 Int))) =
 true ∧
 (!decide
 (g.fst =
 ([] :
 List
 Int))) =
 true) ∧
 ((!decide
 (g.fst =
 ([] :
 List
 Int))) =
 true →
 (!decide
 (g.fst =
 ([] :
 List
 Int))) =
 true) ∧
 ((!decide
 (g.fst =
 ([] :
 List
 Int)) &&
 decide
 ((↑g.snd.fst.length :
 Int) <
 x.snd.fst.snd.fst)) =
 true →
 (((0 :
 Int) ≤
 (0 :
 Int) ∧
 (0 :
 Int) ≤
 (1 :
 Int)) ∧
 (1 :
 Int) ≤
 (↑g.fst.length :
 Int)) ∧
 g.snd.fst.length +
 (List.drop
 (Int.toNat
 (0 :
 Int))
 (List.take
 (Int.toNat
 (1 :
 Int))
 g.fst)).length ≤
 (9223372036854775807 :
 Nat) ∧
 (((0 :
 Int) ≤
 (1 :
 Int) ∧
 (1 :
 Int) ≤
 (↑g.fst.length :
 Int)) ∧
 (↑g.fst.length :
 Int) ≤
 (↑g.fst.length :
 Int)) ∧
 ((g.snd.fst ++
 List.drop
 (Int.toNat
 (0 :
 Int))
 (List.take
 (Int.toNat
 (1 :
 Int))
 g.fst) ++
 List.drop
 (Int.toNat
 (1 :
 Int))
 (List.take
 (↑g.fst.length :
 Int).toNat
 g.fst) =
 x.fst.fst ∧
 (↑(g.snd.fst ++
 List.drop
 (Int.toNat
 (0 :
 Int))
 (List.take
 (Int.toNat
 (1 :
 Int))
 g.fst)).length :
 Int) ≤
 x.snd.fst.snd.fst) ∧
 (List.drop
 (Int.toNat
 (1 :
 Int))
 (List.take
 (↑g.fst.length :
 Int).toNat
 g.fst)).length <
 g.fst.length) ∧
 (List.drop
 (Int.toNat
 (1 :
 Int))
 (List.take
 (↑g.fst.length :
 Int).toNat
 g.fst) =
 List.drop
 (Int.toNat
 (1 :
 Int))
 (List.take
 (↑g.fst.length :
 Int).toNat
 g.fst) ∧
 (True ∧
 True) ∧
 (True ∧
 True) ∧
 (0 :
 Int) =
 (0 :
 Int) ∧
 g.snd.fst ++
 List.drop
 (Int.toNat
 (0 :
 Int))
 (List.take
 (Int.toNat
 (1 :
 Int))
 g.fst) =
 g.snd.fst ++
 List.drop
 (Int.toNat
 (0 :
 Int))
 (List.take
 (Int.toNat
 (1 :
 Int))
 g.fst) ∧
 (0 :
 Int) =
 (0 :
 Int) ∧
 (True ∧
 True) ∧
 True) ∧
 ((x.snd.fst.fst =
 x.snd.fst.fst ∧
 x.snd.fst.snd.fst =
 x.snd.fst.snd.fst ∧
 x.snd.fst.snd.snd =
 x.snd.fst.snd.snd ∧
 True) ∧
 (x.fst.fst =
 x.fst.fst ∧
 x.fst.snd.fst =
 x.fst.snd.fst ∧
 x.fst.snd.snd =
 x.fst.snd.snd ∧
 True) ∧
 (Value.slice
 none
 (0 :
 Nat)
 (0 :
 Nat) =
 Value.slice
 none
 (0 :
 Nat)
 (0 :
 Nat) ∧
 (0 :
 Int) =
 (0 :
 Int) ∧
 (0 :
 Int) =
 (0 :
 Int) ∧
 True) ∧
 True) ∧
 True) ∧
 ((!decide
 (g.fst =
 ([] :
 List
 Int)) &&
 decide
 ((↑g.snd.fst.length :
 Int) <
 x.snd.fst.snd.fst)) =
 false →
 (((0 :
 Int) !=
 (0 :
 Int)) =
 true →
 (([] :
 List
 Int),
 (0 :
 Int),
 (0 :
 Int)) =
 (step
 x.fst
 x.snd.fst).fst ∧
 (0 :
 Int) =
 (step
 x.fst
 x.snd.fst).snd.fst ∧
 ([] :
 List
 Int) =
 (step
 x.fst
 x.snd.fst).snd.snd.fst ∧
 (0 :
 Int) =
 (step
 x.fst
 x.snd.fst).snd.snd.snd.fst) ∧
 (((0 :
 Int) !=
 (0 :
 Int)) =
 false →
 (g.fst,
 x.fst.snd.fst,
 x.fst.snd.snd) =
 (step
 x.fst
 x.snd.fst).fst ∧
 (0 :
 Int) =
 (step
 x.fst
 x.snd.fst).snd.fst ∧
 g.snd.fst =
 (step
 x.fst
 x.snd.fst).snd.snd.fst ∧
 (0 :
 Int) =
 (step
 x.fst
 x.snd.fst).snd.snd.snd.fst))) ∧
 ((x.snd.fst.fst ==
 (2 : Int)) =
 false →
 ((-9223372036854775808 :
 Int) ≤
 (↑x.fst.fst.length :
 Int) +
 (↑x.snd.fst.snd.snd.length :
 Int) ∧
 (↑x.fst.fst.length :
 Int) +
 (↑x.snd.fst.snd.snd.length :
 Int) ≤
 (9223372036854775807 :
 Int)) ∧
 (decide
 ((↑x.fst.fst.length :
 Int) +
 (↑x.snd.fst.snd.snd.length :
 Int) ≤
 (64 :
 Int)) =
 true →
 x.fst.fst.length +
 x.snd.fst.snd.snd.length ≤
 (9223372036854775807 :
 Nat) ∧
 (((0 :
 Int) !=
 (0 :
 Int)) =
 true →
 (([] :
 List
 Int),
 (0 :
 Int),
 (0 :
 Int)) =
 (step
 x.fst
 x.snd.fst).fst ∧
 (0 :
 Int) =
 (step
 x.fst
 x.snd.fst).snd.fst ∧
 ([] :
 List
 Int) =
 (step
 x.fst
 x.snd.fst).snd.snd.fst ∧
 (0 :
 Int) =
 (step
 x.fst
 x.snd.fst).snd.snd.snd.fst) ∧
 (((0 :
 Int) !=
 (0 :
 Int)) =
 false →
 (x.fst.fst ++
 x.snd.fst.snd.snd,
 x.fst.snd.fst,
 x.fst.snd.snd) =
 (step
 x.fst
 x.snd.fst).fst ∧
 (↑x.snd.fst.snd.snd.length :
 Int) =
 (step
 x.fst
 x.snd.fst).snd.fst ∧
 ([] :
 List
 Int) =
 (step
 x.fst
 x.snd.fst).snd.snd.fst ∧
 (0 :
 Int) =
 (step
 x.fst
 x.snd.fst).snd.snd.snd.fst)) ∧
 (decide
 ((↑x.fst.fst.length :
 Int) +
 (↑x.snd.fst.snd.snd.length :
 Int) ≤
 (64 :
 Int)) =
 false →
 ((!decide
 ((↑x.snd.fst.snd.snd.length :
 Int) ≤
 (16 :
 Int))) =
 true →
 (!decide
 ((↑x.snd.fst.snd.snd.length :
 Int) ≤
 (16 :
 Int))) =
 true) ∧
 ((!decide
 ((↑x.snd.fst.snd.snd.length :
 Int) ≤
 (16 :
 Int))) =
 true →
 (!decide
 ((↑x.snd.fst.snd.snd.length :
 Int) ≤
 (16 :
 Int))) =
 true) ∧
 (decide
 ((↑x.snd.fst.snd.snd.length :
 Int) ≤
 (16 :
 Int)) =
 false →
 (!decide
 ((↑x.snd.fst.snd.snd.length :
 Int) ≤
 (16 :
 Int))) =
 true) ∧
 ((decide
 ((↑x.snd.fst.snd.snd.length :
 Int) ≤
 (16 :
 Int)) ||
 (↑x.fst.fst.length :
 Int) ==
 (64 :
 Int)) =
 true →
 (((7 :
 Int) !=
 (0 :
 Int)) =
 true →
 (([] :
 List
 Int),
 (0 :
 Int),
 (0 :
 Int)) =
 (step
 x.fst
 x.snd.fst).fst ∧
 (0 :
 Int) =
 (step
 x.fst
 x.snd.fst).snd.fst ∧
 ([] :
 List
 Int) =
 (step
 x.fst
 x.snd.fst).snd.snd.fst ∧
 (7 :
 Int) =
 (step
 x.fst
 x.snd.fst).snd.snd.snd.fst) ∧
 (((7 :
 Int) !=
 (0 :
 Int)) =
 false →
 (x.fst.fst,
 x.fst.snd.fst,
 x.fst.snd.snd) =
 (step
 x.fst
 x.snd.fst).fst ∧
 (0 :
 Int) =
 (step
 x.fst
 x.snd.fst).snd.fst ∧
 ([] :
 List
 Int) =
 (step
 x.fst
 x.snd.fst).snd.snd.fst ∧
 (7 :
 Int) =
 (step
 x.fst
 x.snd.fst).snd.snd.snd.fst)) ∧
 ((decide
 ((↑x.snd.fst.snd.snd.length :
 Int) ≤
 (16 :
 Int)) ||
 (↑x.fst.fst.length :
 Int) ==
 (64 :
 Int)) =
 false →
 ((-9223372036854775808 :
 Int) ≤
 (64 :
 Int) -
 (↑x.fst.fst.length :
 Int) ∧
 (64 :
 Int) -
 (↑x.fst.fst.length :
 Int) ≤
 (9223372036854775807 :
 Int)) ∧
 (((0 :
 Int) ≤
 (0 :
 Int) ∧
 (0 :
 Int) ≤
 (64 :
 Int) -
 (↑x.fst.fst.length :
 Int)) ∧
 (64 :
 Int) -
 (↑x.fst.fst.length :
 Int) ≤
 (↑x.snd.fst.snd.snd.length :
 Int)) ∧
 x.fst.fst.length +
 (List.drop
 (Int.toNat
 (0 :
 Int))
 (List.take
 ((64 :
 Int) -
 (↑x.fst.fst.length :
 Int)).toNat
 x.snd.fst.snd.snd)).length ≤
 (9223372036854775807 :
 Nat) ∧
 (((0 :
 Int) !=
 (0 :
 Int)) =
 true →
 (([] :
 List
 Int),
 (0 :
 Int),
 (0 :
 Int)) =
 (step
 x.fst
 x.snd.fst).fst ∧
 (0 :
 Int) =
 (step
 x.fst
 x.snd.fst).snd.fst ∧
 ([] :
 List
 Int) =
 (step
 x.fst
 x.snd.fst).snd.snd.fst ∧
 (0 :
 Int) =
 (step
 x.fst
 x.snd.fst).snd.snd.snd.fst) ∧
 (((0 :
 Int) !=
 (0 :
 Int)) =
 false →
 (x.fst.fst ++
 List.drop
 (Int.toNat
 (0 :
 Int))
 (List.take
 ((64 :
 Int) -
 (↑x.fst.fst.length :
 Int)).toNat
 x.snd.fst.snd.snd),
 x.fst.snd.fst,
 x.fst.snd.snd) =
 (step
 x.fst
 x.snd.fst).fst ∧
 (64 :
 Int) -
 (↑x.fst.fst.length :
 Int) =
 (step
 x.fst
 x.snd.fst).snd.fst ∧
 ([] :
 List
 Int) =
 (step
 x.fst
 x.snd.fst).snd.snd.fst ∧
 (0 :
 Int) =
 (step
 x.fst
 x.snd.fst).snd.snd.snd.fst)))))))))))))))))))

theorem E_ustep_eq (x : HL (cStep : Ctr).as) : vc (fx_ustep x) 1 67 Try.f67 (cStep) x = E_ustep x := by kernel_rfl

def E_same (x : (List Int × Int × Int) × (List Int × Int × Int) × Unit) : Prop :=
 (decide (x.fst.fst = x.snd.fst.fst) = true → decide (x.fst.fst = x.snd.fst.fst) = true) ∧
 (decide (x.fst.fst = x.snd.fst.fst) = true → decide (x.fst.fst = x.snd.fst.fst) = true) ∧
 (decide (x.fst.fst = x.snd.fst.fst) = true → decide (x.fst.fst = x.snd.fst.fst) = true ∧ decide (x.fst.fst = x.snd.fst.fst) = true) ∧
 (decide (x.fst.fst = x.snd.fst.fst) = true → decide (x.fst.fst = x.snd.fst.fst) = true) ∧
 ((decide (x.fst.fst = x.snd.fst.fst) && x.fst.snd.fst == x.snd.fst.snd.fst) = true →
 (decide (x.fst.fst = x.snd.fst.fst) && x.fst.snd.fst == x.snd.fst.snd.fst) = true) ∧
 ((decide (x.fst.fst = x.snd.fst.fst) && x.fst.snd.fst == x.snd.fst.snd.fst) = true →
 (decide (x.fst.fst = x.snd.fst.fst) && x.fst.snd.fst == x.snd.fst.snd.fst) = true) ∧
 ((decide (x.fst.fst = x.snd.fst.fst) && x.fst.snd.fst == x.snd.fst.snd.fst) = true →
 (decide (x.fst.fst = x.snd.fst.fst) && x.fst.snd.fst == x.snd.fst.snd.fst) = true ∧
 (decide (x.fst.fst = x.snd.fst.fst) && x.fst.snd.fst == x.snd.fst.snd.fst) = true) ∧
 ((decide (x.fst.fst = x.snd.fst.fst) && x.fst.snd.fst == x.snd.fst.snd.fst) = true →
 (decide (x.fst.fst = x.snd.fst.fst) && x.fst.snd.fst == x.snd.fst.snd.fst) = true) ∧
 (decide (x.fst.fst = x.snd.fst.fst) && x.fst.snd.fst == x.snd.fst.snd.fst && x.fst.snd.snd == x.snd.fst.snd.snd) =
 same x.fst x.snd.fst

theorem E_same_eq (x : HL (cSame : Ctr).as) : vc (fx_same x) 1 38 Try.f38 (cSame) x = E_same x := by kernel_rfl

def E_play (x : List (Int × Int × List Int) × Unit) : Prop :=
 ((((0 : Int) ≤ (0 : Int) ∧
 (0 : Int) ≤ (↑x.fst.length : Int) ∧
 pl (List.take (Int.toNat (0 : Int)) x.fst) = ((([] : List Int), (1 : Int), (1 : Int)), ([] : List Int), ([] : List Int)) ∧
 (↑([] : List Int).length : Int) = (0 : Int) ∧
 (2 : Int) * (↑([] : List Int).length : Int) + (↑([] : List Int).length : Int) ≤ (64 : Int) * (0 : Int)) ∧
 True) ∧
 ((True ∧ True) ∧ (True ∧ True) ∧ True ∧ True ∧ x.fst = x.fst ∧ (↑x.fst.length : Int) = (↑x.fst.length : Int) ∧ (0 : Int) = (0 : Int) ∧ True) ∧
 ((([] : List Int) = ([] : List Int) ∧ (1 : Int) = (1 : Int) ∧ (1 : Int) = (1 : Int) ∧ True) ∧
 ([] : List Int) = ([] : List Int) ∧
 ([] : List Int) = ([] : List Int) ∧
 (Value.slice none (0 : Nat) (0 : Nat) = Value.slice none (0 : Nat) (0 : Nat) ∧ (0 : Int) = (0 : Int) ∧ (0 : Int) = (0 : Int) ∧ True) ∧
 True) ∧
 True) ∧
 ∀ (g : (List Int × Int × Int) × List Int × List Int × Int × Unit),
 (0 : Int) ≤ g.snd.snd.snd.fst ∧
 g.snd.snd.snd.fst ≤ (↑x.fst.length : Int) ∧
 pl (List.take g.snd.snd.snd.fst.toNat x.fst) = (g.fst, g.snd.fst, g.snd.snd.fst) ∧
 (↑g.snd.fst.length : Int) = g.snd.snd.snd.fst ∧
 (2 : Int) * (↑g.snd.snd.fst.length : Int) + (↑g.fst.fst.length : Int) ≤ (64 : Int) * g.snd.snd.snd.fst →
 ((g.fst.fst.length ≤ (9223372036854775807 : Nat) ∧ ∀ (x : Int), x ∈ g.fst.fst → (0 : Int) ≤ x ∧ x ≤ (255 : Int)) ∧
 ((-9223372036854775808 : Int) ≤ g.fst.snd.fst ∧ g.fst.snd.fst ≤ (9223372036854775807 : Int)) ∧
 (-9223372036854775808 : Int) ≤ g.fst.snd.snd ∧ g.fst.snd.snd ≤ (9223372036854775807 : Int)) ∧
 (g.snd.fst.length ≤ (9223372036854775807 : Nat) ∧
 ∀ (x : Int), x ∈ g.snd.fst → (-9223372036854775808 : Int) ≤ x ∧ x ≤ (9223372036854775807 : Int)) ∧
 (g.snd.snd.fst.length ≤ (9223372036854775807 : Nat) ∧ ∀ (x : Int), x ∈ g.snd.snd.fst → (0 : Int) ≤ x ∧ x ≤ (255 : Int)) ∧
 ((-9223372036854775808 : Int) ≤ g.snd.snd.snd.fst ∧ g.snd.snd.snd.fst ≤ (9223372036854775807 : Int)) ∧ True →
 (decide (g.snd.snd.snd.fst < (↑x.fst.length : Int)) = true →
 ((0 : Int) ≤ g.snd.snd.snd.fst ∧ g.snd.snd.snd.fst < (↑x.fst.length : Int)) ∧
 Holds ((x.fst.getD g.snd.snd.snd.fst.toNat ((0 : Int), (0 : Int), ([] : List Int))).snd.snd.length ≤ (140737488355328 : Nat)) ∧
 (((step (g.fst.fst, g.fst.snd.fst, g.fst.snd.snd)
 ((x.fst.getD g.snd.snd.snd.fst.toNat ((0 : Int), (0 : Int), ([] : List Int))).fst,
 (x.fst.getD g.snd.snd.snd.fst.toNat ((0 : Int), (0 : Int), ([] : List Int))).snd.fst,
 (x.fst.getD g.snd.snd.snd.fst.toNat ((0 : Int), (0 : Int), ([] : List Int))).snd.snd)).snd.snd.snd.fst ==
 (0 : Int)) =
 true →
 (g.snd.snd.fst.length +
 (step (g.fst.fst, g.fst.snd.fst, g.fst.snd.snd)
 ((x.fst.getD g.snd.snd.snd.fst.toNat ((0 : Int), (0 : Int), ([] : List Int))).fst,
 (x.fst.getD g.snd.snd.snd.fst.toNat ((0 : Int), (0 : Int), ([] : List Int))).snd.fst,
 (x.fst.getD g.snd.snd.snd.fst.toNat ((0 : Int), (0 : Int), ([] : List Int))).snd.snd)).snd.snd.fst.length ≤
 (9223372036854775807 : Nat) ∧
 (g.snd.snd.fst.length +
 (step (g.fst.fst, g.fst.snd.fst, g.fst.snd.snd)
 ((x.fst.getD g.snd.snd.snd.fst.toNat ((0 : Int), (0 : Int), ([] : List Int))).fst,
 (x.fst.getD g.snd.snd.snd.fst.toNat ((0 : Int), (0 : Int), ([] : List Int))).snd.fst,
 (x.fst.getD g.snd.snd.snd.fst.toNat
 ((0 : Int), (0 : Int), ([] : List Int))).snd.snd)).snd.snd.fst.length +
 (g.snd.snd.fst.length +
 (step (g.fst.fst, g.fst.snd.fst, g.fst.snd.snd)
 ((x.fst.getD g.snd.snd.snd.fst.toNat ((0 : Int), (0 : Int), ([] : List Int))).fst,
 (x.fst.getD g.snd.snd.snd.fst.toNat ((0 : Int), (0 : Int), ([] : List Int))).snd.fst,
 (x.fst.getD g.snd.snd.snd.fst.toNat
 ((0 : Int), (0 : Int), ([] : List Int))).snd.snd)).snd.snd.fst.length) /
 (4 : Nat) +
 (192 : Nat)) *
 (1 : Nat) ≤
 (281474976710656 : Nat)) ∧
 (g.snd.fst.length +
 (((0 : Int) :: ([] : List Int)).set (0 : Nat)
 (step (g.fst.fst, g.fst.snd.fst, g.fst.snd.snd)
 ((x.fst.getD g.snd.snd.snd.fst.toNat ((0 : Int), (0 : Int), ([] : List Int))).fst,
 (x.fst.getD g.snd.snd.snd.fst.toNat ((0 : Int), (0 : Int), ([] : List Int))).snd.fst,
 (x.fst.getD g.snd.snd.snd.fst.toNat
 ((0 : Int), (0 : Int), ([] : List Int))).snd.snd)).snd.snd.snd.fst).length ≤
 (9223372036854775807 : Nat) ∧
 (g.snd.fst.length +
 (((0 : Int) :: ([] : List Int)).set (0 : Nat)
 (step (g.fst.fst, g.fst.snd.fst, g.fst.snd.snd)
 ((x.fst.getD g.snd.snd.snd.fst.toNat ((0 : Int), (0 : Int), ([] : List Int))).fst,
 (x.fst.getD g.snd.snd.snd.fst.toNat ((0 : Int), (0 : Int), ([] : List Int))).snd.fst,
 (x.fst.getD g.snd.snd.snd.fst.toNat
 ((0 : Int), (0 : Int), ([] : List Int))).snd.snd)).snd.snd.snd.fst).length +
 (g.snd.fst.length +
 (((0 : Int) :: ([] : List Int)).set (0 : Nat)
 (step (g.fst.fst, g.fst.snd.fst, g.fst.snd.snd)
 ((x.fst.getD g.snd.snd.snd.fst.toNat ((0 : Int), (0 : Int), ([] : List Int))).fst,
 (x.fst.getD g.snd.snd.snd.fst.toNat ((0 : Int), (0 : Int), ([] : List Int))).snd.fst,
 (x.fst.getD g.snd.snd.snd.fst.toNat
 ((0 : Int), (0 : Int), ([] : List Int))).snd.snd)).snd.snd.snd.fst).length) /
 (4 : Nat) +
 (192 : Nat)) *
 (8 : Nat) ≤
 (281474976710656 : Nat)) ∧
 ((-9223372036854775808 : Int) ≤ g.snd.snd.snd.fst + (1 : Int) ∧ g.snd.snd.snd.fst + (1 : Int) ≤ (9223372036854775807 : Int)) ∧
 (((0 : Int) ≤ g.snd.snd.snd.fst + (1 : Int) ∧
 g.snd.snd.snd.fst + (1 : Int) ≤ (↑x.fst.length : Int) ∧
 pl (List.take (g.snd.snd.snd.fst + (1 : Int)).toNat x.fst) =
 (((step (g.fst.fst, g.fst.snd.fst, g.fst.snd.snd)
 ((x.fst.getD g.snd.snd.snd.fst.toNat ((0 : Int), (0 : Int), ([] : List Int))).fst,
 (x.fst.getD g.snd.snd.snd.fst.toNat ((0 : Int), (0 : Int), ([] : List Int))).snd.fst,
 (x.fst.getD g.snd.snd.snd.fst.toNat ((0 : Int), (0 : Int), ([] : List Int))).snd.snd)).fst.fst,
 (step (g.fst.fst, g.fst.snd.fst, g.fst.snd.snd)
 ((x.fst.getD g.snd.snd.snd.fst.toNat ((0 : Int), (0 : Int), ([] : List Int))).fst,
 (x.fst.getD g.snd.snd.snd.fst.toNat ((0 : Int), (0 : Int), ([] : List Int))).snd.fst,
 (x.fst.getD g.snd.snd.snd.fst.toNat
 ((0 : Int), (0 : Int), ([] : List Int))).snd.snd)).fst.snd.fst,
 (step (g.fst.fst, g.fst.snd.fst, g.fst.snd.snd)
 ((x.fst.getD g.snd.snd.snd.fst.toNat ((0 : Int), (0 : Int), ([] : List Int))).fst,
 (x.fst.getD g.snd.snd.snd.fst.toNat ((0 : Int), (0 : Int), ([] : List Int))).snd.fst,
 (x.fst.getD g.snd.snd.snd.fst.toNat
 ((0 : Int), (0 : Int), ([] : List Int))).snd.snd)).fst.snd.snd),
 g.snd.fst ++
 ((0 : Int) :: ([] : List Int)).set (0 : Nat)
 (step (g.fst.fst, g.fst.snd.fst, g.fst.snd.snd)
 ((x.fst.getD g.snd.snd.snd.fst.toNat ((0 : Int), (0 : Int), ([] : List Int))).fst,
 (x.fst.getD g.snd.snd.snd.fst.toNat ((0 : Int), (0 : Int), ([] : List Int))).snd.fst,
 (x.fst.getD g.snd.snd.snd.fst.toNat
 ((0 : Int), (0 : Int), ([] : List Int))).snd.snd)).snd.snd.snd.fst,
 g.snd.snd.fst ++
 (step (g.fst.fst, g.fst.snd.fst, g.fst.snd.snd)
 ((x.fst.getD g.snd.snd.snd.fst.toNat ((0 : Int), (0 : Int), ([] : List Int))).fst,
 (x.fst.getD g.snd.snd.snd.fst.toNat ((0 : Int), (0 : Int), ([] : List Int))).snd.fst,
 (x.fst.getD g.snd.snd.snd.fst.toNat
 ((0 : Int), (0 : Int), ([] : List Int))).snd.snd)).snd.snd.fst) ∧
 (↑(g.snd.fst ++
 ((0 : Int) :: ([] : List Int)).set (0 : Nat)
 (step (g.fst.fst, g.fst.snd.fst, g.fst.snd.snd)
 ((x.fst.getD g.snd.snd.snd.fst.toNat ((0 : Int), (0 : Int), ([] : List Int))).fst,
 (x.fst.getD g.snd.snd.snd.fst.toNat ((0 : Int), (0 : Int), ([] : List Int))).snd.fst,
 (x.fst.getD g.snd.snd.snd.fst.toNat
 ((0 : Int), (0 : Int), ([] : List Int))).snd.snd)).snd.snd.snd.fst).length :
 Int) =
 g.snd.snd.snd.fst + (1 : Int) ∧
 (2 : Int) *
 (↑(g.snd.snd.fst ++
 (step (g.fst.fst, g.fst.snd.fst, g.fst.snd.snd)
 ((x.fst.getD g.snd.snd.snd.fst.toNat ((0 : Int), (0 : Int), ([] : List Int))).fst,
 (x.fst.getD g.snd.snd.snd.fst.toNat ((0 : Int), (0 : Int), ([] : List Int))).snd.fst,
 (x.fst.getD g.snd.snd.snd.fst.toNat
 ((0 : Int), (0 : Int), ([] : List Int))).snd.snd)).snd.snd.fst).length :
 Int) +
 (↑(step (g.fst.fst, g.fst.snd.fst, g.fst.snd.snd)
 ((x.fst.getD g.snd.snd.snd.fst.toNat ((0 : Int), (0 : Int), ([] : List Int))).fst,
 (x.fst.getD g.snd.snd.snd.fst.toNat ((0 : Int), (0 : Int), ([] : List Int))).snd.fst,
 (x.fst.getD g.snd.snd.snd.fst.toNat
 ((0 : Int), (0 : Int), ([] : List Int))).snd.snd)).fst.fst.length :
 Int) ≤
 (64 : Int) * (g.snd.snd.snd.fst + (1 : Int))) ∧
 ((↑x.fst.length : Int) - (g.snd.snd.snd.fst + (1 : Int))).toNat < ((↑x.fst.length : Int) - g.snd.snd.snd.fst).toNat) ∧
 ((True ∧ True) ∧
 (True ∧ True) ∧
 True ∧
 True ∧
 x.fst = x.fst ∧
 (↑x.fst.length : Int) = (↑x.fst.length : Int) ∧
 g.snd.snd.snd.fst + (1 : Int) = g.snd.snd.snd.fst + (1 : Int) ∧ True) ∧
 (((step (g.fst.fst, g.fst.snd.fst, g.fst.snd.snd)
 ((x.fst.getD g.snd.snd.snd.fst.toNat ((0 : Int), (0 : Int), ([] : List Int))).fst,
 (x.fst.getD g.snd.snd.snd.fst.toNat ((0 : Int), (0 : Int), ([] : List Int))).snd.fst,
 (x.fst.getD g.snd.snd.snd.fst.toNat ((0 : Int), (0 : Int), ([] : List Int))).snd.snd)).fst.fst =
 (step (g.fst.fst, g.fst.snd.fst, g.fst.snd.snd)
 ((x.fst.getD g.snd.snd.snd.fst.toNat ((0 : Int), (0 : Int), ([] : List Int))).fst,
 (x.fst.getD g.snd.snd.snd.fst.toNat ((0 : Int), (0 : Int), ([] : List Int))).snd.fst,
 (x.fst.getD g.snd.snd.snd.fst.toNat ((0 : Int), (0 : Int), ([] : List Int))).snd.snd)).fst.fst ∧
 (step (g.fst.fst, g.fst.snd.fst, g.fst.snd.snd)
 ((x.fst.getD g.snd.snd.snd.fst.toNat ((0 : Int), (0 : Int), ([] : List Int))).fst,
 (x.fst.getD g.snd.snd.snd.fst.toNat ((0 : Int), (0 : Int), ([] : List Int))).snd.fst,
 (x.fst.getD g.snd.snd.snd.fst.toNat ((0 : Int), (0 : Int), ([] : List Int))).snd.snd)).fst.snd.fst =
 (step (g.fst.fst, g.fst.snd.fst, g.fst.snd.snd)
 ((x.fst.getD g.snd.snd.snd.fst.toNat ((0 : Int), (0 : Int), ([] : List Int))).fst,
 (x.fst.getD g.snd.snd.snd.fst.toNat ((0 : Int), (0 : Int), ([] : List Int))).snd.fst,
 (x.fst.getD g.snd.snd.snd.fst.toNat ((0 : Int), (0 : Int), ([] : List Int))).snd.snd)).fst.snd.fst ∧
 (step (g.fst.fst, g.fst.snd.fst, g.fst.snd.snd)
 ((x.fst.getD g.snd.snd.snd.fst.toNat ((0 : Int), (0 : Int), ([] : List Int))).fst,
 (x.fst.getD g.snd.snd.snd.fst.toNat ((0 : Int), (0 : Int), ([] : List Int))).snd.fst,
 (x.fst.getD g.snd.snd.snd.fst.toNat
 ((0 : Int), (0 : Int), ([] : List Int))).snd.snd)).fst.snd.snd =
 (step (g.fst.fst, g.fst.snd.fst, g.fst.snd.snd)
 ((x.fst.getD g.snd.snd.snd.fst.toNat ((0 : Int), (0 : Int), ([] : List Int))).fst,
 (x.fst.getD g.snd.snd.snd.fst.toNat ((0 : Int), (0 : Int), ([] : List Int))).snd.fst,
 (x.fst.getD g.snd.snd.snd.fst.toNat
 ((0 : Int), (0 : Int), ([] : List Int))).snd.snd)).fst.snd.snd ∧
 True) ∧
 g.snd.fst ++
 ((0 : Int) :: ([] : List Int)).set (0 : Nat)
 (step (g.fst.fst, g.fst.snd.fst, g.fst.snd.snd)
 ((x.fst.getD g.snd.snd.snd.fst.toNat ((0 : Int), (0 : Int), ([] : List Int))).fst,
 (x.fst.getD g.snd.snd.snd.fst.toNat ((0 : Int), (0 : Int), ([] : List Int))).snd.fst,
 (x.fst.getD g.snd.snd.snd.fst.toNat
 ((0 : Int), (0 : Int), ([] : List Int))).snd.snd)).snd.snd.snd.fst =
 g.snd.fst ++
 ((0 : Int) :: ([] : List Int)).set (0 : Nat)
 (step (g.fst.fst, g.fst.snd.fst, g.fst.snd.snd)
 ((x.fst.getD g.snd.snd.snd.fst.toNat ((0 : Int), (0 : Int), ([] : List Int))).fst,
 (x.fst.getD g.snd.snd.snd.fst.toNat ((0 : Int), (0 : Int), ([] : List Int))).snd.fst,
 (x.fst.getD g.snd.snd.snd.fst.toNat
 ((0 : Int), (0 : Int), ([] : List Int))).snd.snd)).snd.snd.snd.fst ∧
 g.snd.snd.fst ++
 (step (g.fst.fst, g.fst.snd.fst, g.fst.snd.snd)
 ((x.fst.getD g.snd.snd.snd.fst.toNat ((0 : Int), (0 : Int), ([] : List Int))).fst,
 (x.fst.getD g.snd.snd.snd.fst.toNat ((0 : Int), (0 : Int), ([] : List Int))).snd.fst,
 (x.fst.getD g.snd.snd.snd.fst.toNat
 ((0 : Int), (0 : Int), ([] : List Int))).snd.snd)).snd.snd.fst =
 g.snd.snd.fst ++
 (step (g.fst.fst, g.fst.snd.fst, g.fst.snd.snd)
 ((x.fst.getD g.snd.snd.snd.fst.toNat ((0 : Int), (0 : Int), ([] : List Int))).fst,
 (x.fst.getD g.snd.snd.snd.fst.toNat ((0 : Int), (0 : Int), ([] : List Int))).snd.fst,
 (x.fst.getD g.snd.snd.snd.fst.toNat
 ((0 : Int), (0 : Int), ([] : List Int))).snd.snd)).snd.snd.fst ∧
 (Value.slice none (0 : Nat) (0 : Nat) = Value.slice none (0 : Nat) (0 : Nat) ∧
 (0 : Int) = (0 : Int) ∧ (0 : Int) = (0 : Int) ∧ True) ∧
 True) ∧
 True) ∧
 (((step (g.fst.fst, g.fst.snd.fst, g.fst.snd.snd)
 ((x.fst.getD g.snd.snd.snd.fst.toNat ((0 : Int), (0 : Int), ([] : List Int))).fst,
 (x.fst.getD g.snd.snd.snd.fst.toNat ((0 : Int), (0 : Int), ([] : List Int))).snd.fst,
 (x.fst.getD g.snd.snd.snd.fst.toNat ((0 : Int), (0 : Int), ([] : List Int))).snd.snd)).snd.snd.snd.fst ==
 (0 : Int)) =
 false →
 (g.snd.fst.length +
 (((0 : Int) :: ([] : List Int)).set (0 : Nat)
 (step (g.fst.fst, g.fst.snd.fst, g.fst.snd.snd)
 ((x.fst.getD g.snd.snd.snd.fst.toNat ((0 : Int), (0 : Int), ([] : List Int))).fst,
 (x.fst.getD g.snd.snd.snd.fst.toNat ((0 : Int), (0 : Int), ([] : List Int))).snd.fst,
 (x.fst.getD g.snd.snd.snd.fst.toNat
 ((0 : Int), (0 : Int), ([] : List Int))).snd.snd)).snd.snd.snd.fst).length ≤
 (9223372036854775807 : Nat) ∧
 (g.snd.fst.length +
 (((0 : Int) :: ([] : List Int)).set (0 : Nat)
 (step (g.fst.fst, g.fst.snd.fst, g.fst.snd.snd)
 ((x.fst.getD g.snd.snd.snd.fst.toNat ((0 : Int), (0 : Int), ([] : List Int))).fst,
 (x.fst.getD g.snd.snd.snd.fst.toNat ((0 : Int), (0 : Int), ([] : List Int))).snd.fst,
 (x.fst.getD g.snd.snd.snd.fst.toNat
 ((0 : Int), (0 : Int), ([] : List Int))).snd.snd)).snd.snd.snd.fst).length +
 (g.snd.fst.length +
 (((0 : Int) :: ([] : List Int)).set (0 : Nat)
 (step (g.fst.fst, g.fst.snd.fst, g.fst.snd.snd)
 ((x.fst.getD g.snd.snd.snd.fst.toNat ((0 : Int), (0 : Int), ([] : List Int))).fst,
 (x.fst.getD g.snd.snd.snd.fst.toNat ((0 : Int), (0 : Int), ([] : List Int))).snd.fst,
 (x.fst.getD g.snd.snd.snd.fst.toNat
 ((0 : Int), (0 : Int), ([] : List Int))).snd.snd)).snd.snd.snd.fst).length) /
 (4 : Nat) +
 (192 : Nat)) *
 (8 : Nat) ≤
 (281474976710656 : Nat)) ∧
 ((-9223372036854775808 : Int) ≤ g.snd.snd.snd.fst + (1 : Int) ∧ g.snd.snd.snd.fst + (1 : Int) ≤ (9223372036854775807 : Int)) ∧
 (((0 : Int) ≤ g.snd.snd.snd.fst + (1 : Int) ∧
 g.snd.snd.snd.fst + (1 : Int) ≤ (↑x.fst.length : Int) ∧
 pl (List.take (g.snd.snd.snd.fst + (1 : Int)).toNat x.fst) =
 ((g.fst.fst, g.fst.snd.fst, g.fst.snd.snd),
 g.snd.fst ++
 ((0 : Int) :: ([] : List Int)).set (0 : Nat)
 (step (g.fst.fst, g.fst.snd.fst, g.fst.snd.snd)
 ((x.fst.getD g.snd.snd.snd.fst.toNat ((0 : Int), (0 : Int), ([] : List Int))).fst,
 (x.fst.getD g.snd.snd.snd.fst.toNat ((0 : Int), (0 : Int), ([] : List Int))).snd.fst,
 (x.fst.getD g.snd.snd.snd.fst.toNat
 ((0 : Int), (0 : Int), ([] : List Int))).snd.snd)).snd.snd.snd.fst,
 g.snd.snd.fst) ∧
 (↑(g.snd.fst ++
 ((0 : Int) :: ([] : List Int)).set (0 : Nat)
 (step (g.fst.fst, g.fst.snd.fst, g.fst.snd.snd)
 ((x.fst.getD g.snd.snd.snd.fst.toNat ((0 : Int), (0 : Int), ([] : List Int))).fst,
 (x.fst.getD g.snd.snd.snd.fst.toNat ((0 : Int), (0 : Int), ([] : List Int))).snd.fst,
 (x.fst.getD g.snd.snd.snd.fst.toNat
 ((0 : Int), (0 : Int), ([] : List Int))).snd.snd)).snd.snd.snd.fst).length :
 Int) =
 g.snd.snd.snd.fst + (1 : Int) ∧
 (2 : Int) * (↑g.snd.snd.fst.length : Int) + (↑g.fst.fst.length : Int) ≤
 (64 : Int) * (g.snd.snd.snd.fst + (1 : Int))) ∧
 ((↑x.fst.length : Int) - (g.snd.snd.snd.fst + (1 : Int))).toNat < ((↑x.fst.length : Int) - g.snd.snd.snd.fst).toNat) ∧
 ((True ∧ True) ∧
 (True ∧ True) ∧
 True ∧
 True ∧
 x.fst = x.fst ∧
 (↑x.fst.length : Int) = (↑x.fst.length : Int) ∧
 g.snd.snd.snd.fst + (1 : Int) = g.snd.snd.snd.fst + (1 : Int) ∧ True) ∧
 ((g.fst.fst = g.fst.fst ∧ g.fst.snd.fst = g.fst.snd.fst ∧ g.fst.snd.snd = g.fst.snd.snd ∧ True) ∧
 g.snd.fst ++
 ((0 : Int) :: ([] : List Int)).set (0 : Nat)
 (step (g.fst.fst, g.fst.snd.fst, g.fst.snd.snd)
 ((x.fst.getD g.snd.snd.snd.fst.toNat ((0 : Int), (0 : Int), ([] : List Int))).fst,
 (x.fst.getD g.snd.snd.snd.fst.toNat ((0 : Int), (0 : Int), ([] : List Int))).snd.fst,
 (x.fst.getD g.snd.snd.snd.fst.toNat
 ((0 : Int), (0 : Int), ([] : List Int))).snd.snd)).snd.snd.snd.fst =
 g.snd.fst ++
 ((0 : Int) :: ([] : List Int)).set (0 : Nat)
 (step (g.fst.fst, g.fst.snd.fst, g.fst.snd.snd)
 ((x.fst.getD g.snd.snd.snd.fst.toNat ((0 : Int), (0 : Int), ([] : List Int))).fst,
 (x.fst.getD g.snd.snd.snd.fst.toNat ((0 : Int), (0 : Int), ([] : List Int))).snd.fst,
 (x.fst.getD g.snd.snd.snd.fst.toNat
 ((0 : Int), (0 : Int), ([] : List Int))).snd.snd)).snd.snd.snd.fst ∧
 g.snd.snd.fst = g.snd.snd.fst ∧
 (Value.slice none (0 : Nat) (0 : Nat) = Value.slice none (0 : Nat) (0 : Nat) ∧
 (0 : Int) = (0 : Int) ∧ (0 : Int) = (0 : Int) ∧ True) ∧
 True) ∧
 True)) ∧
 (decide (g.snd.snd.snd.fst < (↑x.fst.length : Int)) = false →
 g.snd.fst = (play x.fst).fst ∧
 g.snd.snd.fst = (play x.fst).snd.fst ∧ (g.fst.fst, g.fst.snd.fst, g.fst.snd.snd) = (play x.fst).snd.snd.fst)

theorem E_play_eq (x : HL (cPlay : Ctr).as) : vc (fx_play x) 1 36 Try.f36 (cPlay) x = E_play x := by kernel_rfl

def E_uplay (x : List (Int × Int × List Int) × Unit) : Prop :=
 ((((0 : Int) ≤ (0 : Int) ∧
 (0 : Int) ≤ (↑x.fst.length : Int) ∧
 pl (List.take (Int.toNat (0 : Int)) x.fst) = ((([] : List Int), (1 : Int), (1 : Int)), ([] : List Int), ([] : List Int)) ∧
 (↑([] : List Int).length : Int) = (0 : Int) ∧
 (2 : Int) * (↑([] : List Int).length : Int) + (↑([] : List Int).length : Int) ≤ (64 : Int) * (0 : Int)) ∧
 True) ∧
 ((True ∧ True) ∧ (True ∧ True) ∧ True ∧ True ∧ x.fst = x.fst ∧ (↑x.fst.length : Int) = (↑x.fst.length : Int) ∧ (0 : Int) = (0 : Int) ∧ True) ∧
 ((([] : List Int) = ([] : List Int) ∧ (1 : Int) = (1 : Int) ∧ (1 : Int) = (1 : Int) ∧ True) ∧
 ([] : List Int) = ([] : List Int) ∧
 ([] : List Int) = ([] : List Int) ∧
 (Value.slice none (0 : Nat) (0 : Nat) = Value.slice none (0 : Nat) (0 : Nat) ∧ (0 : Int) = (0 : Int) ∧ (0 : Int) = (0 : Int) ∧ True) ∧
 True) ∧
 True) ∧
 ∀ (g : (List Int × Int × Int) × List Int × List Int × Int × Unit),
 (0 : Int) ≤ g.snd.snd.snd.fst ∧
 g.snd.snd.snd.fst ≤ (↑x.fst.length : Int) ∧
 pl (List.take g.snd.snd.snd.fst.toNat x.fst) = (g.fst, g.snd.fst, g.snd.snd.fst) ∧
 (↑g.snd.fst.length : Int) = g.snd.snd.snd.fst ∧
 (2 : Int) * (↑g.snd.snd.fst.length : Int) + (↑g.fst.fst.length : Int) ≤ (64 : Int) * g.snd.snd.snd.fst →
 ((g.fst.fst.length ≤ (9223372036854775807 : Nat) ∧ ∀ (x : Int), x ∈ g.fst.fst → (0 : Int) ≤ x ∧ x ≤ (255 : Int)) ∧
 ((-9223372036854775808 : Int) ≤ g.fst.snd.fst ∧ g.fst.snd.fst ≤ (9223372036854775807 : Int)) ∧
 (-9223372036854775808 : Int) ≤ g.fst.snd.snd ∧ g.fst.snd.snd ≤ (9223372036854775807 : Int)) ∧
 (g.snd.fst.length ≤ (9223372036854775807 : Nat) ∧
 ∀ (x : Int), x ∈ g.snd.fst → (-9223372036854775808 : Int) ≤ x ∧ x ≤ (9223372036854775807 : Int)) ∧
 (g.snd.snd.fst.length ≤ (9223372036854775807 : Nat) ∧ ∀ (x : Int), x ∈ g.snd.snd.fst → (0 : Int) ≤ x ∧ x ≤ (255 : Int)) ∧
 ((-9223372036854775808 : Int) ≤ g.snd.snd.snd.fst ∧ g.snd.snd.snd.fst ≤ (9223372036854775807 : Int)) ∧ True →
 (decide (g.snd.snd.snd.fst < (↑x.fst.length : Int)) = true →
 ((0 : Int) ≤ g.snd.snd.snd.fst ∧ g.snd.snd.snd.fst < (↑x.fst.length : Int)) ∧
 Holds ((x.fst.getD g.snd.snd.snd.fst.toNat ((0 : Int), (0 : Int), ([] : List Int))).snd.snd.length ≤ (140737488355328 : Nat)) ∧
 (((step (g.fst.fst, g.fst.snd.fst, g.fst.snd.snd)
 ((x.fst.getD g.snd.snd.snd.fst.toNat ((0 : Int), (0 : Int), ([] : List Int))).fst,
 (x.fst.getD g.snd.snd.snd.fst.toNat ((0 : Int), (0 : Int), ([] : List Int))).snd.fst,
 (x.fst.getD g.snd.snd.snd.fst.toNat ((0 : Int), (0 : Int), ([] : List Int))).snd.snd)).snd.snd.snd.fst ==
 (0 : Int)) =
 true →
 (g.snd.snd.fst.length +
 (step (g.fst.fst, g.fst.snd.fst, g.fst.snd.snd)
 ((x.fst.getD g.snd.snd.snd.fst.toNat ((0 : Int), (0 : Int), ([] : List Int))).fst,
 (x.fst.getD g.snd.snd.snd.fst.toNat ((0 : Int), (0 : Int), ([] : List Int))).snd.fst,
 (x.fst.getD g.snd.snd.snd.fst.toNat ((0 : Int), (0 : Int), ([] : List Int))).snd.snd)).snd.snd.fst.length ≤
 (9223372036854775807 : Nat) ∧
 (g.snd.snd.fst.length +
 (step (g.fst.fst, g.fst.snd.fst, g.fst.snd.snd)
 ((x.fst.getD g.snd.snd.snd.fst.toNat ((0 : Int), (0 : Int), ([] : List Int))).fst,
 (x.fst.getD g.snd.snd.snd.fst.toNat ((0 : Int), (0 : Int), ([] : List Int))).snd.fst,
 (x.fst.getD g.snd.snd.snd.fst.toNat
 ((0 : Int), (0 : Int), ([] : List Int))).snd.snd)).snd.snd.fst.length +
 (g.snd.snd.fst.length +
 (step (g.fst.fst, g.fst.snd.fst, g.fst.snd.snd)
 ((x.fst.getD g.snd.snd.snd.fst.toNat ((0 : Int), (0 : Int), ([] : List Int))).fst,
 (x.fst.getD g.snd.snd.snd.fst.toNat ((0 : Int), (0 : Int), ([] : List Int))).snd.fst,
 (x.fst.getD g.snd.snd.snd.fst.toNat
 ((0 : Int), (0 : Int), ([] : List Int))).snd.snd)).snd.snd.fst.length) /
 (4 : Nat) +
 (192 : Nat)) *
 (1 : Nat) ≤
 (281474976710656 : Nat)) ∧
 (g.snd.fst.length +
 (((0 : Int) :: ([] : List Int)).set (0 : Nat)
 (step (g.fst.fst, g.fst.snd.fst, g.fst.snd.snd)
 ((x.fst.getD g.snd.snd.snd.fst.toNat ((0 : Int), (0 : Int), ([] : List Int))).fst,
 (x.fst.getD g.snd.snd.snd.fst.toNat ((0 : Int), (0 : Int), ([] : List Int))).snd.fst,
 (x.fst.getD g.snd.snd.snd.fst.toNat
 ((0 : Int), (0 : Int), ([] : List Int))).snd.snd)).snd.snd.snd.fst).length ≤
 (9223372036854775807 : Nat) ∧
 (g.snd.fst.length +
 (((0 : Int) :: ([] : List Int)).set (0 : Nat)
 (step (g.fst.fst, g.fst.snd.fst, g.fst.snd.snd)
 ((x.fst.getD g.snd.snd.snd.fst.toNat ((0 : Int), (0 : Int), ([] : List Int))).fst,
 (x.fst.getD g.snd.snd.snd.fst.toNat ((0 : Int), (0 : Int), ([] : List Int))).snd.fst,
 (x.fst.getD g.snd.snd.snd.fst.toNat
 ((0 : Int), (0 : Int), ([] : List Int))).snd.snd)).snd.snd.snd.fst).length +
 (g.snd.fst.length +
 (((0 : Int) :: ([] : List Int)).set (0 : Nat)
 (step (g.fst.fst, g.fst.snd.fst, g.fst.snd.snd)
 ((x.fst.getD g.snd.snd.snd.fst.toNat ((0 : Int), (0 : Int), ([] : List Int))).fst,
 (x.fst.getD g.snd.snd.snd.fst.toNat ((0 : Int), (0 : Int), ([] : List Int))).snd.fst,
 (x.fst.getD g.snd.snd.snd.fst.toNat
 ((0 : Int), (0 : Int), ([] : List Int))).snd.snd)).snd.snd.snd.fst).length) /
 (4 : Nat) +
 (192 : Nat)) *
 (8 : Nat) ≤
 (281474976710656 : Nat)) ∧
 ((-9223372036854775808 : Int) ≤ g.snd.snd.snd.fst + (1 : Int) ∧ g.snd.snd.snd.fst + (1 : Int) ≤ (9223372036854775807 : Int)) ∧
 (((0 : Int) ≤ g.snd.snd.snd.fst + (1 : Int) ∧
 g.snd.snd.snd.fst + (1 : Int) ≤ (↑x.fst.length : Int) ∧
 pl (List.take (g.snd.snd.snd.fst + (1 : Int)).toNat x.fst) =
 (((step (g.fst.fst, g.fst.snd.fst, g.fst.snd.snd)
 ((x.fst.getD g.snd.snd.snd.fst.toNat ((0 : Int), (0 : Int), ([] : List Int))).fst,
 (x.fst.getD g.snd.snd.snd.fst.toNat ((0 : Int), (0 : Int), ([] : List Int))).snd.fst,
 (x.fst.getD g.snd.snd.snd.fst.toNat ((0 : Int), (0 : Int), ([] : List Int))).snd.snd)).fst.fst,
 (step (g.fst.fst, g.fst.snd.fst, g.fst.snd.snd)
 ((x.fst.getD g.snd.snd.snd.fst.toNat ((0 : Int), (0 : Int), ([] : List Int))).fst,
 (x.fst.getD g.snd.snd.snd.fst.toNat ((0 : Int), (0 : Int), ([] : List Int))).snd.fst,
 (x.fst.getD g.snd.snd.snd.fst.toNat
 ((0 : Int), (0 : Int), ([] : List Int))).snd.snd)).fst.snd.fst,
 (step (g.fst.fst, g.fst.snd.fst, g.fst.snd.snd)
 ((x.fst.getD g.snd.snd.snd.fst.toNat ((0 : Int), (0 : Int), ([] : List Int))).fst,
 (x.fst.getD g.snd.snd.snd.fst.toNat ((0 : Int), (0 : Int), ([] : List Int))).snd.fst,
 (x.fst.getD g.snd.snd.snd.fst.toNat
 ((0 : Int), (0 : Int), ([] : List Int))).snd.snd)).fst.snd.snd),
 g.snd.fst ++
 ((0 : Int) :: ([] : List Int)).set (0 : Nat)
 (step (g.fst.fst, g.fst.snd.fst, g.fst.snd.snd)
 ((x.fst.getD g.snd.snd.snd.fst.toNat ((0 : Int), (0 : Int), ([] : List Int))).fst,
 (x.fst.getD g.snd.snd.snd.fst.toNat ((0 : Int), (0 : Int), ([] : List Int))).snd.fst,
 (x.fst.getD g.snd.snd.snd.fst.toNat
 ((0 : Int), (0 : Int), ([] : List Int))).snd.snd)).snd.snd.snd.fst,
 g.snd.snd.fst ++
 (step (g.fst.fst, g.fst.snd.fst, g.fst.snd.snd)
 ((x.fst.getD g.snd.snd.snd.fst.toNat ((0 : Int), (0 : Int), ([] : List Int))).fst,
 (x.fst.getD g.snd.snd.snd.fst.toNat ((0 : Int), (0 : Int), ([] : List Int))).snd.fst,
 (x.fst.getD g.snd.snd.snd.fst.toNat
 ((0 : Int), (0 : Int), ([] : List Int))).snd.snd)).snd.snd.fst) ∧
 (↑(g.snd.fst ++
 ((0 : Int) :: ([] : List Int)).set (0 : Nat)
 (step (g.fst.fst, g.fst.snd.fst, g.fst.snd.snd)
 ((x.fst.getD g.snd.snd.snd.fst.toNat ((0 : Int), (0 : Int), ([] : List Int))).fst,
 (x.fst.getD g.snd.snd.snd.fst.toNat ((0 : Int), (0 : Int), ([] : List Int))).snd.fst,
 (x.fst.getD g.snd.snd.snd.fst.toNat
 ((0 : Int), (0 : Int), ([] : List Int))).snd.snd)).snd.snd.snd.fst).length :
 Int) =
 g.snd.snd.snd.fst + (1 : Int) ∧
 (2 : Int) *
 (↑(g.snd.snd.fst ++
 (step (g.fst.fst, g.fst.snd.fst, g.fst.snd.snd)
 ((x.fst.getD g.snd.snd.snd.fst.toNat ((0 : Int), (0 : Int), ([] : List Int))).fst,
 (x.fst.getD g.snd.snd.snd.fst.toNat ((0 : Int), (0 : Int), ([] : List Int))).snd.fst,
 (x.fst.getD g.snd.snd.snd.fst.toNat
 ((0 : Int), (0 : Int), ([] : List Int))).snd.snd)).snd.snd.fst).length :
 Int) +
 (↑(step (g.fst.fst, g.fst.snd.fst, g.fst.snd.snd)
 ((x.fst.getD g.snd.snd.snd.fst.toNat ((0 : Int), (0 : Int), ([] : List Int))).fst,
 (x.fst.getD g.snd.snd.snd.fst.toNat ((0 : Int), (0 : Int), ([] : List Int))).snd.fst,
 (x.fst.getD g.snd.snd.snd.fst.toNat
 ((0 : Int), (0 : Int), ([] : List Int))).snd.snd)).fst.fst.length :
 Int) ≤
 (64 : Int) * (g.snd.snd.snd.fst + (1 : Int))) ∧
 ((↑x.fst.length : Int) - (g.snd.snd.snd.fst + (1 : Int))).toNat < ((↑x.fst.length : Int) - g.snd.snd.snd.fst).toNat) ∧
 ((True ∧ True) ∧
 (True ∧ True) ∧
 True ∧
 True ∧
 x.fst = x.fst ∧
 (↑x.fst.length : Int) = (↑x.fst.length : Int) ∧
 g.snd.snd.snd.fst + (1 : Int) = g.snd.snd.snd.fst + (1 : Int) ∧ True) ∧
 (((step (g.fst.fst, g.fst.snd.fst, g.fst.snd.snd)
 ((x.fst.getD g.snd.snd.snd.fst.toNat ((0 : Int), (0 : Int), ([] : List Int))).fst,
 (x.fst.getD g.snd.snd.snd.fst.toNat ((0 : Int), (0 : Int), ([] : List Int))).snd.fst,
 (x.fst.getD g.snd.snd.snd.fst.toNat ((0 : Int), (0 : Int), ([] : List Int))).snd.snd)).fst.fst =
 (step (g.fst.fst, g.fst.snd.fst, g.fst.snd.snd)
 ((x.fst.getD g.snd.snd.snd.fst.toNat ((0 : Int), (0 : Int), ([] : List Int))).fst,
 (x.fst.getD g.snd.snd.snd.fst.toNat ((0 : Int), (0 : Int), ([] : List Int))).snd.fst,
 (x.fst.getD g.snd.snd.snd.fst.toNat ((0 : Int), (0 : Int), ([] : List Int))).snd.snd)).fst.fst ∧
 (step (g.fst.fst, g.fst.snd.fst, g.fst.snd.snd)
 ((x.fst.getD g.snd.snd.snd.fst.toNat ((0 : Int), (0 : Int), ([] : List Int))).fst,
 (x.fst.getD g.snd.snd.snd.fst.toNat ((0 : Int), (0 : Int), ([] : List Int))).snd.fst,
 (x.fst.getD g.snd.snd.snd.fst.toNat ((0 : Int), (0 : Int), ([] : List Int))).snd.snd)).fst.snd.fst =
 (step (g.fst.fst, g.fst.snd.fst, g.fst.snd.snd)
 ((x.fst.getD g.snd.snd.snd.fst.toNat ((0 : Int), (0 : Int), ([] : List Int))).fst,
 (x.fst.getD g.snd.snd.snd.fst.toNat ((0 : Int), (0 : Int), ([] : List Int))).snd.fst,
 (x.fst.getD g.snd.snd.snd.fst.toNat ((0 : Int), (0 : Int), ([] : List Int))).snd.snd)).fst.snd.fst ∧
 (step (g.fst.fst, g.fst.snd.fst, g.fst.snd.snd)
 ((x.fst.getD g.snd.snd.snd.fst.toNat ((0 : Int), (0 : Int), ([] : List Int))).fst,
 (x.fst.getD g.snd.snd.snd.fst.toNat ((0 : Int), (0 : Int), ([] : List Int))).snd.fst,
 (x.fst.getD g.snd.snd.snd.fst.toNat
 ((0 : Int), (0 : Int), ([] : List Int))).snd.snd)).fst.snd.snd =
 (step (g.fst.fst, g.fst.snd.fst, g.fst.snd.snd)
 ((x.fst.getD g.snd.snd.snd.fst.toNat ((0 : Int), (0 : Int), ([] : List Int))).fst,
 (x.fst.getD g.snd.snd.snd.fst.toNat ((0 : Int), (0 : Int), ([] : List Int))).snd.fst,
 (x.fst.getD g.snd.snd.snd.fst.toNat
 ((0 : Int), (0 : Int), ([] : List Int))).snd.snd)).fst.snd.snd ∧
 True) ∧
 g.snd.fst ++
 ((0 : Int) :: ([] : List Int)).set (0 : Nat)
 (step (g.fst.fst, g.fst.snd.fst, g.fst.snd.snd)
 ((x.fst.getD g.snd.snd.snd.fst.toNat ((0 : Int), (0 : Int), ([] : List Int))).fst,
 (x.fst.getD g.snd.snd.snd.fst.toNat ((0 : Int), (0 : Int), ([] : List Int))).snd.fst,
 (x.fst.getD g.snd.snd.snd.fst.toNat
 ((0 : Int), (0 : Int), ([] : List Int))).snd.snd)).snd.snd.snd.fst =
 g.snd.fst ++
 ((0 : Int) :: ([] : List Int)).set (0 : Nat)
 (step (g.fst.fst, g.fst.snd.fst, g.fst.snd.snd)
 ((x.fst.getD g.snd.snd.snd.fst.toNat ((0 : Int), (0 : Int), ([] : List Int))).fst,
 (x.fst.getD g.snd.snd.snd.fst.toNat ((0 : Int), (0 : Int), ([] : List Int))).snd.fst,
 (x.fst.getD g.snd.snd.snd.fst.toNat
 ((0 : Int), (0 : Int), ([] : List Int))).snd.snd)).snd.snd.snd.fst ∧
 g.snd.snd.fst ++
 (step (g.fst.fst, g.fst.snd.fst, g.fst.snd.snd)
 ((x.fst.getD g.snd.snd.snd.fst.toNat ((0 : Int), (0 : Int), ([] : List Int))).fst,
 (x.fst.getD g.snd.snd.snd.fst.toNat ((0 : Int), (0 : Int), ([] : List Int))).snd.fst,
 (x.fst.getD g.snd.snd.snd.fst.toNat
 ((0 : Int), (0 : Int), ([] : List Int))).snd.snd)).snd.snd.fst =
 g.snd.snd.fst ++
 (step (g.fst.fst, g.fst.snd.fst, g.fst.snd.snd)
 ((x.fst.getD g.snd.snd.snd.fst.toNat ((0 : Int), (0 : Int), ([] : List Int))).fst,
 (x.fst.getD g.snd.snd.snd.fst.toNat ((0 : Int), (0 : Int), ([] : List Int))).snd.fst,
 (x.fst.getD g.snd.snd.snd.fst.toNat
 ((0 : Int), (0 : Int), ([] : List Int))).snd.snd)).snd.snd.fst ∧
 (Value.slice none (0 : Nat) (0 : Nat) = Value.slice none (0 : Nat) (0 : Nat) ∧
 (0 : Int) = (0 : Int) ∧ (0 : Int) = (0 : Int) ∧ True) ∧
 True) ∧
 True) ∧
 (((step (g.fst.fst, g.fst.snd.fst, g.fst.snd.snd)
 ((x.fst.getD g.snd.snd.snd.fst.toNat ((0 : Int), (0 : Int), ([] : List Int))).fst,
 (x.fst.getD g.snd.snd.snd.fst.toNat ((0 : Int), (0 : Int), ([] : List Int))).snd.fst,
 (x.fst.getD g.snd.snd.snd.fst.toNat ((0 : Int), (0 : Int), ([] : List Int))).snd.snd)).snd.snd.snd.fst ==
 (0 : Int)) =
 false →
 (g.snd.fst.length +
 (((0 : Int) :: ([] : List Int)).set (0 : Nat)
 (step (g.fst.fst, g.fst.snd.fst, g.fst.snd.snd)
 ((x.fst.getD g.snd.snd.snd.fst.toNat ((0 : Int), (0 : Int), ([] : List Int))).fst,
 (x.fst.getD g.snd.snd.snd.fst.toNat ((0 : Int), (0 : Int), ([] : List Int))).snd.fst,
 (x.fst.getD g.snd.snd.snd.fst.toNat
 ((0 : Int), (0 : Int), ([] : List Int))).snd.snd)).snd.snd.snd.fst).length ≤
 (9223372036854775807 : Nat) ∧
 (g.snd.fst.length +
 (((0 : Int) :: ([] : List Int)).set (0 : Nat)
 (step (g.fst.fst, g.fst.snd.fst, g.fst.snd.snd)
 ((x.fst.getD g.snd.snd.snd.fst.toNat ((0 : Int), (0 : Int), ([] : List Int))).fst,
 (x.fst.getD g.snd.snd.snd.fst.toNat ((0 : Int), (0 : Int), ([] : List Int))).snd.fst,
 (x.fst.getD g.snd.snd.snd.fst.toNat
 ((0 : Int), (0 : Int), ([] : List Int))).snd.snd)).snd.snd.snd.fst).length +
 (g.snd.fst.length +
 (((0 : Int) :: ([] : List Int)).set (0 : Nat)
 (step (g.fst.fst, g.fst.snd.fst, g.fst.snd.snd)
 ((x.fst.getD g.snd.snd.snd.fst.toNat ((0 : Int), (0 : Int), ([] : List Int))).fst,
 (x.fst.getD g.snd.snd.snd.fst.toNat ((0 : Int), (0 : Int), ([] : List Int))).snd.fst,
 (x.fst.getD g.snd.snd.snd.fst.toNat
 ((0 : Int), (0 : Int), ([] : List Int))).snd.snd)).snd.snd.snd.fst).length) /
 (4 : Nat) +
 (192 : Nat)) *
 (8 : Nat) ≤
 (281474976710656 : Nat)) ∧
 ((-9223372036854775808 : Int) ≤ g.snd.snd.snd.fst + (1 : Int) ∧ g.snd.snd.snd.fst + (1 : Int) ≤ (9223372036854775807 : Int)) ∧
 (((0 : Int) ≤ g.snd.snd.snd.fst + (1 : Int) ∧
 g.snd.snd.snd.fst + (1 : Int) ≤ (↑x.fst.length : Int) ∧
 pl (List.take (g.snd.snd.snd.fst + (1 : Int)).toNat x.fst) =
 ((g.fst.fst, g.fst.snd.fst, g.fst.snd.snd),
 g.snd.fst ++
 ((0 : Int) :: ([] : List Int)).set (0 : Nat)
 (step (g.fst.fst, g.fst.snd.fst, g.fst.snd.snd)
 ((x.fst.getD g.snd.snd.snd.fst.toNat ((0 : Int), (0 : Int), ([] : List Int))).fst,
 (x.fst.getD g.snd.snd.snd.fst.toNat ((0 : Int), (0 : Int), ([] : List Int))).snd.fst,
 (x.fst.getD g.snd.snd.snd.fst.toNat
 ((0 : Int), (0 : Int), ([] : List Int))).snd.snd)).snd.snd.snd.fst,
 g.snd.snd.fst) ∧
 (↑(g.snd.fst ++
 ((0 : Int) :: ([] : List Int)).set (0 : Nat)
 (step (g.fst.fst, g.fst.snd.fst, g.fst.snd.snd)
 ((x.fst.getD g.snd.snd.snd.fst.toNat ((0 : Int), (0 : Int), ([] : List Int))).fst,
 (x.fst.getD g.snd.snd.snd.fst.toNat ((0 : Int), (0 : Int), ([] : List Int))).snd.fst,
 (x.fst.getD g.snd.snd.snd.fst.toNat
 ((0 : Int), (0 : Int), ([] : List Int))).snd.snd)).snd.snd.snd.fst).length :
 Int) =
 g.snd.snd.snd.fst + (1 : Int) ∧
 (2 : Int) * (↑g.snd.snd.fst.length : Int) + (↑g.fst.fst.length : Int) ≤
 (64 : Int) * (g.snd.snd.snd.fst + (1 : Int))) ∧
 ((↑x.fst.length : Int) - (g.snd.snd.snd.fst + (1 : Int))).toNat < ((↑x.fst.length : Int) - g.snd.snd.snd.fst).toNat) ∧
 ((True ∧ True) ∧
 (True ∧ True) ∧
 True ∧
 True ∧
 x.fst = x.fst ∧
 (↑x.fst.length : Int) = (↑x.fst.length : Int) ∧
 g.snd.snd.snd.fst + (1 : Int) = g.snd.snd.snd.fst + (1 : Int) ∧ True) ∧
 ((g.fst.fst = g.fst.fst ∧ g.fst.snd.fst = g.fst.snd.fst ∧ g.fst.snd.snd = g.fst.snd.snd ∧ True) ∧
 g.snd.fst ++
 ((0 : Int) :: ([] : List Int)).set (0 : Nat)
 (step (g.fst.fst, g.fst.snd.fst, g.fst.snd.snd)
 ((x.fst.getD g.snd.snd.snd.fst.toNat ((0 : Int), (0 : Int), ([] : List Int))).fst,
 (x.fst.getD g.snd.snd.snd.fst.toNat ((0 : Int), (0 : Int), ([] : List Int))).snd.fst,
 (x.fst.getD g.snd.snd.snd.fst.toNat
 ((0 : Int), (0 : Int), ([] : List Int))).snd.snd)).snd.snd.snd.fst =
 g.snd.fst ++
 ((0 : Int) :: ([] : List Int)).set (0 : Nat)
 (step (g.fst.fst, g.fst.snd.fst, g.fst.snd.snd)
 ((x.fst.getD g.snd.snd.snd.fst.toNat ((0 : Int), (0 : Int), ([] : List Int))).fst,
 (x.fst.getD g.snd.snd.snd.fst.toNat ((0 : Int), (0 : Int), ([] : List Int))).snd.fst,
 (x.fst.getD g.snd.snd.snd.fst.toNat
 ((0 : Int), (0 : Int), ([] : List Int))).snd.snd)).snd.snd.snd.fst ∧
 g.snd.snd.fst = g.snd.snd.fst ∧
 (Value.slice none (0 : Nat) (0 : Nat) = Value.slice none (0 : Nat) (0 : Nat) ∧
 (0 : Int) = (0 : Int) ∧ (0 : Int) = (0 : Int) ∧ True) ∧
 True) ∧
 True)) ∧
 (decide (g.snd.snd.snd.fst < (↑x.fst.length : Int)) = false →
 g.snd.fst = (play x.fst).fst ∧
 g.snd.snd.fst = (play x.fst).snd.fst ∧ (g.fst.fst, g.fst.snd.fst, g.fst.snd.snd) = (play x.fst).snd.snd.fst)

theorem E_uplay_eq (x : HL (cPlay : Ctr).as) : vc (fx_uplay x) 1 37 Try.f37 (cPlay) x = E_uplay x := by kernel_rfl

def E_plays (x : List (Int × Int × List Int) × Unit) : Prop :=
 Holds (x.fst.length * (40 : Nat) ≤ (140737488355328 : Nat) ∧ ∀ (o : Int × Int × List Int), o ∈ x.fst → o.snd.snd.length ≤ (140737488355328 : Nat)) ∧
 Holds (x.fst.length * (40 : Nat) ≤ (140737488355328 : Nat) ∧ ∀ (o : Int × Int × List Int), o ∈ x.fst → o.snd.snd.length ≤ (140737488355328 : Nat)) ∧
 Holds True ∧
 (decide ((play x.fst).fst = (play x.fst).fst) = true → decide ((play x.fst).fst = (play x.fst).fst) = true) ∧
 (decide ((play x.fst).fst = (play x.fst).fst) = true → decide ((play x.fst).fst = (play x.fst).fst) = true) ∧
 (decide ((play x.fst).fst = (play x.fst).fst) = true →
 decide ((play x.fst).fst = (play x.fst).fst) = true ∧ decide ((play x.fst).fst = (play x.fst).fst) = true) ∧
 (decide ((play x.fst).fst = (play x.fst).fst) = true → decide ((play x.fst).fst = (play x.fst).fst) = true) ∧
 ((decide ((play x.fst).fst = (play x.fst).fst) && decide ((play x.fst).snd.fst = (play x.fst).snd.fst)) = true →
 Holds True ∧
 same ((play x.fst).snd.snd.fst.fst, (play x.fst).snd.snd.fst.snd.fst, (play x.fst).snd.snd.fst.snd.snd)
 ((play x.fst).snd.snd.fst.fst, (play x.fst).snd.snd.fst.snd.fst, (play x.fst).snd.snd.fst.snd.snd) =
 true) ∧
 ((decide ((play x.fst).fst = (play x.fst).fst) && decide ((play x.fst).snd.fst = (play x.fst).snd.fst)) = !true → false = true)

theorem E_plays_eq (x : HL (cLawP : Ctr).as) : vc (fx_plays x) 1 8 Try.f8 (cLawP) x = E_plays x := by kernel_rfl

end Go.Proofs.Ytmcepjbbbkgfcaa.Pipep
