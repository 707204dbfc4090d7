/-
 The conditions that the executor comes to, written out (by a tool of ours), and that they are the conditions (by the kernel).
-/
import Derived.Test.YtdhldloajddfiaaGreatDoorPipepC
namespace Go.Proofs.YtdhldloajddfiaaGreatDoor.Pipep
open Go.Sx
set_option maxRecDepth 100000
noncomputable section
def E_clone (x : List Int × Unit) : Prop :=
 ∀ (b : Bool),
 (b = true → x.1 = ([] : List Int)) →
 (b = true → ([] : List Int) = x.1) ∧
 (b = false →
 (([] : List Int).length + x.1.length ≤ (9223372036854775807 : Nat) ∧
 (([] : List Int).length + x.1.length + (([] : List Int).length + x.1.length) / (4 : Nat) + (192 : Nat)) * (1 : Nat) ≤
 (281474976710656 : Nat)) ∧
 ([] : List Int) ++ x.1 = x.1)

theorem E_clone_eq (x : HL (cClone : Ctr).as) : vc (fx_clone x) 1 11 Tryz.f11 (cClone) x = E_clone x := by kernel_rfl

abbrev qright_3 (x : (List Int × Int × Int) × Unit) := ((↑x.1.1.length : Int) ≤ (64 : Int))
abbrev qright_1 (x : (List Int × Int × Int) × Unit) := (decide (qright_3 x) && decide (0 ≤ x.1.2.1) && decide (x.1.2.1 ≤ 1099511627776) && decide (0 ≤ x.1.2.2))
abbrev qright_2 (x : (List Int × Int × Int) × Unit) := (decide (qright_3 x) && decide (0 ≤ x.1.2.1) && decide (x.1.2.1 ≤ 1099511627776))
abbrev qright_4 (x : (List Int × Int × Int) × Unit) := ((decide (qright_3 x) && decide (0 ≤ x.1.2.1)) = true → (decide (qright_3 x) && decide (0 ≤ x.1.2.1)) = true)
abbrev qright_5 (x : (List Int × Int × Int) × Unit) := (decide (qright_3 x) = true → decide (qright_3 x) = true)
def E_right (x : (List Int × Int × Int) × Unit) : Prop := (qright_5 x) ∧ (qright_5 x) ∧ (qright_5 x) ∧ (qright_4 x) ∧ (qright_4 x) ∧ (qright_4 x) ∧ ((qright_2 x) = true → (qright_2 x) = true) ∧ ((qright_2 x) = true → (qright_2 x) = true) ∧ ((qright_2 x) = true → (qright_2 x) = true) ∧ ((qright_1 x) = true → (qright_1 x) = true) ∧ ((qright_1 x) = true → (qright_1 x) = true) ∧ ((qright_1 x) = true → (qright_1 x) = true) ∧ (decide (qright_3 x) && decide (0 ≤ x.1.2.1) && decide (x.1.2.1 ≤ 1099511627776) && decide (0 ≤ x.1.2.2) && decide (x.1.2.2 ≤ 1099511627776)) = right x.1

theorem E_right_eq (x : HL (cRight : Ctr).as) : vc (fx_right x) 1 21 Tryz.f21 (cRight) x = E_right x := by kernel_rfl

abbrev qstep_t1 := (List Int × Int × Int) × (Int × Int × List Int) × Unit
abbrev qstep_1 (x : qstep_t1) := ((64 : Int) - (↑x.1.1.length : Int) < (↑x.2.1.2.2.length : Int))
abbrev qstep_6 (x : qstep_t1) := ((!x.2.1.1 == 3) = true → (!x.2.1.1 == 3) = true)
abbrev qstep_8 := (([] : List Int), (0 : Int), (0 : Int))
abbrev qstep_9 (x : qstep_t1) := (List.take (min ((64 : Int) - (↑x.1.1.length : Int)) (↑x.2.1.2.2.length : Int)).toNat x.2.1.2.2)
abbrev qstep_11 (x : qstep_t1) := (((↑x.1.1.length : Int) == (0 : Int)) = true → ((↑x.1.1.length : Int) == (0 : Int)) = true)
abbrev qstep_12 (x : qstep_t1) := ((x.2.1.1 == 3) = false → (!x.2.1.1 == 3) = true)
abbrev qstep_14 (x : qstep_t1) := (x.2.1.1 == 3 || x.2.1.1 == 4)
abbrev qstep_16 (x : qstep_t1) := (min x.2.1.2.1 (↑x.1.1.length : Int))
abbrev qstep_2 (x : qstep_t1) := ((qstep_14 x) = true → ((x.1.2.1 == 1099511627776) = true → qstep_8 = (step x.1 x.2.1).1 ∧ (0 : Int) = (step x.1 x.2.1).2.1 ∧ ([] : List Int) = (step x.1 x.2.1).2.2.1 ∧ (4 : Int) = (step x.1 x.2.1).2.2.2.1) ∧ ((x.1.2.1 == 1099511627776) = false → (-9223372036854775808 ≤ x.1.2.1 + 1 ∧ x.1.2.1 + 1 ≤ (9223372036854775807 : Int)) ∧ (x.1.1, x.1.2.1 + 1, x.1.2.2) = (step x.1 x.2.1).1 ∧ (0 : Int) = (step x.1 x.2.1).2.1 ∧ ([] : List Int) = (step x.1 x.2.1).2.2.1 ∧ (0 : Int) = (step x.1 x.2.1).2.2.2.1))
abbrev qstep_3 (x : qstep_t1) := ((qstep_14 x) = true → ((x.1.2.2 == 1099511627776) = true → qstep_8 = (step x.1 x.2.1).1 ∧ (0 : Int) = (step x.1 x.2.1).2.1 ∧ ([] : List Int) = (step x.1 x.2.1).2.2.1 ∧ (4 : Int) = (step x.1 x.2.1).2.2.2.1) ∧ ((x.1.2.2 == 1099511627776) = false → (-9223372036854775808 ≤ x.1.2.2 + 1 ∧ x.1.2.2 + 1 ≤ (9223372036854775807 : Int)) ∧ (x.1.1, x.1.2.1, x.1.2.2 + 1) = (step x.1 x.2.1).1 ∧ (0 : Int) = (step x.1 x.2.1).2.1 ∧ ([] : List Int) = (step x.1 x.2.1).2.2.1 ∧ (0 : Int) = (step x.1 x.2.1).2.2.2.1))
abbrev qstep_4 (x : qstep_t1) := ((qstep_14 x) = false → ((x.1.2.1 == 0) = true → qstep_8 = (step x.1 x.2.1).1 ∧ (0 : Int) = (step x.1 x.2.1).2.1 ∧ ([] : List Int) = (step x.1 x.2.1).2.2.1 ∧ (3 : Int) = (step x.1 x.2.1).2.2.2.1) ∧ ((x.1.2.1 == 0) = false → (-9223372036854775808 ≤ x.1.2.1 - 1 ∧ x.1.2.1 - 1 ≤ (9223372036854775807 : Int)) ∧ (x.1.1, x.1.2.1 - 1, x.1.2.2) = (step x.1 x.2.1).1 ∧ (0 : Int) = (step x.1 x.2.1).2.1 ∧ ([] : List Int) = (step x.1 x.2.1).2.2.1 ∧ (0 : Int) = (step x.1 x.2.1).2.2.2.1))
abbrev qstep_7 (x : qstep_t1) := (decide (qstep_1 x) && !(64 : Int) - (↑x.1.1.length : Int) == (0 : Int))
abbrev qstep_10 (x : qstep_t1) := ((x.1.2.2 == 0) = true → qstep_8 = (step x.1 x.2.1).1 ∧ (0 : Int) = (step x.1 x.2.1).2.1 ∧ ([] : List Int) = (step x.1 x.2.1).2.2.1 ∧ (3 : Int) = (step x.1 x.2.1).2.2.2.1)
abbrev qstep_13 (x : qstep_t1) := (decide (qstep_1 x) && ((64 : Int) - (↑x.1.1.length : Int) == (0 : Int) || decide ((↑x.2.1.2.2.length : Int) ≤ (16 : Int))))
abbrev qstep_15 (x : qstep_t1) := (decide (qstep_1 x) = true → decide (qstep_1 x) = true)
abbrev qstep_5 (x : qstep_t1) := ((qstep_14 x) = false → (qstep_10 x) ∧ ((x.1.2.2 == 0) = false → (-9223372036854775808 ≤ x.1.2.2 - 1 ∧ x.1.2.2 - 1 ≤ (9223372036854775807 : Int)) ∧ (x.1.1, x.1.2.1, x.1.2.2 - 1) = (step x.1 x.2.1).1 ∧ (0 : Int) = (step x.1 x.2.1).2.1 ∧ ([] : List Int) = (step x.1 x.2.1).2.2.1 ∧ (0 : Int) = (step x.1 x.2.1).2.2.2.1))
def E_step (x : (List Int × Int × Int) × (Int × Int × List Int) × Unit) : Prop := Holds True ∧ ((!right (x.1.1, x.1.2.1, x.1.2.2)) = true → qstep_8 = (step x.1 x.2.1).1 ∧ (0 : Int) = (step x.1 x.2.1).2.1 ∧ ([] : List Int) = (step x.1 x.2.1).2.2.1 ∧ (1 : Int) = (step x.1 x.2.1).2.2.2.1) ∧ ((!right (x.1.1, x.1.2.1, x.1.2.2)) = false → Holds (x.1.1.length ≤ (140737488355328 : Nat)) ∧ ((x.2.1.1 == 1) = true → ((-9223372036854775808 : Int) ≤ (64 : Int) - (↑x.1.1.length : Int) ∧ (64 : Int) - (↑x.1.1.length : Int) ≤ (9223372036854775807 : Int)) ∧ ((x.1.2.1 == 0) = true → qstep_8 = (step x.1 x.2.1).1 ∧ (0 : Int) = (step x.1 x.2.1).2.1 ∧ ([] : List Int) = (step x.1 x.2.1).2.2.1 ∧ (6 : Int) = (step x.1 x.2.1).2.2.2.1) ∧ ((x.1.2.1 == 0) = false → (qstep_10 x) ∧ ((x.1.2.2 == 0) = false → (qstep_15 x) ∧ (qstep_15 x) ∧ ((qstep_7 x) = true → (qstep_7 x) = true) ∧ ((qstep_7 x) = true → (qstep_7 x) = true) ∧ ((qstep_7 x) = true → (qstep_7 x) = true) ∧ (decide (qstep_1 x) = true → decide (qstep_1 x) = true ∧ (((64 : Int) - (↑x.1.1.length : Int) == (0 : Int)) = false → (qstep_7 x) = true)) ∧ (qstep_15 x) ∧ ((qstep_13 x) = true → qstep_8 = (step x.1 x.2.1).1 ∧ (0 : Int) = (step x.1 x.2.1).2.1 ∧ ([] : List Int) = (step x.1 x.2.1).2.2.1 ∧ (7 : Int) = (step x.1 x.2.1).2.2.2.1) ∧ ((qstep_13 x) = false → (((0 : Int) ≤ (0 : Int) ∧ 0 ≤ min ((64 : Int) - (↑x.1.1.length : Int)) (↑x.2.1.2.2.length : Int)) ∧ min ((64 : Int) - (↑x.1.1.length : Int)) (↑x.2.1.2.2.length : Int) ≤ (↑x.2.1.2.2.length : Int)) ∧ (x.1.1.length + (List.drop (Int.toNat (0 : Int)) (qstep_9 x)).length ≤ (9223372036854775807 : Nat) ∧ (x.1.1.length + (List.drop (Int.toNat (0 : Int)) (qstep_9 x)).length + (x.1.1.length + (List.drop (Int.toNat (0 : Int)) (qstep_9 x)).length) / (4 : Nat) + (192 : Nat)) * (1 : Nat) ≤ (281474976710656 : Nat)) ∧ (x.1.1 ++ List.drop (Int.toNat (0 : Int)) (qstep_9 x), x.1.2.1, x.1.2.2) = (step x.1 x.2.1).1 ∧ min ((64 : Int) - (↑x.1.1.length : Int)) (↑x.2.1.2.2.length : Int) = (step x.1 x.2.1).2.1 ∧ ([] : List Int) = (step x.1 x.2.1).2.2.1 ∧ (0 : Int) = (step x.1 x.2.1).2.2.2.1)))) ∧ ((x.2.1.1 == 1) = false → ((x.2.1.1 == 2) = true → ((x.1.2.2 == 0) = true → qstep_8 = (step x.1 x.2.1).1 ∧ (0 : Int) = (step x.1 x.2.1).2.1 ∧ ([] : List Int) = (step x.1 x.2.1).2.2.1 ∧ (6 : Int) = (step x.1 x.2.1).2.2.2.1) ∧ ((x.1.2.2 == 0) = false → (decide (x.2.1.2.1 < 1) = true → qstep_8 = (step x.1 x.2.1).1 ∧ (0 : Int) = (step x.1 x.2.1).2.1 ∧ ([] : List Int) = (step x.1 x.2.1).2.2.1 ∧ (2 : Int) = (step x.1 x.2.1).2.2.2.1) ∧ (decide (x.2.1.2.1 < 1) = false → (qstep_11 x) ∧ (qstep_11 x) ∧ (qstep_11 x) ∧ (((↑x.1.1.length : Int) == (0 : Int) && decide (0 < x.1.2.1)) = true → qstep_8 = (step x.1 x.2.1).1 ∧ (0 : Int) = (step x.1 x.2.1).2.1 ∧ ([] : List Int) = (step x.1 x.2.1).2.2.1 ∧ (7 : Int) = (step x.1 x.2.1).2.2.2.1) ∧ (((↑x.1.1.length : Int) == (0 : Int) && decide (0 < x.1.2.1)) = false → (((0 : Int) ≤ (0 : Int) ∧ 0 ≤ min x.2.1.2.1 (↑x.1.1.length : Int)) ∧ min x.2.1.2.1 (↑x.1.1.length : Int) ≤ (↑x.1.1.length : Int)) ∧ Holds ((List.drop (nat_lit 0) (List.take (qstep_16 x).toNat x.1.1)).length ≤ (140737488355328 : Nat)) ∧ ((0 ≤ min x.2.1.2.1 (↑x.1.1.length : Int) ∧ min x.2.1.2.1 (↑x.1.1.length : Int) ≤ (↑x.1.1.length : Int)) ∧ (↑x.1.1.length : Int) ≤ (↑x.1.1.length : Int)) ∧ Holds ((List.drop (qstep_16 x).toNat (List.take (↑x.1.1.length : Int).toNat x.1.1)).length ≤ (140737488355328 : Nat)) ∧ (List.drop (qstep_16 x).toNat (List.take (↑x.1.1.length : Int).toNat x.1.1), x.1.2.1, x.1.2.2) = (step x.1 x.2.1).1 ∧ (0 : Int) = (step x.1 x.2.1).2.1 ∧ List.drop (nat_lit 0) (List.take (qstep_16 x).toNat x.1.1) = (step x.1 x.2.1).2.2.1 ∧ (0 : Int) = (step x.1 x.2.1).2.2.2.1)))) ∧ ((x.2.1.1 == 2) = false → (x.2.1.1 = 3 → (qstep_6 x) ∧ (qstep_6 x) ∧ (qstep_12 x) ∧ (qstep_2 x) ∧ (qstep_4 x)) ∧ (¬x.2.1.1 = 3 → (x.2.1.1 = 5 → (qstep_6 x) ∧ (qstep_6 x) ∧ (qstep_12 x) ∧ (qstep_2 x) ∧ (qstep_4 x)) ∧ (¬x.2.1.1 = 5 → (x.2.1.1 = 4 → (qstep_6 x) ∧ (qstep_6 x) ∧ (qstep_12 x) ∧ (qstep_3 x) ∧ (qstep_5 x)) ∧ (¬x.2.1.1 = 4 → (x.2.1.1 = 6 → (qstep_6 x) ∧ (qstep_6 x) ∧ (qstep_12 x) ∧ (qstep_3 x) ∧ (qstep_5 x)) ∧ (¬x.2.1.1 = 6 → qstep_8 = (step x.1 x.2.1).1 ∧ (0 : Int) = (step x.1 x.2.1).2.1 ∧ ([] : List Int) = (step x.1 x.2.1).2.2.1 ∧ (5 : Int) = (step x.1 x.2.1).2.2.2.1)))))))

theorem E_step_eq (x : HL (cStep : Ctr).as) : vc (fx_step x) 2 9 Tryz.f9 (cStep) x = E_step x := by kernel_rfl

end
end Go.Proofs.YtdhldloajddfiaaGreatDoor.Pipep
