/-
 The conditions that the executor comes to, written out (by a tool of ours), and that they are the conditions (by the kernel).
-/
import Derived.Test.YtdhldloajddfiaaGreatDoorUartC
namespace Go.Proofs.YtdhldloajddfiaaGreatDoor.Uart
open Go.Sx
set_option maxRecDepth 100000
noncomputable section
def E_clone (x : List Int × Unit) : Prop :=
 ∀ (b : Bool),
 (b = true → x.1 = ([] : List Int)) →
 (b = true → ([] : List Int) = x.1) ∧
 (b = false →
 (([] : List Int).length + x.1.length ≤ (9223372036854775807 : Nat) ∧
 (([] : List Int).length + x.1.length + (([] : List Int).length + x.1.length) / (4 : Nat) + (192 : Nat)) * (1 : Nat) ≤
 (281474976710656 : Nat)) ∧
 ([] : List Int) ++ x.1 = x.1)

theorem E_clone_eq (x : HL (cClone : Ctr).as) : vc (fx_clone x) 1 11 Tryz.f11 (cClone) x = E_clone x := by kernel_rfl

abbrev qright_t1 := (List Int × List Int × Int × Bool) × Unit
abbrev qright_5 (x : qright_t1) := ((↑x.1.1.length : Int) ≤ (16 : Int))
abbrev qright_7 (x : qright_t1) := ((↑x.1.2.1.length : Int) ≤ (16 : Int))
abbrev qright_1 (x : qright_t1) := (decide (qright_5 x) && decide (qright_7 x) && decide (0 ≤ x.1.2.2.1) && decide (x.1.2.2.1 ≤ 1099511627776))
abbrev qright_2 (x : qright_t1) := (decide (qright_5 x) && decide (qright_7 x) && decide (0 ≤ x.1.2.2.1))
abbrev qright_3 (x : qright_t1) := (decide (qright_5 x) && decide (qright_7 x))
abbrev qright_4 (x : qright_t1) := (decide (qright_5 x) = true → decide (qright_5 x) = true)
abbrev qright_6 (x : qright_t1) := ((qright_1 x) = true → (qright_1 x) = true)
def E_right (x : (List Int × List Int × Int × Bool) × Unit) : Prop := (qright_4 x) ∧ (qright_4 x) ∧ (qright_4 x) ∧ (qright_4 x) ∧ ((qright_3 x) = true → (qright_3 x) = true) ∧ ((qright_3 x) = true → (qright_3 x) = true) ∧ ((qright_3 x) = true → (qright_3 x) = true) ∧ ((qright_2 x) = true → (qright_2 x) = true) ∧ ((qright_2 x) = true → (qright_2 x) = true) ∧ ((qright_2 x) = true → (qright_2 x) = true) ∧ (qright_6 x) ∧ (qright_6 x) ∧ (qright_6 x) ∧ (qright_6 x) ∧ ((qright_1 x) = true → (qright_1 x) = true ∧ (qright_1 x) = true) ∧ (qright_6 x) ∧ (decide (qright_5 x) && decide (qright_7 x) && decide (0 ≤ x.1.2.2.1) && decide (x.1.2.2.1 ≤ 1099511627776) && x.1.2.2.2 == decide (0 < (↑x.1.1.length : Int))) = right x.1

theorem E_right_eq (x : HL (cRight : Ctr).as) : vc (fx_right x) 1 90 Tryz.f90 (cRight) x = E_right x := by kernel_rfl

abbrev qstep_1 := (([] : List Int), ([] : List Int), (0 : Int), false)
abbrev qstep_2 (x : (List Int × List Int × Int × Bool) × (Int × Int) × Unit) := (((0 : Int) :: ([] : List Int)).set (0 : Nat) x.2.1.2)
def E_step (x : (List Int × List Int × Int × Bool) × (Int × Int) × Unit) : Prop := Holds True ∧ ((!right (x.1.1, x.1.2.1, x.1.2.2.1, x.1.2.2.2)) = true → qstep_1 = (step x.1 x.2.1.1 x.2.1.2).1 ∧ (0 : Int) = (step x.1 x.2.1.1 x.2.1.2).2.1 ∧ (1 : Int) = (step x.1 x.2.1.1 x.2.1.2).2.2.1) ∧ ((!right (x.1.1, x.1.2.1, x.1.2.2.1, x.1.2.2.2)) = false → Holds (x.1.1.length ≤ (140737488355328 : Nat)) ∧ Holds (x.1.2.1.length ≤ (140737488355328 : Nat)) ∧ ((x.2.1.1 == 1) = true → (decide ((↑x.1.1.length : Int) < (16 : Int)) = true → (x.1.1.length + (qstep_2 x).length ≤ (9223372036854775807 : Nat) ∧ (x.1.1.length + (qstep_2 x).length + (x.1.1.length + (qstep_2 x).length) / (4 : Nat) + (192 : Nat)) * (1 : Nat) ≤ (281474976710656 : Nat)) ∧ (x.1.1 ++ ((0 : Int) :: ([] : List Int)).set (0 : Nat) x.2.1.2, x.1.2.1, x.1.2.2.1, decide (0 < (↑(x.1.1 ++ ((0 : Int) :: ([] : List Int)).set (0 : Nat) x.2.1.2).length : Int))) = (step x.1 x.2.1.1 x.2.1.2).1 ∧ (0 : Int) = (step x.1 x.2.1.1 x.2.1.2).2.1 ∧ (0 : Int) = (step x.1 x.2.1.1 x.2.1.2).2.2.1) ∧ (decide ((↑x.1.1.length : Int) < (16 : Int)) = false → ((x.1.2.2.1 == 1099511627776) = true → qstep_1 = (step x.1 x.2.1.1 x.2.1.2).1 ∧ (0 : Int) = (step x.1 x.2.1.1 x.2.1.2).2.1 ∧ (4 : Int) = (step x.1 x.2.1.1 x.2.1.2).2.2.1) ∧ ((x.1.2.2.1 == 1099511627776) = false → (-9223372036854775808 ≤ x.1.2.2.1 + 1 ∧ x.1.2.2.1 + 1 ≤ (9223372036854775807 : Int)) ∧ (x.1.1, x.1.2.1, x.1.2.2.1 + 1, decide (0 < (↑x.1.1.length : Int))) = (step x.1 x.2.1.1 x.2.1.2).1 ∧ (0 : Int) = (step x.1 x.2.1.1 x.2.1.2).2.1 ∧ (0 : Int) = (step x.1 x.2.1.1 x.2.1.2).2.2.1))) ∧ ((x.2.1.1 == 1) = false → ((x.2.1.1 == 2) = true → (((↑x.1.1.length : Int) == (0 : Int)) = true → qstep_1 = (step x.1 x.2.1.1 x.2.1.2).1 ∧ (0 : Int) = (step x.1 x.2.1.1 x.2.1.2).2.1 ∧ (3 : Int) = (step x.1 x.2.1.1 x.2.1.2).2.2.1) ∧ (((↑x.1.1.length : Int) == (0 : Int)) = false → ((0 : Int) ≤ (0 : Int) ∧ 0 < (↑x.1.1.length : Int)) ∧ (((0 : Int) ≤ (1 : Int) ∧ 1 ≤ (↑x.1.1.length : Int)) ∧ (↑x.1.1.length : Int) ≤ (↑x.1.1.length : Int)) ∧ (List.drop (Int.toNat (1 : Int)) (List.take (↑x.1.1.length : Int).toNat x.1.1), x.1.2.1, x.1.2.2.1, decide (0 < (↑(List.drop (Int.toNat (1 : Int)) (List.take (↑x.1.1.length : Int).toNat x.1.1)).length : Int))) = (step x.1 x.2.1.1 x.2.1.2).1 ∧ x.1.1.getD (Int.toNat (0 : Int)) (0 : Int) = (step x.1 x.2.1.1 x.2.1.2).2.1 ∧ (0 : Int) = (step x.1 x.2.1.1 x.2.1.2).2.2.1)) ∧ ((x.2.1.1 == 2) = false → ((x.2.1.1 == 3) = true → (((↑x.1.2.1.length : Int) == (16 : Int)) = true → qstep_1 = (step x.1 x.2.1.1 x.2.1.2).1 ∧ (0 : Int) = (step x.1 x.2.1.1 x.2.1.2).2.1 ∧ (7 : Int) = (step x.1 x.2.1.1 x.2.1.2).2.2.1) ∧ (((↑x.1.2.1.length : Int) == (16 : Int)) = false → (x.1.2.1.length + (qstep_2 x).length ≤ (9223372036854775807 : Nat) ∧ (x.1.2.1.length + (qstep_2 x).length + (x.1.2.1.length + (qstep_2 x).length) / (4 : Nat) + (192 : Nat)) * (1 : Nat) ≤ (281474976710656 : Nat)) ∧ (x.1.1, x.1.2.1 ++ ((0 : Int) :: ([] : List Int)).set (0 : Nat) x.2.1.2, x.1.2.2.1, decide (0 < (↑x.1.1.length : Int))) = (step x.1 x.2.1.1 x.2.1.2).1 ∧ (0 : Int) = (step x.1 x.2.1.1 x.2.1.2).2.1 ∧ (0 : Int) = (step x.1 x.2.1.1 x.2.1.2).2.2.1)) ∧ ((x.2.1.1 == 3) = false → ((x.2.1.1 == 4) = true → (((↑x.1.2.1.length : Int) == (0 : Int)) = true → qstep_1 = (step x.1 x.2.1.1 x.2.1.2).1 ∧ (0 : Int) = (step x.1 x.2.1.1 x.2.1.2).2.1 ∧ (3 : Int) = (step x.1 x.2.1.1 x.2.1.2).2.2.1) ∧ (((↑x.1.2.1.length : Int) == (0 : Int)) = false → ((0 : Int) ≤ (0 : Int) ∧ 0 < (↑x.1.2.1.length : Int)) ∧ (((0 : Int) ≤ (1 : Int) ∧ 1 ≤ (↑x.1.2.1.length : Int)) ∧ (↑x.1.2.1.length : Int) ≤ (↑x.1.2.1.length : Int)) ∧ (x.1.1, List.drop (Int.toNat (1 : Int)) (List.take (↑x.1.2.1.length : Int).toNat x.1.2.1), x.1.2.2.1, decide (0 < (↑x.1.1.length : Int))) = (step x.1 x.2.1.1 x.2.1.2).1 ∧ x.1.2.1.getD (Int.toNat (0 : Int)) (0 : Int) = (step x.1 x.2.1.1 x.2.1.2).2.1 ∧ (0 : Int) = (step x.1 x.2.1.1 x.2.1.2).2.2.1)) ∧ ((x.2.1.1 == 4) = false → qstep_1 = (step x.1 x.2.1.1 x.2.1.2).1 ∧ (0 : Int) = (step x.1 x.2.1.1 x.2.1.2).2.1 ∧ (5 : Int) = (step x.1 x.2.1.1 x.2.1.2).2.2.1)))))

theorem E_step_eq (x : HL (cStep : Ctr).as) : vc (fx_step x) 2 74 Tryz.f74 (cStep) x = E_step x := by kernel_rfl

end
end Go.Proofs.YtdhldloajddfiaaGreatDoor.Uart
