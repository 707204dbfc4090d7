/-
 The conditions that the executor comes to, written out (by a tool of ours), and that they are the conditions (by the kernel).
-/
import Derived.Test.YtdhldloajddfiaaGreatDoorNestC
namespace Go.Proofs.YtdhldloajddfiaaGreatDoor.Nest
open Go.Sx
set_option maxRecDepth 100000
noncomputable section
def E_clone (x : List (Bool × Bool) × Unit) : Prop :=
 ∀ (b : Bool),
 (b = true → x.1 = ([] : List (Bool × Bool))) →
 (b = true → ([] : List (Bool × Bool)) = x.1) ∧
 (b = false →
 (([] : List (Bool × Bool)).length + x.1.length ≤ (9223372036854775807 : Nat) ∧
 (([] : List (Bool × Bool)).length + x.1.length + (([] : List (Bool × Bool)).length + x.1.length) / (4 : Nat) + (192 : Nat)) *
 (2 : Nat) ≤
 (281474976710656 : Nat)) ∧
 ([] : List (Bool × Bool)) ++ x.1 = x.1)

theorem E_clone_eq (x : HL (cClone : Ctr).as) : vc (fx_clone x) 1 100 Tryz.f100 (cClone) x = E_clone x := by kernel_rfl

abbrev qright_1 (v0_0 : Bool × Int × Unit) (x : (Bool × List (Bool × Bool)) × Unit) := (x.1.2.getD v0_0.2.1.toNat (false, false))
abbrev qright_2 (v0_0 : Bool × Int × Unit) (x : (Bool × List (Bool × Bool)) × Unit) := (!((qright_1 v0_0 x).1 && !v0_0.1) && (qright_1 v0_0 x).2)
def E_right (x : (Bool × List (Bool × Bool)) × Unit) : Prop := (decide (400 < (↑x.1.2.length : Int)) = true → false = right x.1) ∧ (decide (400 < (↑x.1.2.length : Int)) = false → ((((0 : Int) ≤ (0 : Int) ∧ 0 ≤ (↑x.1.2.length : Int) ∧ true = decide ((0 : Int) = (0 : Int)) ∧ okF x.1.2 (0 : Int)) ∧ True) ∧ ((True ∧ True) ∧ true = true ∧ x.1.2 = x.1.2 ∧ (↑x.1.2.length : Int) = (↑x.1.2.length : Int) ∧ (0 : Int) = (0 : Int) ∧ True) ∧ ((x.1.1 = x.1.1 ∧ x.1.2 = x.1.2 ∧ True) ∧ True) ∧ True) ∧ ∀ (v0_0 : Bool × Int × Unit), 0 ≤ v0_0.2.1 ∧ v0_0.2.1 ≤ (↑x.1.2.length : Int) ∧ v0_0.1 = decide (v0_0.2.1 = 0) ∧ okF x.1.2 v0_0.2.1 → True ∧ (-9223372036854775808 ≤ v0_0.2.1 ∧ v0_0.2.1 ≤ 9223372036854775807) ∧ True → (decide (v0_0.2.1 < (↑x.1.2.length : Int)) = true → (0 ≤ v0_0.2.1 ∧ v0_0.2.1 < (↑x.1.2.length : Int)) ∧ ((qright_1 v0_0 x).1 = true → (qright_1 v0_0 x).1 = true) ∧ ((qright_1 v0_0 x).1 = true → (qright_1 v0_0 x).1 = true) ∧ ((!((qright_1 v0_0 x).1 && !v0_0.1)) = true → (!((qright_1 v0_0 x).1 && !v0_0.1)) = true) ∧ ((!((qright_1 v0_0 x).1 && !v0_0.1)) = true → (!((qright_1 v0_0 x).1 && !v0_0.1)) = true) ∧ ((qright_2 v0_0 x) = true → (qright_2 v0_0 x) = true) ∧ ((qright_2 v0_0 x) = true → (qright_2 v0_0 x) = true) ∧ ((!((qright_1 v0_0 x).1 && !v0_0.1)) = true → (!((qright_1 v0_0 x).1 && !v0_0.1)) = true ∧ ((qright_1 v0_0 x).2 = true → (qright_2 v0_0 x) = true)) ∧ (((qright_1 v0_0 x).1 && !v0_0.1) = false → (!((qright_1 v0_0 x).1 && !v0_0.1)) = true) ∧ (((qright_1 v0_0 x).1 && !v0_0.1 || (qright_1 v0_0 x).2 && !(qright_1 v0_0 x).1) = true → false = right x.1) ∧ (((qright_1 v0_0 x).1 && !v0_0.1 || (qright_1 v0_0 x).2 && !(qright_1 v0_0 x).1) = false → (-9223372036854775808 ≤ v0_0.2.1 + 1 ∧ v0_0.2.1 + 1 ≤ (9223372036854775807 : Int)) ∧ ((0 ≤ v0_0.2.1 + 1 ∧ v0_0.2.1 + 1 ≤ (↑x.1.2.length : Int) ∧ false = decide (v0_0.2.1 + 1 = (0 : Int)) ∧ okF x.1.2 (v0_0.2.1 + 1)) ∧ ((↑x.1.2.length : Int) - (v0_0.2.1 + 1)).toNat < ((↑x.1.2.length : Int) - v0_0.2.1).toNat) ∧ ((True ∧ True) ∧ false = false ∧ x.1.2 = x.1.2 ∧ (↑x.1.2.length : Int) = (↑x.1.2.length : Int) ∧ v0_0.2.1 + 1 = v0_0.2.1 + 1 ∧ True) ∧ ((x.1.1 = x.1.1 ∧ x.1.2 = x.1.2 ∧ True) ∧ True) ∧ True)) ∧ (decide (v0_0.2.1 < (↑x.1.2.length : Int)) = false → ((!x.1.1) = false → (!!x.1.1) = true) ∧ (!x.1.1 || v0_0.1) = right x.1))

theorem E_right_eq (x : HL (cRight : Ctr).as) : vc (fx_right x) 1 99 Tryz.f99 (cRight) x = E_right x := by kernel_rfl

abbrev qstep_t1 := (Bool × List (Bool × Bool)) × Int × Unit
abbrev qstep_1 (x : qstep_t1) := (x.2.1 == 2 || x.2.1 == 4)
abbrev qstep_2 (x : qstep_t1) := (x.2.1 == 1 || x.2.1 == 3)
abbrev qstep_4 (x : qstep_t1) := (((false, false) :: ([] : List (Bool × Bool))).set (0 : Nat) (x.1.1, x.2.1 == 3))
abbrev qstep_5 (x : qstep_t1) := (-9223372036854775808 ≤ (↑x.1.2.length : Int) - 1 ∧ (↑x.1.2.length : Int) - 1 ≤ (9223372036854775807 : Int))
abbrev qstep_6 (x : qstep_t1) := (x.1.2.getD ((↑x.1.2.length : Int) - 1).toNat (false, false))
abbrev qstep_7 (x : qstep_t1) := ((x.2.1 == 3) = true → (x.2.1 == 3) = true)
abbrev qstep_3 (x : qstep_t1) := ((qstep_1 x) = true → (qstep_1 x) = true)
def E_step (x : (Bool × List (Bool × Bool)) × Int × Unit) : Prop := Holds True ∧ ((!right (x.1.1, x.1.2)) = true → (false, ([] : List (Bool × Bool))) = (step x.1 x.2.1).1 ∧ (1 : Int) = (step x.1 x.2.1).2.1) ∧ ((!right (x.1.1, x.1.2)) = false → ((!decide (x.2.1 < 1)) = true → (!decide (x.2.1 < 1)) = true) ∧ (decide (x.2.1 < 1) = false → (!decide (x.2.1 < 1)) = true) ∧ ((decide (x.2.1 < 1) || decide (4 < x.2.1)) = true → (false, ([] : List (Bool × Bool))) = (step x.1 x.2.1).1 ∧ (5 : Int) = (step x.1 x.2.1).2.1) ∧ ((decide (x.2.1 < 1) || decide (4 < x.2.1)) = false → ((!x.2.1 == 1) = true → (!x.2.1 == 1) = true) ∧ ((x.2.1 == 1) = false → (!x.2.1 == 1) = true) ∧ ((qstep_2 x) = true → (qstep_2 x) = true) ∧ ((qstep_2 x) = true → (qstep_2 x) = true) ∧ (((qstep_2 x) && (↑x.1.2.length : Int) == (400 : Int)) = true → (false, ([] : List (Bool × Bool))) = (step x.1 x.2.1).1 ∧ (4 : Int) = (step x.1 x.2.1).2.1) ∧ (((qstep_2 x) && (↑x.1.2.length : Int) == (400 : Int)) = false → (qstep_7 x) ∧ (qstep_7 x) ∧ (qstep_7 x) ∧ ((x.2.1 == 3 && !x.1.1) = true → (false, ([] : List (Bool × Bool))) = (step x.1 x.2.1).1 ∧ (7 : Int) = (step x.1 x.2.1).2.1) ∧ ((x.2.1 == 3 && !x.1.1) = false → ((!x.2.1 == 2) = true → (!x.2.1 == 2) = true) ∧ ((x.2.1 == 2) = false → (!x.2.1 == 2) = true) ∧ (qstep_3 x) ∧ (qstep_3 x) ∧ (((qstep_1 x) && (↑x.1.2.length : Int) == (0 : Int)) = true → (false, ([] : List (Bool × Bool))) = (step x.1 x.2.1).1 ∧ (3 : Int) = (step x.1 x.2.1).2.1) ∧ (((qstep_1 x) && (↑x.1.2.length : Int) == (0 : Int)) = false → ((!x.2.1 == 2) = true → (!x.2.1 == 2) = true) ∧ ((x.2.1 == 2) = false → (!x.2.1 == 2) = true) ∧ (qstep_3 x) ∧ ((qstep_1 x) = true → (qstep_1 x) = true ∧ -9223372036854775808 ≤ (↑x.1.2.length : Int) - 1 ∧ (↑x.1.2.length : Int) - 1 ≤ (9223372036854775807 : Int)) ∧ ((qstep_1 x) = true → ((qstep_1 x) = true ∧ (qstep_1 x) = true) ∧ 0 ≤ (↑x.1.2.length : Int) - 1 ∧ (↑x.1.2.length : Int) - 1 < (↑x.1.2.length : Int)) ∧ (qstep_3 x) ∧ (qstep_3 x) ∧ (qstep_3 x) ∧ ((qstep_1 x) = true → (qstep_1 x) = true ∧ (qstep_1 x) = true) ∧ (qstep_3 x) ∧ (((qstep_1 x) && (qstep_6 x).2 != (x.2.1 == 4)) = true → (false, ([] : List (Bool × Bool))) = (step x.1 x.2.1).1 ∧ (8 : Int) = (step x.1 x.2.1).2.1) ∧ (((qstep_1 x) && (qstep_6 x).2 != (x.2.1 == 4)) = false → ((!x.2.1 == 1) = true → (!x.2.1 == 1) = true) ∧ ((x.2.1 == 1) = false → (!x.2.1 == 1) = true) ∧ ((qstep_2 x) = true → Holds (x.1.2.length * (2 : Nat) ≤ (140737488355328 : Nat)) ∧ (x.1.2.length + (qstep_4 x).length ≤ (9223372036854775807 : Nat) ∧ (x.1.2.length + (qstep_4 x).length + (x.1.2.length + (qstep_4 x).length) / (4 : Nat) + (192 : Nat)) * (2 : Nat) ≤ (281474976710656 : Nat)) ∧ (false, x.1.2 ++ ((false, false) :: ([] : List (Bool × Bool))).set (0 : Nat) (x.1.1, x.2.1 == 3)) = (step x.1 x.2.1).1 ∧ (0 : Int) = (step x.1 x.2.1).2.1) ∧ ((qstep_2 x) = false → (qstep_5 x) ∧ (0 ≤ (↑x.1.2.length : Int) - 1 ∧ (↑x.1.2.length : Int) - 1 < (↑x.1.2.length : Int)) ∧ (qstep_5 x) ∧ (((0 : Int) ≤ (0 : Int) ∧ 0 ≤ (↑x.1.2.length : Int) - 1) ∧ (↑x.1.2.length : Int) - 1 ≤ (↑x.1.2.length : Int)) ∧ Holds ((List.drop (Int.toNat (0 : Int)) (List.take ((↑x.1.2.length : Int) - 1).toNat x.1.2)).length * (2 : Nat) ≤ (140737488355328 : Nat)) ∧ ((qstep_6 x).1, List.drop (Int.toNat (0 : Int)) (List.take ((↑x.1.2.length : Int) - 1).toNat x.1.2)) = (step x.1 x.2.1).1 ∧ (0 : Int) = (step x.1 x.2.1).2.1)))))))

theorem E_step_eq (x : HL (cStep : Ctr).as) : vc (fx_step x) 1 79 Tryz.f79 (cStep) x = E_step x := by kernel_rfl

end
end Go.Proofs.YtdhldloajddfiaaGreatDoor.Nest
