/-
 The conditions that the executor comes to, written out (by a tool of ours), and that they are the conditions (by the kernel).
-/
import Derived.Test.YtlnlichdidobpaaGreatDoorNestC
namespace Go.Proofs.YtlnlichdidobpaaGreatDoor.Nest
open Go.Sx
set_option maxRecDepth 100000
noncomputable section
def gr (x : List (Bool × Bool) × Unit) : Prop :=
 ∀ (b : Bool),
 (b = true → x.1 = ([] : List (Bool × Bool))) →
 (b = true → ([] : List (Bool × Bool)) = x.1) ∧
 (b = false →
 (([] : List (Bool × Bool)).length + x.1.length ≤ (9223372036854775807 : Nat) ∧
 (([] : List (Bool × Bool)).length + x.1.length + (([] : List (Bool × Bool)).length + x.1.length) / (4 : Nat) + (192 : Nat)) *
 (2 : Nat) ≤
 (281474976710656 : Nat)) ∧
 ([] : List (Bool × Bool)) ++ x.1 = x.1)

theorem ke (x : HL (bc : ah).as) : vc (eM x) 1 122 Tryz.f122 (bc) x = gr x := by kernel_rfl

abbrev ay (v0_0 : Bool × Int × Unit) (x : (Bool × List (Bool × Bool)) × Unit) := (x.1.2.getD v0_0.2.1.toNat (false, false))
abbrev bj (v0_0 : Bool × Int × Unit) (x : (Bool × List (Bool × Bool)) × Unit) := (!((ay v0_0 x).1 && !v0_0.1) && (ay v0_0 x).2)
def cy (x : (Bool × List (Bool × Bool)) × Unit) : Prop := (decide (400 < (↑x.1.2.length : Int)) = true → false = right x.1) ∧ (decide (400 < (↑x.1.2.length : Int)) = false → ((((0 : Int) ≤ (0 : Int) ∧ 0 ≤ (↑x.1.2.length : Int) ∧ true = decide ((0 : Int) = (0 : Int)) ∧ okF x.1.2 (0 : Int)) ∧ True) ∧ ((True ∧ True) ∧ true = true ∧ x.1.2 = x.1.2 ∧ (↑x.1.2.length : Int) = (↑x.1.2.length : Int) ∧ (0 : Int) = (0 : Int) ∧ True) ∧ ((x.1.1 = x.1.1 ∧ x.1.2 = x.1.2 ∧ True) ∧ True) ∧ True) ∧ ∀ (v0_0 : Bool × Int × Unit), 0 ≤ v0_0.2.1 ∧ v0_0.2.1 ≤ (↑x.1.2.length : Int) ∧ v0_0.1 = decide (v0_0.2.1 = 0) ∧ okF x.1.2 v0_0.2.1 → True ∧ (-9223372036854775808 ≤ v0_0.2.1 ∧ v0_0.2.1 ≤ 9223372036854775807) ∧ True → (decide (v0_0.2.1 < (↑x.1.2.length : Int)) = true → (0 ≤ v0_0.2.1 ∧ v0_0.2.1 < (↑x.1.2.length : Int)) ∧ ((ay v0_0 x).1 = true → (ay v0_0 x).1 = true) ∧ ((ay v0_0 x).1 = true → (ay v0_0 x).1 = true) ∧ ((!((ay v0_0 x).1 && !v0_0.1)) = true → (!((ay v0_0 x).1 && !v0_0.1)) = true) ∧ ((!((ay v0_0 x).1 && !v0_0.1)) = true → (!((ay v0_0 x).1 && !v0_0.1)) = true) ∧ ((bj v0_0 x) = true → (bj v0_0 x) = true) ∧ ((bj v0_0 x) = true → (bj v0_0 x) = true) ∧ ((!((ay v0_0 x).1 && !v0_0.1)) = true → (!((ay v0_0 x).1 && !v0_0.1)) = true ∧ ((ay v0_0 x).2 = true → (bj v0_0 x) = true)) ∧ (((ay v0_0 x).1 && !v0_0.1) = false → (!((ay v0_0 x).1 && !v0_0.1)) = true) ∧ (((ay v0_0 x).1 && !v0_0.1 || (ay v0_0 x).2 && !(ay v0_0 x).1) = true → false = right x.1) ∧ (((ay v0_0 x).1 && !v0_0.1 || (ay v0_0 x).2 && !(ay v0_0 x).1) = false → (-9223372036854775808 ≤ v0_0.2.1 + 1 ∧ v0_0.2.1 + 1 ≤ (9223372036854775807 : Int)) ∧ ((0 ≤ v0_0.2.1 + 1 ∧ v0_0.2.1 + 1 ≤ (↑x.1.2.length : Int) ∧ false = decide (v0_0.2.1 + 1 = (0 : Int)) ∧ okF x.1.2 (v0_0.2.1 + 1)) ∧ ((↑x.1.2.length : Int) - (v0_0.2.1 + 1)).toNat < ((↑x.1.2.length : Int) - v0_0.2.1).toNat) ∧ ((True ∧ True) ∧ false = false ∧ x.1.2 = x.1.2 ∧ (↑x.1.2.length : Int) = (↑x.1.2.length : Int) ∧ v0_0.2.1 + 1 = v0_0.2.1 + 1 ∧ True) ∧ ((x.1.1 = x.1.1 ∧ x.1.2 = x.1.2 ∧ True) ∧ True) ∧ True)) ∧ (decide (v0_0.2.1 < (↑x.1.2.length : Int)) = false → ((!x.1.1) = false → (!!x.1.1) = true) ∧ (!x.1.1 || v0_0.1) = right x.1))

theorem dK (x : HL (aJ : ah).as) : vc (bQ x) 1 121 Tryz.f121 (aJ) x = cy x := by kernel_rfl

abbrev aU := (Bool × List (Bool × Bool)) × Int × Unit
abbrev af (x : aU) := (x.2.1 == 2 || x.2.1 == 4)
abbrev b6 (x : aU) := (x.2.1 == 1 || x.2.1 == 3)
abbrev iY (x : aU) := (((false, false) :: ([] : List (Bool × Bool))).set (0 : Nat) (x.1.1, x.2.1 == 3))
abbrev gh (x : aU) := (-9223372036854775808 ≤ (↑x.1.2.length : Int) - 1 ∧ (↑x.1.2.length : Int) - 1 ≤ (9223372036854775807 : Int))
abbrev gy (x : aU) := (x.1.2.getD ((↑x.1.2.length : Int) - 1).toNat (false, false))
abbrev fy (x : aU) := ((x.2.1 == 3) = true → (x.2.1 == 3) = true)
abbrev fa (x : aU) := ((af x) = true → (af x) = true)
def jK (x : (Bool × List (Bool × Bool)) × Int × Unit) : Prop := Holds True ∧ ((!right (x.1.1, x.1.2)) = true → (false, ([] : List (Bool × Bool))) = (step x.1 x.2.1).1 ∧ (1 : Int) = (step x.1 x.2.1).2.1) ∧ ((!right (x.1.1, x.1.2)) = false → ((!decide (x.2.1 < 1)) = true → (!decide (x.2.1 < 1)) = true) ∧ (decide (x.2.1 < 1) = false → (!decide (x.2.1 < 1)) = true) ∧ ((decide (x.2.1 < 1) || decide (4 < x.2.1)) = true → (false, ([] : List (Bool × Bool))) = (step x.1 x.2.1).1 ∧ (5 : Int) = (step x.1 x.2.1).2.1) ∧ ((decide (x.2.1 < 1) || decide (4 < x.2.1)) = false → ((!x.2.1 == 1) = true → (!x.2.1 == 1) = true) ∧ ((x.2.1 == 1) = false → (!x.2.1 == 1) = true) ∧ ((b6 x) = true → (b6 x) = true) ∧ ((b6 x) = true → (b6 x) = true) ∧ (((b6 x) && (↑x.1.2.length : Int) == (400 : Int)) = true → (false, ([] : List (Bool × Bool))) = (step x.1 x.2.1).1 ∧ (4 : Int) = (step x.1 x.2.1).2.1) ∧ (((b6 x) && (↑x.1.2.length : Int) == (400 : Int)) = false → (fy x) ∧ (fy x) ∧ (fy x) ∧ ((x.2.1 == 3 && !x.1.1) = true → (false, ([] : List (Bool × Bool))) = (step x.1 x.2.1).1 ∧ (7 : Int) = (step x.1 x.2.1).2.1) ∧ ((x.2.1 == 3 && !x.1.1) = false → ((!x.2.1 == 2) = true → (!x.2.1 == 2) = true) ∧ ((x.2.1 == 2) = false → (!x.2.1 == 2) = true) ∧ (fa x) ∧ (fa x) ∧ (((af x) && (↑x.1.2.length : Int) == (0 : Int)) = true → (false, ([] : List (Bool × Bool))) = (step x.1 x.2.1).1 ∧ (3 : Int) = (step x.1 x.2.1).2.1) ∧ (((af x) && (↑x.1.2.length : Int) == (0 : Int)) = false → ((!x.2.1 == 2) = true → (!x.2.1 == 2) = true) ∧ ((x.2.1 == 2) = false → (!x.2.1 == 2) = true) ∧ (fa x) ∧ ((af x) = true → (af x) = true ∧ -9223372036854775808 ≤ (↑x.1.2.length : Int) - 1 ∧ (↑x.1.2.length : Int) - 1 ≤ (9223372036854775807 : Int)) ∧ ((af x) = true → ((af x) = true ∧ (af x) = true) ∧ 0 ≤ (↑x.1.2.length : Int) - 1 ∧ (↑x.1.2.length : Int) - 1 < (↑x.1.2.length : Int)) ∧ (fa x) ∧ (fa x) ∧ (fa x) ∧ ((af x) = true → (af x) = true ∧ (af x) = true) ∧ (fa x) ∧ (((af x) && (gy x).2 != (x.2.1 == 4)) = true → (false, ([] : List (Bool × Bool))) = (step x.1 x.2.1).1 ∧ (8 : Int) = (step x.1 x.2.1).2.1) ∧ (((af x) && (gy x).2 != (x.2.1 == 4)) = false → ((!x.2.1 == 1) = true → (!x.2.1 == 1) = true) ∧ ((x.2.1 == 1) = false → (!x.2.1 == 1) = true) ∧ ((b6 x) = true → Holds (x.1.2.length * (2 : Nat) ≤ (140737488355328 : Nat)) ∧ (x.1.2.length + (iY x).length ≤ (9223372036854775807 : Nat) ∧ (x.1.2.length + (iY x).length + (x.1.2.length + (iY x).length) / (4 : Nat) + (192 : Nat)) * (2 : Nat) ≤ (281474976710656 : Nat)) ∧ (false, x.1.2 ++ ((false, false) :: ([] : List (Bool × Bool))).set (0 : Nat) (x.1.1, x.2.1 == 3)) = (step x.1 x.2.1).1 ∧ (0 : Int) = (step x.1 x.2.1).2.1) ∧ ((b6 x) = false → (gh x) ∧ (0 ≤ (↑x.1.2.length : Int) - 1 ∧ (↑x.1.2.length : Int) - 1 < (↑x.1.2.length : Int)) ∧ (gh x) ∧ (((0 : Int) ≤ (0 : Int) ∧ 0 ≤ (↑x.1.2.length : Int) - 1) ∧ (↑x.1.2.length : Int) - 1 ≤ (↑x.1.2.length : Int)) ∧ Holds ((List.drop (Int.toNat (0 : Int)) (List.take ((↑x.1.2.length : Int) - 1).toNat x.1.2)).length * (2 : Nat) ≤ (140737488355328 : Nat)) ∧ ((gy x).1, List.drop (Int.toNat (0 : Int)) (List.take ((↑x.1.2.length : Int) - 1).toNat x.1.2)) = (step x.1 x.2.1).1 ∧ (0 : Int) = (step x.1 x.2.1).2.1)))))))

theorem lG (x : HL (bg : ah).as) : vc (gj x) 1 89 Tryz.f89 (bg) x = jK x := by kernel_rfl

end
end Go.Proofs.YtlnlichdidobpaaGreatDoor.Nest
