/-
 The conditions that the executor comes to, written out (by a tool of ours), and that they are the conditions (by the kernel).
-/
import Derived.Test.YtlnlichdidobpaaGreatDoorUartC
namespace Go.Proofs.YtlnlichdidobpaaGreatDoor.Uart
open Go.Sx
set_option maxRecDepth 100000
noncomputable section
def gr (x : List Int × Unit) : Prop :=
 ∀ (b : Bool),
 (b = true → x.1 = ([] : List Int)) →
 (b = true → ([] : List Int) = x.1) ∧
 (b = false →
 (([] : List Int).length + x.1.length ≤ (9223372036854775807 : Nat) ∧
 (([] : List Int).length + x.1.length + (([] : List Int).length + x.1.length) / (4 : Nat) + (192 : Nat)) * (1 : Nat) ≤
 (281474976710656 : Nat)) ∧
 ([] : List Int) ++ x.1 = x.1)

theorem ke (x : HL (bc : ah).as) : vc (eM x) 1 30 Tryz.f30 (bc) x = gr x := by kernel_rfl

abbrev bJ := (List Int × List Int × Int × Bool) × Unit
abbrev jE (x : bJ) := ((↑x.1.1.length : Int) ≤ (16 : Int))
abbrev nS (x : bJ) := ((↑x.1.2.1.length : Int) ≤ (16 : Int))
abbrev ay (x : bJ) := (decide (jE x) && decide (nS x) && decide (0 ≤ x.1.2.2.1) && decide (x.1.2.2.1 ≤ 1099511627776))
abbrev bj (x : bJ) := (decide (jE x) && decide (nS x) && decide (0 ≤ x.1.2.2.1))
abbrev jG (x : bJ) := (decide (jE x) && decide (nS x))
abbrev oi (x : bJ) := (decide (jE x) = true → decide (jE x) = true)
abbrev lO (x : bJ) := ((ay x) = true → (ay x) = true)
def cy (x : (List Int × List Int × Int × Bool) × Unit) : Prop := (oi x) ∧ (oi x) ∧ (oi x) ∧ (oi x) ∧ ((jG x) = true → (jG x) = true) ∧ ((jG x) = true → (jG x) = true) ∧ ((jG x) = true → (jG x) = true) ∧ ((bj x) = true → (bj x) = true) ∧ ((bj x) = true → (bj x) = true) ∧ ((bj x) = true → (bj x) = true) ∧ (lO x) ∧ (lO x) ∧ (lO x) ∧ (lO x) ∧ ((ay x) = true → (ay x) = true ∧ (ay x) = true) ∧ (lO x) ∧ (decide (jE x) && decide (nS x) && decide (0 ≤ x.1.2.2.1) && decide (x.1.2.2.1 ≤ 1099511627776) && x.1.2.2.2 == decide (0 < (↑x.1.1.length : Int))) = right x.1

theorem dK (x : HL (aJ : ah).as) : vc (bQ x) 1 108 Tryz.f108 (aJ) x = cy x := by kernel_rfl

abbrev af := (([] : List Int), ([] : List Int), (0 : Int), false)
abbrev b6 (x : (List Int × List Int × Int × Bool) × (Int × Int) × Unit) := (((0 : Int) :: ([] : List Int)).set (0 : Nat) x.2.1.2)
def jK (x : (List Int × List Int × Int × Bool) × (Int × Int) × Unit) : Prop := Holds True ∧ ((!right (x.1.1, x.1.2.1, x.1.2.2.1, x.1.2.2.2)) = true → af = (step x.1 x.2.1.1 x.2.1.2).1 ∧ (0 : Int) = (step x.1 x.2.1.1 x.2.1.2).2.1 ∧ (1 : Int) = (step x.1 x.2.1.1 x.2.1.2).2.2.1) ∧ ((!right (x.1.1, x.1.2.1, x.1.2.2.1, x.1.2.2.2)) = false → Holds (x.1.1.length ≤ (140737488355328 : Nat)) ∧ Holds (x.1.2.1.length ≤ (140737488355328 : Nat)) ∧ ((x.2.1.1 == 1) = true → (decide ((↑x.1.1.length : Int) < (16 : Int)) = true → (x.1.1.length + (b6 x).length ≤ (9223372036854775807 : Nat) ∧ (x.1.1.length + (b6 x).length + (x.1.1.length + (b6 x).length) / (4 : Nat) + (192 : Nat)) * (1 : Nat) ≤ (281474976710656 : Nat)) ∧ (x.1.1 ++ ((0 : Int) :: ([] : List Int)).set (0 : Nat) x.2.1.2, x.1.2.1, x.1.2.2.1, decide (0 < (↑(x.1.1 ++ ((0 : Int) :: ([] : List Int)).set (0 : Nat) x.2.1.2).length : Int))) = (step x.1 x.2.1.1 x.2.1.2).1 ∧ (0 : Int) = (step x.1 x.2.1.1 x.2.1.2).2.1 ∧ (0 : Int) = (step x.1 x.2.1.1 x.2.1.2).2.2.1) ∧ (decide ((↑x.1.1.length : Int) < (16 : Int)) = false → ((x.1.2.2.1 == 1099511627776) = true → af = (step x.1 x.2.1.1 x.2.1.2).1 ∧ (0 : Int) = (step x.1 x.2.1.1 x.2.1.2).2.1 ∧ (4 : Int) = (step x.1 x.2.1.1 x.2.1.2).2.2.1) ∧ ((x.1.2.2.1 == 1099511627776) = false → (-9223372036854775808 ≤ x.1.2.2.1 + 1 ∧ x.1.2.2.1 + 1 ≤ (9223372036854775807 : Int)) ∧ (x.1.1, x.1.2.1, x.1.2.2.1 + 1, decide (0 < (↑x.1.1.length : Int))) = (step x.1 x.2.1.1 x.2.1.2).1 ∧ (0 : Int) = (step x.1 x.2.1.1 x.2.1.2).2.1 ∧ (0 : Int) = (step x.1 x.2.1.1 x.2.1.2).2.2.1))) ∧ ((x.2.1.1 == 1) = false → ((x.2.1.1 == 2) = true → (((↑x.1.1.length : Int) == (0 : Int)) = true → af = (step x.1 x.2.1.1 x.2.1.2).1 ∧ (0 : Int) = (step x.1 x.2.1.1 x.2.1.2).2.1 ∧ (3 : Int) = (step x.1 x.2.1.1 x.2.1.2).2.2.1) ∧ (((↑x.1.1.length : Int) == (0 : Int)) = false → ((0 : Int) ≤ (0 : Int) ∧ 0 < (↑x.1.1.length : Int)) ∧ (((0 : Int) ≤ (1 : Int) ∧ 1 ≤ (↑x.1.1.length : Int)) ∧ (↑x.1.1.length : Int) ≤ (↑x.1.1.length : Int)) ∧ (List.drop (Int.toNat (1 : Int)) (List.take (↑x.1.1.length : Int).toNat x.1.1), x.1.2.1, x.1.2.2.1, decide (0 < (↑(List.drop (Int.toNat (1 : Int)) (List.take (↑x.1.1.length : Int).toNat x.1.1)).length : Int))) = (step x.1 x.2.1.1 x.2.1.2).1 ∧ x.1.1.getD (Int.toNat (0 : Int)) (0 : Int) = (step x.1 x.2.1.1 x.2.1.2).2.1 ∧ (0 : Int) = (step x.1 x.2.1.1 x.2.1.2).2.2.1)) ∧ ((x.2.1.1 == 2) = false → ((x.2.1.1 == 3) = true → (((↑x.1.2.1.length : Int) == (16 : Int)) = true → af = (step x.1 x.2.1.1 x.2.1.2).1 ∧ (0 : Int) = (step x.1 x.2.1.1 x.2.1.2).2.1 ∧ (7 : Int) = (step x.1 x.2.1.1 x.2.1.2).2.2.1) ∧ (((↑x.1.2.1.length : Int) == (16 : Int)) = false → (x.1.2.1.length + (b6 x).length ≤ (9223372036854775807 : Nat) ∧ (x.1.2.1.length + (b6 x).length + (x.1.2.1.length + (b6 x).length) / (4 : Nat) + (192 : Nat)) * (1 : Nat) ≤ (281474976710656 : Nat)) ∧ (x.1.1, x.1.2.1 ++ ((0 : Int) :: ([] : List Int)).set (0 : Nat) x.2.1.2, x.1.2.2.1, decide (0 < (↑x.1.1.length : Int))) = (step x.1 x.2.1.1 x.2.1.2).1 ∧ (0 : Int) = (step x.1 x.2.1.1 x.2.1.2).2.1 ∧ (0 : Int) = (step x.1 x.2.1.1 x.2.1.2).2.2.1)) ∧ ((x.2.1.1 == 3) = false → ((x.2.1.1 == 4) = true → (((↑x.1.2.1.length : Int) == (0 : Int)) = true → af = (step x.1 x.2.1.1 x.2.1.2).1 ∧ (0 : Int) = (step x.1 x.2.1.1 x.2.1.2).2.1 ∧ (3 : Int) = (step x.1 x.2.1.1 x.2.1.2).2.2.1) ∧ (((↑x.1.2.1.length : Int) == (0 : Int)) = false → ((0 : Int) ≤ (0 : Int) ∧ 0 < (↑x.1.2.1.length : Int)) ∧ (((0 : Int) ≤ (1 : Int) ∧ 1 ≤ (↑x.1.2.1.length : Int)) ∧ (↑x.1.2.1.length : Int) ≤ (↑x.1.2.1.length : Int)) ∧ (x.1.1, List.drop (Int.toNat (1 : Int)) (List.take (↑x.1.2.1.length : Int).toNat x.1.2.1), x.1.2.2.1, decide (0 < (↑x.1.1.length : Int))) = (step x.1 x.2.1.1 x.2.1.2).1 ∧ x.1.2.1.getD (Int.toNat (0 : Int)) (0 : Int) = (step x.1 x.2.1.1 x.2.1.2).2.1 ∧ (0 : Int) = (step x.1 x.2.1.1 x.2.1.2).2.2.1)) ∧ ((x.2.1.1 == 4) = false → af = (step x.1 x.2.1.1 x.2.1.2).1 ∧ (0 : Int) = (step x.1 x.2.1.1 x.2.1.2).2.1 ∧ (5 : Int) = (step x.1 x.2.1.1 x.2.1.2).2.2.1)))))

theorem lG (x : HL (bg : ah).as) : vc (gj x) 2 80 Tryz.f80 (bg) x = jK x := by kernel_rfl

end
end Go.Proofs.YtlnlichdidobpaaGreatDoor.Uart
