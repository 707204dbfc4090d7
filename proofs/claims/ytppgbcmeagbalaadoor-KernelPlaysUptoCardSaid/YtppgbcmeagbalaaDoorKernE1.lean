/-
 The conditions that the executor comes to, written out (by a tool of ours), and that they are the conditions (by the kernel).
-/
import Derived.Test.YtppgbcmeagbalaaDoorKernE0
namespace Go.Proofs.YtppgbcmeagbalaaDoor.Kern
open Go.Sx
set_option maxRecDepth 100000

def E_kplay (x : List (Int × Int × Int × Int) × Unit) : Prop := ((((0 : Int) ≤ (0 : Int) ∧
 (0 : Int) ≤ (2 : Int) ∧
 zc :: zc :: ([] : List ((List Int × List Int × Int) × (Bool × List (Bool × Bool)) × Bool)) = bootAt (0 : Int)) ∧
 True) ∧
 ((True ∧
 True) ∧
 RR (0 : Int) ∧
 True) ∧
 ((RR (Value.slice none (0 : Nat) (0 : Nat)) ∧
 RR (Value.slice none (0 : Nat) (0 : Nat)) ∧
 RR (0 : Int) ∧
 false = false ∧
 True ∧
 zc :: zc :: ([] : List ((List Int × List Int × Int) × (Bool × List (Bool × Bool)) × Bool)) = zc :: zc :: ([] : List ((List Int × List Int × Int) × (Bool × List (Bool × Bool)) × Bool)) ∧
 RR (Value.slice none (0 : Nat) (0 : Nat)) ∧
 RR (Value.slice none (0 : Nat) (0 : Nat)) ∧
 RR (Value.slice none (0 : Nat) (0 : Nat)) ∧
 RR (0 : Int) ∧
 True) ∧
 (RR (Value.slice none (0 : Nat) (0 : Nat)) ∧
 RR (Value.slice none (0 : Nat) (0 : Nat)) ∧
 RR (Value.slice none (0 : Nat) (0 : Nat)) ∧
 RR (Value.slice none (0 : Nat) (0 : Nat)) ∧
 RR (0 : Int) ∧
 RR (0 : Int) ∧
 True) ∧
 ((0 : Int), (64 : Int), true, false, false, false, false) :: ([] : List (Int × Int × Bool × Bool × Bool × Bool × Bool)) = ((0 : Int), (64 : Int), true, false, false, false, false) :: ([] : List (Int × Int × Bool × Bool × Bool × Bool × Bool)) ∧
 True) ∧
 x.1 = x.1 ∧
 True ∧
 RR (Value.slice none (0 : Nat) (0 : Nat)) ∧
 (True ∧
 True) ∧
 R32 (R8 (True ∧
 True ∧
 True ∧
 True ∧
 True))) ∧
 ∀ (g : (Unit × Unit × Unit × Unit × Unit × List ((List Int × List Int × Int) × (Bool × List (Bool × Bool)) × Bool) × Unit × Unit × Unit × Unit) × Int × Unit), 0 ≤ g.2.1 ∧
 g.2.1 ≤ 2 ∧
 g.1.2.2.2.2.2.1 = bootAt g.2.1 →
 (True ∧
 True ∧
 True ∧
 True ∧
 True ∧
 (g.1.2.2.2.2.2.1.length = (2 : Nat) ∧
 ∀ (x : (List Int × List Int × Int) × (Bool × List (Bool × Bool)) × Bool), x ∈ g.1.2.2.2.2.2.1 →
 ((x.1.1.length = (4 : Nat) ∧
 ∀ (x_1 : Int), x_1 ∈ x.1.1 →
 0 ≤ x_1 ∧
 x_1 ≤ 18446744073709551615) ∧
 (x.1.2.1.length = (4 : Nat) ∧
 ∀ (x_1 : Int), x_1 ∈ x.1.2.1 →
 0 ≤ x_1 ∧
 x_1 ≤ 18446744073709551615) ∧
 -9223372036854775808 ≤ x.1.2.2 ∧
 x.1.2.2 ≤ 9223372036854775807) ∧
 (True ∧
 x.2.1.2.length ≤ (9223372036854775807 : Nat) ∧
 ∀ (x_1 : Bool × Bool), x_1 ∈ x.2.1.2 →
 True ∧
 True) ∧
 True) ∧
 True ∧
 True ∧
 True ∧
 True) ∧
 (-9223372036854775808 ≤ g.2.1 ∧
 g.2.1 ≤ 9223372036854775807) ∧
 True →
 (decide (g.2.1 < 2) = true →
 (0 ≤ g.2.1 ∧
 g.2.1 < (↑(2 : Nat) : Int)) ∧
 (-9223372036854775808 ≤ g.2.1 + 1 ∧
 g.2.1 + 1 ≤ (9223372036854775807 : Int)) ∧
 ((0 ≤ g.2.1 + 1 ∧
 g.2.1 + 1 ≤ (2 : Int) ∧
 g.1.2.2.2.2.2.1.set g.2.1.toNat (((crAt g.1.2.2.2.2.2.1 g.2.1).1.1, (crAt g.1.2.2.2.2.2.1 g.2.1).1.2.1, (crAt g.1.2.2.2.2.2.1 g.2.1).1.2.2), (true, (crAt g.1.2.2.2.2.2.1 g.2.1).2.1.2), (crAt g.1.2.2.2.2.2.1 g.2.1).2.2) = bootAt (g.2.1 + 1)) ∧
 ((2 : Int) - (g.2.1 + 1)).toNat < ((2 : Int) - g.2.1).toNat) ∧
 ((True ∧
 True) ∧
 g.2.1 + 1 = g.2.1 + 1 ∧
 True) ∧
 ((RR (Value.slice none (0 : Nat) (0 : Nat)) ∧
 RR (Value.slice none (0 : Nat) (0 : Nat)) ∧
 RR (0 : Int) ∧
 false = false ∧
 True ∧
 RR (g.1.2.2.2.2.2.1.set g.2.1.toNat (((crAt g.1.2.2.2.2.2.1 g.2.1).1.1, (crAt g.1.2.2.2.2.2.1 g.2.1).1.2.1, (crAt g.1.2.2.2.2.2.1 g.2.1).1.2.2), (true, (crAt g.1.2.2.2.2.2.1 g.2.1).2.1.2), (crAt g.1.2.2.2.2.2.1 g.2.1).2.2)) ∧
 RR (Value.slice none (0 : Nat) (0 : Nat)) ∧
 RR (Value.slice none (0 : Nat) (0 : Nat)) ∧
 RR (Value.slice none (0 : Nat) (0 : Nat)) ∧
 RR (0 : Int) ∧
 True) ∧
 (RR (Value.slice none (0 : Nat) (0 : Nat)) ∧
 RR (Value.slice none (0 : Nat) (0 : Nat)) ∧
 RR (Value.slice none (0 : Nat) (0 : Nat)) ∧
 RR (Value.slice none (0 : Nat) (0 : Nat)) ∧
 RR (0 : Int) ∧
 RR (0 : Int) ∧
 True) ∧
 ((0 : Int), (64 : Int), true, false, false, false, false) :: ([] : List (Int × Int × Bool × Bool × Bool × Bool × Bool)) = (((0 : Int), (0 : Int), false, false, false, false, false) :: ([] : List (Int × Int × Bool × Bool × Bool × Bool × Bool))).set (0 : Nat) ((0 : Int), (64 : Int), true, false, false, false, false) ∧
 True) ∧
 x.1 = x.1 ∧
 True ∧
 RR (Value.slice none (0 : Nat) (0 : Nat)) ∧
 (True ∧
 True) ∧
 R32 (R8 (True ∧
 True ∧
 True ∧
 True ∧
 True))) ∧
 (decide (g.2.1 < 2) = false →
 ((((0 : Int) ≤ (0 : Int) ∧
 0 ≤ (↑x.1.length : Int) ∧
 (((([] : List Int), ([] : List Int), (0 : Int), false), ((0 : Int), (64 : Int), true, false, false, false, false) :: ([] : List (Int × Int × Bool × Bool × Bool × Bool × Bool)), g.1.2.2.2.2.2.1, ([] : List Int), (([] : List (List Int)), ([] : List Int)), (0 : Int)), ([] : List (Int × List Int))) = (wholeOf (ypl (List.take (Int.toNat (0 : Int)) x.1)).1, (ypl (List.take (Int.toNat (0 : Int)) x.1)).2)) ∧
 True) ∧
 ((True ∧
 True) ∧
 (True ∧
 True) ∧
 True ∧
 x.1 = x.1 ∧
 RR (↑x.1.length : Int) ∧
 RR (0 : Int) ∧
 True) ∧
 ((RR ([] : List Int) ∧
 RR ([] : List Int) ∧
 RR (0 : Int) ∧
 false = false ∧
 True ∧
 RR g.1.2.2.2.2.2.1 ∧
 True ∧
 RR ([] : List (List Int)) ∧
 RR ([] : List Int) ∧
 RR (0 : Int) ∧
 True) ∧
 ((0 : Int), (64 : Int), true, false, false, false, false) :: ([] : List (Int × Int × Bool × Bool × Bool × Bool × Bool)) = ((0 : Int), (64 : Int), true, false, false, false, false) :: ([] : List (Int × Int × Bool × Bool × Bool × Bool × Bool)) ∧
 RR ([] : List Int) ∧
 RR ([] : List (Int × List Int)) ∧
 (RR (Value.slice none (0 : Nat) (0 : Nat)) ∧
 RR (Value.slice none (0 : Nat) (0 : Nat)) ∧
 RR (Value.slice none (0 : Nat) (0 : Nat)) ∧
 RR (Value.slice none (0 : Nat) (0 : Nat)) ∧
 RR (0 : Int) ∧
 RR (0 : Int) ∧
 True) ∧
 True) ∧
 True) ∧
 ∀ (g : ((List Int × List Int × Int × Bool) × List (Int × Int × Bool × Bool × Bool × Bool × Bool) × List ((List Int × List Int × Int) × (Bool × List (Bool × Bool)) × Bool) × List Int × (List (List Int) × List Int) × Int) × List (Int × List Int) × Int × Unit), 0 ≤ g.2.2.1 ∧
 g.2.2.1 ≤ (↑x.1.length : Int) ∧
 (g.1, g.2.1) = (wholeOf (ypl (List.take g.2.2.1.toNat x.1)).1, (ypl (List.take g.2.2.1.toNat x.1)).2) →
 (((g.1.1.1.length ≤ (9223372036854775807 : Nat) ∧
 ∀ (x : Int), x ∈ g.1.1.1 →
 0 ≤ x ∧
 x ≤ 255) ∧
 (g.1.1.2.1.length ≤ (9223372036854775807 : Nat) ∧
 ∀ (x : Int), x ∈ g.1.1.2.1 →
 0 ≤ x ∧
 x ≤ 255) ∧
 (-9223372036854775808 ≤ g.1.1.2.2.1 ∧
 g.1.1.2.2.1 ≤ 9223372036854775807) ∧
 True) ∧
 (g.1.2.1.length ≤ (9223372036854775807 : Nat) ∧
 ∀ (x : Int × Int × Bool × Bool × Bool × Bool × Bool), x ∈ g.1.2.1 →
 (-9223372036854775808 ≤ x.1 ∧
 x.1 ≤ 9223372036854775807) ∧
 (-9223372036854775808 ≤ x.2.1 ∧
 x.2.1 ≤ 9223372036854775807) ∧
 True ∧
 True ∧
 True ∧
 True ∧
 True) ∧
 (g.1.2.2.1.length = (2 : Nat) ∧
 ∀ (x : (List Int × List Int × Int) × (Bool × List (Bool × Bool)) × Bool), x ∈ g.1.2.2.1 →
 ((x.1.1.length = (4 : Nat) ∧
 ∀ (x_1 : Int), x_1 ∈ x.1.1 →
 0 ≤ x_1 ∧
 x_1 ≤ 18446744073709551615) ∧
 (x.1.2.1.length = (4 : Nat) ∧
 ∀ (x_1 : Int), x_1 ∈ x.1.2.1 →
 0 ≤ x_1 ∧
 x_1 ≤ 18446744073709551615) ∧
 -9223372036854775808 ≤ x.1.2.2 ∧
 x.1.2.2 ≤ 9223372036854775807) ∧
 (True ∧
 x.2.1.2.length ≤ (9223372036854775807 : Nat) ∧
 ∀ (x_1 : Bool × Bool), x_1 ∈ x.2.1.2 →
 True ∧
 True) ∧
 True) ∧
 (g.1.2.2.2.1.length ≤ (9223372036854775807 : Nat) ∧
 ∀ (x : Int), x ∈ g.1.2.2.2.1 →
 0 ≤ x ∧
 x ≤ 255) ∧
 ((g.1.2.2.2.2.1.1.length ≤ (9223372036854775807 : Nat) ∧
 ∀ (x : List Int), x ∈ g.1.2.2.2.2.1.1 →
 x.length ≤ (9223372036854775807 : Nat) ∧
 ∀ (x_1 : Int), x_1 ∈ x →
 0 ≤ x_1 ∧
 x_1 ≤ 255) ∧
 g.1.2.2.2.2.1.2.length ≤ (9223372036854775807 : Nat) ∧
 ∀ (x : Int), x ∈ g.1.2.2.2.2.1.2 →
 0 ≤ x ∧
 x ≤ 255) ∧
 -9223372036854775808 ≤ g.1.2.2.2.2.2 ∧
 g.1.2.2.2.2.2 ≤ 9223372036854775807) ∧
 (g.2.1.length ≤ (9223372036854775807 : Nat) ∧
 ∀ (x : Int × List Int), x ∈ g.2.1 →
 (-9223372036854775808 ≤ x.1 ∧
 x.1 ≤ 9223372036854775807) ∧
 x.2.length ≤ (9223372036854775807 : Nat) ∧
 ∀ (x_1 : Int), x_1 ∈ x.2 →
 0 ≤ x_1 ∧
 x_1 ≤ 255) ∧
 (-9223372036854775808 ≤ g.2.2.1 ∧
 g.2.2.1 ≤ 9223372036854775807) ∧
 True →
 (decide (g.2.2.1 < (↑x.1.length : Int)) = true →
 (0 ≤ g.2.2.1 ∧
 g.2.2.1 < (↑x.1.length : Int)) ∧
 ((!decide ((opAt x.1 g.2.2.1).1 < 1)) = true →
 (!decide ((opAt x.1 g.2.2.1).1 < 1)) = true) ∧
 ((!decide ((opAt x.1 g.2.2.1).1 < 1)) = true →
 (!decide ((opAt x.1 g.2.2.1).1 < 1)) = true) ∧
 (decide ((opAt x.1 g.2.2.1).1 < 1) = false →
 (!decide ((opAt x.1 g.2.2.1).1 < 1)) = true) ∧
 ((decide ((opAt x.1 g.2.2.1).1 < 1) || decide (6 < (opAt x.1 g.2.2.1).1)) = true →
 (g.2.1.length + ((((0 : Int), ([] : List Int)) :: ([] : List (Int × List Int))).set (0 : Nat) ((5 : Int), ([] : List Int))).length ≤ (9223372036854775807 : Nat) ∧
 (g.2.1.length + ((((0 : Int), ([] : List Int)) :: ([] : List (Int × List Int))).set (0 : Nat) ((5 : Int), ([] : List Int))).length + (g.2.1.length + ((((0 : Int), ([] : List Int)) :: ([] : List (Int × List Int))).set (0 : Nat) ((5 : Int), ([] : List Int))).length) / (4 : Nat) + (192 : Nat)) * (32 : Nat) ≤ (281474976710656 : Nat)) ∧
 (-9223372036854775808 ≤ g.2.2.1 + 1 ∧
 g.2.2.1 + 1 ≤ (9223372036854775807 : Int)) ∧
 ((0 ≤ g.2.2.1 + 1 ∧
 g.2.2.1 + 1 ≤ (↑x.1.length : Int) ∧
 (((g.1.1.1, g.1.1.2.1, g.1.1.2.2.1, g.1.1.2.2.2), g.1.2.1, g.1.2.2.1, g.1.2.2.2.1, (g.1.2.2.2.2.1.1, g.1.2.2.2.2.1.2), g.1.2.2.2.2.2), g.2.1 ++ (((0 : Int), ([] : List Int)) :: ([] : List (Int × List Int))).set (0 : Nat) ((5 : Int), ([] : List Int))) = (wholeOf (ypl (List.take (g.2.2.1 + 1).toNat x.1)).1, (ypl (List.take (g.2.2.1 + 1).toNat x.1)).2)) ∧
 ((↑x.1.length : Int) - (g.2.2.1 + 1)).toNat < ((↑x.1.length : Int) - g.2.2.1).toNat) ∧
 ((True ∧
 True) ∧
 (True ∧
 True) ∧
 True ∧
 x.1 = x.1 ∧
 RR (↑x.1.length : Int) ∧
 g.2.2.1 + 1 = g.2.2.1 + 1 ∧
 True) ∧
 ((g.1.1.1 = g.1.1.1 ∧
 RR g.1.1.2.1 ∧
 RR g.1.1.2.2.1 ∧
 RR g.1.1.2.2.2 ∧
 True ∧
 RR g.1.2.2.1 ∧
 True ∧
 RR g.1.2.2.2.2.1.1 ∧
 RR g.1.2.2.2.2.1.2 ∧
 RR g.1.2.2.2.2.2 ∧
 True) ∧
 g.1.2.1 = g.1.2.1 ∧
 RR g.1.2.2.2.1 ∧
 g.2.1 ++ (((0 : Int), ([] : List Int)) :: ([] : List (Int × List Int))).set (0 : Nat) ((5 : Int), ([] : List Int)) = g.2.1 ++ (((0 : Int), ([] : List Int)) :: ([] : List (Int × List Int))).set (0 : Nat) ((5 : Int), ([] : List Int)) ∧
 (RR (Value.slice none (0 : Nat) (0 : Nat)) ∧
 RR (Value.slice none (0 : Nat) (0 : Nat)) ∧
 RR (Value.slice none (0 : Nat) (0 : Nat)) ∧
 RR (Value.slice none (0 : Nat) (0 : Nat)) ∧
 RR (0 : Int) ∧
 RR (0 : Int) ∧
 True) ∧
 True) ∧
 True) ∧
 ((decide ((opAt x.1 g.2.2.1).1 < 1) || decide (6 < (opAt x.1 g.2.2.1).1)) = false →
 (((opAt x.1 g.2.2.1).1 != 1) = true →
 ((opAt x.1 g.2.2.1).1 != 1) = true) ∧
 (((opAt x.1 g.2.2.1).1 != 1) = true →
 ((opAt x.1 g.2.2.1).1 != 1) = true) ∧
 (((opAt x.1 g.2.2.1).1 != 1) = true →
 ((opAt x.1 g.2.2.1).1 != 1) = true) ∧
 (((opAt x.1 g.2.2.1).1 != 1 && (opAt x.1 g.2.2.1).1 != 3) = true →
 ((opAt x.1 g.2.2.1).1 != 1 && (opAt x.1 g.2.2.1).1 != 3) = true) ∧
 (((opAt x.1 g.2.2.1).1 != 1 && (opAt x.1 g.2.2.1).1 != 3) = true →
 ((opAt x.1 g.2.2.1).1 != 1 && (opAt x.1 g.2.2.1).1 != 3) = true) ∧
 (((opAt x.1 g.2.2.1).1 != 1 && (opAt x.1 g.2.2.1).1 != 3) = true →
 ((opAt x.1 g.2.2.1).1 != 1 && (opAt x.1 g.2.2.1).1 != 3) = true) ∧
 (((opAt x.1 g.2.2.1).1 != 1 && (opAt x.1 g.2.2.1).1 != 3 && !decide ((opAt x.1 g.2.2.1).2.1 < 0)) = true →
 ((opAt x.1 g.2.2.1).1 != 1 && (opAt x.1 g.2.2.1).1 != 3 && !decide ((opAt x.1 g.2.2.1).2.1 < 0)) = true) ∧
 (((opAt x.1 g.2.2.1).1 != 1 && (opAt x.1 g.2.2.1).1 != 3 && !decide ((opAt x.1 g.2.2.1).2.1 < 0)) = true →
 ((opAt x.1 g.2.2.1).1 != 1 && (opAt x.1 g.2.2.1).1 != 3 && !decide ((opAt x.1 g.2.2.1).2.1 < 0)) = true) ∧
 (((opAt x.1 g.2.2.1).1 != 1 && (opAt x.1 g.2.2.1).1 != 3) = true →
 ((opAt x.1 g.2.2.1).1 != 1 && (opAt x.1 g.2.2.1).1 != 3) = true ∧
 (decide ((opAt x.1 g.2.2.1).2.1 < 0) = false →
 ((opAt x.1 g.2.2.1).1 != 1 && (opAt x.1 g.2.2.1).1 != 3 && !decide ((opAt x.1 g.2.2.1).2.1 < 0)) = true)) ∧
 (((opAt x.1 g.2.2.1).1 != 1 && (opAt x.1 g.2.2.1).1 != 3) = true →
 ((opAt x.1 g.2.2.1).1 != 1 && (opAt x.1 g.2.2.1).1 != 3) = true) ∧
 (((opAt x.1 g.2.2.1).1 != 1 && (opAt x.1 g.2.2.1).1 != 3 && (decide ((opAt x.1 g.2.2.1).2.1 < 0) || decide (2 ≤ (opAt x.1 g.2.2.1).2.1))) = true →
 (g.2.1.length + ((((0 : Int), ([] : List Int)) :: ([] : List (Int × List Int))).set (0 : Nat) ((2 : Int), ([] : List Int))).length ≤ (9223372036854775807 : Nat) ∧
 (g.2.1.length + ((((0 : Int), ([] : List Int)) :: ([] : List (Int × List Int))).set (0 : Nat) ((2 : Int), ([] : List Int))).length + (g.2.1.length + ((((0 : Int), ([] : List Int)) :: ([] : List (Int × List Int))).set (0 : Nat) ((2 : Int), ([] : List Int))).length) / (4 : Nat) + (192 : Nat)) * (32 : Nat) ≤ (281474976710656 : Nat)) ∧
 (-9223372036854775808 ≤ g.2.2.1 + 1 ∧
 g.2.2.1 + 1 ≤ (9223372036854775807 : Int)) ∧
 ((0 ≤ g.2.2.1 + 1 ∧
 g.2.2.1 + 1 ≤ (↑x.1.length : Int) ∧
 (((g.1.1.1, g.1.1.2.1, g.1.1.2.2.1, g.1.1.2.2.2), g.1.2.1, g.1.2.2.1, g.1.2.2.2.1, (g.1.2.2.2.2.1.1, g.1.2.2.2.2.1.2), g.1.2.2.2.2.2), g.2.1 ++ (((0 : Int), ([] : List Int)) :: ([] : List (Int × List Int))).set (0 : Nat) ((2 : Int), ([] : List Int))) = (wholeOf (ypl (List.take (g.2.2.1 + 1).toNat x.1)).1, (ypl (List.take (g.2.2.1 + 1).toNat x.1)).2)) ∧
 ((↑x.1.length : Int) - (g.2.2.1 + 1)).toNat < ((↑x.1.length : Int) - g.2.2.1).toNat) ∧
 ((True ∧
 True) ∧
 (True ∧
 True) ∧
 True ∧
 x.1 = x.1 ∧
 RR (↑x.1.length : Int) ∧
 g.2.2.1 + 1 = g.2.2.1 + 1 ∧
 True) ∧
 ((g.1.1.1 = g.1.1.1 ∧
 RR g.1.1.2.1 ∧
 RR g.1.1.2.2.1 ∧
 RR g.1.1.2.2.2 ∧
 True ∧
 RR g.1.2.2.1 ∧
 True ∧
 RR g.1.2.2.2.2.1.1 ∧
 RR g.1.2.2.2.2.1.2 ∧
 RR g.1.2.2.2.2.2 ∧
 True) ∧
 g.1.2.1 = g.1.2.1 ∧
 RR g.1.2.2.2.1 ∧
 g.2.1 ++ (((0 : Int), ([] : List Int)) :: ([] : List (Int × List Int))).set (0 : Nat) ((2 : Int), ([] : List Int)) = g.2.1 ++ (((0 : Int), ([] : List Int)) :: ([] : List (Int × List Int))).set (0 : Nat) ((2 : Int), ([] : List Int)) ∧
 (RR (Value.slice none (0 : Nat) (0 : Nat)) ∧
 RR (Value.slice none (0 : Nat) (0 : Nat)) ∧
 RR (Value.slice none (0 : Nat) (0 : Nat)) ∧
 RR (Value.slice none (0 : Nat) (0 : Nat)) ∧
 RR (0 : Int) ∧
 RR (0 : Int) ∧
 True) ∧
 True) ∧
 True) ∧
 (((opAt x.1 g.2.2.1).1 != 1 && (opAt x.1 g.2.2.1).1 != 3 && (decide ((opAt x.1 g.2.2.1).2.1 < 0) || decide (2 ≤ (opAt x.1 g.2.2.1).2.1))) = false →
 ((RR ((opAt x.1 g.2.2.1).1) ∧
 True) ∧
 ((True ∧
 True) ∧
 (True ∧
 True) ∧
 (True ∧
 True) ∧
 RR (Value.func (Fn.func (13 : Nat)) ([] : List Value).toArray ([] : List Value).toArray) ∧
 RR ((opAt x.1 g.2.2.1).1) ∧
 True) ∧
 ((RR (Value.slice none (0 : Nat) (0 : Nat)) ∧
 RR (Value.slice none (0 : Nat) (0 : Nat)) ∧
 RR (Value.slice none (0 : Nat) (0 : Nat)) ∧
 RR (Value.slice none (0 : Nat) (0 : Nat)) ∧
 RR (0 : Int) ∧
 RR (0 : Int) ∧
 True) ∧
 (g.1.1.1 = g.1.1.1 ∧
 RR g.1.1.2.1 ∧
 RR g.1.1.2.2.1 ∧
 RR g.1.1.2.2.2 ∧
 True ∧
 RR g.1.2.2.1 ∧
 True ∧
 RR g.1.2.2.2.2.1.1 ∧
 RR g.1.2.2.2.2.1.2 ∧
 RR g.1.2.2.2.2.2 ∧
 True) ∧
 g.1.2.1 = g.1.2.1 ∧
 RR g.1.2.2.2.1 ∧
 g.2.1 = g.2.1 ∧
 (RR ((opAt x.1 g.2.2.1).1) ∧
 RR ((opAt x.1 g.2.2.1).2.1) ∧
 RR ((opAt x.1 g.2.2.1).2.2.1) ∧
 RR ((opAt x.1 g.2.2.1).2.2.2) ∧
 True) ∧
 (RR ((opAt x.1 g.2.2.1).1) ∧
 RR ((opAt x.1 g.2.2.1).2.1) ∧
 RR ((opAt x.1 g.2.2.1).2.2.1) ∧
 RR ((opAt x.1 g.2.2.1).2.2.2) ∧
 True) ∧
 (RR (0 : Int) ∧
 RR (Value.slice none (0 : Nat) (0 : Nat)) ∧
 True) ∧
 True) ∧
 True ∧
 True ∧
 True ∧
 (True ∧
 True) ∧
 (True ∧
 True) ∧
 True ∧
 True ∧
 (True ∧
 True) ∧
 True ∧
 x.1 = x.1 ∧
 RR (↑x.1.length : Int) ∧
 g.2.2.1 = g.2.2.1 ∧
 true = true ∧
 True ∧
 (RR ((opAt x.1 g.2.2.1).1) ∧
 RR ((opAt x.1 g.2.2.1).2.1) ∧
 RR ((opAt x.1 g.2.2.1).2.2.1) ∧
 RR ((opAt x.1 g.2.2.1).2.2.2) ∧
 True) ∧
 True ∧
 (True ∧
 True) ∧
 (RR ((opAt x.1 g.2.2.1).1) ∧
 RR ((opAt x.1 g.2.2.1).2.1) ∧
 RR ((opAt x.1 g.2.2.1).2.2.1) ∧
 RR ((opAt x.1 g.2.2.1).2.2.2) ∧
 True) ∧
 R8 (R8 (R8 (True ∧
 True ∧
 True ∧
 True ∧
 True ∧
 True ∧
 True)))) ∧
 ∀ (g_1 : Int × Unit), g_1.1 = (opAt x.1 g.2.2.1).1 →
 (-9223372036854775808 ≤ g_1.1 ∧
 g_1.1 ≤ 9223372036854775807) ∧
 True →
 ((g_1.1 == 1) = true →
 Holds True ∧
 ((((Uart.step (g.1.1.1, g.1.1.2.1, g.1.1.2.2.1, g.1.1.2.2.2) (1 : Int) (opAt x.1 g.2.2.1).2.2.2).2.2.1 == 0) = true →
 ((RR ((Uart.step (g.1.1.1, g.1.1.2.1, g.1.1.2.2.1, g.1.1.2.2.2) (1 : Int) (opAt x.1 g.2.2.1).2.2.2).1.1, (Uart.step (g.1.1.1, g.1.1.2.1, g.1.1.2.2.1, g.1.1.2.2.2) (1 : Int) (opAt x.1 g.2.2.1).2.2.2).1.2.1, (Uart.step (g.1.1.1, g.1.1.2.1, g.1.1.2.2.1, g.1.1.2.2.2) (1 : Int) (opAt x.1 g.2.2.1).2.2.2).1.2.2.1, (Uart.step (g.1.1.1, g.1.1.2.1, g.1.1.2.2.1, g.1.1.2.2.2) (1 : Int) (opAt x.1 g.2.2.1).2.2.2).1.2.2.2) ∧
 True) ∧
 (RR ((Uart.step (g.1.1.1, g.1.1.2.1, g.1.1.2.2.1, g.1.1.2.2.2) (1 : Int) (opAt x.1 g.2.2.1).2.2.2).2.1) ∧
 RR ((Uart.step (g.1.1.1, g.1.1.2.1, g.1.1.2.2.1, g.1.1.2.2.2) (1 : Int) (opAt x.1 g.2.2.1).2.2.2).2.2.1) ∧
 (True ∧
 True) ∧
 True) ∧
 ((RR ((Uart.step (g.1.1.1, g.1.1.2.1, g.1.1.2.2.1, g.1.1.2.2.2) (1 : Int) (opAt x.1 g.2.2.1).2.2.2).1.1) ∧
 RR ((Uart.step (g.1.1.1, g.1.1.2.1, g.1.1.2.2.1, g.1.1.2.2.2) (1 : Int) (opAt x.1 g.2.2.1).2.2.2).1.2.1) ∧
 RR ((Uart.step (g.1.1.1, g.1.1.2.1, g.1.1.2.2.1, g.1.1.2.2.2) (1 : Int) (opAt x.1 g.2.2.1).2.2.2).1.2.2.1) ∧
 RR ((Uart.step (g.1.1.1, g.1.1.2.1, g.1.1.2.2.1, g.1.1.2.2.2) (1 : Int) (opAt x.1 g.2.2.1).2.2.2).1.2.2.2) ∧
 True ∧
 RR g.1.2.2.1 ∧
 True ∧
 RR g.1.2.2.2.2.1.1 ∧
 RR g.1.2.2.2.2.1.2 ∧
 RR g.1.2.2.2.2.2 ∧
 True) ∧
 (RR ((opAt x.1 g.2.2.1).1) ∧
 RR ((opAt x.1 g.2.2.1).2.1) ∧
 RR ((opAt x.1 g.2.2.1).2.2.1) ∧
 RR ((opAt x.1 g.2.2.1).2.2.2) ∧
 True) ∧
 (RR (0 : Int) ∧
 RR (Value.slice none (0 : Nat) (0 : Nat)) ∧
 True) ∧
 (RR (Value.slice none (0 : Nat) (0 : Nat)) ∧
 RR (Value.slice none (0 : Nat) (0 : Nat)) ∧
 RR (Value.slice none (0 : Nat) (0 : Nat)) ∧
 RR (Value.slice none (0 : Nat) (0 : Nat)) ∧
 RR (0 : Int) ∧
 RR (0 : Int) ∧
 True) ∧
 g.2.1 = g.2.1 ∧
 (RR ((opAt x.1 g.2.2.1).1) ∧
 RR ((opAt x.1 g.2.2.1).2.1) ∧
 RR ((opAt x.1 g.2.2.1).2.2.1) ∧
 RR ((opAt x.1 g.2.2.1).2.2.2) ∧
 True) ∧
 g.1.2.1 = g.1.2.1 ∧
 RR g.1.2.2.2.1 ∧
 True) ∧
 (True ∧
 True) ∧
 True ∧
 True ∧
 (True ∧
 True) ∧
 (True ∧
 True) ∧
 RR (Value.func (Fn.func (13 : Nat)) ([] : List Value).toArray ([] : List Value).toArray) ∧
 R32 (True ∧
 True ∧
 True ∧
 True ∧
 True ∧
 g_1.1 = g_1.1 ∧
 true = true ∧
 RR (g_1.1 == 1) ∧
 True ∧
 (True ∧
 True) ∧
 (True ∧
 True) ∧
 RR ((opAt x.1 g.2.2.1).2.2.2) ∧
 (RR (1 : Int) ∧
 RR ((opAt x.1 g.2.2.1).2.2.2) ∧
 True) ∧
 R32 (R32 (R8 ((True ∧
 True) ∧
 (True ∧
 True) ∧
 True ∧
 True ∧
 (True ∧
 True) ∧
 True ∧
 x.1 = x.1 ∧
 RR (↑x.1.length : Int) ∧
 g.2.2.1 = g.2.2.1 ∧
 true = true ∧
 True ∧
 (RR ((opAt x.1 g.2.2.1).1) ∧
 RR ((opAt x.1 g.2.2.1).2.1) ∧
 RR ((opAt x.1 g.2.2.1).2.2.1) ∧
 RR ((opAt x.1 g.2.2.1).2.2.2) ∧
 True) ∧
 True ∧
 (True ∧
 True) ∧
 (RR ((opAt x.1 g.2.2.1).1) ∧
 RR ((opAt x.1 g.2.2.1).2.1) ∧
 RR ((opAt x.1 g.2.2.1).2.2.1) ∧
 RR ((opAt x.1 g.2.2.1).2.2.2) ∧
 True) ∧
 R8 (R8 (R8 (True ∧
 True ∧
 True ∧
 True ∧
 True ∧
 True ∧
 True)))))))) ∧
 ∀ (g_2 : ((List Int × List Int × Int × Bool) × Unit × Unit × Unit × Unit × Unit × Unit) × Unit), g_2.1.1 = ((Uart.step (g.1.1.1, g.1.1.2.1, g.1.1.2.2.1, g.1.1.2.2.2) (1 : Int) (opAt x.1 g.2.2.1).2.2.2).1.1, (Uart.step (g.1.1.1, g.1.1.2.1, g.1.1.2.2.1, g.1.1.2.2.2) (1 : Int) (opAt x.1 g.2.2.1).2.2.2).1.2.1, (Uart.step (g.1.1.1, g.1.1.2.1, g.1.1.2.2.1, g.1.1.2.2.2) (1 : Int) (opAt x.1 g.2.2.1).2.2.2).1.2.2.1, (Uart.step (g.1.1.1, g.1.1.2.1, g.1.1.2.2.1, g.1.1.2.2.2) (1 : Int) (opAt x.1 g.2.2.1).2.2.2).1.2.2.2) →
 (((g_2.1.1.1.length ≤ (9223372036854775807 : Nat) ∧
 ∀ (x : Int), x ∈ g_2.1.1.1 →
 0 ≤ x ∧
 x ≤ 255) ∧
 (g_2.1.1.2.1.length ≤ (9223372036854775807 : Nat) ∧
 ∀ (x : Int), x ∈ g_2.1.1.2.1 →
 0 ≤ x ∧
 x ≤ 255) ∧
 (-9223372036854775808 ≤ g_2.1.1.2.2.1 ∧
 g_2.1.1.2.2.1 ≤ 9223372036854775807) ∧
 True) ∧
 True ∧
 True ∧
 True ∧
 True ∧
 True ∧
 True) ∧
 True →
 (g_2.1.1.2.2.2 = true →
 Holds True ∧
 (((Line.step g.1.2.1 (1 : Int) (0 : Int)).2.2.1 != 0) = true →
 ∃ (g_3 : ((List Int × List Int × Int × Bool) × List (Int × Int × Bool × Bool × Bool × Bool × Bool) × List ((List Int × List Int × Int) × (Bool × List (Bool × Bool)) × Bool) × Unit × Unit × Unit × Unit) × Unit), ((((g_3.1.1, g_3.1.2.1, g_3.1.2.2.1) = if (Uart.step (g.1.1.1, g.1.1.2.1, g.1.1.2.2.1, g.1.1.2.2.2) (1 : Int) (opAt x.1 g.2.2.1).2.2.2).2.2.1 = 0 then (((Uart.step (g.1.1.1, g.1.1.2.1, g.1.1.2.2.1, g.1.1.2.2.2) (1 : Int) (opAt x.1 g.2.2.1).2.2.2).1.1, (Uart.step (g.1.1.1, g.1.1.2.1, g.1.1.2.2.1, g.1.1.2.2.2) (1 : Int) (opAt x.1 g.2.2.1).2.2.2).1.2.1, (Uart.step (g.1.1.1, g.1.1.2.1, g.1.1.2.2.1, g.1.1.2.2.2) (1 : Int) (opAt x.1 g.2.2.1).2.2.2).1.2.2.1, (Uart.step (g.1.1.1, g.1.1.2.1, g.1.1.2.2.1, g.1.1.2.2.2) (1 : Int) (opAt x.1 g.2.2.1).2.2.2).1.2.2.2), pinF g.1.2.1 g.1.2.2.1 (if (Uart.step (g.1.1.1, g.1.1.2.1, g.1.1.2.2.1, g.1.1.2.2.2) (1 : Int) (opAt x.1 g.2.2.1).2.2.2).1.2.2.2 = true then (1 : Int) else (2 : Int))) else ((g.1.1.1, g.1.1.2.1, g.1.1.2.2.1, g.1.1.2.2.2), g.1.2.1, g.1.2.2.1)) ∧
 (((g_3.1.1.1.length ≤ (9223372036854775807 : Nat) ∧
 ∀ (x : Int), x ∈ g_3.1.1.1 →
 0 ≤ x ∧
 x ≤ 255) ∧
 (g_3.1.1.2.1.length ≤ (9223372036854775807 : Nat) ∧
 ∀ (x : Int), x ∈ g_3.1.1.2.1 →
 0 ≤ x ∧
 x ≤ 255) ∧
 (-9223372036854775808 ≤ g_3.1.1.2.2.1 ∧
 g_3.1.1.2.2.1 ≤ 9223372036854775807) ∧
 True) ∧
 (g_3.1.2.1.length ≤ (9223372036854775807 : Nat) ∧
 ∀ (x : Int × Int × Bool × Bool × Bool × Bool × Bool), x ∈ g_3.1.2.1 →
 (-9223372036854775808 ≤ x.1 ∧
 x.1 ≤ 9223372036854775807) ∧
 (-9223372036854775808 ≤ x.2.1 ∧
 x.2.1 ≤ 9223372036854775807) ∧
 True ∧
 True ∧
 True ∧
 True ∧
 True) ∧
 (g_3.1.2.2.1.length = (2 : Nat) ∧
 ∀ (x : (List Int × List Int × Int) × (Bool × List (Bool × Bool)) × Bool), x ∈ g_3.1.2.2.1 →
 ((x.1.1.length = (4 : Nat) ∧
 ∀ (x_1 : Int), x_1 ∈ x.1.1 →
 0 ≤ x_1 ∧
 x_1 ≤ 18446744073709551615) ∧
 (x.1.2.1.length = (4 : Nat) ∧
 ∀ (x_1 : Int), x_1 ∈ x.1.2.1 →
 0 ≤ x_1 ∧
 x_1 ≤ 18446744073709551615) ∧
 -9223372036854775808 ≤ x.1.2.2 ∧
 x.1.2.2 ≤ 9223372036854775807) ∧
 (True ∧
 x.2.1.2.length ≤ (9223372036854775807 : Nat) ∧
 ∀ (x_1 : Bool × Bool), x_1 ∈ x.2.1.2 →
 True ∧
 True) ∧
 True) ∧
 True ∧
 True ∧
 True ∧
 True) ∧
 True) ∧
 True) ∧
 ((True ∧
 True) ∧
 RR ((Uart.step (g.1.1.1, g.1.1.2.1, g.1.1.2.2.1, g.1.1.2.2.2) (1 : Int) (opAt x.1 g.2.2.1).2.2.2).2.1) ∧
 RR ((Uart.step (g.1.1.1, g.1.1.2.1, g.1.1.2.2.1, g.1.1.2.2.2) (1 : Int) (opAt x.1 g.2.2.1).2.2.2).2.2.1) ∧
 True) ∧
 ((g_2.1.1.1 = g_3.1.1.1 ∧
 g_2.1.1.2.1 = g_3.1.1.2.1 ∧
 g_2.1.1.2.2.1 = g_3.1.1.2.2.1 ∧
 g_2.1.1.2.2.2 = g_3.1.1.2.2.2 ∧
 False ∧
 g.1.2.2.1 = g_3.1.2.2.1 ∧
 True ∧
 RR g.1.2.2.2.2.1.1 ∧
 RR g.1.2.2.2.2.1.2 ∧
 RR g.1.2.2.2.2.2 ∧
 True) ∧
 False ∧
 (RR ((opAt x.1 g.2.2.1).1) ∧
 RR ((opAt x.1 g.2.2.1).2.1) ∧
 RR ((opAt x.1 g.2.2.1).2.2.1) ∧
 RR ((opAt x.1 g.2.2.1).2.2.2) ∧
 True) ∧
 (RR (0 : Int) ∧
 RR (Value.slice none (0 : Nat) (0 : Nat)) ∧
 True) ∧
 (RR (Value.slice none (0 : Nat) (0 : Nat)) ∧
 RR (Value.slice none (0 : Nat) (0 : Nat)) ∧
 RR (Value.slice none (0 : Nat) (0 : Nat)) ∧
 RR (Value.slice none (0 : Nat) (0 : Nat)) ∧
 RR (0 : Int) ∧
 RR (0 : Int) ∧
 True) ∧
 g.2.1 = g.2.1 ∧
 (RR ((opAt x.1 g.2.2.1).1) ∧
 RR ((opAt x.1 g.2.2.1).2.1) ∧
 RR ((opAt x.1 g.2.2.1).2.2.1) ∧
 RR ((opAt x.1 g.2.2.1).2.2.2) ∧
 True) ∧
 RR g.1.2.2.2.1 ∧
 True) ∧
 (True ∧
 True) ∧
 True ∧
 True ∧
 (True ∧
 True) ∧
 (True ∧
 True) ∧
 RR (Value.func (Fn.func (13 : Nat)) ([] : List Value).toArray ([] : List Value).toArray) ∧
 R32 (True ∧
 True ∧
 True ∧
 True ∧
 True ∧
 g_1.1 = g_1.1 ∧
 true = true ∧
 RR (g_1.1 == 1) ∧
 True ∧
 (True ∧
 True) ∧
 (True ∧
 True) ∧
 RR ((opAt x.1 g.2.2.1).2.2.2) ∧
 (RR (1 : Int) ∧
 RR ((opAt x.1 g.2.2.1).2.2.2) ∧
 True) ∧
 R32 (R32 (R8 ((True ∧
 True) ∧
 (True ∧
 True) ∧
 True ∧
 True ∧
 (True ∧
 True) ∧
 True ∧
 x.1 = x.1 ∧
 RR (↑x.1.length : Int) ∧
 g.2.2.1 = g.2.2.1 ∧
 true = true ∧
 True ∧
 (RR ((opAt x.1 g.2.2.1).1) ∧
 RR ((opAt x.1 g.2.2.1).2.1) ∧
 RR ((opAt x.1 g.2.2.1).2.2.1) ∧
 RR ((opAt x.1 g.2.2.1).2.2.2) ∧
 True) ∧
 True ∧
 (True ∧
 True) ∧
 (RR ((opAt x.1 g.2.2.1).1) ∧
 RR ((opAt x.1 g.2.2.1).2.1) ∧
 RR ((opAt x.1 g.2.2.1).2.2.1) ∧
 RR ((opAt x.1 g.2.2.1).2.2.2) ∧
 True) ∧
 R8 (R8 (R8 (True ∧
 True ∧
 True ∧
 True ∧
 True ∧
 True ∧
 True)))))))) ∧
 (((Line.step g.1.2.1 (1 : Int) (0 : Int)).2.2.1 != 0) = false →
 (((RR ((Line.step g.1.2.1 (1 : Int) (0 : Int)).2.1) ∧
 (Line.step g.1.2.1 (1 : Int) (0 : Int)).1 = (Line.step g.1.2.1 (1 : Int) (0 : Int)).1) ∧
 True) ∧
 (RR ((Line.step g.1.2.1 (1 : Int) (0 : Int)).2.1) ∧
 (True ∧
 True) ∧
 True) ∧
 ((RR g_2.1.1.1 ∧
 RR g_2.1.1.2.1 ∧
 RR g_2.1.1.2.2.1 ∧
 RR g_2.1.1.2.2.2 ∧
 True ∧
 RR g.1.2.2.1 ∧
 True ∧
 RR g.1.2.2.2.2.1.1 ∧
 RR g.1.2.2.2.2.1.2 ∧
 RR g.1.2.2.2.2.2 ∧
 True) ∧
 RR ((Line.step g.1.2.1 (1 : Int) (0 : Int)).1) ∧
 (RR ((opAt x.1 g.2.2.1).1) ∧
 RR ((opAt x.1 g.2.2.1).2.1) ∧
 RR ((opAt x.1 g.2.2.1).2.2.1) ∧
 RR ((opAt x.1 g.2.2.1).2.2.2) ∧
 True) ∧
 (RR (0 : Int) ∧
 RR (Value.slice none (0 : Nat) (0 : Nat)) ∧
 True) ∧
 (RR (Value.slice none (0 : Nat) (0 : Nat)) ∧
 RR (Value.slice none (0 : Nat) (0 : Nat)) ∧
 RR (Value.slice none (0 : Nat) (0 : Nat)) ∧
 RR (Value.slice none (0 : Nat) (0 : Nat)) ∧
 RR (0 : Int) ∧
 RR (0 : Int) ∧
 True) ∧
 g.2.1 = g.2.1 ∧
 (RR ((opAt x.1 g.2.2.1).1) ∧
 RR ((opAt x.1 g.2.2.1).2.1) ∧
 RR ((opAt x.1 g.2.2.1).2.2.1) ∧
 RR ((opAt x.1 g.2.2.1).2.2.2) ∧
 True) ∧
 RR g.1.2.2.2.1 ∧
 True) ∧
 (True ∧
 True) ∧
 True ∧
 (True ∧
 True) ∧
 (True ∧
 True) ∧
 (True ∧
 True) ∧
 (True ∧
 True) ∧
 true = true ∧
 (True ∧
 True) ∧
 True ∧
 True ∧
 True ∧
 (True ∧
 True) ∧
 True ∧
 True ∧
 True ∧
 True ∧
 True ∧
 True ∧
 RR ((Uart.step (g.1.1.1, g.1.1.2.1, g.1.1.2.2.1, g.1.1.2.2.2) (1 : Int) (opAt x.1 g.2.2.1).2.2.2).2.1) ∧
 RR ((Uart.step (g.1.1.1, g.1.1.2.1, g.1.1.2.2.1, g.1.1.2.2.2) (1 : Int) (opAt x.1 g.2.2.1).2.2.2).2.2.1) ∧
 R8 (R8 ((True ∧
 True) ∧
 True ∧
 True ∧
 True ∧
 (True ∧
 True) ∧
 True ∧
 True ∧
 (True ∧
 True) ∧
 (True ∧
 True) ∧
 RR (Value.func (Fn.func (13 : Nat)) ([] : List Value).toArray ([] : List Value).toArray) ∧
 R32 (True ∧
 True ∧
 True ∧
 True ∧
 True ∧
 g_1.1 = g_1.1 ∧
 true = true ∧
 RR (g_1.1 == 1) ∧
 True ∧
 (True ∧
 True) ∧
 (True ∧
 True) ∧
 RR ((opAt x.1 g.2.2.1).2.2.2) ∧
 (RR (1 : Int) ∧
 RR ((opAt x.1 g.2.2.1).2.2.2) ∧
 True) ∧
 R32 (R32 (R8 ((True ∧
 True) ∧
 (True ∧
 True) ∧
 True ∧
 True ∧
 (True ∧
 True) ∧
 True ∧
 x.1 = x.1 ∧
 RR (↑x.1.length : Int) ∧
 g.2.2.1 = g.2.2.1 ∧
 true = true ∧
 True ∧
 (RR ((opAt x.1 g.2.2.1).1) ∧
 RR ((opAt x.1 g.2.2.1).2.1) ∧
 RR ((opAt x.1 g.2.2.1).2.2.1) ∧
 RR ((opAt x.1 g.2.2.1).2.2.2) ∧
 True) ∧
 True ∧
 (True ∧
 True) ∧
 (RR ((opAt x.1 g.2.2.1).1) ∧
 RR ((opAt x.1 g.2.2.1).2.1) ∧
 RR ((opAt x.1 g.2.2.1).2.2.1) ∧
 RR ((opAt x.1 g.2.2.1).2.2.2) ∧
 True) ∧
 R8 (R8 (R8 (True ∧
 True ∧
 True ∧
 True ∧
 True ∧
 True ∧
 True)))))))))) ∧
 ∀ (g_3 : List (Int × Int × Int) × (Unit × Unit × Unit × Unit × List (Int × Int × Bool × Bool × Bool × Bool × Bool) × Unit × Unit × Unit × Unit × Unit) × Unit), g_3.1 = (Line.step g.1.2.1 (1 : Int) (0 : Int)).2.1 ∧
 g_3.2.1.2.2.2.2.1 = (Line.step g.1.2.1 (1 : Int) (0 : Int)).1 →
 (g_3.1.length ≤ (9223372036854775807 : Nat) ∧
 ∀ (x : Int × Int × Int), x ∈ g_3.1 →
 (-9223372036854775808 ≤ x.1 ∧
 x.1 ≤ 9223372036854775807) ∧
 (-9223372036854775808 ≤ x.2.1 ∧
 x.2.1 ≤ 9223372036854775807) ∧
 -9223372036854775808 ≤ x.2.2 ∧
 x.2.2 ≤ 9223372036854775807) ∧
 (True ∧
 True ∧
 True ∧
 True ∧
 (g_3.2.1.2.2.2.2.1.length ≤ (9223372036854775807 : Nat) ∧
 ∀ (x : Int × Int × Bool × Bool × Bool × Bool × Bool), x ∈ g_3.2.1.2.2.2.2.1 →
 (-9223372036854775808 ≤ x.1 ∧
 x.1 ≤ 9223372036854775807) ∧
 (-9223372036854775808 ≤ x.2.1 ∧
 x.2.1 ≤ 9223372036854775807) ∧
 True ∧
 True ∧
 True ∧
 True ∧
 True) ∧
 True ∧
 True ∧
 True ∧
 True ∧
 True) ∧
 True →
 ((((0 : Int) ≤ (0 : Int) ∧
 0 ≤ (↑g_3.1.length : Int) ∧
 g.1.2.2.1 = List.foldl ask1 g.1.2.2.1 (List.take (Int.toNat (0 : Int)) g_3.1)) ∧
 True) ∧
 ((True ∧
 True) ∧
 g_3.1 = g_3.1 ∧
 RR (↑g_3.1.length : Int) ∧
 RR (0 : Int) ∧
 True) ∧
 ((RR g_2.1.1.1 ∧
 RR g_2.1.1.2.1 ∧
 RR g_2.1.1.2.2.1 ∧
 RR g_2.1.1.2.2.2 ∧
 True ∧
 RR g.1.2.2.1 ∧
 True ∧
 RR g.1.2.2.2.2.1.1 ∧
 RR g.1.2.2.2.2.1.2 ∧
 RR g.1.2.2.2.2.2 ∧
 True) ∧
 (RR ((opAt x.1 g.2.2.1).1) ∧
 RR ((opAt x.1 g.2.2.1).2.1) ∧
 RR ((opAt x.1 g.2.2.1).2.2.1) ∧
 RR ((opAt x.1 g.2.2.1).2.2.2) ∧
 True) ∧
 (RR (0 : Int) ∧
 RR (Value.slice none (0 : Nat) (0 : Nat)) ∧
 True) ∧
 (RR (Value.slice none (0 : Nat) (0 : Nat)) ∧
 RR (Value.slice none (0 : Nat) (0 : Nat)) ∧
 RR (Value.slice none (0 : Nat) (0 : Nat)) ∧
 RR (Value.slice none (0 : Nat) (0 : Nat)) ∧
 RR (0 : Int) ∧
 RR (0 : Int) ∧
 True) ∧
 g.2.1 = g.2.1 ∧
 (RR ((opAt x.1 g.2.2.1).1) ∧
 RR ((opAt x.1 g.2.2.1).2.1) ∧
 RR ((opAt x.1 g.2.2.1).2.2.1) ∧
 RR ((opAt x.1 g.2.2.1).2.2.2) ∧
 True) ∧
 RR g_3.2.1.2.2.2.2.1 ∧
 RR g.1.2.2.2.1 ∧
 True) ∧
 (True ∧
 True) ∧
 True ∧
 (True ∧
 True) ∧
 (True ∧
 True) ∧
 (True ∧
 True) ∧
 (True ∧
 True) ∧
 true = true ∧
 (True ∧
 True) ∧
 True ∧
 True ∧
 True ∧
 (True ∧
 True) ∧
 True ∧
 True ∧
 True ∧
 True ∧
 True ∧
 True ∧
 RR ((Uart.step (g.1.1.1, g.1.1.2.1, g.1.1.2.2.1, g.1.1.2.2.2) (1 : Int) (opAt x.1 g.2.2.1).2.2.2).2.1) ∧
 RR ((Uart.step (g.1.1.1, g.1.1.2.1, g.1.1.2.2.1, g.1.1.2.2.2) (1 : Int) (opAt x.1 g.2.2.1).2.2.2).2.2.1) ∧
 R8 (R8 ((True ∧
 True) ∧
 True ∧
 True ∧
 True ∧
 (True ∧
 True) ∧
 True ∧
 True ∧
 (True ∧
 True) ∧
 (True ∧
 True) ∧
 RR (Value.func (Fn.func (13 : Nat)) ([] : List Value).toArray ([] : List Value).toArray) ∧
 R32 (True ∧
 True ∧
 True ∧
 True ∧
 True ∧
 g_1.1 = g_1.1 ∧
 true = true ∧
 RR (g_1.1 == 1) ∧
 True ∧
 (True ∧
 True) ∧
 (True ∧
 True) ∧
 RR ((opAt x.1 g.2.2.1).2.2.2) ∧
 (RR (1 : Int) ∧
 RR ((opAt x.1 g.2.2.1).2.2.2) ∧
 True) ∧
 R32 (R32 (R8 ((True ∧
 True) ∧
 (True ∧
 True) ∧
 True ∧
 True ∧
 (True ∧
 True) ∧
 True ∧
 x.1 = x.1 ∧
 RR (↑x.1.length : Int) ∧
 g.2.2.1 = g.2.2.1 ∧
 true = true ∧
 True ∧
 (RR ((opAt x.1 g.2.2.1).1) ∧
 RR ((opAt x.1 g.2.2.1).2.1) ∧
 RR ((opAt x.1 g.2.2.1).2.2.1) ∧
 RR ((opAt x.1 g.2.2.1).2.2.2) ∧
 True) ∧
 True ∧
 (True ∧
 True) ∧
 (RR ((opAt x.1 g.2.2.1).1) ∧
 RR ((opAt x.1 g.2.2.1).2.1) ∧
 RR ((opAt x.1 g.2.2.1).2.2.1) ∧
 RR ((opAt x.1 g.2.2.1).2.2.2) ∧
 True) ∧
 R8 (R8 (R8 (True ∧
 True ∧
 True ∧
 True ∧
 True ∧
 True ∧
 True)))))))))) ∧
 ∀ (g_4 : (Unit × Unit × Unit × Unit × Unit × List ((List Int × List Int × Int) × (Bool × List (Bool × Bool)) × Bool) × Unit × Unit × Unit × Unit) × Int × Unit), 0 ≤ g_4.2.1 ∧
 g_4.2.1 ≤ (↑g_3.1.length : Int) ∧
 g_4.1.2.2.2.2.2.1 = List.foldl ask1 g.1.2.2.1 (List.take g_4.2.1.toNat g_3.1) →
 (True ∧
 True ∧
 True ∧
 True ∧
 True ∧
 (g_4.1.2.2.2.2.2.1.length = (2 : Nat) ∧
 ∀ (x : (List Int × List Int × Int) × (Bool × List (Bool × Bool)) × Bool), x ∈ g_4.1.2.2.2.2.2.1 →
 ((x.1.1.length = (4 : Nat) ∧
 ∀ (x_1 : Int), x_1 ∈ x.1.1 →
 0 ≤ x_1 ∧
 x_1 ≤ 18446744073709551615) ∧
 (x.1.2.1.length = (4 : Nat) ∧
 ∀ (x_1 : Int), x_1 ∈ x.1.2.1 →
 0 ≤ x_1 ∧
 x_1 ≤ 18446744073709551615) ∧
 -9223372036854775808 ≤ x.1.2.2 ∧
 x.1.2.2 ≤ 9223372036854775807) ∧
 (True ∧
 x.2.1.2.length ≤ (9223372036854775807 : Nat) ∧
 ∀ (x_1 : Bool × Bool), x_1 ∈ x.2.1.2 →
 True ∧
 True) ∧
 True) ∧
 True ∧
 True ∧
 True ∧
 True) ∧
 (-9223372036854775808 ≤ g_4.2.1 ∧
 g_4.2.1 ≤ 9223372036854775807) ∧
 True →
 (decide (g_4.2.1 < (↑g_3.1.length : Int)) = true →
 (0 ≤ g_4.2.1 ∧
 g_4.2.1 < (↑g_3.1.length : Int)) ∧
 (0 ≤ (seAt g_3.1 g_4.2.1).2.1 ∧
 (seAt g_3.1 g_4.2.1).2.1 < (↑(2 : Nat) : Int)) ∧
 Holds True ∧
 (((Apic.stepL ((crAt g_4.1.2.2.2.2.2.1 (seAt g_3.1 g_4.2.1).2.1).1.1, (crAt g_4.1.2.2.2.2.2.1 (seAt g_3.1 g_4.2.1).2.1).1.2.1, (crAt g_4.1.2.2.2.2.2.1 (seAt g_3.1 g_4.2.1).2.1).1.2.2) ((1 : Int), (seAt g_3.1 g_4.2.1).2.2)).2.2.1 == 0) = true →
 (-9223372036854775808 ≤ g_4.2.1 + 1 ∧
 g_4.2.1 + 1 ≤ (9223372036854775807 : Int)) ∧
 ((0 ≤ g_4.2.1 + 1 ∧
 g_4.2.1 + 1 ≤ (↑g_3.1.length : Int) ∧
 g_4.1.2.2.2.2.2.1.set (seAt g_3.1 g_4.2.1).2.1.toNat (((Apic.stepL ((crAt g_4.1.2.2.2.2.2.1 (seAt g_3.1 g_4.2.1).2.1).1.1, (crAt g_4.1.2.2.2.2.2.1 (seAt g_3.1 g_4.2.1).2.1).1.2.1, (crAt g_4.1.2.2.2.2.2.1 (seAt g_3.1 g_4.2.1).2.1).1.2.2) ((1 : Int), (seAt g_3.1 g_4.2.1).2.2)).1.1, (Apic.stepL ((crAt g_4.1.2.2.2.2.2.1 (seAt g_3.1 g_4.2.1).2.1).1.1, (crAt g_4.1.2.2.2.2.2.1 (seAt g_3.1 g_4.2.1).2.1).1.2.1, (crAt g_4.1.2.2.2.2.2.1 (seAt g_3.1 g_4.2.1).2.1).1.2.2) ((1 : Int), (seAt g_3.1 g_4.2.1).2.2)).1.2.1, (Apic.stepL ((crAt g_4.1.2.2.2.2.2.1 (seAt g_3.1 g_4.2.1).2.1).1.1, (crAt g_4.1.2.2.2.2.2.1 (seAt g_3.1 g_4.2.1).2.1).1.2.1, (crAt g_4.1.2.2.2.2.2.1 (seAt g_3.1 g_4.2.1).2.1).1.2.2) ((1 : Int), (seAt g_3.1 g_4.2.1).2.2)).1.2.2), ((crAt g_4.1.2.2.2.2.2.1 (seAt g_3.1 g_4.2.1).2.1).2.1.1, (crAt g_4.1.2.2.2.2.2.1 (seAt g_3.1 g_4.2.1).2.1).2.1.2), (crAt g_4.1.2.2.2.2.2.1 (seAt g_3.1 g_4.2.1).2.1).2.2) = List.foldl ask1 g.1.2.2.1 (List.take (g_4.2.1 + 1).toNat g_3.1)) ∧
 ((↑g_3.1.length : Int) - (g_4.2.1 + 1)).toNat < ((↑g_3.1.length : Int) - g_4.2.1).toNat) ∧
 ((True ∧
 True) ∧
 g_3.1 = g_3.1 ∧
 RR (↑g_3.1.length : Int) ∧
 g_4.2.1 + 1 = g_4.2.1 + 1 ∧
 True) ∧
 ((RR g_2.1.1.1 ∧
 RR g_2.1.1.2.1 ∧
 RR g_2.1.1.2.2.1 ∧
 RR g_2.1.1.2.2.2 ∧
 True ∧
 g_4.1.2.2.2.2.2.1.set (seAt g_3.1 g_4.2.1).2.1.toNat (((Apic.stepL ((crAt g_4.1.2.2.2.2.2.1 (seAt g_3.1 g_4.2.1).2.1).1.1, (crAt g_4.1.2.2.2.2.2.1 (seAt g_3.1 g_4.2.1).2.1).1.2.1, (crAt g_4.1.2.2.2.2.2.1 (seAt g_3.1 g_4.2.1).2.1).1.2.2) ((1 : Int), (seAt g_3.1 g_4.2.1).2.2)).1.1, (Apic.stepL ((crAt g_4.1.2.2.2.2.2.1 (seAt g_3.1 g_4.2.1).2.1).1.1, (crAt g_4.1.2.2.2.2.2.1 (seAt g_3.1 g_4.2.1).2.1).1.2.1, (crAt g_4.1.2.2.2.2.2.1 (seAt g_3.1 g_4.2.1).2.1).1.2.2) ((1 : Int), (seAt g_3.1 g_4.2.1).2.2)).1.2.1, (Apic.stepL ((crAt g_4.1.2.2.2.2.2.1 (seAt g_3.1 g_4.2.1).2.1).1.1, (crAt g_4.1.2.2.2.2.2.1 (seAt g_3.1 g_4.2.1).2.1).1.2.1, (crAt g_4.1.2.2.2.2.2.1 (seAt g_3.1 g_4.2.1).2.1).1.2.2) ((1 : Int), (seAt g_3.1 g_4.2.1).2.2)).1.2.2), ((crAt g_4.1.2.2.2.2.2.1 (seAt g_3.1 g_4.2.1).2.1).2.1.1, (crAt g_4.1.2.2.2.2.2.1 (seAt g_3.1 g_4.2.1).2.1).2.1.2), (crAt g_4.1.2.2.2.2.2.1 (seAt g_3.1 g_4.2.1).2.1).2.2) = g_4.1.2.2.2.2.2.1.set (seAt g_3.1 g_4.2.1).2.1.toNat (((Apic.stepL ((crAt g_4.1.2.2.2.2.2.1 (seAt g_3.1 g_4.2.1).2.1).1.1, (crAt g_4.1.2.2.2.2.2.1 (seAt g_3.1 g_4.2.1).2.1).1.2.1, (crAt g_4.1.2.2.2.2.2.1 (seAt g_3.1 g_4.2.1).2.1).1.2.2) ((1 : Int), (seAt g_3.1 g_4.2.1).2.2)).1.1, (Apic.stepL ((crAt g_4.1.2.2.2.2.2.1 (seAt g_3.1 g_4.2.1).2.1).1.1, (crAt g_4.1.2.2.2.2.2.1 (seAt g_3.1 g_4.2.1).2.1).1.2.1, (crAt g_4.1.2.2.2.2.2.1 (seAt g_3.1 g_4.2.1).2.1).1.2.2) ((1 : Int), (seAt g_3.1 g_4.2.1).2.2)).1.2.1, (Apic.stepL ((crAt g_4.1.2.2.2.2.2.1 (seAt g_3.1 g_4.2.1).2.1).1.1, (crAt g_4.1.2.2.2.2.2.1 (seAt g_3.1 g_4.2.1).2.1).1.2.1, (crAt g_4.1.2.2.2.2.2.1 (seAt g_3.1 g_4.2.1).2.1).1.2.2) ((1 : Int), (seAt g_3.1 g_4.2.1).2.2)).1.2.2), ((crAt g_4.1.2.2.2.2.2.1 (seAt g_3.1 g_4.2.1).2.1).2.1.1, (crAt g_4.1.2.2.2.2.2.1 (seAt g_3.1 g_4.2.1).2.1).2.1.2), (crAt g_4.1.2.2.2.2.2.1 (seAt g_3.1 g_4.2.1).2.1).2.2) ∧
 True ∧
 RR g.1.2.2.2.2.1.1 ∧
 RR g.1.2.2.2.2.1.2 ∧
 RR g.1.2.2.2.2.2 ∧
 True) ∧
 (RR ((opAt x.1 g.2.2.1).1) ∧
 RR ((opAt x.1 g.2.2.1).2.1) ∧
 RR ((opAt x.1 g.2.2.1).2.2.1) ∧
 RR ((opAt x.1 g.2.2.1).2.2.2) ∧
 True) ∧
 (RR (0 : Int) ∧
 RR (Value.slice none (0 : Nat) (0 : Nat)) ∧
 True) ∧
 (RR (Value.slice none (0 : Nat) (0 : Nat)) ∧
 RR (Value.slice none (0 : Nat) (0 : Nat)) ∧
 RR (Value.slice none (0 : Nat) (0 : Nat)) ∧
 RR (Value.slice none (0 : Nat) (0 : Nat)) ∧
 RR (0 : Int) ∧
 RR (0 : Int) ∧
 True) ∧
 g.2.1 = g.2.1 ∧
 (RR ((opAt x.1 g.2.2.1).1) ∧
 RR ((opAt x.1 g.2.2.1).2.1) ∧
 RR ((opAt x.1 g.2.2.1).2.2.1) ∧
 RR ((opAt x.1 g.2.2.1).2.2.2) ∧
 True) ∧
 RR g_3.2.1.2.2.2.2.1 ∧
 RR g.1.2.2.2.1 ∧
 True) ∧
 (True ∧
 True) ∧
 True ∧
 (True ∧
 True) ∧
 (True ∧
 True) ∧
 (True ∧
 True) ∧
 (True ∧
 True) ∧
 true = true ∧
 (True ∧
 True) ∧
 True ∧
 True ∧
 True ∧
 (True ∧
 True) ∧
 True ∧
 True ∧
 True ∧
 True ∧
 True ∧
 True ∧
 RR ((Uart.step (g.1.1.1, g.1.1.2.1, g.1.1.2.2.1, g.1.1.2.2.2) (1 : Int) (opAt x.1 g.2.2.1).2.2.2).2.1) ∧
 RR ((Uart.step (g.1.1.1, g.1.1.2.1, g.1.1.2.2.1, g.1.1.2.2.2) (1 : Int) (opAt x.1 g.2.2.1).2.2.2).2.2.1) ∧
 R8 (R8 ((True ∧
 True) ∧
 True ∧
 True ∧
 True ∧
 (True ∧
 True) ∧
 True ∧
 True ∧
 (True ∧
 True) ∧
 (True ∧
 True) ∧
 RR (Value.func (Fn.func (13 : Nat)) ([] : List Value).toArray ([] : List Value).toArray) ∧
 R32 (True ∧
 True ∧
 True ∧
 True ∧
 True ∧
 g_1.1 = g_1.1 ∧
 true = true ∧
 RR (g_1.1 == 1) ∧
 True ∧
 (True ∧
 True) ∧
 (True ∧
 True) ∧
 RR ((opAt x.1 g.2.2.1).2.2.2) ∧
 (RR (1 : Int) ∧
 RR ((opAt x.1 g.2.2.1).2.2.2) ∧
 True) ∧
 R32 (R32 (R8 ((True ∧
 True) ∧
 (True ∧
 True) ∧
 True ∧
 True ∧
 (True ∧
 True) ∧
 True ∧
 x.1 = x.1 ∧
 RR (↑x.1.length : Int) ∧
 g.2.2.1 = g.2.2.1 ∧
 true = true ∧
 True ∧
 (RR ((opAt x.1 g.2.2.1).1) ∧
 RR ((opAt x.1 g.2.2.1).2.1) ∧
 RR ((opAt x.1 g.2.2.1).2.2.1) ∧
 RR ((opAt x.1 g.2.2.1).2.2.2) ∧
 True) ∧
 True ∧
 (True ∧
 True) ∧
 (RR ((opAt x.1 g.2.2.1).1) ∧
 RR ((opAt x.1 g.2.2.1).2.1) ∧
 RR ((opAt x.1 g.2.2.1).2.2.1) ∧
 RR ((opAt x.1 g.2.2.1).2.2.2) ∧
 True) ∧
 R8 (R8 (R8 (True ∧
 True ∧
 True ∧
 True ∧
 True ∧
 True ∧
 True)))))))))) ∧
 (((Apic.stepL ((crAt g_4.1.2.2.2.2.2.1 (seAt g_3.1 g_4.2.1).2.1).1.1, (crAt g_4.1.2.2.2.2.2.1 (seAt g_3.1 g_4.2.1).2.1).1.2.1, (crAt g_4.1.2.2.2.2.2.1 (seAt g_3.1 g_4.2.1).2.1).1.2.2) ((1 : Int), (seAt g_3.1 g_4.2.1).2.2)).2.2.1 == 0) = false →
 (-9223372036854775808 ≤ g_4.2.1 + 1 ∧
 g_4.2.1 + 1 ≤ (9223372036854775807 : Int)) ∧
 ((0 ≤ g_4.2.1 + 1 ∧
 g_4.2.1 + 1 ≤ (↑g_3.1.length : Int) ∧
 g_4.1.2.2.2.2.2.1 = List.foldl ask1 g.1.2.2.1 (List.take (g_4.2.1 + 1).toNat g_3.1)) ∧
 ((↑g_3.1.length : Int) - (g_4.2.1 + 1)).toNat < ((↑g_3.1.length : Int) - g_4.2.1).toNat) ∧
 ((True ∧
 True) ∧
 g_3.1 = g_3.1 ∧
 RR (↑g_3.1.length : Int) ∧
 g_4.2.1 + 1 = g_4.2.1 + 1 ∧
 True) ∧
 ((RR g_2.1.1.1 ∧
 RR g_2.1.1.2.1 ∧
 RR g_2.1.1.2.2.1 ∧
 RR g_2.1.1.2.2.2 ∧
 True ∧
 RR g_4.1.2.2.2.2.2.1 ∧
 True ∧
 RR g.1.2.2.2.2.1.1 ∧
 RR g.1.2.2.2.2.1.2 ∧
 RR g.1.2.2.2.2.2 ∧
 True) ∧
 (RR ((opAt x.1 g.2.2.1).1) ∧
 RR ((opAt x.1 g.2.2.1).2.1) ∧
 RR ((opAt x.1 g.2.2.1).2.2.1) ∧
 RR ((opAt x.1 g.2.2.1).2.2.2) ∧
 True) ∧
 (RR (0 : Int) ∧
 RR (Value.slice none (0 : Nat) (0 : Nat)) ∧
 True) ∧
 (RR (Value.slice none (0 : Nat) (0 : Nat)) ∧
 RR (Value.slice none (0 : Nat) (0 : Nat)) ∧
 RR (Value.slice none (0 : Nat) (0 : Nat)) ∧
 RR (Value.slice none (0 : Nat) (0 : Nat)) ∧
 RR (0 : Int) ∧
 RR (0 : Int) ∧
 True) ∧
 g.2.1 = g.2.1 ∧
 (RR ((opAt x.1 g.2.2.1).1) ∧
 RR ((opAt x.1 g.2.2.1).2.1) ∧
 RR ((opAt x.1 g.2.2.1).2.2.1) ∧
 RR ((opAt x.1 g.2.2.1).2.2.2) ∧
 True) ∧
 RR g_3.2.1.2.2.2.2.1 ∧
 RR g.1.2.2.2.1 ∧
 True) ∧
 (True ∧
 True) ∧
 True ∧
 (True ∧
 True) ∧
 (True ∧
 True) ∧
 (True ∧
 True) ∧
 (True ∧
 True) ∧
 true = true ∧
 (True ∧
 True) ∧
 True ∧
 True ∧
 True ∧
 (True ∧
 True) ∧
 True ∧
 True ∧
 True ∧
 True ∧
 True ∧
 True ∧
 RR ((Uart.step (g.1.1.1, g.1.1.2.1, g.1.1.2.2.1, g.1.1.2.2.2) (1 : Int) (opAt x.1 g.2.2.1).2.2.2).2.1) ∧
 RR ((Uart.step (g.1.1.1, g.1.1.2.1, g.1.1.2.2.1, g.1.1.2.2.2) (1 : Int) (opAt x.1 g.2.2.1).2.2.2).2.2.1) ∧
 R8 (R8 ((True ∧
 True) ∧
 True ∧
 True ∧
 True ∧
 (True ∧
 True) ∧
 True ∧
 True ∧
 (True ∧
 True) ∧
 (True ∧
 True) ∧
 RR (Value.func (Fn.func (13 : Nat)) ([] : List Value).toArray ([] : List Value).toArray) ∧
 R32 (True ∧
 True ∧
 True ∧
 True ∧
 True ∧
 g_1.1 = g_1.1 ∧
 true = true ∧
 RR (g_1.1 == 1) ∧
 True ∧
 (True ∧
 True) ∧
 (True ∧
 True) ∧
 RR ((opAt x.1 g.2.2.1).2.2.2) ∧
 (RR (1 : Int) ∧
 RR ((opAt x.1 g.2.2.1).2.2.2) ∧
 True) ∧
 R32 (R32 (R8 ((True ∧
 True) ∧
 (True ∧
 True) ∧
 True ∧
 True ∧
 (True ∧
 True) ∧
 True ∧
 x.1 = x.1 ∧
 RR (↑x.1.length : Int) ∧
 g.2.2.1 = g.2.2.1 ∧
 true = true ∧
 True ∧
 (RR ((opAt x.1 g.2.2.1).1) ∧
 RR ((opAt x.1 g.2.2.1).2.1) ∧
 RR ((opAt x.1 g.2.2.1).2.2.1) ∧
 RR ((opAt x.1 g.2.2.1).2.2.2) ∧
 True) ∧
 True ∧
 (True ∧
 True) ∧
 (RR ((opAt x.1 g.2.2.1).1) ∧
 RR ((opAt x.1 g.2.2.1).2.1) ∧
 RR ((opAt x.1 g.2.2.1).2.2.1) ∧
 RR ((opAt x.1 g.2.2.1).2.2.2) ∧
 True) ∧
 R8 (R8 (R8 (True ∧
 True ∧
 True ∧
 True ∧
 True ∧
 True ∧
 True))))))))))) ∧
 (decide (g_4.2.1 < (↑g_3.1.length : Int)) = false →
 ((((g_2.1.1.1, g_2.1.1.2.1, g_2.1.1.2.2.1, g_2.1.1.2.2.2), g_3.2.1.2.2.2.2.1, g_4.1.2.2.2.2.2.1) = if (Uart.step (g.1.1.1, g.1.1.2.1, g.1.1.2.2.1, g.1.1.2.2.2) (1 : Int) (opAt x.1 g.2.2.1).2.2.2).2.2.1 = 0 then (((Uart.step (g.1.1.1, g.1.1.2.1, g.1.1.2.2.1, g.1.1.2.2.2) (1 : Int) (opAt x.1 g.2.2.1).2.2.2).1.1, (Uart.step (g.1.1.1, g.1.1.2.1, g.1.1.2.2.1, g.1.1.2.2.2) (1 : Int) (opAt x.1 g.2.2.1).2.2.2).1.2.1, (Uart.step (g.1.1.1, g.1.1.2.1, g.1.1.2.2.1, g.1.1.2.2.2) (1 : Int) (opAt x.1 g.2.2.1).2.2.2).1.2.2.1, (Uart.step (g.1.1.1, g.1.1.2.1, g.1.1.2.2.1, g.1.1.2.2.2) (1 : Int) (opAt x.1 g.2.2.1).2.2.2).1.2.2.2), pinF g.1.2.1 g.1.2.2.1 (if (Uart.step (g.1.1.1, g.1.1.2.1, g.1.1.2.2.1, g.1.1.2.2.2) (1 : Int) (opAt x.1 g.2.2.1).2.2.2).1.2.2.2 = true then (1 : Int) else (2 : Int))) else ((g.1.1.1, g.1.1.2.1, g.1.1.2.2.1, g.1.1.2.2.2), g.1.2.1, g.1.2.2.1)) ∧
 True) ∧
 ((True ∧
 True) ∧
 RR ((Uart.step (g.1.1.1, g.1.1.2.1, g.1.1.2.2.1, g.1.1.2.2.2) (1 : Int) (opAt x.1 g.2.2.1).2.2.2).2.1) ∧
 RR ((Uart.step (g.1.1.1, g.1.1.2.1, g.1.1.2.2.1, g.1.1.2.2.2) (1 : Int) (opAt x.1 g.2.2.1).2.2.2).2.2.1) ∧
 True) ∧
 ((RR g_2.1.1.1 ∧
 RR g_2.1.1.2.1 ∧
 RR g_2.1.1.2.2.1 ∧
 RR g_2.1.1.2.2.2 ∧
 True ∧
 RR g_4.1.2.2.2.2.2.1 ∧
 True ∧
 RR g.1.2.2.2.2.1.1 ∧
 RR g.1.2.2.2.2.1.2 ∧
 RR g.1.2.2.2.2.2 ∧
 True) ∧
 RR g_3.2.1.2.2.2.2.1 ∧
 (RR ((opAt x.1 g.2.2.1).1) ∧
 RR ((opAt x.1 g.2.2.1).2.1) ∧
 RR ((opAt x.1 g.2.2.1).2.2.1) ∧
 RR ((opAt x.1 g.2.2.1).2.2.2) ∧
 True) ∧
 (RR (0 : Int) ∧
 RR (Value.slice none (0 : Nat) (0 : Nat)) ∧
 True) ∧
 (RR (Value.slice none (0 : Nat) (0 : Nat)) ∧
 RR (Value.slice none (0 : Nat) (0 : Nat)) ∧
 RR (Value.slice none (0 : Nat) (0 : Nat)) ∧
 RR (Value.slice none (0 : Nat) (0 : Nat)) ∧
 RR (0 : Int) ∧
 RR (0 : Int) ∧
 True) ∧
 g.2.1 = g.2.1 ∧
 (RR ((opAt x.1 g.2.2.1).1) ∧
 RR ((opAt x.1 g.2.2.1).2.1) ∧
 RR ((opAt x.1 g.2.2.1).2.2.1) ∧
 RR ((opAt x.1 g.2.2.1).2.2.2) ∧
 True) ∧
 RR g.1.2.2.2.1 ∧
 True) ∧
 (True ∧
 True) ∧
 True ∧
 True ∧
 (True ∧
 True) ∧
 (True ∧
 True) ∧
 RR (Value.func (Fn.func (13 : Nat)) ([] : List Value).toArray ([] : List Value).toArray) ∧
 R32 (True ∧
 True ∧
 True ∧
 True ∧
 True ∧
 g_1.1 = g_1.1 ∧
 true = true ∧
 RR (g_1.1 == 1) ∧
 True ∧
 (True ∧
 True) ∧
 (True ∧
 True) ∧
 RR ((opAt x.1 g.2.2.1).2.2.2) ∧
 (RR (1 : Int) ∧
 RR ((opAt x.1 g.2.2.1).2.2.2) ∧
 True) ∧
 R32 (R32 (R8 ((True ∧
 True) ∧
 (True ∧
 True) ∧
 True ∧
 True ∧
 (True ∧
 True) ∧
 True ∧
 x.1 = x.1 ∧
 RR (↑x.1.length : Int) ∧
 g.2.2.1 = g.2.2.1 ∧
 true = true ∧
 True ∧
 (RR ((opAt x.1 g.2.2.1).1) ∧
 RR ((opAt x.1 g.2.2.1).2.1) ∧
 RR ((opAt x.1 g.2.2.1).2.2.1) ∧
 RR ((opAt x.1 g.2.2.1).2.2.2) ∧
 True) ∧
 True ∧
 (True ∧
 True) ∧
 (RR ((opAt x.1 g.2.2.1).1) ∧
 RR ((opAt x.1 g.2.2.1).2.1) ∧
 RR ((opAt x.1 g.2.2.1).2.2.1) ∧
 RR ((opAt x.1 g.2.2.1).2.2.2) ∧
 True) ∧
 R8 (R8 (R8 (True ∧
 True ∧
 True ∧
 True ∧
 True ∧
 True ∧
 True)))))))))) ∧
 (g_2.1.1.2.2.2 = false →
 Holds True ∧
 (((Line.step g.1.2.1 (2 : Int) (0 : Int)).2.2.1 != 0) = true →
 ∃ (g_3 : ((List Int × List Int × Int × Bool) × List (Int × Int × Bool × Bool × Bool × Bool × Bool) × List ((List Int × List Int × Int) × (Bool × List (Bool × Bool)) × Bool) × Unit × Unit × Unit × Unit) × Unit), ((((g_3.1.1, g_3.1.2.1, g_3.1.2.2.1) = if (Uart.step (g.1.1.1, g.1.1.2.1, g.1.1.2.2.1, g.1.1.2.2.2) (1 : Int) (opAt x.1 g.2.2.1).2.2.2).2.2.1 = 0 then (((Uart.step (g.1.1.1, g.1.1.2.1, g.1.1.2.2.1, g.1.1.2.2.2) (1 : Int) (opAt x.1 g.2.2.1).2.2.2).1.1, (Uart.step (g.1.1.1, g.1.1.2.1, g.1.1.2.2.1, g.1.1.2.2.2) (1 : Int) (opAt x.1 g.2.2.1).2.2.2).1.2.1, (Uart.step (g.1.1.1, g.1.1.2.1, g.1.1.2.2.1, g.1.1.2.2.2) (1 : Int) (opAt x.1 g.2.2.1).2.2.2).1.2.2.1, (Uart.step (g.1.1.1, g.1.1.2.1, g.1.1.2.2.1, g.1.1.2.2.2) (1 : Int) (opAt x.1 g.2.2.1).2.2.2).1.2.2.2), pinF g.1.2.1 g.1.2.2.1 (if (Uart.step (g.1.1.1, g.1.1.2.1, g.1.1.2.2.1, g.1.1.2.2.2) (1 : Int) (opAt x.1 g.2.2.1).2.2.2).1.2.2.2 = true then (1 : Int) else (2 : Int))) else ((g.1.1.1, g.1.1.2.1, g.1.1.2.2.1, g.1.1.2.2.2), g.1.2.1, g.1.2.2.1)) ∧
 (((g_3.1.1.1.length ≤ (9223372036854775807 : Nat) ∧
 ∀ (x : Int), x ∈ g_3.1.1.1 →
 0 ≤ x ∧
 x ≤ 255) ∧
 (g_3.1.1.2.1.length ≤ (9223372036854775807 : Nat) ∧
 ∀ (x : Int), x ∈ g_3.1.1.2.1 →
 0 ≤ x ∧
 x ≤ 255) ∧
 (-9223372036854775808 ≤ g_3.1.1.2.2.1 ∧
 g_3.1.1.2.2.1 ≤ 9223372036854775807) ∧
 True) ∧
 (g_3.1.2.1.length ≤ (9223372036854775807 : Nat) ∧
 ∀ (x : Int × Int × Bool × Bool × Bool × Bool × Bool), x ∈ g_3.1.2.1 →
 (-9223372036854775808 ≤ x.1 ∧
 x.1 ≤ 9223372036854775807) ∧
 (-9223372036854775808 ≤ x.2.1 ∧
 x.2.1 ≤ 9223372036854775807) ∧
 True ∧
 True ∧
 True ∧
 True ∧
 True) ∧
 (g_3.1.2.2.1.length = (2 : Nat) ∧
 ∀ (x : (List Int × List Int × Int) × (Bool × List (Bool × Bool)) × Bool), x ∈ g_3.1.2.2.1 →
 ((x.1.1.length = (4 : Nat) ∧
 ∀ (x_1 : Int), x_1 ∈ x.1.1 →
 0 ≤ x_1 ∧
 x_1 ≤ 18446744073709551615) ∧
 (x.1.2.1.length = (4 : Nat) ∧
 ∀ (x_1 : Int), x_1 ∈ x.1.2.1 →
 0 ≤ x_1 ∧
 x_1 ≤ 18446744073709551615) ∧
 -9223372036854775808 ≤ x.1.2.2 ∧
 x.1.2.2 ≤ 9223372036854775807) ∧
 (True ∧
 x.2.1.2.length ≤ (9223372036854775807 : Nat) ∧
 ∀ (x_1 : Bool × Bool), x_1 ∈ x.2.1.2 →
 True ∧
 True) ∧
 True) ∧
 True ∧
 True ∧
 True ∧
 True) ∧
 True) ∧
 True) ∧
 ((True ∧
 True) ∧
 RR ((Uart.step (g.1.1.1, g.1.1.2.1, g.1.1.2.2.1, g.1.1.2.2.2) (1 : Int) (opAt x.1 g.2.2.1).2.2.2).2.1) ∧
 RR ((Uart.step (g.1.1.1, g.1.1.2.1, g.1.1.2.2.1, g.1.1.2.2.2) (1 : Int) (opAt x.1 g.2.2.1).2.2.2).2.2.1) ∧
 True) ∧
 ((g_2.1.1.1 = g_3.1.1.1 ∧
 g_2.1.1.2.1 = g_3.1.1.2.1 ∧
 g_2.1.1.2.2.1 = g_3.1.1.2.2.1 ∧
 g_2.1.1.2.2.2 = g_3.1.1.2.2.2 ∧
 False ∧
 g.1.2.2.1 = g_3.1.2.2.1 ∧
 True ∧
 RR g.1.2.2.2.2.1.1 ∧
 RR g.1.2.2.2.2.1.2 ∧
 RR g.1.2.2.2.2.2 ∧
 True) ∧
 False ∧
 (RR ((opAt x.1 g.2.2.1).1) ∧
 RR ((opAt x.1 g.2.2.1).2.1) ∧
 RR ((opAt x.1 g.2.2.1).2.2.1) ∧
 RR ((opAt x.1 g.2.2.1).2.2.2) ∧
 True) ∧
 (RR (0 : Int) ∧
 RR (Value.slice none (0 : Nat) (0 : Nat)) ∧
 True) ∧
 (RR (Value.slice none (0 : Nat) (0 : Nat)) ∧
 RR (Value.slice none (0 : Nat) (0 : Nat)) ∧
 RR (Value.slice none (0 : Nat) (0 : Nat)) ∧
 RR (Value.slice none (0 : Nat) (0 : Nat)) ∧
 RR (0 : Int) ∧
 RR (0 : Int) ∧
 True) ∧
 g.2.1 = g.2.1 ∧
 (RR ((opAt x.1 g.2.2.1).1) ∧
 RR ((opAt x.1 g.2.2.1).2.1) ∧
 RR ((opAt x.1 g.2.2.1).2.2.1) ∧
 RR ((opAt x.1 g.2.2.1).2.2.2) ∧
 True) ∧
 RR g.1.2.2.2.1 ∧
 True) ∧
 (True ∧
 True) ∧
 True ∧
 True ∧
 (True ∧
 True) ∧
 (True ∧
 True) ∧
 RR (Value.func (Fn.func (13 : Nat)) ([] : List Value).toArray ([] : List Value).toArray) ∧
 R32 (True ∧
 True ∧
 True ∧
 True ∧
 True ∧
 g_1.1 = g_1.1 ∧
 true = true ∧
 RR (g_1.1 == 1) ∧
 True ∧
 (True ∧
 True) ∧
 (True ∧
 True) ∧
 RR ((opAt x.1 g.2.2.1).2.2.2) ∧
 (RR (1 : Int) ∧
 RR ((opAt x.1 g.2.2.1).2.2.2) ∧
 True) ∧
 R32 (R32 (R8 ((True ∧
 True) ∧
 (True ∧
 True) ∧
 True ∧
 True ∧
 (True ∧
 True) ∧
 True ∧
 x.1 = x.1 ∧
 RR (↑x.1.length : Int) ∧
 g.2.2.1 = g.2.2.1 ∧
 true = true ∧
 True ∧
 (RR ((opAt x.1 g.2.2.1).1) ∧
 RR ((opAt x.1 g.2.2.1).2.1) ∧
 RR ((opAt x.1 g.2.2.1).2.2.1) ∧
 RR ((opAt x.1 g.2.2.1).2.2.2) ∧
 True) ∧
 True ∧
 (True ∧
 True) ∧
 (RR ((opAt x.1 g.2.2.1).1) ∧
 RR ((opAt x.1 g.2.2.1).2.1) ∧
 RR ((opAt x.1 g.2.2.1).2.2.1) ∧
 RR ((opAt x.1 g.2.2.1).2.2.2) ∧
 True) ∧
 R8 (R8 (R8 (True ∧
 True ∧
 True ∧
 True ∧
 True ∧
 True ∧
 True)))))))) ∧
 (((Line.step g.1.2.1 (2 : Int) (0 : Int)).2.2.1 != 0) = false →
 (((RR ((Line.step g.1.2.1 (2 : Int) (0 : Int)).2.1) ∧
 (Line.step g.1.2.1 (2 : Int) (0 : Int)).1 = (Line.step g.1.2.1 (2 : Int) (0 : Int)).1) ∧
 True) ∧
 (RR ((Line.step g.1.2.1 (2 : Int) (0 : Int)).2.1) ∧
 (True ∧
 True) ∧
 True) ∧
 ((RR g_2.1.1.1 ∧
 RR g_2.1.1.2.1 ∧
 RR g_2.1.1.2.2.1 ∧
 RR g_2.1.1.2.2.2 ∧
 True ∧
 RR g.1.2.2.1 ∧
 True ∧
 RR g.1.2.2.2.2.1.1 ∧
 RR g.1.2.2.2.2.1.2 ∧
 RR g.1.2.2.2.2.2 ∧
 True) ∧
 RR ((Line.step g.1.2.1 (2 : Int) (0 : Int)).1) ∧
 (RR ((opAt x.1 g.2.2.1).1) ∧
 RR ((opAt x.1 g.2.2.1).2.1) ∧
 RR ((opAt x.1 g.2.2.1).2.2.1) ∧
 RR ((opAt x.1 g.2.2.1).2.2.2) ∧
 True) ∧
 (RR (0 : Int) ∧
 RR (Value.slice none (0 : Nat) (0 : Nat)) ∧
 True) ∧
 (RR (Value.slice none (0 : Nat) (0 : Nat)) ∧
 RR (Value.slice none (0 : Nat) (0 : Nat)) ∧
 RR (Value.slice none (0 : Nat) (0 : Nat)) ∧
 RR (Value.slice none (0 : Nat) (0 : Nat)) ∧
 RR (0 : Int) ∧
 RR (0 : Int) ∧
 True) ∧
 g.2.1 = g.2.1 ∧
 (RR ((opAt x.1 g.2.2.1).1) ∧
 RR ((opAt x.1 g.2.2.1).2.1) ∧
 RR ((opAt x.1 g.2.2.1).2.2.1) ∧
 RR ((opAt x.1 g.2.2.1).2.2.2) ∧
 True) ∧
 RR g.1.2.2.2.1 ∧
 True) ∧
 (True ∧
 True) ∧
 True ∧
 (True ∧
 True) ∧
 (True ∧
 True) ∧
 (True ∧
 True) ∧
 (True ∧
 True) ∧
 false = false ∧
 True ∧
 True ∧
 (True ∧
 True) ∧
 True ∧
 (True ∧
 True) ∧
 True ∧
 True ∧
 True ∧
 True ∧
 True ∧
 True ∧
 RR ((Uart.step (g.1.1.1, g.1.1.2.1, g.1.1.2.2.1, g.1.1.2.2.2) (1 : Int) (opAt x.1 g.2.2.1).2.2.2).2.1) ∧
 RR ((Uart.step (g.1.1.1, g.1.1.2.1, g.1.1.2.2.1, g.1.1.2.2.2) (1 : Int) (opAt x.1 g.2.2.1).2.2.2).2.2.1) ∧
 R8 (R8 ((True ∧
 True) ∧
 True ∧
 True ∧
 True ∧
 (True ∧
 True) ∧
 True ∧
 True ∧
 (True ∧
 True) ∧
 (True ∧
 True) ∧
 RR (Value.func (Fn.func (13 : Nat)) ([] : List Value).toArray ([] : List Value).toArray) ∧
 R32 (True ∧
 True ∧
 True ∧
 True ∧
 True ∧
 g_1.1 = g_1.1 ∧
 true = true ∧
 RR (g_1.1 == 1) ∧
 True ∧
 (True ∧
 True) ∧
 (True ∧
 True) ∧
 RR ((opAt x.1 g.2.2.1).2.2.2) ∧
 (RR (1 : Int) ∧
 RR ((opAt x.1 g.2.2.1).2.2.2) ∧
 True) ∧
 R32 (R32 (R8 ((True ∧
 True) ∧
 (True ∧
 True) ∧
 True ∧
 True ∧
 (True ∧
 True) ∧
 True ∧
 x.1 = x.1 ∧
 RR (↑x.1.length : Int) ∧
 g.2.2.1 = g.2.2.1 ∧
 true = true ∧
 True ∧
 (RR ((opAt x.1 g.2.2.1).1) ∧
 RR ((opAt x.1 g.2.2.1).2.1) ∧
 RR ((opAt x.1 g.2.2.1).2.2.1) ∧
 RR ((opAt x.1 g.2.2.1).2.2.2) ∧
 True) ∧
 True ∧
 (True ∧
 True) ∧
 (RR ((opAt x.1 g.2.2.1).1) ∧
 RR ((opAt x.1 g.2.2.1).2.1) ∧
 RR ((opAt x.1 g.2.2.1).2.2.1) ∧
 RR ((opAt x.1 g.2.2.1).2.2.2) ∧
 True) ∧
 R8 (R8 (R8 (True ∧
 True ∧
 True ∧
 True ∧
 True ∧
 True ∧
 True)))))))))) ∧
 ∀ (g_3 : List (Int × Int × Int) × (Unit × Unit × Unit × Unit × List (Int × Int × Bool × Bool × Bool × Bool × Bool) × Unit × Unit × Unit × Unit × Unit) × Unit), g_3.1 = (Line.step g.1.2.1 (2 : Int) (0 : Int)).2.1 ∧
 g_3.2.1.2.2.2.2.1 = (Line.step g.1.2.1 (2 : Int) (0 : Int)).1 →
 (g_3.1.length ≤ (9223372036854775807 : Nat) ∧
 ∀ (x : Int × Int × Int), x ∈ g_3.1 →
 (-9223372036854775808 ≤ x.1 ∧
 x.1 ≤ 9223372036854775807) ∧
 (-9223372036854775808 ≤ x.2.1 ∧
 x.2.1 ≤ 9223372036854775807) ∧
 -9223372036854775808 ≤ x.2.2 ∧
 x.2.2 ≤ 9223372036854775807) ∧
 (True ∧
 True ∧
 True ∧
 True ∧
 (g_3.2.1.2.2.2.2.1.length ≤ (9223372036854775807 : Nat) ∧
 ∀ (x : Int × Int × Bool × Bool × Bool × Bool × Bool), x ∈ g_3.2.1.2.2.2.2.1 →
 (-9223372036854775808 ≤ x.1 ∧
 x.1 ≤ 9223372036854775807) ∧
 (-9223372036854775808 ≤ x.2.1 ∧
 x.2.1 ≤ 9223372036854775807) ∧
 True ∧
 True ∧
 True ∧
 True ∧
 True) ∧
 True ∧
 True ∧
 True ∧
 True ∧
 True) ∧
 True →
 ((((0 : Int) ≤ (0 : Int) ∧
 0 ≤ (↑g_3.1.length : Int) ∧
 g.1.2.2.1 = List.foldl ask1 g.1.2.2.1 (List.take (Int.toNat (0 : Int)) g_3.1)) ∧
 True) ∧
 ((True ∧
 True) ∧
 g_3.1 = g_3.1 ∧
 RR (↑g_3.1.length : Int) ∧
 RR (0 : Int) ∧
 True) ∧
 ((RR g_2.1.1.1 ∧
 RR g_2.1.1.2.1 ∧
 RR g_2.1.1.2.2.1 ∧
 RR g_2.1.1.2.2.2 ∧
 True ∧
 RR g.1.2.2.1 ∧
 True ∧
 RR g.1.2.2.2.2.1.1 ∧
 RR g.1.2.2.2.2.1.2 ∧
 RR g.1.2.2.2.2.2 ∧
 True) ∧
 (RR ((opAt x.1 g.2.2.1).1) ∧
 RR ((opAt x.1 g.2.2.1).2.1) ∧
 RR ((opAt x.1 g.2.2.1).2.2.1) ∧
 RR ((opAt x.1 g.2.2.1).2.2.2) ∧
 True) ∧
 (RR (0 : Int) ∧
 RR (Value.slice none (0 : Nat) (0 : Nat)) ∧
 True) ∧
 (RR (Value.slice none (0 : Nat) (0 : Nat)) ∧
 RR (Value.slice none (0 : Nat) (0 : Nat)) ∧
 RR (Value.slice none (0 : Nat) (0 : Nat)) ∧
 RR (Value.slice none (0 : Nat) (0 : Nat)) ∧
 RR (0 : Int) ∧
 RR (0 : Int) ∧
 True) ∧
 g.2.1 = g.2.1 ∧
 (RR ((opAt x.1 g.2.2.1).1) ∧
 RR ((opAt x.1 g.2.2.1).2.1) ∧
 RR ((opAt x.1 g.2.2.1).2.2.1) ∧
 RR ((opAt x.1 g.2.2.1).2.2.2) ∧
 True) ∧
 RR g_3.2.1.2.2.2.2.1 ∧
 RR g.1.2.2.2.1 ∧
 True) ∧
 (True ∧
 True) ∧
 True ∧
 (True ∧
 True) ∧
 (True ∧
 True) ∧
 (True ∧
 True) ∧
 (True ∧
 True) ∧
 false = false ∧
 True ∧
 True ∧
 (True ∧
 True) ∧
 True ∧
 (True ∧
 True) ∧
 True ∧
 True ∧
 True ∧
 True ∧
 True ∧
 True ∧
 RR ((Uart.step (g.1.1.1, g.1.1.2.1, g.1.1.2.2.1, g.1.1.2.2.2) (1 : Int) (opAt x.1 g.2.2.1).2.2.2).2.1) ∧
 RR ((Uart.step (g.1.1.1, g.1.1.2.1, g.1.1.2.2.1, g.1.1.2.2.2) (1 : Int) (opAt x.1 g.2.2.1).2.2.2).2.2.1) ∧
 R8 (R8 ((True ∧
 True) ∧
 True ∧
 True ∧
 True ∧
 (True ∧
 True) ∧
 True ∧
 True ∧
 (True ∧
 True) ∧
 (True ∧
 True) ∧
 RR (Value.func (Fn.func (13 : Nat)) ([] : List Value).toArray ([] : List Value).toArray) ∧
 R32 (True ∧
 True ∧
 True ∧
 True ∧
 True ∧
 g_1.1 = g_1.1 ∧
 true = true ∧
 RR (g_1.1 == 1) ∧
 True ∧
 (True ∧
 True) ∧
 (True ∧
 True) ∧
 RR ((opAt x.1 g.2.2.1).2.2.2) ∧
 (RR (1 : Int) ∧
 RR ((opAt x.1 g.2.2.1).2.2.2) ∧
 True) ∧
 R32 (R32 (R8 ((True ∧
 True) ∧
 (True ∧
 True) ∧
 True ∧
 True ∧
 (True ∧
 True) ∧
 True ∧
 x.1 = x.1 ∧
 RR (↑x.1.length : Int) ∧
 g.2.2.1 = g.2.2.1 ∧
 true = true ∧
 True ∧
 (RR ((opAt x.1 g.2.2.1).1) ∧
 RR ((opAt x.1 g.2.2.1).2.1) ∧
 RR ((opAt x.1 g.2.2.1).2.2.1) ∧
 RR ((opAt x.1 g.2.2.1).2.2.2) ∧
 True) ∧
 True ∧
 (True ∧
 True) ∧
 (RR ((opAt x.1 g.2.2.1).1) ∧
 RR ((opAt x.1 g.2.2.1).2.1) ∧
 RR ((opAt x.1 g.2.2.1).2.2.1) ∧
 RR ((opAt x.1 g.2.2.1).2.2.2) ∧
 True) ∧
 R8 (R8 (R8 (True ∧
 True ∧
 True ∧
 True ∧
 True ∧
 True ∧
 True)))))))))) ∧
 ∀ (g_4 : (Unit × Unit × Unit × Unit × Unit × List ((List Int × List Int × Int) × (Bool × List (Bool × Bool)) × Bool) × Unit × Unit × Unit × Unit) × Int × Unit), 0 ≤ g_4.2.1 ∧
 g_4.2.1 ≤ (↑g_3.1.length : Int) ∧
 g_4.1.2.2.2.2.2.1 = List.foldl ask1 g.1.2.2.1 (List.take g_4.2.1.toNat g_3.1) →
 (True ∧
 True ∧
 True ∧
 True ∧
 True ∧
 (g_4.1.2.2.2.2.2.1.length = (2 : Nat) ∧
 ∀ (x : (List Int × List Int × Int) × (Bool × List (Bool × Bool)) × Bool), x ∈ g_4.1.2.2.2.2.2.1 →
 ((x.1.1.length = (4 : Nat) ∧
 ∀ (x_1 : Int), x_1 ∈ x.1.1 →
 0 ≤ x_1 ∧
 x_1 ≤ 18446744073709551615) ∧
 (x.1.2.1.length = (4 : Nat) ∧
 ∀ (x_1 : Int), x_1 ∈ x.1.2.1 →
 0 ≤ x_1 ∧
 x_1 ≤ 18446744073709551615) ∧
 -9223372036854775808 ≤ x.1.2.2 ∧
 x.1.2.2 ≤ 9223372036854775807) ∧
 (True ∧
 x.2.1.2.length ≤ (9223372036854775807 : Nat) ∧
 ∀ (x_1 : Bool × Bool), x_1 ∈ x.2.1.2 →
 True ∧
 True) ∧
 True) ∧
 True ∧
 True ∧
 True ∧
 True) ∧
 (-9223372036854775808 ≤ g_4.2.1 ∧
 g_4.2.1 ≤ 9223372036854775807) ∧
 True →
 (decide (g_4.2.1 < (↑g_3.1.length : Int)) = true →
 (0 ≤ g_4.2.1 ∧
 g_4.2.1 < (↑g_3.1.length : Int)) ∧
 (0 ≤ (seAt g_3.1 g_4.2.1).2.1 ∧
 (seAt g_3.1 g_4.2.1).2.1 < (↑(2 : Nat) : Int)) ∧
 Holds True ∧
 (((Apic.stepL ((crAt g_4.1.2.2.2.2.2.1 (seAt g_3.1 g_4.2.1).2.1).1.1, (crAt g_4.1.2.2.2.2.2.1 (seAt g_3.1 g_4.2.1).2.1).1.2.1, (crAt g_4.1.2.2.2.2.2.1 (seAt g_3.1 g_4.2.1).2.1).1.2.2) ((1 : Int), (seAt g_3.1 g_4.2.1).2.2)).2.2.1 == 0) = true →
 (-9223372036854775808 ≤ g_4.2.1 + 1 ∧
 g_4.2.1 + 1 ≤ (9223372036854775807 : Int)) ∧
 ((0 ≤ g_4.2.1 + 1 ∧
 g_4.2.1 + 1 ≤ (↑g_3.1.length : Int) ∧
 g_4.1.2.2.2.2.2.1.set (seAt g_3.1 g_4.2.1).2.1.toNat (((Apic.stepL ((crAt g_4.1.2.2.2.2.2.1 (seAt g_3.1 g_4.2.1).2.1).1.1, (crAt g_4.1.2.2.2.2.2.1 (seAt g_3.1 g_4.2.1).2.1).1.2.1, (crAt g_4.1.2.2.2.2.2.1 (seAt g_3.1 g_4.2.1).2.1).1.2.2) ((1 : Int), (seAt g_3.1 g_4.2.1).2.2)).1.1, (Apic.stepL ((crAt g_4.1.2.2.2.2.2.1 (seAt g_3.1 g_4.2.1).2.1).1.1, (crAt g_4.1.2.2.2.2.2.1 (seAt g_3.1 g_4.2.1).2.1).1.2.1, (crAt g_4.1.2.2.2.2.2.1 (seAt g_3.1 g_4.2.1).2.1).1.2.2) ((1 : Int), (seAt g_3.1 g_4.2.1).2.2)).1.2.1, (Apic.stepL ((crAt g_4.1.2.2.2.2.2.1 (seAt g_3.1 g_4.2.1).2.1).1.1, (crAt g_4.1.2.2.2.2.2.1 (seAt g_3.1 g_4.2.1).2.1).1.2.1, (crAt g_4.1.2.2.2.2.2.1 (seAt g_3.1 g_4.2.1).2.1).1.2.2) ((1 : Int), (seAt g_3.1 g_4.2.1).2.2)).1.2.2), ((crAt g_4.1.2.2.2.2.2.1 (seAt g_3.1 g_4.2.1).2.1).2.1.1, (crAt g_4.1.2.2.2.2.2.1 (seAt g_3.1 g_4.2.1).2.1).2.1.2), (crAt g_4.1.2.2.2.2.2.1 (seAt g_3.1 g_4.2.1).2.1).2.2) = List.foldl ask1 g.1.2.2.1 (List.take (g_4.2.1 + 1).toNat g_3.1)) ∧
 ((↑g_3.1.length : Int) - (g_4.2.1 + 1)).toNat < ((↑g_3.1.length : Int) - g_4.2.1).toNat) ∧
 ((True ∧
 True) ∧
 g_3.1 = g_3.1 ∧
 RR (↑g_3.1.length : Int) ∧
 g_4.2.1 + 1 = g_4.2.1 + 1 ∧
 True) ∧
 ((RR g_2.1.1.1 ∧
 RR g_2.1.1.2.1 ∧
 RR g_2.1.1.2.2.1 ∧
 RR g_2.1.1.2.2.2 ∧
 True ∧
 g_4.1.2.2.2.2.2.1.set (seAt g_3.1 g_4.2.1).2.1.toNat (((Apic.stepL ((crAt g_4.1.2.2.2.2.2.1 (seAt g_3.1 g_4.2.1).2.1).1.1, (crAt g_4.1.2.2.2.2.2.1 (seAt g_3.1 g_4.2.1).2.1).1.2.1, (crAt g_4.1.2.2.2.2.2.1 (seAt g_3.1 g_4.2.1).2.1).1.2.2) ((1 : Int), (seAt g_3.1 g_4.2.1).2.2)).1.1, (Apic.stepL ((crAt g_4.1.2.2.2.2.2.1 (seAt g_3.1 g_4.2.1).2.1).1.1, (crAt g_4.1.2.2.2.2.2.1 (seAt g_3.1 g_4.2.1).2.1).1.2.1, (crAt g_4.1.2.2.2.2.2.1 (seAt g_3.1 g_4.2.1).2.1).1.2.2) ((1 : Int), (seAt g_3.1 g_4.2.1).2.2)).1.2.1, (Apic.stepL ((crAt g_4.1.2.2.2.2.2.1 (seAt g_3.1 g_4.2.1).2.1).1.1, (crAt g_4.1.2.2.2.2.2.1 (seAt g_3.1 g_4.2.1).2.1).1.2.1, (crAt g_4.1.2.2.2.2.2.1 (seAt g_3.1 g_4.2.1).2.1).1.2.2) ((1 : Int), (seAt g_3.1 g_4.2.1).2.2)).1.2.2), ((crAt g_4.1.2.2.2.2.2.1 (seAt g_3.1 g_4.2.1).2.1).2.1.1, (crAt g_4.1.2.2.2.2.2.1 (seAt g_3.1 g_4.2.1).2.1).2.1.2), (crAt g_4.1.2.2.2.2.2.1 (seAt g_3.1 g_4.2.1).2.1).2.2) = g_4.1.2.2.2.2.2.1.set (seAt g_3.1 g_4.2.1).2.1.toNat (((Apic.stepL ((crAt g_4.1.2.2.2.2.2.1 (seAt g_3.1 g_4.2.1).2.1).1.1, (crAt g_4.1.2.2.2.2.2.1 (seAt g_3.1 g_4.2.1).2.1).1.2.1, (crAt g_4.1.2.2.2.2.2.1 (seAt g_3.1 g_4.2.1).2.1).1.2.2) ((1 : Int), (seAt g_3.1 g_4.2.1).2.2)).1.1, (Apic.stepL ((crAt g_4.1.2.2.2.2.2.1 (seAt g_3.1 g_4.2.1).2.1).1.1, (crAt g_4.1.2.2.2.2.2.1 (seAt g_3.1 g_4.2.1).2.1).1.2.1, (crAt g_4.1.2.2.2.2.2.1 (seAt g_3.1 g_4.2.1).2.1).1.2.2) ((1 : Int), (seAt g_3.1 g_4.2.1).2.2)).1.2.1, (Apic.stepL ((crAt g_4.1.2.2.2.2.2.1 (seAt g_3.1 g_4.2.1).2.1).1.1, (crAt g_4.1.2.2.2.2.2.1 (seAt g_3.1 g_4.2.1).2.1).1.2.1, (crAt g_4.1.2.2.2.2.2.1 (seAt g_3.1 g_4.2.1).2.1).1.2.2) ((1 : Int), (seAt g_3.1 g_4.2.1).2.2)).1.2.2), ((crAt g_4.1.2.2.2.2.2.1 (seAt g_3.1 g_4.2.1).2.1).2.1.1, (crAt g_4.1.2.2.2.2.2.1 (seAt g_3.1 g_4.2.1).2.1).2.1.2), (crAt g_4.1.2.2.2.2.2.1 (seAt g_3.1 g_4.2.1).2.1).2.2) ∧
 True ∧
 RR g.1.2.2.2.2.1.1 ∧
 RR g.1.2.2.2.2.1.2 ∧
 RR g.1.2.2.2.2.2 ∧
 True) ∧
 (RR ((opAt x.1 g.2.2.1).1) ∧
 RR ((opAt x.1 g.2.2.1).2.1) ∧
 RR ((opAt x.1 g.2.2.1).2.2.1) ∧
 RR ((opAt x.1 g.2.2.1).2.2.2) ∧
 True) ∧
 (RR (0 : Int) ∧
 RR (Value.slice none (0 : Nat) (0 : Nat)) ∧
 True) ∧
 (RR (Value.slice none (0 : Nat) (0 : Nat)) ∧
 RR (Value.slice none (0 : Nat) (0 : Nat)) ∧
 RR (Value.slice none (0 : Nat) (0 : Nat)) ∧
 RR (Value.slice none (0 : Nat) (0 : Nat)) ∧
 RR (0 : Int) ∧
 RR (0 : Int) ∧
 True) ∧
 g.2.1 = g.2.1 ∧
 (RR ((opAt x.1 g.2.2.1).1) ∧
 RR ((opAt x.1 g.2.2.1).2.1) ∧
 RR ((opAt x.1 g.2.2.1).2.2.1) ∧
 RR ((opAt x.1 g.2.2.1).2.2.2) ∧
 True) ∧
 RR g_3.2.1.2.2.2.2.1 ∧
 RR g.1.2.2.2.1 ∧
 True) ∧
 (True ∧
 True) ∧
 True ∧
 (True ∧
 True) ∧
 (True ∧
 True) ∧
 (True ∧
 True) ∧
 (True ∧
 True) ∧
 false = false ∧
 True ∧
 True ∧
 (True ∧
 True) ∧
 True ∧
 (True ∧
 True) ∧
 True ∧
 True ∧
 True ∧
 True ∧
 True ∧
 True ∧
 RR ((Uart.step (g.1.1.1, g.1.1.2.1, g.1.1.2.2.1, g.1.1.2.2.2) (1 : Int) (opAt x.1 g.2.2.1).2.2.2).2.1) ∧
 RR ((Uart.step (g.1.1.1, g.1.1.2.1, g.1.1.2.2.1, g.1.1.2.2.2) (1 : Int) (opAt x.1 g.2.2.1).2.2.2).2.2.1) ∧
 R8 (R8 ((True ∧
 True) ∧
 True ∧
 True ∧
 True ∧
 (True ∧
 True) ∧
 True ∧
 True ∧
 (True ∧
 True) ∧
 (True ∧
 True) ∧
 RR (Value.func (Fn.func (13 : Nat)) ([] : List Value).toArray ([] : List Value).toArray) ∧
 R32 (True ∧
 True ∧
 True ∧
 True ∧
 True ∧
 g_1.1 = g_1.1 ∧
 true = true ∧
 RR (g_1.1 == 1) ∧
 True ∧
 (True ∧
 True) ∧
 (True ∧
 True) ∧
 RR ((opAt x.1 g.2.2.1).2.2.2) ∧
 (RR (1 : Int) ∧
 RR ((opAt x.1 g.2.2.1).2.2.2) ∧
 True) ∧
 R32 (R32 (R8 ((True ∧
 True) ∧
 (True ∧
 True) ∧
 True ∧
 True ∧
 (True ∧
 True) ∧
 True ∧
 x.1 = x.1 ∧
 RR (↑x.1.length : Int) ∧
 g.2.2.1 = g.2.2.1 ∧
 true = true ∧
 True ∧
 (RR ((opAt x.1 g.2.2.1).1) ∧
 RR ((opAt x.1 g.2.2.1).2.1) ∧
 RR ((opAt x.1 g.2.2.1).2.2.1) ∧
 RR ((opAt x.1 g.2.2.1).2.2.2) ∧
 True) ∧
 True ∧
 (True ∧
 True) ∧
 (RR ((opAt x.1 g.2.2.1).1) ∧
 RR ((opAt x.1 g.2.2.1).2.1) ∧
 RR ((opAt x.1 g.2.2.1).2.2.1) ∧
 RR ((opAt x.1 g.2.2.1).2.2.2) ∧
 True) ∧
 R8 (R8 (R8 (True ∧
 True ∧
 True ∧
 True ∧
 True ∧
 True ∧
 True)))))))))) ∧
 (((Apic.stepL ((crAt g_4.1.2.2.2.2.2.1 (seAt g_3.1 g_4.2.1).2.1).1.1, (crAt g_4.1.2.2.2.2.2.1 (seAt g_3.1 g_4.2.1).2.1).1.2.1, (crAt g_4.1.2.2.2.2.2.1 (seAt g_3.1 g_4.2.1).2.1).1.2.2) ((1 : Int), (seAt g_3.1 g_4.2.1).2.2)).2.2.1 == 0) = false →
 (-9223372036854775808 ≤ g_4.2.1 + 1 ∧
 g_4.2.1 + 1 ≤ (9223372036854775807 : Int)) ∧
 ((0 ≤ g_4.2.1 + 1 ∧
 g_4.2.1 + 1 ≤ (↑g_3.1.length : Int) ∧
 g_4.1.2.2.2.2.2.1 = List.foldl ask1 g.1.2.2.1 (List.take (g_4.2.1 + 1).toNat g_3.1)) ∧
 ((↑g_3.1.length : Int) - (g_4.2.1 + 1)).toNat < ((↑g_3.1.length : Int) - g_4.2.1).toNat) ∧
 ((True ∧
 True) ∧
 g_3.1 = g_3.1 ∧
 RR (↑g_3.1.length : Int) ∧
 g_4.2.1 + 1 = g_4.2.1 + 1 ∧
 True) ∧
 ((RR g_2.1.1.1 ∧
 RR g_2.1.1.2.1 ∧
 RR g_2.1.1.2.2.1 ∧
 RR g_2.1.1.2.2.2 ∧
 True ∧
 RR g_4.1.2.2.2.2.2.1 ∧
 True ∧
 RR g.1.2.2.2.2.1.1 ∧
 RR g.1.2.2.2.2.1.2 ∧
 RR g.1.2.2.2.2.2 ∧
 True) ∧
 (RR ((opAt x.1 g.2.2.1).1) ∧
 RR ((opAt x.1 g.2.2.1).2.1) ∧
 RR ((opAt x.1 g.2.2.1).2.2.1) ∧
 RR ((opAt x.1 g.2.2.1).2.2.2) ∧
 True) ∧
 (RR (0 : Int) ∧
 RR (Value.slice none (0 : Nat) (0 : Nat)) ∧
 True) ∧
 (RR (Value.slice none (0 : Nat) (0 : Nat)) ∧
 RR (Value.slice none (0 : Nat) (0 : Nat)) ∧
 RR (Value.slice none (0 : Nat) (0 : Nat)) ∧
 RR (Value.slice none (0 : Nat) (0 : Nat)) ∧
 RR (0 : Int) ∧
 RR (0 : Int) ∧
 True) ∧
 g.2.1 = g.2.1 ∧
 (RR ((opAt x.1 g.2.2.1).1) ∧
 RR ((opAt x.1 g.2.2.1).2.1) ∧
 RR ((opAt x.1 g.2.2.1).2.2.1) ∧
 RR ((opAt x.1 g.2.2.1).2.2.2) ∧
 True) ∧
 RR g_3.2.1.2.2.2.2.1 ∧
 RR g.1.2.2.2.1 ∧
 True) ∧
 (True ∧
 True) ∧
 True ∧
 (True ∧
 True) ∧
 (True ∧
 True) ∧
 (True ∧
 True) ∧
 (True ∧
 True) ∧
 false = false ∧
 True ∧
 True ∧
 (True ∧
 True) ∧
 True ∧
 (True ∧
 True) ∧
 True ∧
 True ∧
 True ∧
 True ∧
 True ∧
 True ∧
 RR ((Uart.step (g.1.1.1, g.1.1.2.1, g.1.1.2.2.1, g.1.1.2.2.2) (1 : Int) (opAt x.1 g.2.2.1).2.2.2).2.1) ∧
 RR ((Uart.step (g.1.1.1, g.1.1.2.1, g.1.1.2.2.1, g.1.1.2.2.2) (1 : Int) (opAt x.1 g.2.2.1).2.2.2).2.2.1) ∧
 R8 (R8 ((True ∧
 True) ∧
 True ∧
 True ∧
 True ∧
 (True ∧
 True) ∧
 True ∧
 True ∧
 (True ∧
 True) ∧
 (True ∧
 True) ∧
 RR (Value.func (Fn.func (13 : Nat)) ([] : List Value).toArray ([] : List Value).toArray) ∧
 R32 (True ∧
 True ∧
 True ∧
 True ∧
 True ∧
 g_1.1 = g_1.1 ∧
 true = true ∧
 RR (g_1.1 == 1) ∧
 True ∧
 (True ∧
 True) ∧
 (True ∧
 True) ∧
 RR ((opAt x.1 g.2.2.1).2.2.2) ∧
 (RR (1 : Int) ∧
 RR ((opAt x.1 g.2.2.1).2.2.2) ∧
 True) ∧
 R32 (R32 (R8 ((True ∧
 True) ∧
 (True ∧
 True) ∧
 True ∧
 True ∧
 (True ∧
 True) ∧
 True ∧
 x.1 = x.1 ∧
 RR (↑x.1.length : Int) ∧
 g.2.2.1 = g.2.2.1 ∧
 true = true ∧
 True ∧
 (RR ((opAt x.1 g.2.2.1).1) ∧
 RR ((opAt x.1 g.2.2.1).2.1) ∧
 RR ((opAt x.1 g.2.2.1).2.2.1) ∧
 RR ((opAt x.1 g.2.2.1).2.2.2) ∧
 True) ∧
 True ∧
 (True ∧
 True) ∧
 (RR ((opAt x.1 g.2.2.1).1) ∧
 RR ((opAt x.1 g.2.2.1).2.1) ∧
 RR ((opAt x.1 g.2.2.1).2.2.1) ∧
 RR ((opAt x.1 g.2.2.1).2.2.2) ∧
 True) ∧
 R8 (R8 (R8 (True ∧
 True ∧
 True ∧
 True ∧
 True ∧
 True ∧
 True))))))))))) ∧
 (decide (g_4.2.1 < (↑g_3.1.length : Int)) = false →
 ((((g_2.1.1.1, g_2.1.1.2.1, g_2.1.1.2.2.1, g_2.1.1.2.2.2), g_3.2.1.2.2.2.2.1, g_4.1.2.2.2.2.2.1) = if (Uart.step (g.1.1.1, g.1.1.2.1, g.1.1.2.2.1, g.1.1.2.2.2) (1 : Int) (opAt x.1 g.2.2.1).2.2.2).2.2.1 = 0 then (((Uart.step (g.1.1.1, g.1.1.2.1, g.1.1.2.2.1, g.1.1.2.2.2) (1 : Int) (opAt x.1 g.2.2.1).2.2.2).1.1, (Uart.step (g.1.1.1, g.1.1.2.1, g.1.1.2.2.1, g.1.1.2.2.2) (1 : Int) (opAt x.1 g.2.2.1).2.2.2).1.2.1, (Uart.step (g.1.1.1, g.1.1.2.1, g.1.1.2.2.1, g.1.1.2.2.2) (1 : Int) (opAt x.1 g.2.2.1).2.2.2).1.2.2.1, (Uart.step (g.1.1.1, g.1.1.2.1, g.1.1.2.2.1, g.1.1.2.2.2) (1 : Int) (opAt x.1 g.2.2.1).2.2.2).1.2.2.2), pinF g.1.2.1 g.1.2.2.1 (if (Uart.step (g.1.1.1, g.1.1.2.1, g.1.1.2.2.1, g.1.1.2.2.2) (1 : Int) (opAt x.1 g.2.2.1).2.2.2).1.2.2.2 = true then (1 : Int) else (2 : Int))) else ((g.1.1.1, g.1.1.2.1, g.1.1.2.2.1, g.1.1.2.2.2), g.1.2.1, g.1.2.2.1)) ∧
 True) ∧
 ((True ∧
 True) ∧
 RR ((Uart.step (g.1.1.1, g.1.1.2.1, g.1.1.2.2.1, g.1.1.2.2.2) (1 : Int) (opAt x.1 g.2.2.1).2.2.2).2.1) ∧
 RR ((Uart.step (g.1.1.1, g.1.1.2.1, g.1.1.2.2.1, g.1.1.2.2.2) (1 : Int) (opAt x.1 g.2.2.1).2.2.2).2.2.1) ∧
 True) ∧
 ((RR g_2.1.1.1 ∧
 RR g_2.1.1.2.1 ∧
 RR g_2.1.1.2.2.1 ∧
 RR g_2.1.1.2.2.2 ∧
 True ∧
 RR g_4.1.2.2.2.2.2.1 ∧
 True ∧
 RR g.1.2.2.2.2.1.1 ∧
 RR g.1.2.2.2.2.1.2 ∧
 RR g.1.2.2.2.2.2 ∧
 True) ∧
 RR g_3.2.1.2.2.2.2.1 ∧
 (RR ((opAt x.1 g.2.2.1).1) ∧
 RR ((opAt x.1 g.2.2.1).2.1) ∧
 RR ((opAt x.1 g.2.2.1).2.2.1) ∧
 RR ((opAt x.1 g.2.2.1).2.2.2) ∧
 True) ∧
 (RR (0 : Int) ∧
 RR (Value.slice none (0 : Nat) (0 : Nat)) ∧
 True) ∧
 (RR (Value.slice none (0 : Nat) (0 : Nat)) ∧
 RR (Value.slice none (0 : Nat) (0 : Nat)) ∧
 RR (Value.slice none (0 : Nat) (0 : Nat)) ∧
 RR (Value.slice none (0 : Nat) (0 : Nat)) ∧
 RR (0 : Int) ∧
 RR (0 : Int) ∧
 True) ∧
 g.2.1 = g.2.1 ∧
 (RR ((opAt x.1 g.2.2.1).1) ∧
 RR ((opAt x.1 g.2.2.1).2.1) ∧
 RR ((opAt x.1 g.2.2.1).2.2.1) ∧
 RR ((opAt x.1 g.2.2.1).2.2.2) ∧
 True) ∧
 RR g.1.2.2.2.1 ∧
 True) ∧
 (True ∧
 True) ∧
 True ∧
 True ∧
 (True ∧
 True) ∧
 (True ∧
 True) ∧
 RR (Value.func (Fn.func (13 : Nat)) ([] : List Value).toArray ([] : List Value).toArray) ∧
 R32 (True ∧
 True ∧
 True ∧
 True ∧
 True ∧
 g_1.1 = g_1.1 ∧
 true = true ∧
 RR (g_1.1 == 1) ∧
 True ∧
 (True ∧
 True) ∧
 (True ∧
 True) ∧
 RR ((opAt x.1 g.2.2.1).2.2.2) ∧
 (RR (1 : Int) ∧
 RR ((opAt x.1 g.2.2.1).2.2.2) ∧
 True) ∧
 R32 (R32 (R8 ((True ∧
 True) ∧
 (True ∧
 True) ∧
 True ∧
 True ∧
 (True ∧
 True) ∧
 True ∧
 x.1 = x.1 ∧
 RR (↑x.1.length : Int) ∧
 g.2.2.1 = g.2.2.1 ∧
 true = true ∧
 True ∧
 (RR ((opAt x.1 g.2.2.1).1) ∧
 RR ((opAt x.1 g.2.2.1).2.1) ∧
 RR ((opAt x.1 g.2.2.1).2.2.1) ∧
 RR ((opAt x.1 g.2.2.1).2.2.2) ∧
 True) ∧
 True ∧
 (True ∧
 True) ∧
 (RR ((opAt x.1 g.2.2.1).1) ∧
 RR ((opAt x.1 g.2.2.1).2.1) ∧
 RR ((opAt x.1 g.2.2.1).2.2.1) ∧
 RR ((opAt x.1 g.2.2.1).2.2.2) ∧
 True) ∧
 R8 (R8 (R8 (True ∧
 True ∧
 True ∧
 True ∧
 True ∧
 True ∧
 True))))))))))) ∧
 (((Uart.step (g.1.1.1, g.1.1.2.1, g.1.1.2.2.1, g.1.1.2.2.2) (1 : Int) (opAt x.1 g.2.2.1).2.2.2).2.2.1 == 0) = false →
 ((((g.1.1.1, g.1.1.2.1, g.1.1.2.2.1, g.1.1.2.2.2), g.1.2.1, g.1.2.2.1) = if (Uart.step (g.1.1.1, g.1.1.2.1, g.1.1.2.2.1, g.1.1.2.2.2) (1 : Int) (opAt x.1 g.2.2.1).2.2.2).2.2.1 = 0 then (((Uart.step (g.1.1.1, g.1.1.2.1, g.1.1.2.2.1, g.1.1.2.2.2) (1 : Int) (opAt x.1 g.2.2.1).2.2.2).1.1, (Uart.step (g.1.1.1, g.1.1.2.1, g.1.1.2.2.1, g.1.1.2.2.2) (1 : Int) (opAt x.1 g.2.2.1).2.2.2).1.2.1, (Uart.step (g.1.1.1, g.1.1.2.1, g.1.1.2.2.1, g.1.1.2.2.2) (1 : Int) (opAt x.1 g.2.2.1).2.2.2).1.2.2.1, (Uart.step (g.1.1.1, g.1.1.2.1, g.1.1.2.2.1, g.1.1.2.2.2) (1 : Int) (opAt x.1 g.2.2.1).2.2.2).1.2.2.2), pinF g.1.2.1 g.1.2.2.1 (if (Uart.step (g.1.1.1, g.1.1.2.1, g.1.1.2.2.1, g.1.1.2.2.2) (1 : Int) (opAt x.1 g.2.2.1).2.2.2).1.2.2.2 = true then (1 : Int) else (2 : Int))) else ((g.1.1.1, g.1.1.2.1, g.1.1.2.2.1, g.1.1.2.2.2), g.1.2.1, g.1.2.2.1)) ∧
 True) ∧
 ((True ∧
 True) ∧
 RR ((Uart.step (g.1.1.1, g.1.1.2.1, g.1.1.2.2.1, g.1.1.2.2.2) (1 : Int) (opAt x.1 g.2.2.1).2.2.2).2.1) ∧
 RR ((Uart.step (g.1.1.1, g.1.1.2.1, g.1.1.2.2.1, g.1.1.2.2.2) (1 : Int) (opAt x.1 g.2.2.1).2.2.2).2.2.1) ∧
 True) ∧
 ((g.1.1.1 = g.1.1.1 ∧
 RR g.1.1.2.1 ∧
 RR g.1.1.2.2.1 ∧
 RR g.1.1.2.2.2 ∧
 True ∧
 RR g.1.2.2.1 ∧
 True ∧
 RR g.1.2.2.2.2.1.1 ∧
 RR g.1.2.2.2.2.1.2 ∧
 RR g.1.2.2.2.2.2 ∧
 True) ∧
 g.1.2.1 = g.1.2.1 ∧
 (RR ((opAt x.1 g.2.2.1).1) ∧
 RR ((opAt x.1 g.2.2.1).2.1) ∧
 RR ((opAt x.1 g.2.2.1).2.2.1) ∧
 RR ((opAt x.1 g.2.2.1).2.2.2) ∧
 True) ∧
 (RR (0 : Int) ∧
 RR (Value.slice none (0 : Nat) (0 : Nat)) ∧
 True) ∧
 (RR (Value.slice none (0 : Nat) (0 : Nat)) ∧
 RR (Value.slice none (0 : Nat) (0 : Nat)) ∧
 RR (Value.slice none (0 : Nat) (0 : Nat)) ∧
 RR (Value.slice none (0 : Nat) (0 : Nat)) ∧
 RR (0 : Int) ∧
 RR (0 : Int) ∧
 True) ∧
 g.2.1 = g.2.1 ∧
 (RR ((opAt x.1 g.2.2.1).1) ∧
 RR ((opAt x.1 g.2.2.1).2.1) ∧
 RR ((opAt x.1 g.2.2.1).2.2.1) ∧
 RR ((opAt x.1 g.2.2.1).2.2.2) ∧
 True) ∧
 RR g.1.2.2.2.1 ∧
 True) ∧
 (True ∧
 True) ∧
 True ∧
 True ∧
 (True ∧
 True) ∧
 (True ∧
 True) ∧
 RR (Value.func (Fn.func (13 : Nat)) ([] : List Value).toArray ([] : List Value).toArray) ∧
 R32 (True ∧
 True ∧
 True ∧
 True ∧
 True ∧
 g_1.1 = g_1.1 ∧
 true = true ∧
 RR (g_1.1 == 1) ∧
 True ∧
 (True ∧
 True) ∧
 (True ∧
 True) ∧
 RR ((opAt x.1 g.2.2.1).2.2.2) ∧
 (RR (1 : Int) ∧
 RR ((opAt x.1 g.2.2.1).2.2.2) ∧
 True) ∧
 R32 (R32 (R8 ((True ∧
 True) ∧
 (True ∧
 True) ∧
 True ∧
 True ∧
 (True ∧
 True) ∧
 True ∧
 x.1 = x.1 ∧
 RR (↑x.1.length : Int) ∧
 g.2.2.1 = g.2.2.1 ∧
 true = true ∧
 True ∧
 (RR ((opAt x.1 g.2.2.1).1) ∧
 RR ((opAt x.1 g.2.2.1).2.1) ∧
 RR ((opAt x.1 g.2.2.1).2.2.1) ∧
 RR ((opAt x.1 g.2.2.1).2.2.2) ∧
 True) ∧
 True ∧
 (True ∧
 True) ∧
 (RR ((opAt x.1 g.2.2.1).1) ∧
 RR ((opAt x.1 g.2.2.1).2.1) ∧
 RR ((opAt x.1 g.2.2.1).2.2.1) ∧
 RR ((opAt x.1 g.2.2.1).2.2.2) ∧
 True) ∧
 R8 (R8 (R8 (True ∧
 True ∧
 True ∧
 True ∧
 True ∧
 True ∧
 True))))))))) ∧
 ∀ (g_2 : ((List Int × List Int × Int × Bool) × List (Int × Int × Bool × Bool × Bool × Bool × Bool) × List ((List Int × List Int × Int) × (Bool × List (Bool × Bool)) × Bool) × Unit × Unit × Unit × Unit) × Unit), ((g_2.1.1, g_2.1.2.1, g_2.1.2.2.1) = if (Uart.step (g.1.1.1, g.1.1.2.1, g.1.1.2.2.1, g.1.1.2.2.2) (1 : Int) (opAt x.1 g.2.2.1).2.2.2).2.2.1 = 0 then (((Uart.step (g.1.1.1, g.1.1.2.1, g.1.1.2.2.1, g.1.1.2.2.2) (1 : Int) (opAt x.1 g.2.2.1).2.2.2).1.1, (Uart.step (g.1.1.1, g.1.1.2.1, g.1.1.2.2.1, g.1.1.2.2.2) (1 : Int) (opAt x.1 g.2.2.1).2.2.2).1.2.1, (Uart.step (g.1.1.1, g.1.1.2.1, g.1.1.2.2.1, g.1.1.2.2.2) (1 : Int) (opAt x.1 g.2.2.1).2.2.2).1.2.2.1, (Uart.step (g.1.1.1, g.1.1.2.1, g.1.1.2.2.1, g.1.1.2.2.2) (1 : Int) (opAt x.1 g.2.2.1).2.2.2).1.2.2.2), pinF g.1.2.1 g.1.2.2.1 (if (Uart.step (g.1.1.1, g.1.1.2.1, g.1.1.2.2.1, g.1.1.2.2.2) (1 : Int) (opAt x.1 g.2.2.1).2.2.2).1.2.2.2 = true then (1 : Int) else (2 : Int))) else ((g.1.1.1, g.1.1.2.1, g.1.1.2.2.1, g.1.1.2.2.2), g.1.2.1, g.1.2.2.1)) →
 (((g_2.1.1.1.length ≤ (9223372036854775807 : Nat) ∧
 ∀ (x : Int), x ∈ g_2.1.1.1 →
 0 ≤ x ∧
 x ≤ 255) ∧
 (g_2.1.1.2.1.length ≤ (9223372036854775807 : Nat) ∧
 ∀ (x : Int), x ∈ g_2.1.1.2.1 →
 0 ≤ x ∧
 x ≤ 255) ∧
 (-9223372036854775808 ≤ g_2.1.1.2.2.1 ∧
 g_2.1.1.2.2.1 ≤ 9223372036854775807) ∧
 True) ∧
 (g_2.1.2.1.length ≤ (9223372036854775807 : Nat) ∧
 ∀ (x : Int × Int × Bool × Bool × Bool × Bool × Bool), x ∈ g_2.1.2.1 →
 (-9223372036854775808 ≤ x.1 ∧
 x.1 ≤ 9223372036854775807) ∧
 (-9223372036854775808 ≤ x.2.1 ∧
 x.2.1 ≤ 9223372036854775807) ∧
 True ∧
 True ∧
 True ∧
 True ∧
 True) ∧
 (g_2.1.2.2.1.length = (2 : Nat) ∧
 ∀ (x : (List Int × List Int × Int) × (Bool × List (Bool × Bool)) × Bool), x ∈ g_2.1.2.2.1 →
 ((x.1.1.length = (4 : Nat) ∧
 ∀ (x_1 : Int), x_1 ∈ x.1.1 →
 0 ≤ x_1 ∧
 x_1 ≤ 18446744073709551615) ∧
 (x.1.2.1.length = (4 : Nat) ∧
 ∀ (x_1 : Int), x_1 ∈ x.1.2.1 →
 0 ≤ x_1 ∧
 x_1 ≤ 18446744073709551615) ∧
 -9223372036854775808 ≤ x.1.2.2 ∧
 x.1.2.2 ≤ 9223372036854775807) ∧
 (True ∧
 x.2.1.2.length ≤ (9223372036854775807 : Nat) ∧
 ∀ (x_1 : Bool × Bool), x_1 ∈ x.2.1.2 →
 True ∧
 True) ∧
 True) ∧
 True ∧
 True ∧
 True ∧
 True) ∧
 True →
 (g.2.1.length + ((((0 : Int), ([] : List Int)) :: ([] : List (Int × List Int))).set (0 : Nat) ((Uart.step (g.1.1.1, g.1.1.2.1, g.1.1.2.2.1, g.1.1.2.2.2) (1 : Int) (opAt x.1 g.2.2.1).2.2.2).2.2.1, ([] : List Int))).length ≤ (9223372036854775807 : Nat) ∧
 (g.2.1.length + ((((0 : Int), ([] : List Int)) :: ([] : List (Int × List Int))).set (0 : Nat) ((Uart.step (g.1.1.1, g.1.1.2.1, g.1.1.2.2.1, g.1.1.2.2.2) (1 : Int) (opAt x.1 g.2.2.1).2.2.2).2.2.1, ([] : List Int))).length + (g.2.1.length + ((((0 : Int), ([] : List Int)) :: ([] : List (Int × List Int))).set (0 : Nat) ((Uart.step (g.1.1.1, g.1.1.2.1, g.1.1.2.2.1, g.1.1.2.2.2) (1 : Int) (opAt x.1 g.2.2.1).2.2.2).2.2.1, ([] : List Int))).length) / (4 : Nat) + (192 : Nat)) * (32 : Nat) ≤ (281474976710656 : Nat)) ∧
 (-9223372036854775808 ≤ g.2.2.1 + 1 ∧
 g.2.2.1 + 1 ≤ (9223372036854775807 : Int)) ∧
 ((0 ≤ g.2.2.1 + 1 ∧
 g.2.2.1 + 1 ≤ (↑x.1.length : Int) ∧
 (((g_2.1.1.1, g_2.1.1.2.1, g_2.1.1.2.2.1, g_2.1.1.2.2.2), g_2.1.2.1, g_2.1.2.2.1, g.1.2.2.2.1, (g.1.2.2.2.2.1.1, g.1.2.2.2.2.1.2), g.1.2.2.2.2.2), g.2.1 ++ (((0 : Int), ([] : List Int)) :: ([] : List (Int × List Int))).set (0 : Nat) ((Uart.step (g.1.1.1, g.1.1.2.1, g.1.1.2.2.1, g.1.1.2.2.2) (1 : Int) (opAt x.1 g.2.2.1).2.2.2).2.2.1, ([] : List Int))) = (wholeOf (ypl (List.take (g.2.2.1 + 1).toNat x.1)).1, (ypl (List.take (g.2.2.1 + 1).toNat x.1)).2)) ∧
 ((↑x.1.length : Int) - (g.2.2.1 + 1)).toNat < ((↑x.1.length : Int) - g.2.2.1).toNat) ∧
 ((True ∧
 True) ∧
 (True ∧
 True) ∧
 True ∧
 x.1 = x.1 ∧
 RR (↑x.1.length : Int) ∧
 g.2.2.1 + 1 = g.2.2.1 + 1 ∧
 True) ∧
 ((RR g_2.1.1.1 ∧
 RR g_2.1.1.2.1 ∧
 RR g_2.1.1.2.2.1 ∧
 RR g_2.1.1.2.2.2 ∧
 True ∧
 RR g_2.1.2.2.1 ∧
 True ∧
 RR g.1.2.2.2.2.1.1 ∧
 RR g.1.2.2.2.2.1.2 ∧
 RR g.1.2.2.2.2.2 ∧
 True) ∧
 RR g_2.1.2.1 ∧
 RR g.1.2.2.2.1 ∧
 g.2.1 ++ (((0 : Int), ([] : List Int)) :: ([] : List (Int × List Int))).set (0 : Nat) ((Uart.step (g.1.1.1, g.1.1.2.1, g.1.1.2.2.1, g.1.1.2.2.2) (1 : Int) (opAt x.1 g.2.2.1).2.2.2).2.2.1, ([] : List Int)) = g.2.1 ++ (((0 : Int), ([] : List Int)) :: ([] : List (Int × List Int))).set (0 : Nat) ((Uart.step (g.1.1.1, g.1.1.2.1, g.1.1.2.2.1, g.1.1.2.2.2) (1 : Int) (opAt x.1 g.2.2.1).2.2.2).2.2.1, ([] : List Int)) ∧
 (RR (Value.slice none (0 : Nat) (0 : Nat)) ∧
 RR (Value.slice none (0 : Nat) (0 : Nat)) ∧
 RR (Value.slice none (0 : Nat) (0 : Nat)) ∧
 RR (Value.slice none (0 : Nat) (0 : Nat)) ∧
 RR (0 : Int) ∧
 RR (0 : Int) ∧
 True) ∧
 True) ∧
 True) ∧
 ((g_1.1 == 1) = false →
 ((g_1.1 == 2) = true →
 (0 ≤ (opAt x.1 g.2.2.1).2.1 ∧
 (opAt x.1 g.2.2.1).2.1 < (↑(2 : Nat) : Int)) ∧
 ((crAt g.1.2.2.1 (opAt x.1 g.2.2.1).2.1).2.2 = true →
 (crAt g.1.2.2.1 (opAt x.1 g.2.2.1).2.1).2.2 = true) ∧
 ((crAt g.1.2.2.1 (opAt x.1 g.2.2.1).2.1).2.2 = true →
 (crAt g.1.2.2.1 (opAt x.1 g.2.2.1).2.1).2.2 = true) ∧
 ((crAt g.1.2.2.1 (opAt x.1 g.2.2.1).2.1).2.2 = true →
 (crAt g.1.2.2.1 (opAt x.1 g.2.2.1).2.1).2.2 = true) ∧
 ((crAt g.1.2.2.1 (opAt x.1 g.2.2.1).2.1).2.2 = true →
 (crAt g.1.2.2.1 (opAt x.1 g.2.2.1).2.1).2.2 = true) ∧
 ((crAt g.1.2.2.1 (opAt x.1 g.2.2.1).2.1).2.2 = true →
 (crAt g.1.2.2.1 (opAt x.1 g.2.2.1).2.1).2.2 = true) ∧
 (((crAt g.1.2.2.1 (opAt x.1 g.2.2.1).2.1).2.2 && g.1.1.2.2.2) = true →
 Holds True ∧
 ((((Uart.step (g.1.1.1, g.1.1.2.1, g.1.1.2.2.1, g.1.1.2.2.2) (2 : Int) (0 : Int)).2.2.1 == 0) = true →
 ((RR ((Uart.step (g.1.1.1, g.1.1.2.1, g.1.1.2.2.1, g.1.1.2.2.2) (2 : Int) (0 : Int)).1.1, (Uart.step (g.1.1.1, g.1.1.2.1, g.1.1.2.2.1, g.1.1.2.2.2) (2 : Int) (0 : Int)).1.2.1, (Uart.step (g.1.1.1, g.1.1.2.1, g.1.1.2.2.1, g.1.1.2.2.2) (2 : Int) (0 : Int)).1.2.2.1, (Uart.step (g.1.1.1, g.1.1.2.1, g.1.1.2.2.1, g.1.1.2.2.2) (2 : Int) (0 : Int)).1.2.2.2) ∧
 True) ∧
 (RR ((Uart.step (g.1.1.1, g.1.1.2.1, g.1.1.2.2.1, g.1.1.2.2.2) (2 : Int) (0 : Int)).2.1) ∧
 RR ((Uart.step (g.1.1.1, g.1.1.2.1, g.1.1.2.2.1, g.1.1.2.2.2) (2 : Int) (0 : Int)).2.2.1) ∧
 (True ∧
 True) ∧
 True) ∧
 ((RR ((Uart.step (g.1.1.1, g.1.1.2.1, g.1.1.2.2.1, g.1.1.2.2.2) (2 : Int) (0 : Int)).1.1) ∧
 RR ((Uart.step (g.1.1.1, g.1.1.2.1, g.1.1.2.2.1, g.1.1.2.2.2) (2 : Int) (0 : Int)).1.2.1) ∧
 RR ((Uart.step (g.1.1.1, g.1.1.2.1, g.1.1.2.2.1, g.1.1.2.2.2) (2 : Int) (0 : Int)).1.2.2.1) ∧
 RR ((Uart.step (g.1.1.1, g.1.1.2.1, g.1.1.2.2.1, g.1.1.2.2.2) (2 : Int) (0 : Int)).1.2.2.2) ∧
 True ∧
 RR g.1.2.2.1 ∧
 True ∧
 RR g.1.2.2.2.2.1.1 ∧
 RR g.1.2.2.2.2.1.2 ∧
 RR g.1.2.2.2.2.2 ∧
 True) ∧
 (RR ((opAt x.1 g.2.2.1).1) ∧
 RR ((opAt x.1 g.2.2.1).2.1) ∧
 RR ((opAt x.1 g.2.2.1).2.2.1) ∧
 RR ((opAt x.1 g.2.2.1).2.2.2) ∧
 True) ∧
 (RR (0 : Int) ∧
 RR (Value.slice none (0 : Nat) (0 : Nat)) ∧
 True) ∧
 (RR (Value.slice none (0 : Nat) (0 : Nat)) ∧
 RR (Value.slice none (0 : Nat) (0 : Nat)) ∧
 RR (Value.slice none (0 : Nat) (0 : Nat)) ∧
 RR (Value.slice none (0 : Nat) (0 : Nat)) ∧
 RR (0 : Int) ∧
 RR (0 : Int) ∧
 True) ∧
 g.2.1 = g.2.1 ∧
 (RR ((opAt x.1 g.2.2.1).1) ∧
 RR ((opAt x.1 g.2.2.1).2.1) ∧
 RR ((opAt x.1 g.2.2.1).2.2.1) ∧
 RR ((opAt x.1 g.2.2.1).2.2.2) ∧
 True) ∧
 g.1.2.1 = g.1.2.1 ∧
 RR g.1.2.2.2.1 ∧
 True) ∧
 (True ∧
 True) ∧
 RR ((opAt x.1 g.2.2.1).2.1) ∧
 True ∧
 True ∧
 RR (0 : Int) ∧
 ((True ∧
 True ∧
 True ∧
 True ∧
 True) ∧
 (opAt x.1 g.2.2.1).2.1.toNat = (opAt x.1 g.2.2.1).2.1.toNat) ∧
 True ∧
 True ∧
 True ∧
 True ∧
 (True ∧
 True) ∧
 RR ((opAt x.1 g.2.2.1).2.1) ∧
 (True ∧
 True) ∧
 (True ∧
 True) ∧
 ((True ∧
 True ∧
 True ∧
 True ∧
 True) ∧
 (opAt x.1 g.2.2.1).2.1.toNat = (opAt x.1 g.2.2.1).2.1.toNat) ∧
 true = true ∧
 ((True ∧
 True ∧
 True ∧
 True ∧
 True) ∧
 (opAt x.1 g.2.2.1).2.1.toNat = (opAt x.1 g.2.2.1).2.1.toNat) ∧
 ((True ∧
 True ∧
 True ∧
 True ∧
 True) ∧
 (opAt x.1 g.2.2.1).2.1.toNat = (opAt x.1 g.2.2.1).2.1.toNat) ∧
 ((True ∧
 True ∧
 True ∧
 True ∧
 True) ∧
 (opAt x.1 g.2.2.1).2.1.toNat = (opAt x.1 g.2.2.1).2.1.toNat) ∧
 RR ((crAt g.1.2.2.1 (opAt x.1 g.2.2.1).2.1).2.2) ∧
 RR ((crAt g.1.2.2.1 (opAt x.1 g.2.2.1).2.1).2.2) ∧
 True ∧
 True ∧
 True ∧
 True ∧
 True ∧
 RR ((crAt g.1.2.2.1 (opAt x.1 g.2.2.1).2.1).2.2 && g.1.1.2.2.2) ∧
 True ∧
 (True ∧
 True) ∧
 (RR (2 : Int) ∧
 RR (0 : Int) ∧
 True) ∧
 R32 (R32 (R32 (R8 (R8 (True ∧
 (True ∧
 True) ∧
 True ∧
 True ∧
 (True ∧
 True) ∧
 (True ∧
 True) ∧
 RR (Value.func (Fn.func (13 : Nat)) ([] : List Value).toArray ([] : List Value).toArray) ∧
 R32 (True ∧
 True ∧
 True ∧
 True ∧
 True ∧
 g_1.1 = g_1.1 ∧
 false = false ∧
 RR (g_1.1 == 1) ∧
 R8 (True ∧
 True ∧
 True ∧
 true = true ∧
 RR (g_1.1 == 2) ∧
 RR (Value.func (Fn.func (13 : Nat)) ([] : List Value).toArray ([] : List Value).toArray) ∧
 (True ∧
 True) ∧
 (True ∧
 True) ∧
 RR ((opAt x.1 g.2.2.1).2.1) ∧
 R32 (R8 (R8 (R8 (True ∧
 True ∧
 True ∧
 True ∧
 (True ∧
 True) ∧
 (True ∧
 True) ∧
 True ∧
 True ∧
 (True ∧
 True) ∧
 True ∧
 x.1 = x.1 ∧
 RR (↑x.1.length : Int) ∧
 g.2.2.1 = g.2.2.1 ∧
 true = true ∧
 True ∧
 (RR ((opAt x.1 g.2.2.1).1) ∧
 RR ((opAt x.1 g.2.2.1).2.1) ∧
 RR ((opAt x.1 g.2.2.1).2.2.1) ∧
 RR ((opAt x.1 g.2.2.1).2.2.2) ∧
 True) ∧
 True ∧
 (True ∧
 True) ∧
 (RR ((opAt x.1 g.2.2.1).1) ∧
 RR ((opAt x.1 g.2.2.1).2.1) ∧
 RR ((opAt x.1 g.2.2.1).2.2.1) ∧
 RR ((opAt x.1 g.2.2.1).2.2.2) ∧
 True) ∧
 R8 (R8 (R8 (True ∧
 True ∧
 True ∧
 True ∧
 True ∧
 True ∧
 True))))))))))))))) ∧
 ∀ (g_2 : ((List Int × List Int × Int × Bool) × Unit × Unit × Unit × Unit × Unit × Unit) × Unit), g_2.1.1 = ((Uart.step (g.1.1.1, g.1.1.2.1, g.1.1.2.2.1, g.1.1.2.2.2) (2 : Int) (0 : Int)).1.1, (Uart.step (g.1.1.1, g.1.1.2.1, g.1.1.2.2.1, g.1.1.2.2.2) (2 : Int) (0 : Int)).1.2.1, (Uart.step (g.1.1.1, g.1.1.2.1, g.1.1.2.2.1, g.1.1.2.2.2) (2 : Int) (0 : Int)).1.2.2.1, (Uart.step (g.1.1.1, g.1.1.2.1, g.1.1.2.2.1, g.1.1.2.2.2) (2 : Int) (0 : Int)).1.2.2.2) →
 (((g_2.1.1.1.length ≤ (9223372036854775807 : Nat) ∧
 ∀ (x : Int), x ∈ g_2.1.1.1 →
 0 ≤ x ∧
 x ≤ 255) ∧
 (g_2.1.1.2.1.length ≤ (9223372036854775807 : Nat) ∧
 ∀ (x : Int), x ∈ g_2.1.1.2.1 →
 0 ≤ x ∧
 x ≤ 255) ∧
 (-9223372036854775808 ≤ g_2.1.1.2.2.1 ∧
 g_2.1.1.2.2.1 ≤ 9223372036854775807) ∧
 True) ∧
 True ∧
 True ∧
 True ∧
 True ∧
 True ∧
 True) ∧
 True →
 (g_2.1.1.2.2.2 = true →
 Holds True ∧
 (((Line.step g.1.2.1 (1 : Int) (0 : Int)).2.2.1 != 0) = true →
 ∃ (g_3 : ((List Int × List Int × Int × Bool) × List (Int × Int × Bool × Bool × Bool × Bool × Bool) × List ((List Int × List Int × Int) × (Bool × List (Bool × Bool)) × Bool) × Unit × Unit × Unit × Unit) × Unit), ((((g_3.1.1, g_3.1.2.1, g_3.1.2.2.1) = if (Uart.step (g.1.1.1, g.1.1.2.1, g.1.1.2.2.1, g.1.1.2.2.2) (2 : Int) (0 : Int)).2.2.1 = 0 then (((Uart.step (g.1.1.1, g.1.1.2.1, g.1.1.2.2.1, g.1.1.2.2.2) (2 : Int) (0 : Int)).1.1, (Uart.step (g.1.1.1, g.1.1.2.1, g.1.1.2.2.1, g.1.1.2.2.2) (2 : Int) (0 : Int)).1.2.1, (Uart.step (g.1.1.1, g.1.1.2.1, g.1.1.2.2.1, g.1.1.2.2.2) (2 : Int) (0 : Int)).1.2.2.1, (Uart.step (g.1.1.1, g.1.1.2.1, g.1.1.2.2.1, g.1.1.2.2.2) (2 : Int) (0 : Int)).1.2.2.2), pinF g.1.2.1 g.1.2.2.1 (if (Uart.step (g.1.1.1, g.1.1.2.1, g.1.1.2.2.1, g.1.1.2.2.2) (2 : Int) (0 : Int)).1.2.2.2 = true then (1 : Int) else (2 : Int))) else ((g.1.1.1, g.1.1.2.1, g.1.1.2.2.1, g.1.1.2.2.2), g.1.2.1, g.1.2.2.1)) ∧
 (((g_3.1.1.1.length ≤ (9223372036854775807 : Nat) ∧
 ∀ (x : Int), x ∈ g_3.1.1.1 →
 0 ≤ x ∧
 x ≤ 255) ∧
 (g_3.1.1.2.1.length ≤ (9223372036854775807 : Nat) ∧
 ∀ (x : Int), x ∈ g_3.1.1.2.1 →
 0 ≤ x ∧
 x ≤ 255) ∧
 (-9223372036854775808 ≤ g_3.1.1.2.2.1 ∧
 g_3.1.1.2.2.1 ≤ 9223372036854775807) ∧
 True) ∧
 (g_3.1.2.1.length ≤ (9223372036854775807 : Nat) ∧
 ∀ (x : Int × Int × Bool × Bool × Bool × Bool × Bool), x ∈ g_3.1.2.1 →
 (-9223372036854775808 ≤ x.1 ∧
 x.1 ≤ 9223372036854775807) ∧
 (-9223372036854775808 ≤ x.2.1 ∧
 x.2.1 ≤ 9223372036854775807) ∧
 True ∧
 True ∧
 True ∧
 True ∧
 True) ∧
 (g_3.1.2.2.1.length = (2 : Nat) ∧
 ∀ (x : (List Int × List Int × Int) × (Bool × List (Bool × Bool)) × Bool), x ∈ g_3.1.2.2.1 →
 ((x.1.1.length = (4 : Nat) ∧
 ∀ (x_1 : Int), x_1 ∈ x.1.1 →
 0 ≤ x_1 ∧
 x_1 ≤ 18446744073709551615) ∧
 (x.1.2.1.length = (4 : Nat) ∧
 ∀ (x_1 : Int), x_1 ∈ x.1.2.1 →
 0 ≤ x_1 ∧
 x_1 ≤ 18446744073709551615) ∧
 -9223372036854775808 ≤ x.1.2.2 ∧
 x.1.2.2 ≤ 9223372036854775807) ∧
 (True ∧
 x.2.1.2.length ≤ (9223372036854775807 : Nat) ∧
 ∀ (x_1 : Bool × Bool), x_1 ∈ x.2.1.2 →
 True ∧
 True) ∧
 True) ∧
 True ∧
 True ∧
 True ∧
 True) ∧
 True) ∧
 True) ∧
 ((True ∧
 True) ∧
 RR ((Uart.step (g.1.1.1, g.1.1.2.1, g.1.1.2.2.1, g.1.1.2.2.2) (2 : Int) (0 : Int)).2.1) ∧
 RR ((Uart.step (g.1.1.1, g.1.1.2.1, g.1.1.2.2.1, g.1.1.2.2.2) (2 : Int) (0 : Int)).2.2.1) ∧
 True) ∧
 ((g_2.1.1.1 = g_3.1.1.1 ∧
 g_2.1.1.2.1 = g_3.1.1.2.1 ∧
 g_2.1.1.2.2.1 = g_3.1.1.2.2.1 ∧
 g_2.1.1.2.2.2 = g_3.1.1.2.2.2 ∧
 False ∧
 g.1.2.2.1 = g_3.1.2.2.1 ∧
 True ∧
 RR g.1.2.2.2.2.1.1 ∧
 RR g.1.2.2.2.2.1.2 ∧
 RR g.1.2.2.2.2.2 ∧
 True) ∧
 False ∧
 (RR ((opAt x.1 g.2.2.1).1) ∧
 RR ((opAt x.1 g.2.2.1).2.1) ∧
 RR ((opAt x.1 g.2.2.1).2.2.1) ∧
 RR ((opAt x.1 g.2.2.1).2.2.2) ∧
 True) ∧
 (RR (0 : Int) ∧
 RR (Value.slice none (0 : Nat) (0 : Nat)) ∧
 True) ∧
 (RR (Value.slice none (0 : Nat) (0 : Nat)) ∧
 RR (Value.slice none (0 : Nat) (0 : Nat)) ∧
 RR (Value.slice none (0 : Nat) (0 : Nat)) ∧
 RR (Value.slice none (0 : Nat) (0 : Nat)) ∧
 RR (0 : Int) ∧
 RR (0 : Int) ∧
 True) ∧
 g.2.1 = g.2.1 ∧
 (RR ((opAt x.1 g.2.2.1).1) ∧
 RR ((opAt x.1 g.2.2.1).2.1) ∧
 RR ((opAt x.1 g.2.2.1).2.2.1) ∧
 RR ((opAt x.1 g.2.2.1).2.2.2) ∧
 True) ∧
 RR g.1.2.2.2.1 ∧
 True) ∧
 (True ∧
 True) ∧
 RR ((opAt x.1 g.2.2.1).2.1) ∧
 True ∧
 True ∧
 RR (0 : Int) ∧
 ((True ∧
 True ∧
 True ∧
 True ∧
 True) ∧
 (opAt x.1 g.2.2.1).2.1.toNat = (opAt x.1 g.2.2.1).2.1.toNat) ∧
 True ∧
 True ∧
 True ∧
 True ∧
 (True ∧
 True) ∧
 RR ((opAt x.1 g.2.2.1).2.1) ∧
 (True ∧
 True) ∧
 (True ∧
 True) ∧
 ((True ∧
 True ∧
 True ∧
 True ∧
 True) ∧
 (opAt x.1 g.2.2.1).2.1.toNat = (opAt x.1 g.2.2.1).2.1.toNat) ∧
 true = true ∧
 ((True ∧
 True ∧
 True ∧
 True ∧
 True) ∧
 (opAt x.1 g.2.2.1).2.1.toNat = (opAt x.1 g.2.2.1).2.1.toNat) ∧
 ((True ∧
 True ∧
 True ∧
 True ∧
 True) ∧
 (opAt x.1 g.2.2.1).2.1.toNat = (opAt x.1 g.2.2.1).2.1.toNat) ∧
 ((True ∧
 True ∧
 True ∧
 True ∧
 True) ∧
 (opAt x.1 g.2.2.1).2.1.toNat = (opAt x.1 g.2.2.1).2.1.toNat) ∧
 RR ((crAt g.1.2.2.1 (opAt x.1 g.2.2.1).2.1).2.2) ∧
 RR ((crAt g.1.2.2.1 (opAt x.1 g.2.2.1).2.1).2.2) ∧
 True ∧
 True ∧
 True ∧
 True ∧
 True ∧
 RR ((crAt g.1.2.2.1 (opAt x.1 g.2.2.1).2.1).2.2 && g.1.1.2.2.2) ∧
 True ∧
 (True ∧
 True) ∧
 (RR (2 : Int) ∧
 RR (0 : Int) ∧
 True) ∧
 R32 (R32 (R32 (R8 (R8 (True ∧
 (True ∧
 True) ∧
 True ∧
 True ∧
 (True ∧
 True) ∧
 (True ∧
 True) ∧
 RR (Value.func (Fn.func (13 : Nat)) ([] : List Value).toArray ([] : List Value).toArray) ∧
 R32 (True ∧
 True ∧
 True ∧
 True ∧
 True ∧
 g_1.1 = g_1.1 ∧
 false = false ∧
 RR (g_1.1 == 1) ∧
 R8 (True ∧
 True ∧
 True ∧
 true = true ∧
 RR (g_1.1 == 2) ∧
 RR (Value.func (Fn.func (13 : Nat)) ([] : List Value).toArray ([] : List Value).toArray) ∧
 (True ∧
 True) ∧
 (True ∧
 True) ∧
 RR ((opAt x.1 g.2.2.1).2.1) ∧
 R32 (R8 (R8 (R8 (True ∧
 True ∧
 True ∧
 True ∧
 (True ∧
 True) ∧
 (True ∧
 True) ∧
 True ∧
 True ∧
 (True ∧
 True) ∧
 True ∧
 x.1 = x.1 ∧
 RR (↑x.1.length : Int) ∧
 g.2.2.1 = g.2.2.1 ∧
 true = true ∧
 True ∧
 (RR ((opAt x.1 g.2.2.1).1) ∧
 RR ((opAt x.1 g.2.2.1).2.1) ∧
 RR ((opAt x.1 g.2.2.1).2.2.1) ∧
 RR ((opAt x.1 g.2.2.1).2.2.2) ∧
 True) ∧
 True ∧
 (True ∧
 True) ∧
 (RR ((opAt x.1 g.2.2.1).1) ∧
 RR ((opAt x.1 g.2.2.1).2.1) ∧
 RR ((opAt x.1 g.2.2.1).2.2.1) ∧
 RR ((opAt x.1 g.2.2.1).2.2.2) ∧
 True) ∧
 R8 (R8 (R8 (True ∧
 True ∧
 True ∧
 True ∧
 True ∧
 True ∧
 True))))))))))))))) ∧
 (((Line.step g.1.2.1 (1 : Int) (0 : Int)).2.2.1 != 0) = false →
 (((RR ((Line.step g.1.2.1 (1 : Int) (0 : Int)).2.1) ∧
 (Line.step g.1.2.1 (1 : Int) (0 : Int)).1 = (Line.step g.1.2.1 (1 : Int) (0 : Int)).1) ∧
 True) ∧
 (RR ((Line.step g.1.2.1 (1 : Int) (0 : Int)).2.1) ∧
 (True ∧
 True) ∧
 True) ∧
 ((RR g_2.1.1.1 ∧
 RR g_2.1.1.2.1 ∧
 RR g_2.1.1.2.2.1 ∧
 RR g_2.1.1.2.2.2 ∧
 True ∧
 RR g.1.2.2.1 ∧
 True ∧
 RR g.1.2.2.2.2.1.1 ∧
 RR g.1.2.2.2.2.1.2 ∧
 RR g.1.2.2.2.2.2 ∧
 True) ∧
 RR ((Line.step g.1.2.1 (1 : Int) (0 : Int)).1) ∧
 (RR ((opAt x.1 g.2.2.1).1) ∧
 RR ((opAt x.1 g.2.2.1).2.1) ∧
 RR ((opAt x.1 g.2.2.1).2.2.1) ∧
 RR ((opAt x.1 g.2.2.1).2.2.2) ∧
 True) ∧
 (RR (0 : Int) ∧
 RR (Value.slice none (0 : Nat) (0 : Nat)) ∧
 True) ∧
 (RR (Value.slice none (0 : Nat) (0 : Nat)) ∧
 RR (Value.slice none (0 : Nat) (0 : Nat)) ∧
 RR (Value.slice none (0 : Nat) (0 : Nat)) ∧
 RR (Value.slice none (0 : Nat) (0 : Nat)) ∧
 RR (0 : Int) ∧
 RR (0 : Int) ∧
 True) ∧
 g.2.1 = g.2.1 ∧
 (RR ((opAt x.1 g.2.2.1).1) ∧
 RR ((opAt x.1 g.2.2.1).2.1) ∧
 RR ((opAt x.1 g.2.2.1).2.2.1) ∧
 RR ((opAt x.1 g.2.2.1).2.2.2) ∧
 True) ∧
 RR g.1.2.2.2.1 ∧
 True) ∧
 (True ∧
 True) ∧
 True ∧
 (True ∧
 True) ∧
 (True ∧
 True) ∧
 (True ∧
 True) ∧
 (True ∧
 True) ∧
 true = true ∧
 (True ∧
 True) ∧
 True ∧
 True ∧
 True ∧
 (True ∧
 True) ∧
 True ∧
 True ∧
 True ∧
 True ∧
 True ∧
 True ∧
 RR ((Uart.step (g.1.1.1, g.1.1.2.1, g.1.1.2.2.1, g.1.1.2.2.2) (2 : Int) (0 : Int)).2.1) ∧
 RR ((Uart.step (g.1.1.1, g.1.1.2.1, g.1.1.2.2.1, g.1.1.2.2.2) (2 : Int) (0 : Int)).2.2.1) ∧
 R8 (R8 ((True ∧
 True) ∧
 True ∧
 True ∧
 True ∧
 (True ∧
 True) ∧
 RR ((opAt x.1 g.2.2.1).2.1) ∧
 True ∧
 True ∧
 RR (0 : Int) ∧
 ((True ∧
 True ∧
 True ∧
 True ∧
 True) ∧
 (opAt x.1 g.2.2.1).2.1.toNat = (opAt x.1 g.2.2.1).2.1.toNat) ∧
 True ∧
 True ∧
 True ∧
 True ∧
 (True ∧
 True) ∧
 RR ((opAt x.1 g.2.2.1).2.1) ∧
 (True ∧
 True) ∧
 (True ∧
 True) ∧
 ((True ∧
 True ∧
 True ∧
 True ∧
 True) ∧
 (opAt x.1 g.2.2.1).2.1.toNat = (opAt x.1 g.2.2.1).2.1.toNat) ∧
 true = true ∧
 ((True ∧
 True ∧
 True ∧
 True ∧
 True) ∧
 (opAt x.1 g.2.2.1).2.1.toNat = (opAt x.1 g.2.2.1).2.1.toNat) ∧
 ((True ∧
 True ∧
 True ∧
 True ∧
 True) ∧
 (opAt x.1 g.2.2.1).2.1.toNat = (opAt x.1 g.2.2.1).2.1.toNat) ∧
 ((True ∧
 True ∧
 True ∧
 True ∧
 True) ∧
 (opAt x.1 g.2.2.1).2.1.toNat = (opAt x.1 g.2.2.1).2.1.toNat) ∧
 RR ((crAt g.1.2.2.1 (opAt x.1 g.2.2.1).2.1).2.2) ∧
 RR ((crAt g.1.2.2.1 (opAt x.1 g.2.2.1).2.1).2.2) ∧
 True ∧
 True ∧
 True ∧
 True ∧
 True ∧
 RR ((crAt g.1.2.2.1 (opAt x.1 g.2.2.1).2.1).2.2 && g.1.1.2.2.2) ∧
 True ∧
 (True ∧
 True) ∧
 (RR (2 : Int) ∧
 RR (0 : Int) ∧
 True) ∧
 R32 (R32 (R32 (R8 (R8 (True ∧
 (True ∧
 True) ∧
 True ∧
 True ∧
 (True ∧
 True) ∧
 (True ∧
 True) ∧
 RR (Value.func (Fn.func (13 : Nat)) ([] : List Value).toArray ([] : List Value).toArray) ∧
 R32 (True ∧
 True ∧
 True ∧
 True ∧
 True ∧
 g_1.1 = g_1.1 ∧
 false = false ∧
 RR (g_1.1 == 1) ∧
 R8 (True ∧
 True ∧
 True ∧
 true = true ∧
 RR (g_1.1 == 2) ∧
 RR (Value.func (Fn.func (13 : Nat)) ([] : List Value).toArray ([] : List Value).toArray) ∧
 (True ∧
 True) ∧
 (True ∧
 True) ∧
 RR ((opAt x.1 g.2.2.1).2.1) ∧
 R32 (R8 (R8 (R8 (True ∧
 True ∧
 True ∧
 True ∧
 (True ∧
 True) ∧
 (True ∧
 True) ∧
 True ∧
 True ∧
 (True ∧
 True) ∧
 True ∧
 x.1 = x.1 ∧
 RR (↑x.1.length : Int) ∧
 g.2.2.1 = g.2.2.1 ∧
 true = true ∧
 True ∧
 (RR ((opAt x.1 g.2.2.1).1) ∧
 RR ((opAt x.1 g.2.2.1).2.1) ∧
 RR ((opAt x.1 g.2.2.1).2.2.1) ∧
 RR ((opAt x.1 g.2.2.1).2.2.2) ∧
 True) ∧
 True ∧
 (True ∧
 True) ∧
 (RR ((opAt x.1 g.2.2.1).1) ∧
 RR ((opAt x.1 g.2.2.1).2.1) ∧
 RR ((opAt x.1 g.2.2.1).2.2.1) ∧
 RR ((opAt x.1 g.2.2.1).2.2.2) ∧
 True) ∧
 R8 (R8 (R8 (True ∧
 True ∧
 True ∧
 True ∧
 True ∧
 True ∧
 True))))))))))))))))) ∧
 ∀ (g_3 : List (Int × Int × Int) × (Unit × Unit × Unit × Unit × List (Int × Int × Bool × Bool × Bool × Bool × Bool) × Unit × Unit × Unit × Unit × Unit) × Unit), g_3.1 = (Line.step g.1.2.1 (1 : Int) (0 : Int)).2.1 ∧
 g_3.2.1.2.2.2.2.1 = (Line.step g.1.2.1 (1 : Int) (0 : Int)).1 →
 (g_3.1.length ≤ (9223372036854775807 : Nat) ∧
 ∀ (x : Int × Int × Int), x ∈ g_3.1 →
 (-9223372036854775808 ≤ x.1 ∧
 x.1 ≤ 9223372036854775807) ∧
 (-9223372036854775808 ≤ x.2.1 ∧
 x.2.1 ≤ 9223372036854775807) ∧
 -9223372036854775808 ≤ x.2.2 ∧
 x.2.2 ≤ 9223372036854775807) ∧
 (True ∧
 True ∧
 True ∧
 True ∧
 (g_3.2.1.2.2.2.2.1.length ≤ (9223372036854775807 : Nat) ∧
 ∀ (x : Int × Int × Bool × Bool × Bool × Bool × Bool), x ∈ g_3.2.1.2.2.2.2.1 →
 (-9223372036854775808 ≤ x.1 ∧
 x.1 ≤ 9223372036854775807) ∧
 (-9223372036854775808 ≤ x.2.1 ∧
 x.2.1 ≤ 9223372036854775807) ∧
 True ∧
 True ∧
 True ∧
 True ∧
 True) ∧
 True ∧
 True ∧
 True ∧
 True ∧
 True) ∧
 True →
 ((((0 : Int) ≤ (0 : Int) ∧
 0 ≤ (↑g_3.1.length : Int) ∧
 g.1.2.2.1 = List.foldl ask1 g.1.2.2.1 (List.take (Int.toNat (0 : Int)) g_3.1)) ∧
 True) ∧
 ((True ∧
 True) ∧
 g_3.1 = g_3.1 ∧
 RR (↑g_3.1.length : Int) ∧
 RR (0 : Int) ∧
 True) ∧
 ((RR g_2.1.1.1 ∧
 RR g_2.1.1.2.1 ∧
 RR g_2.1.1.2.2.1 ∧
 RR g_2.1.1.2.2.2 ∧
 True ∧
 RR g.1.2.2.1 ∧
 True ∧
 RR g.1.2.2.2.2.1.1 ∧
 RR g.1.2.2.2.2.1.2 ∧
 RR g.1.2.2.2.2.2 ∧
 True) ∧
 (RR ((opAt x.1 g.2.2.1).1) ∧
 RR ((opAt x.1 g.2.2.1).2.1) ∧
 RR ((opAt x.1 g.2.2.1).2.2.1) ∧
 RR ((opAt x.1 g.2.2.1).2.2.2) ∧
 True) ∧
 (RR (0 : Int) ∧
 RR (Value.slice none (0 : Nat) (0 : Nat)) ∧
 True) ∧
 (RR (Value.slice none (0 : Nat) (0 : Nat)) ∧
 RR (Value.slice none (0 : Nat) (0 : Nat)) ∧
 RR (Value.slice none (0 : Nat) (0 : Nat)) ∧
 RR (Value.slice none (0 : Nat) (0 : Nat)) ∧
 RR (0 : Int) ∧
 RR (0 : Int) ∧
 True) ∧
 g.2.1 = g.2.1 ∧
 (RR ((opAt x.1 g.2.2.1).1) ∧
 RR ((opAt x.1 g.2.2.1).2.1) ∧
 RR ((opAt x.1 g.2.2.1).2.2.1) ∧
 RR ((opAt x.1 g.2.2.1).2.2.2) ∧
 True) ∧
 RR g_3.2.1.2.2.2.2.1 ∧
 RR g.1.2.2.2.1 ∧
 True) ∧
 (True ∧
 True) ∧
 True ∧
 (True ∧
 True) ∧
 (True ∧
 True) ∧
 (True ∧
 True) ∧
 (True ∧
 True) ∧
 true = true ∧
 (True ∧
 True) ∧
 True ∧
 True ∧
 True ∧
 (True ∧
 True) ∧
 True ∧
 True ∧
 True ∧
 True ∧
 True ∧
 True ∧
 RR ((Uart.step (g.1.1.1, g.1.1.2.1, g.1.1.2.2.1, g.1.1.2.2.2) (2 : Int) (0 : Int)).2.1) ∧
 RR ((Uart.step (g.1.1.1, g.1.1.2.1, g.1.1.2.2.1, g.1.1.2.2.2) (2 : Int) (0 : Int)).2.2.1) ∧
 R8 (R8 ((True ∧
 True) ∧
 True ∧
 True ∧
 True ∧
 (True ∧
 True) ∧
 RR ((opAt x.1 g.2.2.1).2.1) ∧
 True ∧
 True ∧
 RR (0 : Int) ∧
 ((True ∧
 True ∧
 True ∧
 True ∧
 True) ∧
 (opAt x.1 g.2.2.1).2.1.toNat = (opAt x.1 g.2.2.1).2.1.toNat) ∧
 True ∧
 True ∧
 True ∧
 True ∧
 (True ∧
 True) ∧
 RR ((opAt x.1 g.2.2.1).2.1) ∧
 (True ∧
 True) ∧
 (True ∧
 True) ∧
 ((True ∧
 True ∧
 True ∧
 True ∧
 True) ∧
 (opAt x.1 g.2.2.1).2.1.toNat = (opAt x.1 g.2.2.1).2.1.toNat) ∧
 true = true ∧
 ((True ∧
 True ∧
 True ∧
 True ∧
 True) ∧
 (opAt x.1 g.2.2.1).2.1.toNat = (opAt x.1 g.2.2.1).2.1.toNat) ∧
 ((True ∧
 True ∧
 True ∧
 True ∧
 True) ∧
 (opAt x.1 g.2.2.1).2.1.toNat = (opAt x.1 g.2.2.1).2.1.toNat) ∧
 ((True ∧
 True ∧
 True ∧
 True ∧
 True) ∧
 (opAt x.1 g.2.2.1).2.1.toNat = (opAt x.1 g.2.2.1).2.1.toNat) ∧
 RR ((crAt g.1.2.2.1 (opAt x.1 g.2.2.1).2.1).2.2) ∧
 RR ((crAt g.1.2.2.1 (opAt x.1 g.2.2.1).2.1).2.2) ∧
 True ∧
 True ∧
 True ∧
 True ∧
 True ∧
 RR ((crAt g.1.2.2.1 (opAt x.1 g.2.2.1).2.1).2.2 && g.1.1.2.2.2) ∧
 True ∧
 (True ∧
 True) ∧
 (RR (2 : Int) ∧
 RR (0 : Int) ∧
 True) ∧
 R32 (R32 (R32 (R8 (R8 (True ∧
 (True ∧
 True) ∧
 True ∧
 True ∧
 (True ∧
 True) ∧
 (True ∧
 True) ∧
 RR (Value.func (Fn.func (13 : Nat)) ([] : List Value).toArray ([] : List Value).toArray) ∧
 R32 (True ∧
 True ∧
 True ∧
 True ∧
 True ∧
 g_1.1 = g_1.1 ∧
 false = false ∧
 RR (g_1.1 == 1) ∧
 R8 (True ∧
 True ∧
 True ∧
 true = true ∧
 RR (g_1.1 == 2) ∧
 RR (Value.func (Fn.func (13 : Nat)) ([] : List Value).toArray ([] : List Value).toArray) ∧
 (True ∧
 True) ∧
 (True ∧
 True) ∧
 RR ((opAt x.1 g.2.2.1).2.1) ∧
 R32 (R8 (R8 (R8 (True ∧
 True ∧
 True ∧
 True ∧
 (True ∧
 True) ∧
 (True ∧
 True) ∧
 True ∧
 True ∧
 (True ∧
 True) ∧
 True ∧
 x.1 = x.1 ∧
 RR (↑x.1.length : Int) ∧
 g.2.2.1 = g.2.2.1 ∧
 true = true ∧
 True ∧
 (RR ((opAt x.1 g.2.2.1).1) ∧
 RR ((opAt x.1 g.2.2.1).2.1) ∧
 RR ((opAt x.1 g.2.2.1).2.2.1) ∧
 RR ((opAt x.1 g.2.2.1).2.2.2) ∧
 True) ∧
 True ∧
 (True ∧
 True) ∧
 (RR ((opAt x.1 g.2.2.1).1) ∧
 RR ((opAt x.1 g.2.2.1).2.1) ∧
 RR ((opAt x.1 g.2.2.1).2.2.1) ∧
 RR ((opAt x.1 g.2.2.1).2.2.2) ∧
 True) ∧
 R8 (R8 (R8 (True ∧
 True ∧
 True ∧
 True ∧
 True ∧
 True ∧
 True))))))))))))))))) ∧
 ∀ (g_4 : (Unit × Unit × Unit × Unit × Unit × List ((List Int × List Int × Int) × (Bool × List (Bool × Bool)) × Bool) × Unit × Unit × Unit × Unit) × Int × Unit), 0 ≤ g_4.2.1 ∧
 g_4.2.1 ≤ (↑g_3.1.length : Int) ∧
 g_4.1.2.2.2.2.2.1 = List.foldl ask1 g.1.2.2.1 (List.take g_4.2.1.toNat g_3.1) →
 (True ∧
 True ∧
 True ∧
 True ∧
 True ∧
 (g_4.1.2.2.2.2.2.1.length = (2 : Nat) ∧
 ∀ (x : (List Int × List Int × Int) × (Bool × List (Bool × Bool)) × Bool), x ∈ g_4.1.2.2.2.2.2.1 →
 ((x.1.1.length = (4 : Nat) ∧
 ∀ (x_1 : Int), x_1 ∈ x.1.1 →
 0 ≤ x_1 ∧
 x_1 ≤ 18446744073709551615) ∧
 (x.1.2.1.length = (4 : Nat) ∧
 ∀ (x_1 : Int), x_1 ∈ x.1.2.1 →
 0 ≤ x_1 ∧
 x_1 ≤ 18446744073709551615) ∧
 -9223372036854775808 ≤ x.1.2.2 ∧
 x.1.2.2 ≤ 9223372036854775807) ∧
 (True ∧
 x.2.1.2.length ≤ (9223372036854775807 : Nat) ∧
 ∀ (x_1 : Bool × Bool), x_1 ∈ x.2.1.2 →
 True ∧
 True) ∧
 True) ∧
 True ∧
 True ∧
 True ∧
 True) ∧
 (-9223372036854775808 ≤ g_4.2.1 ∧
 g_4.2.1 ≤ 9223372036854775807) ∧
 True →
 (decide (g_4.2.1 < (↑g_3.1.length : Int)) = true →
 (0 ≤ g_4.2.1 ∧
 g_4.2.1 < (↑g_3.1.length : Int)) ∧
 (0 ≤ (seAt g_3.1 g_4.2.1).2.1 ∧
 (seAt g_3.1 g_4.2.1).2.1 < (↑(2 : Nat) : Int)) ∧
 Holds True ∧
 (((Apic.stepL ((crAt g_4.1.2.2.2.2.2.1 (seAt g_3.1 g_4.2.1).2.1).1.1, (crAt g_4.1.2.2.2.2.2.1 (seAt g_3.1 g_4.2.1).2.1).1.2.1, (crAt g_4.1.2.2.2.2.2.1 (seAt g_3.1 g_4.2.1).2.1).1.2.2) ((1 : Int), (seAt g_3.1 g_4.2.1).2.2)).2.2.1 == 0) = true →
 (-9223372036854775808 ≤ g_4.2.1 + 1 ∧
 g_4.2.1 + 1 ≤ (9223372036854775807 : Int)) ∧
 ((0 ≤ g_4.2.1 + 1 ∧
 g_4.2.1 + 1 ≤ (↑g_3.1.length : Int) ∧
 g_4.1.2.2.2.2.2.1.set (seAt g_3.1 g_4.2.1).2.1.toNat (((Apic.stepL ((crAt g_4.1.2.2.2.2.2.1 (seAt g_3.1 g_4.2.1).2.1).1.1, (crAt g_4.1.2.2.2.2.2.1 (seAt g_3.1 g_4.2.1).2.1).1.2.1, (crAt g_4.1.2.2.2.2.2.1 (seAt g_3.1 g_4.2.1).2.1).1.2.2) ((1 : Int), (seAt g_3.1 g_4.2.1).2.2)).1.1, (Apic.stepL ((crAt g_4.1.2.2.2.2.2.1 (seAt g_3.1 g_4.2.1).2.1).1.1, (crAt g_4.1.2.2.2.2.2.1 (seAt g_3.1 g_4.2.1).2.1).1.2.1, (crAt g_4.1.2.2.2.2.2.1 (seAt g_3.1 g_4.2.1).2.1).1.2.2) ((1 : Int), (seAt g_3.1 g_4.2.1).2.2)).1.2.1, (Apic.stepL ((crAt g_4.1.2.2.2.2.2.1 (seAt g_3.1 g_4.2.1).2.1).1.1, (crAt g_4.1.2.2.2.2.2.1 (seAt g_3.1 g_4.2.1).2.1).1.2.1, (crAt g_4.1.2.2.2.2.2.1 (seAt g_3.1 g_4.2.1).2.1).1.2.2) ((1 : Int), (seAt g_3.1 g_4.2.1).2.2)).1.2.2), ((crAt g_4.1.2.2.2.2.2.1 (seAt g_3.1 g_4.2.1).2.1).2.1.1, (crAt g_4.1.2.2.2.2.2.1 (seAt g_3.1 g_4.2.1).2.1).2.1.2), (crAt g_4.1.2.2.2.2.2.1 (seAt g_3.1 g_4.2.1).2.1).2.2) = List.foldl ask1 g.1.2.2.1 (List.take (g_4.2.1 + 1).toNat g_3.1)) ∧
 ((↑g_3.1.length : Int) - (g_4.2.1 + 1)).toNat < ((↑g_3.1.length : Int) - g_4.2.1).toNat) ∧
 ((True ∧
 True) ∧
 g_3.1 = g_3.1 ∧
 RR (↑g_3.1.length : Int) ∧
 g_4.2.1 + 1 = g_4.2.1 + 1 ∧
 True) ∧
 ((RR g_2.1.1.1 ∧
 RR g_2.1.1.2.1 ∧
 RR g_2.1.1.2.2.1 ∧
 RR g_2.1.1.2.2.2 ∧
 True ∧
 g_4.1.2.2.2.2.2.1.set (seAt g_3.1 g_4.2.1).2.1.toNat (((Apic.stepL ((crAt g_4.1.2.2.2.2.2.1 (seAt g_3.1 g_4.2.1).2.1).1.1, (crAt g_4.1.2.2.2.2.2.1 (seAt g_3.1 g_4.2.1).2.1).1.2.1, (crAt g_4.1.2.2.2.2.2.1 (seAt g_3.1 g_4.2.1).2.1).1.2.2) ((1 : Int), (seAt g_3.1 g_4.2.1).2.2)).1.1, (Apic.stepL ((crAt g_4.1.2.2.2.2.2.1 (seAt g_3.1 g_4.2.1).2.1).1.1, (crAt g_4.1.2.2.2.2.2.1 (seAt g_3.1 g_4.2.1).2.1).1.2.1, (crAt g_4.1.2.2.2.2.2.1 (seAt g_3.1 g_4.2.1).2.1).1.2.2) ((1 : Int), (seAt g_3.1 g_4.2.1).2.2)).1.2.1, (Apic.stepL ((crAt g_4.1.2.2.2.2.2.1 (seAt g_3.1 g_4.2.1).2.1).1.1, (crAt g_4.1.2.2.2.2.2.1 (seAt g_3.1 g_4.2.1).2.1).1.2.1, (crAt g_4.1.2.2.2.2.2.1 (seAt g_3.1 g_4.2.1).2.1).1.2.2) ((1 : Int), (seAt g_3.1 g_4.2.1).2.2)).1.2.2), ((crAt g_4.1.2.2.2.2.2.1 (seAt g_3.1 g_4.2.1).2.1).2.1.1, (crAt g_4.1.2.2.2.2.2.1 (seAt g_3.1 g_4.2.1).2.1).2.1.2), (crAt g_4.1.2.2.2.2.2.1 (seAt g_3.1 g_4.2.1).2.1).2.2) = g_4.1.2.2.2.2.2.1.set (seAt g_3.1 g_4.2.1).2.1.toNat (((Apic.stepL ((crAt g_4.1.2.2.2.2.2.1 (seAt g_3.1 g_4.2.1).2.1).1.1, (crAt g_4.1.2.2.2.2.2.1 (seAt g_3.1 g_4.2.1).2.1).1.2.1, (crAt g_4.1.2.2.2.2.2.1 (seAt g_3.1 g_4.2.1).2.1).1.2.2) ((1 : Int), (seAt g_3.1 g_4.2.1).2.2)).1.1, (Apic.stepL ((crAt g_4.1.2.2.2.2.2.1 (seAt g_3.1 g_4.2.1).2.1).1.1, (crAt g_4.1.2.2.2.2.2.1 (seAt g_3.1 g_4.2.1).2.1).1.2.1, (crAt g_4.1.2.2.2.2.2.1 (seAt g_3.1 g_4.2.1).2.1).1.2.2) ((1 : Int), (seAt g_3.1 g_4.2.1).2.2)).1.2.1, (Apic.stepL ((crAt g_4.1.2.2.2.2.2.1 (seAt g_3.1 g_4.2.1).2.1).1.1, (crAt g_4.1.2.2.2.2.2.1 (seAt g_3.1 g_4.2.1).2.1).1.2.1, (crAt g_4.1.2.2.2.2.2.1 (seAt g_3.1 g_4.2.1).2.1).1.2.2) ((1 : Int), (seAt g_3.1 g_4.2.1).2.2)).1.2.2), ((crAt g_4.1.2.2.2.2.2.1 (seAt g_3.1 g_4.2.1).2.1).2.1.1, (crAt g_4.1.2.2.2.2.2.1 (seAt g_3.1 g_4.2.1).2.1).2.1.2), (crAt g_4.1.2.2.2.2.2.1 (seAt g_3.1 g_4.2.1).2.1).2.2) ∧
 True ∧
 RR g.1.2.2.2.2.1.1 ∧
 RR g.1.2.2.2.2.1.2 ∧
 RR g.1.2.2.2.2.2 ∧
 True) ∧
 (RR ((opAt x.1 g.2.2.1).1) ∧
 RR ((opAt x.1 g.2.2.1).2.1) ∧
 RR ((opAt x.1 g.2.2.1).2.2.1) ∧
 RR ((opAt x.1 g.2.2.1).2.2.2) ∧
 True) ∧
 (RR (0 : Int) ∧
 RR (Value.slice none (0 : Nat) (0 : Nat)) ∧
 True) ∧
 (RR (Value.slice none (0 : Nat) (0 : Nat)) ∧
 RR (Value.slice none (0 : Nat) (0 : Nat)) ∧
 RR (Value.slice none (0 : Nat) (0 : Nat)) ∧
 RR (Value.slice none (0 : Nat) (0 : Nat)) ∧
 RR (0 : Int) ∧
 RR (0 : Int) ∧
 True) ∧
 g.2.1 = g.2.1 ∧
 (RR ((opAt x.1 g.2.2.1).1) ∧
 RR ((opAt x.1 g.2.2.1).2.1) ∧
 RR ((opAt x.1 g.2.2.1).2.2.1) ∧
 RR ((opAt x.1 g.2.2.1).2.2.2) ∧
 True) ∧
 RR g_3.2.1.2.2.2.2.1 ∧
 RR g.1.2.2.2.1 ∧
 True) ∧
 (True ∧
 True) ∧
 True ∧
 (True ∧
 True) ∧
 (True ∧
 True) ∧
 (True ∧
 True) ∧
 (True ∧
 True) ∧
 true = true ∧
 (True ∧
 True) ∧
 True ∧
 True ∧
 True ∧
 (True ∧
 True) ∧
 True ∧
 True ∧
 True ∧
 True ∧
 True ∧
 True ∧
 RR ((Uart.step (g.1.1.1, g.1.1.2.1, g.1.1.2.2.1, g.1.1.2.2.2) (2 : Int) (0 : Int)).2.1) ∧
 RR ((Uart.step (g.1.1.1, g.1.1.2.1, g.1.1.2.2.1, g.1.1.2.2.2) (2 : Int) (0 : Int)).2.2.1) ∧
 R8 (R8 ((True ∧
 True) ∧
 True ∧
 True ∧
 True ∧
 (True ∧
 True) ∧
 RR ((opAt x.1 g.2.2.1).2.1) ∧
 True ∧
 True ∧
 RR (0 : Int) ∧
 ((True ∧
 True ∧
 True ∧
 True ∧
 True) ∧
 (opAt x.1 g.2.2.1).2.1.toNat = (opAt x.1 g.2.2.1).2.1.toNat) ∧
 True ∧
 True ∧
 True ∧
 True ∧
 (True ∧
 True) ∧
 RR ((opAt x.1 g.2.2.1).2.1) ∧
 (True ∧
 True) ∧
 (True ∧
 True) ∧
 ((True ∧
 True ∧
 True ∧
 True ∧
 True) ∧
 (opAt x.1 g.2.2.1).2.1.toNat = (opAt x.1 g.2.2.1).2.1.toNat) ∧
 true = true ∧
 ((True ∧
 True ∧
 True ∧
 True ∧
 True) ∧
 (opAt x.1 g.2.2.1).2.1.toNat = (opAt x.1 g.2.2.1).2.1.toNat) ∧
 ((True ∧
 True ∧
 True ∧
 True ∧
 True) ∧
 (opAt x.1 g.2.2.1).2.1.toNat = (opAt x.1 g.2.2.1).2.1.toNat) ∧
 ((True ∧
 True ∧
 True ∧
 True ∧
 True) ∧
 (opAt x.1 g.2.2.1).2.1.toNat = (opAt x.1 g.2.2.1).2.1.toNat) ∧
 RR ((crAt g.1.2.2.1 (opAt x.1 g.2.2.1).2.1).2.2) ∧
 RR ((crAt g.1.2.2.1 (opAt x.1 g.2.2.1).2.1).2.2) ∧
 True ∧
 True ∧
 True ∧
 True ∧
 True ∧
 RR ((crAt g.1.2.2.1 (opAt x.1 g.2.2.1).2.1).2.2 && g.1.1.2.2.2) ∧
 True ∧
 (True ∧
 True) ∧
 (RR (2 : Int) ∧
 RR (0 : Int) ∧
 True) ∧
 R32 (R32 (R32 (R8 (R8 (True ∧
 (True ∧
 True) ∧
 True ∧
 True ∧
 (True ∧
 True) ∧
 (True ∧
 True) ∧
 RR (Value.func (Fn.func (13 : Nat)) ([] : List Value).toArray ([] : List Value).toArray) ∧
 R32 (True ∧
 True ∧
 True ∧
 True ∧
 True ∧
 g_1.1 = g_1.1 ∧
 false = false ∧
 RR (g_1.1 == 1) ∧
 R8 (True ∧
 True ∧
 True ∧
 true = true ∧
 RR (g_1.1 == 2) ∧
 RR (Value.func (Fn.func (13 : Nat)) ([] : List Value).toArray ([] : List Value).toArray) ∧
 (True ∧
 True) ∧
 (True ∧
 True) ∧
 RR ((opAt x.1 g.2.2.1).2.1) ∧
 R32 (R8 (R8 (R8 (True ∧
 True ∧
 True ∧
 True ∧
 (True ∧
 True) ∧
 (True ∧
 True) ∧
 True ∧
 True ∧
 (True ∧
 True) ∧
 True ∧
 x.1 = x.1 ∧
 RR (↑x.1.length : Int) ∧
 g.2.2.1 = g.2.2.1 ∧
 true = true ∧
 True ∧
 (RR ((opAt x.1 g.2.2.1).1) ∧
 RR ((opAt x.1 g.2.2.1).2.1) ∧
 RR ((opAt x.1 g.2.2.1).2.2.1) ∧
 RR ((opAt x.1 g.2.2.1).2.2.2) ∧
 True) ∧
 True ∧
 (True ∧
 True) ∧
 (RR ((opAt x.1 g.2.2.1).1) ∧
 RR ((opAt x.1 g.2.2.1).2.1) ∧
 RR ((opAt x.1 g.2.2.1).2.2.1) ∧
 RR ((opAt x.1 g.2.2.1).2.2.2) ∧
 True) ∧
 R8 (R8 (R8 (True ∧
 True ∧
 True ∧
 True ∧
 True ∧
 True ∧
 True))))))))))))))))) ∧
 (((Apic.stepL ((crAt g_4.1.2.2.2.2.2.1 (seAt g_3.1 g_4.2.1).2.1).1.1, (crAt g_4.1.2.2.2.2.2.1 (seAt g_3.1 g_4.2.1).2.1).1.2.1, (crAt g_4.1.2.2.2.2.2.1 (seAt g_3.1 g_4.2.1).2.1).1.2.2) ((1 : Int), (seAt g_3.1 g_4.2.1).2.2)).2.2.1 == 0) = false →
 (-9223372036854775808 ≤ g_4.2.1 + 1 ∧
 g_4.2.1 + 1 ≤ (9223372036854775807 : Int)) ∧
 ((0 ≤ g_4.2.1 + 1 ∧
 g_4.2.1 + 1 ≤ (↑g_3.1.length : Int) ∧
 g_4.1.2.2.2.2.2.1 = List.foldl ask1 g.1.2.2.1 (List.take (g_4.2.1 + 1).toNat g_3.1)) ∧
 ((↑g_3.1.length : Int) - (g_4.2.1 + 1)).toNat < ((↑g_3.1.length : Int) - g_4.2.1).toNat) ∧
 ((True ∧
 True) ∧
 g_3.1 = g_3.1 ∧
 RR (↑g_3.1.length : Int) ∧
 g_4.2.1 + 1 = g_4.2.1 + 1 ∧
 True) ∧
 ((RR g_2.1.1.1 ∧
 RR g_2.1.1.2.1 ∧
 RR g_2.1.1.2.2.1 ∧
 RR g_2.1.1.2.2.2 ∧
 True ∧
 RR g_4.1.2.2.2.2.2.1 ∧
 True ∧
 RR g.1.2.2.2.2.1.1 ∧
 RR g.1.2.2.2.2.1.2 ∧
 RR g.1.2.2.2.2.2 ∧
 True) ∧
 (RR ((opAt x.1 g.2.2.1).1) ∧
 RR ((opAt x.1 g.2.2.1).2.1) ∧
 RR ((opAt x.1 g.2.2.1).2.2.1) ∧
 RR ((opAt x.1 g.2.2.1).2.2.2) ∧
 True) ∧
 (RR (0 : Int) ∧
 RR (Value.slice none (0 : Nat) (0 : Nat)) ∧
 True) ∧
 (RR (Value.slice none (0 : Nat) (0 : Nat)) ∧
 RR (Value.slice none (0 : Nat) (0 : Nat)) ∧
 RR (Value.slice none (0 : Nat) (0 : Nat)) ∧
 RR (Value.slice none (0 : Nat) (0 : Nat)) ∧
 RR (0 : Int) ∧
 RR (0 : Int) ∧
 True) ∧
 g.2.1 = g.2.1 ∧
 (RR ((opAt x.1 g.2.2.1).1) ∧
 RR ((opAt x.1 g.2.2.1).2.1) ∧
 RR ((opAt x.1 g.2.2.1).2.2.1) ∧
 RR ((opAt x.1 g.2.2.1).2.2.2) ∧
 True) ∧
 RR g_3.2.1.2.2.2.2.1 ∧
 RR g.1.2.2.2.1 ∧
 True) ∧
 (True ∧
 True) ∧
 True ∧
 (True ∧
 True) ∧
 (True ∧
 True) ∧
 (True ∧
 True) ∧
 (True ∧
 True) ∧
 true = true ∧
 (True ∧
 True) ∧
 True ∧
 True ∧
 True ∧
 (True ∧
 True) ∧
 True ∧
 True ∧
 True ∧
 True ∧
 True ∧
 True ∧
 RR ((Uart.step (g.1.1.1, g.1.1.2.1, g.1.1.2.2.1, g.1.1.2.2.2) (2 : Int) (0 : Int)).2.1) ∧
 RR ((Uart.step (g.1.1.1, g.1.1.2.1, g.1.1.2.2.1, g.1.1.2.2.2) (2 : Int) (0 : Int)).2.2.1) ∧
 R8 (R8 ((True ∧
 True) ∧
 True ∧
 True ∧
 True ∧
 (True ∧
 True) ∧
 RR ((opAt x.1 g.2.2.1).2.1) ∧
 True ∧
 True ∧
 RR (0 : Int) ∧
 ((True ∧
 True ∧
 True ∧
 True ∧
 True) ∧
 (opAt x.1 g.2.2.1).2.1.toNat = (opAt x.1 g.2.2.1).2.1.toNat) ∧
 True ∧
 True ∧
 True ∧
 True ∧
 (True ∧
 True) ∧
 RR ((opAt x.1 g.2.2.1).2.1) ∧
 (True ∧
 True) ∧
 (True ∧
 True) ∧
 ((True ∧
 True ∧
 True ∧
 True ∧
 True) ∧
 (opAt x.1 g.2.2.1).2.1.toNat = (opAt x.1 g.2.2.1).2.1.toNat) ∧
 true = true ∧
 ((True ∧
 True ∧
 True ∧
 True ∧
 True) ∧
 (opAt x.1 g.2.2.1).2.1.toNat = (opAt x.1 g.2.2.1).2.1.toNat) ∧
 ((True ∧
 True ∧
 True ∧
 True ∧
 True) ∧
 (opAt x.1 g.2.2.1).2.1.toNat = (opAt x.1 g.2.2.1).2.1.toNat) ∧
 ((True ∧
 True ∧
 True ∧
 True ∧
 True) ∧
 (opAt x.1 g.2.2.1).2.1.toNat = (opAt x.1 g.2.2.1).2.1.toNat) ∧
 RR ((crAt g.1.2.2.1 (opAt x.1 g.2.2.1).2.1).2.2) ∧
 RR ((crAt g.1.2.2.1 (opAt x.1 g.2.2.1).2.1).2.2) ∧
 True ∧
 True ∧
 True ∧
 True ∧
 True ∧
 RR ((crAt g.1.2.2.1 (opAt x.1 g.2.2.1).2.1).2.2 && g.1.1.2.2.2) ∧
 True ∧
 (True ∧
 True) ∧
 (RR (2 : Int) ∧
 RR (0 : Int) ∧
 True) ∧
 R32 (R32 (R32 (R8 (R8 (True ∧
 (True ∧
 True) ∧
 True ∧
 True ∧
 (True ∧
 True) ∧
 (True ∧
 True) ∧
 RR (Value.func (Fn.func (13 : Nat)) ([] : List Value).toArray ([] : List Value).toArray) ∧
 R32 (True ∧
 True ∧
 True ∧
 True ∧
 True ∧
 g_1.1 = g_1.1 ∧
 false = false ∧
 RR (g_1.1 == 1) ∧
 R8 (True ∧
 True ∧
 True ∧
 true = true ∧
 RR (g_1.1 == 2) ∧
 RR (Value.func (Fn.func (13 : Nat)) ([] : List Value).toArray ([] : List Value).toArray) ∧
 (True ∧
 True) ∧
 (True ∧
 True) ∧
 RR ((opAt x.1 g.2.2.1).2.1) ∧
 R32 (R8 (R8 (R8 (True ∧
 True ∧
 True ∧
 True ∧
 (True ∧
 True) ∧
 (True ∧
 True) ∧
 True ∧
 True ∧
 (True ∧
 True) ∧
 True ∧
 x.1 = x.1 ∧
 RR (↑x.1.length : Int) ∧
 g.2.2.1 = g.2.2.1 ∧
 true = true ∧
 True ∧
 (RR ((opAt x.1 g.2.2.1).1) ∧
 RR ((opAt x.1 g.2.2.1).2.1) ∧
 RR ((opAt x.1 g.2.2.1).2.2.1) ∧
 RR ((opAt x.1 g.2.2.1).2.2.2) ∧
 True) ∧
 True ∧
 (True ∧
 True) ∧
 (RR ((opAt x.1 g.2.2.1).1) ∧
 RR ((opAt x.1 g.2.2.1).2.1) ∧
 RR ((opAt x.1 g.2.2.1).2.2.1) ∧
 RR ((opAt x.1 g.2.2.1).2.2.2) ∧
 True) ∧
 R8 (R8 (R8 (True ∧
 True ∧
 True ∧
 True ∧
 True ∧
 True ∧
 True)))))))))))))))))) ∧
 (decide (g_4.2.1 < (↑g_3.1.length : Int)) = false →
 ((((g_2.1.1.1, g_2.1.1.2.1, g_2.1.1.2.2.1, g_2.1.1.2.2.2), g_3.2.1.2.2.2.2.1, g_4.1.2.2.2.2.2.1) = if (Uart.step (g.1.1.1, g.1.1.2.1, g.1.1.2.2.1, g.1.1.2.2.2) (2 : Int) (0 : Int)).2.2.1 = 0 then (((Uart.step (g.1.1.1, g.1.1.2.1, g.1.1.2.2.1, g.1.1.2.2.2) (2 : Int) (0 : Int)).1.1, (Uart.step (g.1.1.1, g.1.1.2.1, g.1.1.2.2.1, g.1.1.2.2.2) (2 : Int) (0 : Int)).1.2.1, (Uart.step (g.1.1.1, g.1.1.2.1, g.1.1.2.2.1, g.1.1.2.2.2) (2 : Int) (0 : Int)).1.2.2.1, (Uart.step (g.1.1.1, g.1.1.2.1, g.1.1.2.2.1, g.1.1.2.2.2) (2 : Int) (0 : Int)).1.2.2.2), pinF g.1.2.1 g.1.2.2.1 (if (Uart.step (g.1.1.1, g.1.1.2.1, g.1.1.2.2.1, g.1.1.2.2.2) (2 : Int) (0 : Int)).1.2.2.2 = true then (1 : Int) else (2 : Int))) else ((g.1.1.1, g.1.1.2.1, g.1.1.2.2.1, g.1.1.2.2.2), g.1.2.1, g.1.2.2.1)) ∧
 True) ∧
 ((True ∧
 True) ∧
 RR ((Uart.step (g.1.1.1, g.1.1.2.1, g.1.1.2.2.1, g.1.1.2.2.2) (2 : Int) (0 : Int)).2.1) ∧
 RR ((Uart.step (g.1.1.1, g.1.1.2.1, g.1.1.2.2.1, g.1.1.2.2.2) (2 : Int) (0 : Int)).2.2.1) ∧
 True) ∧
 ((RR g_2.1.1.1 ∧
 RR g_2.1.1.2.1 ∧
 RR g_2.1.1.2.2.1 ∧
 RR g_2.1.1.2.2.2 ∧
 True ∧
 RR g_4.1.2.2.2.2.2.1 ∧
 True ∧
 RR g.1.2.2.2.2.1.1 ∧
 RR g.1.2.2.2.2.1.2 ∧
 RR g.1.2.2.2.2.2 ∧
 True) ∧
 RR g_3.2.1.2.2.2.2.1 ∧
 (RR ((opAt x.1 g.2.2.1).1) ∧
 RR ((opAt x.1 g.2.2.1).2.1) ∧
 RR ((opAt x.1 g.2.2.1).2.2.1) ∧
 RR ((opAt x.1 g.2.2.1).2.2.2) ∧
 True) ∧
 (RR (0 : Int) ∧
 RR (Value.slice none (0 : Nat) (0 : Nat)) ∧
 True) ∧
 (RR (Value.slice none (0 : Nat) (0 : Nat)) ∧
 RR (Value.slice none (0 : Nat) (0 : Nat)) ∧
 RR (Value.slice none (0 : Nat) (0 : Nat)) ∧
 RR (Value.slice none (0 : Nat) (0 : Nat)) ∧
 RR (0 : Int) ∧
 RR (0 : Int) ∧
 True) ∧
 g.2.1 = g.2.1 ∧
 (RR ((opAt x.1 g.2.2.1).1) ∧
 RR ((opAt x.1 g.2.2.1).2.1) ∧
 RR ((opAt x.1 g.2.2.1).2.2.1) ∧
 RR ((opAt x.1 g.2.2.1).2.2.2) ∧
 True) ∧
 RR g.1.2.2.2.1 ∧
 True) ∧
 (True ∧
 True) ∧
 RR ((opAt x.1 g.2.2.1).2.1) ∧
 True ∧
 True ∧
 RR (0 : Int) ∧
 ((True ∧
 True ∧
 True ∧
 True ∧
 True) ∧
 (opAt x.1 g.2.2.1).2.1.toNat = (opAt x.1 g.2.2.1).2.1.toNat) ∧
 True ∧
 True ∧
 True ∧
 True ∧
 (True ∧
 True) ∧
 RR ((opAt x.1 g.2.2.1).2.1) ∧
 (True ∧
 True) ∧
 (True ∧
 True) ∧
 ((True ∧
 True ∧
 True ∧
 True ∧
 True) ∧
 (opAt x.1 g.2.2.1).2.1.toNat = (opAt x.1 g.2.2.1).2.1.toNat) ∧
 true = true ∧
 ((True ∧
 True ∧
 True ∧
 True ∧
 True) ∧
 (opAt x.1 g.2.2.1).2.1.toNat = (opAt x.1 g.2.2.1).2.1.toNat) ∧
 ((True ∧
 True ∧
 True ∧
 True ∧
 True) ∧
 (opAt x.1 g.2.2.1).2.1.toNat = (opAt x.1 g.2.2.1).2.1.toNat) ∧
 ((True ∧
 True ∧
 True ∧
 True ∧
 True) ∧
 (opAt x.1 g.2.2.1).2.1.toNat = (opAt x.1 g.2.2.1).2.1.toNat) ∧
 RR ((crAt g.1.2.2.1 (opAt x.1 g.2.2.1).2.1).2.2) ∧
 RR ((crAt g.1.2.2.1 (opAt x.1 g.2.2.1).2.1).2.2) ∧
 True ∧
 True ∧
 True ∧
 True ∧
 True ∧
 RR ((crAt g.1.2.2.1 (opAt x.1 g.2.2.1).2.1).2.2 && g.1.1.2.2.2) ∧
 True ∧
 (True ∧
 True) ∧
 (RR (2 : Int) ∧
 RR (0 : Int) ∧
 True) ∧
 R32 (R32 (R32 (R8 (R8 (True ∧
 (True ∧
 True) ∧
 True ∧
 True ∧
 (True ∧
 True) ∧
 (True ∧
 True) ∧
 RR (Value.func (Fn.func (13 : Nat)) ([] : List Value).toArray ([] : List Value).toArray) ∧
 R32 (True ∧
 True ∧
 True ∧
 True ∧
 True ∧
 g_1.1 = g_1.1 ∧
 false = false ∧
 RR (g_1.1 == 1) ∧
 R8 (True ∧
 True ∧
 True ∧
 true = true ∧
 RR (g_1.1 == 2) ∧
 RR (Value.func (Fn.func (13 : Nat)) ([] : List Value).toArray ([] : List Value).toArray) ∧
 (True ∧
 True) ∧
 (True ∧
 True) ∧
 RR ((opAt x.1 g.2.2.1).2.1) ∧
 R32 (R8 (R8 (R8 (True ∧
 True ∧
 True ∧
 True ∧
 (True ∧
 True) ∧
 (True ∧
 True) ∧
 True ∧
 True ∧
 (True ∧
 True) ∧
 True ∧
 x.1 = x.1 ∧
 RR (↑x.1.length : Int) ∧
 g.2.2.1 = g.2.2.1 ∧
 true = true ∧
 True ∧
 (RR ((opAt x.1 g.2.2.1).1) ∧
 RR ((opAt x.1 g.2.2.1).2.1) ∧
 RR ((opAt x.1 g.2.2.1).2.2.1) ∧
 RR ((opAt x.1 g.2.2.1).2.2.2) ∧
 True) ∧
 True ∧
 (True ∧
 True) ∧
 (RR ((opAt x.1 g.2.2.1).1) ∧
 RR ((opAt x.1 g.2.2.1).2.1) ∧
 RR ((opAt x.1 g.2.2.1).2.2.1) ∧
 RR ((opAt x.1 g.2.2.1).2.2.2) ∧
 True) ∧
 R8 (R8 (R8 (True ∧
 True ∧
 True ∧
 True ∧
 True ∧
 True ∧
 True))))))))))))))))) ∧
 (g_2.1.1.2.2.2 = false →
 Holds True ∧
 (((Line.step g.1.2.1 (2 : Int) (0 : Int)).2.2.1 != 0) = true →
 ∃ (g_3 : ((List Int × List Int × Int × Bool) × List (Int × Int × Bool × Bool × Bool × Bool × Bool) × List ((List Int × List Int × Int) × (Bool × List (Bool × Bool)) × Bool) × Unit × Unit × Unit × Unit) × Unit), ((((g_3.1.1, g_3.1.2.1, g_3.1.2.2.1) = if (Uart.step (g.1.1.1, g.1.1.2.1, g.1.1.2.2.1, g.1.1.2.2.2) (2 : Int) (0 : Int)).2.2.1 = 0 then (((Uart.step (g.1.1.1, g.1.1.2.1, g.1.1.2.2.1, g.1.1.2.2.2) (2 : Int) (0 : Int)).1.1, (Uart.step (g.1.1.1, g.1.1.2.1, g.1.1.2.2.1, g.1.1.2.2.2) (2 : Int) (0 : Int)).1.2.1, (Uart.step (g.1.1.1, g.1.1.2.1, g.1.1.2.2.1, g.1.1.2.2.2) (2 : Int) (0 : Int)).1.2.2.1, (Uart.step (g.1.1.1, g.1.1.2.1, g.1.1.2.2.1, g.1.1.2.2.2) (2 : Int) (0 : Int)).1.2.2.2), pinF g.1.2.1 g.1.2.2.1 (if (Uart.step (g.1.1.1, g.1.1.2.1, g.1.1.2.2.1, g.1.1.2.2.2) (2 : Int) (0 : Int)).1.2.2.2 = true then (1 : Int) else (2 : Int))) else ((g.1.1.1, g.1.1.2.1, g.1.1.2.2.1, g.1.1.2.2.2), g.1.2.1, g.1.2.2.1)) ∧
 (((g_3.1.1.1.length ≤ (9223372036854775807 : Nat) ∧
 ∀ (x : Int), x ∈ g_3.1.1.1 →
 0 ≤ x ∧
 x ≤ 255) ∧
 (g_3.1.1.2.1.length ≤ (9223372036854775807 : Nat) ∧
 ∀ (x : Int), x ∈ g_3.1.1.2.1 →
 0 ≤ x ∧
 x ≤ 255) ∧
 (-9223372036854775808 ≤ g_3.1.1.2.2.1 ∧
 g_3.1.1.2.2.1 ≤ 9223372036854775807) ∧
 True) ∧
 (g_3.1.2.1.length ≤ (9223372036854775807 : Nat) ∧
 ∀ (x : Int × Int × Bool × Bool × Bool × Bool × Bool), x ∈ g_3.1.2.1 →
 (-9223372036854775808 ≤ x.1 ∧
 x.1 ≤ 9223372036854775807) ∧
 (-9223372036854775808 ≤ x.2.1 ∧
 x.2.1 ≤ 9223372036854775807) ∧
 True ∧
 True ∧
 True ∧
 True ∧
 True) ∧
 (g_3.1.2.2.1.length = (2 : Nat) ∧
 ∀ (x : (List Int × List Int × Int) × (Bool × List (Bool × Bool)) × Bool), x ∈ g_3.1.2.2.1 →
 ((x.1.1.length = (4 : Nat) ∧
 ∀ (x_1 : Int), x_1 ∈ x.1.1 →
 0 ≤ x_1 ∧
 x_1 ≤ 18446744073709551615) ∧
 (x.1.2.1.length = (4 : Nat) ∧
 ∀ (x_1 : Int), x_1 ∈ x.1.2.1 →
 0 ≤ x_1 ∧
 x_1 ≤ 18446744073709551615) ∧
 -9223372036854775808 ≤ x.1.2.2 ∧
 x.1.2.2 ≤ 9223372036854775807) ∧
 (True ∧
 x.2.1.2.length ≤ (9223372036854775807 : Nat) ∧
 ∀ (x_1 : Bool × Bool), x_1 ∈ x.2.1.2 →
 True ∧
 True) ∧
 True) ∧
 True ∧
 True ∧
 True ∧
 True) ∧
 True) ∧
 True) ∧
 ((True ∧
 True) ∧
 RR ((Uart.step (g.1.1.1, g.1.1.2.1, g.1.1.2.2.1, g.1.1.2.2.2) (2 : Int) (0 : Int)).2.1) ∧
 RR ((Uart.step (g.1.1.1, g.1.1.2.1, g.1.1.2.2.1, g.1.1.2.2.2) (2 : Int) (0 : Int)).2.2.1) ∧
 True) ∧
 ((g_2.1.1.1 = g_3.1.1.1 ∧
 g_2.1.1.2.1 = g_3.1.1.2.1 ∧
 g_2.1.1.2.2.1 = g_3.1.1.2.2.1 ∧
 g_2.1.1.2.2.2 = g_3.1.1.2.2.2 ∧
 False ∧
 g.1.2.2.1 = g_3.1.2.2.1 ∧
 True ∧
 RR g.1.2.2.2.2.1.1 ∧
 RR g.1.2.2.2.2.1.2 ∧
 RR g.1.2.2.2.2.2 ∧
 True) ∧
 False ∧
 (RR ((opAt x.1 g.2.2.1).1) ∧
 RR ((opAt x.1 g.2.2.1).2.1) ∧
 RR ((opAt x.1 g.2.2.1).2.2.1) ∧
 RR ((opAt x.1 g.2.2.1).2.2.2) ∧
 True) ∧
 (RR (0 : Int) ∧
 RR (Value.slice none (0 : Nat) (0 : Nat)) ∧
 True) ∧
 (RR (Value.slice none (0 : Nat) (0 : Nat)) ∧
 RR (Value.slice none (0 : Nat) (0 : Nat)) ∧
 RR (Value.slice none (0 : Nat) (0 : Nat)) ∧
 RR (Value.slice none (0 : Nat) (0 : Nat)) ∧
 RR (0 : Int) ∧
 RR (0 : Int) ∧
 True) ∧
 g.2.1 = g.2.1 ∧
 (RR ((opAt x.1 g.2.2.1).1) ∧
 RR ((opAt x.1 g.2.2.1).2.1) ∧
 RR ((opAt x.1 g.2.2.1).2.2.1) ∧
 RR ((opAt x.1 g.2.2.1).2.2.2) ∧
 True) ∧
 RR g.1.2.2.2.1 ∧
 True) ∧
 (True ∧
 True) ∧
 RR ((opAt x.1 g.2.2.1).2.1) ∧
 True ∧
 True ∧
 RR (0 : Int) ∧
 ((True ∧
 True ∧
 True ∧
 True ∧
 True) ∧
 (opAt x.1 g.2.2.1).2.1.toNat = (opAt x.1 g.2.2.1).2.1.toNat) ∧
 True ∧
 True ∧
 True ∧
 True ∧
 (True ∧
 True) ∧
 RR ((opAt x.1 g.2.2.1).2.1) ∧
 (True ∧
 True) ∧
 (True ∧
 True) ∧
 ((True ∧
 True ∧
 True ∧
 True ∧
 True) ∧
 (opAt x.1 g.2.2.1).2.1.toNat = (opAt x.1 g.2.2.1).2.1.toNat) ∧
 true = true ∧
 ((True ∧
 True ∧
 True ∧
 True ∧
 True) ∧
 (opAt x.1 g.2.2.1).2.1.toNat = (opAt x.1 g.2.2.1).2.1.toNat) ∧
 ((True ∧
 True ∧
 True ∧
 True ∧
 True) ∧
 (opAt x.1 g.2.2.1).2.1.toNat = (opAt x.1 g.2.2.1).2.1.toNat) ∧
 ((True ∧
 True ∧
 True ∧
 True ∧
 True) ∧
 (opAt x.1 g.2.2.1).2.1.toNat = (opAt x.1 g.2.2.1).2.1.toNat) ∧
 RR ((crAt g.1.2.2.1 (opAt x.1 g.2.2.1).2.1).2.2) ∧
 RR ((crAt g.1.2.2.1 (opAt x.1 g.2.2.1).2.1).2.2) ∧
 True ∧
 True ∧
 True ∧
 True ∧
 True ∧
 RR ((crAt g.1.2.2.1 (opAt x.1 g.2.2.1).2.1).2.2 && g.1.1.2.2.2) ∧
 True ∧
 (True ∧
 True) ∧
 (RR (2 : Int) ∧
 RR (0 : Int) ∧
 True) ∧
 R32 (R32 (R32 (R8 (R8 (True ∧
 (True ∧
 True) ∧
 True ∧
 True ∧
 (True ∧
 True) ∧
 (True ∧
 True) ∧
 RR (Value.func (Fn.func (13 : Nat)) ([] : List Value).toArray ([] : List Value).toArray) ∧
 R32 (True ∧
 True ∧
 True ∧
 True ∧
 True ∧
 g_1.1 = g_1.1 ∧
 false = false ∧
 RR (g_1.1 == 1) ∧
 R8 (True ∧
 True ∧
 True ∧
 true = true ∧
 RR (g_1.1 == 2) ∧
 RR (Value.func (Fn.func (13 : Nat)) ([] : List Value).toArray ([] : List Value).toArray) ∧
 (True ∧
 True) ∧
 (True ∧
 True) ∧
 RR ((opAt x.1 g.2.2.1).2.1) ∧
 R32 (R8 (R8 (R8 (True ∧
 True ∧
 True ∧
 True ∧
 (True ∧
 True) ∧
 (True ∧
 True) ∧
 True ∧
 True ∧
 (True ∧
 True) ∧
 True ∧
 x.1 = x.1 ∧
 RR (↑x.1.length : Int) ∧
 g.2.2.1 = g.2.2.1 ∧
 true = true ∧
 True ∧
 (RR ((opAt x.1 g.2.2.1).1) ∧
 RR ((opAt x.1 g.2.2.1).2.1) ∧
 RR ((opAt x.1 g.2.2.1).2.2.1) ∧
 RR ((opAt x.1 g.2.2.1).2.2.2) ∧
 True) ∧
 True ∧
 (True ∧
 True) ∧
 (RR ((opAt x.1 g.2.2.1).1) ∧
 RR ((opAt x.1 g.2.2.1).2.1) ∧
 RR ((opAt x.1 g.2.2.1).2.2.1) ∧
 RR ((opAt x.1 g.2.2.1).2.2.2) ∧
 True) ∧
 R8 (R8 (R8 (True ∧
 True ∧
 True ∧
 True ∧
 True ∧
 True ∧
 True))))))))))))))) ∧
 (((Line.step g.1.2.1 (2 : Int) (0 : Int)).2.2.1 != 0) = false →
 (((RR ((Line.step g.1.2.1 (2 : Int) (0 : Int)).2.1) ∧
 (Line.step g.1.2.1 (2 : Int) (0 : Int)).1 = (Line.step g.1.2.1 (2 : Int) (0 : Int)).1) ∧
 True) ∧
 (RR ((Line.step g.1.2.1 (2 : Int) (0 : Int)).2.1) ∧
 (True ∧
 True) ∧
 True) ∧
 ((RR g_2.1.1.1 ∧
 RR g_2.1.1.2.1 ∧
 RR g_2.1.1.2.2.1 ∧
 RR g_2.1.1.2.2.2 ∧
 True ∧
 RR g.1.2.2.1 ∧
 True ∧
 RR g.1.2.2.2.2.1.1 ∧
 RR g.1.2.2.2.2.1.2 ∧
 RR g.1.2.2.2.2.2 ∧
 True) ∧
 RR ((Line.step g.1.2.1 (2 : Int) (0 : Int)).1) ∧
 (RR ((opAt x.1 g.2.2.1).1) ∧
 RR ((opAt x.1 g.2.2.1).2.1) ∧
 RR ((opAt x.1 g.2.2.1).2.2.1) ∧
 RR ((opAt x.1 g.2.2.1).2.2.2) ∧
 True) ∧
 (RR (0 : Int) ∧
 RR (Value.slice none (0 : Nat) (0 : Nat)) ∧
 True) ∧
 (RR (Value.slice none (0 : Nat) (0 : Nat)) ∧
 RR (Value.slice none (0 : Nat) (0 : Nat)) ∧
 RR (Value.slice none (0 : Nat) (0 : Nat)) ∧
 RR (Value.slice none (0 : Nat) (0 : Nat)) ∧
 RR (0 : Int) ∧
 RR (0 : Int) ∧
 True) ∧
 g.2.1 = g.2.1 ∧
 (RR ((opAt x.1 g.2.2.1).1) ∧
 RR ((opAt x.1 g.2.2.1).2.1) ∧
 RR ((opAt x.1 g.2.2.1).2.2.1) ∧
 RR ((opAt x.1 g.2.2.1).2.2.2) ∧
 True) ∧
 RR g.1.2.2.2.1 ∧
 True) ∧
 (True ∧
 True) ∧
 True ∧
 (True ∧
 True) ∧
 (True ∧
 True) ∧
 (True ∧
 True) ∧
 (True ∧
 True) ∧
 false = false ∧
 True ∧
 True ∧
 (True ∧
 True) ∧
 True ∧
 (True ∧
 True) ∧
 True ∧
 True ∧
 True ∧
 True ∧
 True ∧
 True ∧
 RR ((Uart.step (g.1.1.1, g.1.1.2.1, g.1.1.2.2.1, g.1.1.2.2.2) (2 : Int) (0 : Int)).2.1) ∧
 RR ((Uart.step (g.1.1.1, g.1.1.2.1, g.1.1.2.2.1, g.1.1.2.2.2) (2 : Int) (0 : Int)).2.2.1) ∧
 R8 (R8 ((True ∧
 True) ∧
 True ∧
 True ∧
 True ∧
 (True ∧
 True) ∧
 RR ((opAt x.1 g.2.2.1).2.1) ∧
 True ∧
 True ∧
 RR (0 : Int) ∧
 ((True ∧
 True ∧
 True ∧
 True ∧
 True) ∧
 (opAt x.1 g.2.2.1).2.1.toNat = (opAt x.1 g.2.2.1).2.1.toNat) ∧
 True ∧
 True ∧
 True ∧
 True ∧
 (True ∧
 True) ∧
 RR ((opAt x.1 g.2.2.1).2.1) ∧
 (True ∧
 True) ∧
 (True ∧
 True) ∧
 ((True ∧
 True ∧
 True ∧
 True ∧
 True) ∧
 (opAt x.1 g.2.2.1).2.1.toNat = (opAt x.1 g.2.2.1).2.1.toNat) ∧
 true = true ∧
 ((True ∧
 True ∧
 True ∧
 True ∧
 True) ∧
 (opAt x.1 g.2.2.1).2.1.toNat = (opAt x.1 g.2.2.1).2.1.toNat) ∧
 ((True ∧
 True ∧
 True ∧
 True ∧
 True) ∧
 (opAt x.1 g.2.2.1).2.1.toNat = (opAt x.1 g.2.2.1).2.1.toNat) ∧
 ((True ∧
 True ∧
 True ∧
 True ∧
 True) ∧
 (opAt x.1 g.2.2.1).2.1.toNat = (opAt x.1 g.2.2.1).2.1.toNat) ∧
 RR ((crAt g.1.2.2.1 (opAt x.1 g.2.2.1).2.1).2.2) ∧
 RR ((crAt g.1.2.2.1 (opAt x.1 g.2.2.1).2.1).2.2) ∧
 True ∧
 True ∧
 True ∧
 True ∧
 True ∧
 RR ((crAt g.1.2.2.1 (opAt x.1 g.2.2.1).2.1).2.2 && g.1.1.2.2.2) ∧
 True ∧
 (True ∧
 True) ∧
 (RR (2 : Int) ∧
 RR (0 : Int) ∧
 True) ∧
 R32 (R32 (R32 (R8 (R8 (True ∧
 (True ∧
 True) ∧
 True ∧
 True ∧
 (True ∧
 True) ∧
 (True ∧
 True) ∧
 RR (Value.func (Fn.func (13 : Nat)) ([] : List Value).toArray ([] : List Value).toArray) ∧
 R32 (True ∧
 True ∧
 True ∧
 True ∧
 True ∧
 g_1.1 = g_1.1 ∧
 false = false ∧
 RR (g_1.1 == 1) ∧
 R8 (True ∧
 True ∧
 True ∧
 true = true ∧
 RR (g_1.1 == 2) ∧
 RR (Value.func (Fn.func (13 : Nat)) ([] : List Value).toArray ([] : List Value).toArray) ∧
 (True ∧
 True) ∧
 (True ∧
 True) ∧
 RR ((opAt x.1 g.2.2.1).2.1) ∧
 R32 (R8 (R8 (R8 (True ∧
 True ∧
 True ∧
 True ∧
 (True ∧
 True) ∧
 (True ∧
 True) ∧
 True ∧
 True ∧
 (True ∧
 True) ∧
 True ∧
 x.1 = x.1 ∧
 RR (↑x.1.length : Int) ∧
 g.2.2.1 = g.2.2.1 ∧
 true = true ∧
 True ∧
 (RR ((opAt x.1 g.2.2.1).1) ∧
 RR ((opAt x.1 g.2.2.1).2.1) ∧
 RR ((opAt x.1 g.2.2.1).2.2.1) ∧
 RR ((opAt x.1 g.2.2.1).2.2.2) ∧
 True) ∧
 True ∧
 (True ∧
 True) ∧
 (RR ((opAt x.1 g.2.2.1).1) ∧
 RR ((opAt x.1 g.2.2.1).2.1) ∧
 RR ((opAt x.1 g.2.2.1).2.2.1) ∧
 RR ((opAt x.1 g.2.2.1).2.2.2) ∧
 True) ∧
 R8 (R8 (R8 (True ∧
 True ∧
 True ∧
 True ∧
 True ∧
 True ∧
 True))))))))))))))))) ∧
 ∀ (g_3 : List (Int × Int × Int) × (Unit × Unit × Unit × Unit × List (Int × Int × Bool × Bool × Bool × Bool × Bool) × Unit × Unit × Unit × Unit × Unit) × Unit), g_3.1 = (Line.step g.1.2.1 (2 : Int) (0 : Int)).2.1 ∧
 g_3.2.1.2.2.2.2.1 = (Line.step g.1.2.1 (2 : Int) (0 : Int)).1 →
 (g_3.1.length ≤ (9223372036854775807 : Nat) ∧
 ∀ (x : Int × Int × Int), x ∈ g_3.1 →
 (-9223372036854775808 ≤ x.1 ∧
 x.1 ≤ 9223372036854775807) ∧
 (-9223372036854775808 ≤ x.2.1 ∧
 x.2.1 ≤ 9223372036854775807) ∧
 -9223372036854775808 ≤ x.2.2 ∧
 x.2.2 ≤ 9223372036854775807) ∧
 (True ∧
 True ∧
 True ∧
 True ∧
 (g_3.2.1.2.2.2.2.1.length ≤ (9223372036854775807 : Nat) ∧
 ∀ (x : Int × Int × Bool × Bool × Bool × Bool × Bool), x ∈ g_3.2.1.2.2.2.2.1 →
 (-9223372036854775808 ≤ x.1 ∧
 x.1 ≤ 9223372036854775807) ∧
 (-9223372036854775808 ≤ x.2.1 ∧
 x.2.1 ≤ 9223372036854775807) ∧
 True ∧
 True ∧
 True ∧
 True ∧
 True) ∧
 True ∧
 True ∧
 True ∧
 True ∧
 True) ∧
 True →
 ((((0 : Int) ≤ (0 : Int) ∧
 0 ≤ (↑g_3.1.length : Int) ∧
 g.1.2.2.1 = List.foldl ask1 g.1.2.2.1 (List.take (Int.toNat (0 : Int)) g_3.1)) ∧
 True) ∧
 ((True ∧
 True) ∧
 g_3.1 = g_3.1 ∧
 RR (↑g_3.1.length : Int) ∧
 RR (0 : Int) ∧
 True) ∧
 ((RR g_2.1.1.1 ∧
 RR g_2.1.1.2.1 ∧
 RR g_2.1.1.2.2.1 ∧
 RR g_2.1.1.2.2.2 ∧
 True ∧
 RR g.1.2.2.1 ∧
 True ∧
 RR g.1.2.2.2.2.1.1 ∧
 RR g.1.2.2.2.2.1.2 ∧
 RR g.1.2.2.2.2.2 ∧
 True) ∧
 (RR ((opAt x.1 g.2.2.1).1) ∧
 RR ((opAt x.1 g.2.2.1).2.1) ∧
 RR ((opAt x.1 g.2.2.1).2.2.1) ∧
 RR ((opAt x.1 g.2.2.1).2.2.2) ∧
 True) ∧
 (RR (0 : Int) ∧
 RR (Value.slice none (0 : Nat) (0 : Nat)) ∧
 True) ∧
 (RR (Value.slice none (0 : Nat) (0 : Nat)) ∧
 RR (Value.slice none (0 : Nat) (0 : Nat)) ∧
 RR (Value.slice none (0 : Nat) (0 : Nat)) ∧
 RR (Value.slice none (0 : Nat) (0 : Nat)) ∧
 RR (0 : Int) ∧
 RR (0 : Int) ∧
 True) ∧
 g.2.1 = g.2.1 ∧
 (RR ((opAt x.1 g.2.2.1).1) ∧
 RR ((opAt x.1 g.2.2.1).2.1) ∧
 RR ((opAt x.1 g.2.2.1).2.2.1) ∧
 RR ((opAt x.1 g.2.2.1).2.2.2) ∧
 True) ∧
 RR g_3.2.1.2.2.2.2.1 ∧
 RR g.1.2.2.2.1 ∧
 True) ∧
 (True ∧
 True) ∧
 True ∧
 (True ∧
 True) ∧
 (True ∧
 True) ∧
 (True ∧
 True) ∧
 (True ∧
 True) ∧
 false = false ∧
 True ∧
 True ∧
 (True ∧
 True) ∧
 True ∧
 (True ∧
 True) ∧
 True ∧
 True ∧
 True ∧
 True ∧
 True ∧
 True ∧
 RR ((Uart.step (g.1.1.1, g.1.1.2.1, g.1.1.2.2.1, g.1.1.2.2.2) (2 : Int) (0 : Int)).2.1) ∧
 RR ((Uart.step (g.1.1.1, g.1.1.2.1, g.1.1.2.2.1, g.1.1.2.2.2) (2 : Int) (0 : Int)).2.2.1) ∧
 R8 (R8 ((True ∧
 True) ∧
 True ∧
 True ∧
 True ∧
 (True ∧
 True) ∧
 RR ((opAt x.1 g.2.2.1).2.1) ∧
 True ∧
 True ∧
 RR (0 : Int) ∧
 ((True ∧
 True ∧
 True ∧
 True ∧
 True) ∧
 (opAt x.1 g.2.2.1).2.1.toNat = (opAt x.1 g.2.2.1).2.1.toNat) ∧
 True ∧
 True ∧
 True ∧
 True ∧
 (True ∧
 True) ∧
 RR ((opAt x.1 g.2.2.1).2.1) ∧
 (True ∧
 True) ∧
 (True ∧
 True) ∧
 ((True ∧
 True ∧
 True ∧
 True ∧
 True) ∧
 (opAt x.1 g.2.2.1).2.1.toNat = (opAt x.1 g.2.2.1).2.1.toNat) ∧
 true = true ∧
 ((True ∧
 True ∧
 True ∧
 True ∧
 True) ∧
 (opAt x.1 g.2.2.1).2.1.toNat = (opAt x.1 g.2.2.1).2.1.toNat) ∧
 ((True ∧
 True ∧
 True ∧
 True ∧
 True) ∧
 (opAt x.1 g.2.2.1).2.1.toNat = (opAt x.1 g.2.2.1).2.1.toNat) ∧
 ((True ∧
 True ∧
 True ∧
 True ∧
 True) ∧
 (opAt x.1 g.2.2.1).2.1.toNat = (opAt x.1 g.2.2.1).2.1.toNat) ∧
 RR ((crAt g.1.2.2.1 (opAt x.1 g.2.2.1).2.1).2.2) ∧
 RR ((crAt g.1.2.2.1 (opAt x.1 g.2.2.1).2.1).2.2) ∧
 True ∧
 True ∧
 True ∧
 True ∧
 True ∧
 RR ((crAt g.1.2.2.1 (opAt x.1 g.2.2.1).2.1).2.2 && g.1.1.2.2.2) ∧
 True ∧
 (True ∧
 True) ∧
 (RR (2 : Int) ∧
 RR (0 : Int) ∧
 True) ∧
 R32 (R32 (R32 (R8 (R8 (True ∧
 (True ∧
 True) ∧
 True ∧
 True ∧
 (True ∧
 True) ∧
 (True ∧
 True) ∧
 RR (Value.func (Fn.func (13 : Nat)) ([] : List Value).toArray ([] : List Value).toArray) ∧
 R32 (True ∧
 True ∧
 True ∧
 True ∧
 True ∧
 g_1.1 = g_1.1 ∧
 false = false ∧
 RR (g_1.1 == 1) ∧
 R8 (True ∧
 True ∧
 True ∧
 true = true ∧
 RR (g_1.1 == 2) ∧
 RR (Value.func (Fn.func (13 : Nat)) ([] : List Value).toArray ([] : List Value).toArray) ∧
 (True ∧
 True) ∧
 (True ∧
 True) ∧
 RR ((opAt x.1 g.2.2.1).2.1) ∧
 R32 (R8 (R8 (R8 (True ∧
 True ∧
 True ∧
 True ∧
 (True ∧
 True) ∧
 (True ∧
 True) ∧
 True ∧
 True ∧
 (True ∧
 True) ∧
 True ∧
 x.1 = x.1 ∧
 RR (↑x.1.length : Int) ∧
 g.2.2.1 = g.2.2.1 ∧
 true = true ∧
 True ∧
 (RR ((opAt x.1 g.2.2.1).1) ∧
 RR ((opAt x.1 g.2.2.1).2.1) ∧
 RR ((opAt x.1 g.2.2.1).2.2.1) ∧
 RR ((opAt x.1 g.2.2.1).2.2.2) ∧
 True) ∧
 True ∧
 (True ∧
 True) ∧
 (RR ((opAt x.1 g.2.2.1).1) ∧
 RR ((opAt x.1 g.2.2.1).2.1) ∧
 RR ((opAt x.1 g.2.2.1).2.2.1) ∧
 RR ((opAt x.1 g.2.2.1).2.2.2) ∧
 True) ∧
 R8 (R8 (R8 (True ∧
 True ∧
 True ∧
 True ∧
 True ∧
 True ∧
 True))))))))))))))))) ∧
 ∀ (g_4 : (Unit × Unit × Unit × Unit × Unit × List ((List Int × List Int × Int) × (Bool × List (Bool × Bool)) × Bool) × Unit × Unit × Unit × Unit) × Int × Unit), 0 ≤ g_4.2.1 ∧
 g_4.2.1 ≤ (↑g_3.1.length : Int) ∧
 g_4.1.2.2.2.2.2.1 = List.foldl ask1 g.1.2.2.1 (List.take g_4.2.1.toNat g_3.1) →
 (True ∧
 True ∧
 True ∧
 True ∧
 True ∧
 (g_4.1.2.2.2.2.2.1.length = (2 : Nat) ∧
 ∀ (x : (List Int × List Int × Int) × (Bool × List (Bool × Bool)) × Bool), x ∈ g_4.1.2.2.2.2.2.1 →
 ((x.1.1.length = (4 : Nat) ∧
 ∀ (x_1 : Int), x_1 ∈ x.1.1 →
 0 ≤ x_1 ∧
 x_1 ≤ 18446744073709551615) ∧
 (x.1.2.1.length = (4 : Nat) ∧
 ∀ (x_1 : Int), x_1 ∈ x.1.2.1 →
 0 ≤ x_1 ∧
 x_1 ≤ 18446744073709551615) ∧
 -9223372036854775808 ≤ x.1.2.2 ∧
 x.1.2.2 ≤ 9223372036854775807) ∧
 (True ∧
 x.2.1.2.length ≤ (9223372036854775807 : Nat) ∧
 ∀ (x_1 : Bool × Bool), x_1 ∈ x.2.1.2 →
 True ∧
 True) ∧
 True) ∧
 True ∧
 True ∧
 True ∧
 True) ∧
 (-9223372036854775808 ≤ g_4.2.1 ∧
 g_4.2.1 ≤ 9223372036854775807) ∧
 True →
 (decide (g_4.2.1 < (↑g_3.1.length : Int)) = true →
 (0 ≤ g_4.2.1 ∧
 g_4.2.1 < (↑g_3.1.length : Int)) ∧
 (0 ≤ (seAt g_3.1 g_4.2.1).2.1 ∧
 (seAt g_3.1 g_4.2.1).2.1 < (↑(2 : Nat) : Int)) ∧
 Holds True ∧
 (((Apic.stepL ((crAt g_4.1.2.2.2.2.2.1 (seAt g_3.1 g_4.2.1).2.1).1.1, (crAt g_4.1.2.2.2.2.2.1 (seAt g_3.1 g_4.2.1).2.1).1.2.1, (crAt g_4.1.2.2.2.2.2.1 (seAt g_3.1 g_4.2.1).2.1).1.2.2) ((1 : Int), (seAt g_3.1 g_4.2.1).2.2)).2.2.1 == 0) = true →
 (-9223372036854775808 ≤ g_4.2.1 + 1 ∧
 g_4.2.1 + 1 ≤ (9223372036854775807 : Int)) ∧
 ((0 ≤ g_4.2.1 + 1 ∧
 g_4.2.1 + 1 ≤ (↑g_3.1.length : Int) ∧
 g_4.1.2.2.2.2.2.1.set (seAt g_3.1 g_4.2.1).2.1.toNat (((Apic.stepL ((crAt g_4.1.2.2.2.2.2.1 (seAt g_3.1 g_4.2.1).2.1).1.1, (crAt g_4.1.2.2.2.2.2.1 (seAt g_3.1 g_4.2.1).2.1).1.2.1, (crAt g_4.1.2.2.2.2.2.1 (seAt g_3.1 g_4.2.1).2.1).1.2.2) ((1 : Int), (seAt g_3.1 g_4.2.1).2.2)).1.1, (Apic.stepL ((crAt g_4.1.2.2.2.2.2.1 (seAt g_3.1 g_4.2.1).2.1).1.1, (crAt g_4.1.2.2.2.2.2.1 (seAt g_3.1 g_4.2.1).2.1).1.2.1, (crAt g_4.1.2.2.2.2.2.1 (seAt g_3.1 g_4.2.1).2.1).1.2.2) ((1 : Int), (seAt g_3.1 g_4.2.1).2.2)).1.2.1, (Apic.stepL ((crAt g_4.1.2.2.2.2.2.1 (seAt g_3.1 g_4.2.1).2.1).1.1, (crAt g_4.1.2.2.2.2.2.1 (seAt g_3.1 g_4.2.1).2.1).1.2.1, (crAt g_4.1.2.2.2.2.2.1 (seAt g_3.1 g_4.2.1).2.1).1.2.2) ((1 : Int), (seAt g_3.1 g_4.2.1).2.2)).1.2.2), ((crAt g_4.1.2.2.2.2.2.1 (seAt g_3.1 g_4.2.1).2.1).2.1.1, (crAt g_4.1.2.2.2.2.2.1 (seAt g_3.1 g_4.2.1).2.1).2.1.2), (crAt g_4.1.2.2.2.2.2.1 (seAt g_3.1 g_4.2.1).2.1).2.2) = List.foldl ask1 g.1.2.2.1 (List.take (g_4.2.1 + 1).toNat g_3.1)) ∧
 ((↑g_3.1.length : Int) - (g_4.2.1 + 1)).toNat < ((↑g_3.1.length : Int) - g_4.2.1).toNat) ∧
 ((True ∧
 True) ∧
 g_3.1 = g_3.1 ∧
 RR (↑g_3.1.length : Int) ∧
 g_4.2.1 + 1 = g_4.2.1 + 1 ∧
 True) ∧
 ((RR g_2.1.1.1 ∧
 RR g_2.1.1.2.1 ∧
 RR g_2.1.1.2.2.1 ∧
 RR g_2.1.1.2.2.2 ∧
 True ∧
 g_4.1.2.2.2.2.2.1.set (seAt g_3.1 g_4.2.1).2.1.toNat (((Apic.stepL ((crAt g_4.1.2.2.2.2.2.1 (seAt g_3.1 g_4.2.1).2.1).1.1, (crAt g_4.1.2.2.2.2.2.1 (seAt g_3.1 g_4.2.1).2.1).1.2.1, (crAt g_4.1.2.2.2.2.2.1 (seAt g_3.1 g_4.2.1).2.1).1.2.2) ((1 : Int), (seAt g_3.1 g_4.2.1).2.2)).1.1, (Apic.stepL ((crAt g_4.1.2.2.2.2.2.1 (seAt g_3.1 g_4.2.1).2.1).1.1, (crAt g_4.1.2.2.2.2.2.1 (seAt g_3.1 g_4.2.1).2.1).1.2.1, (crAt g_4.1.2.2.2.2.2.1 (seAt g_3.1 g_4.2.1).2.1).1.2.2) ((1 : Int), (seAt g_3.1 g_4.2.1).2.2)).1.2.1, (Apic.stepL ((crAt g_4.1.2.2.2.2.2.1 (seAt g_3.1 g_4.2.1).2.1).1.1, (crAt g_4.1.2.2.2.2.2.1 (seAt g_3.1 g_4.2.1).2.1).1.2.1, (crAt g_4.1.2.2.2.2.2.1 (seAt g_3.1 g_4.2.1).2.1).1.2.2) ((1 : Int), (seAt g_3.1 g_4.2.1).2.2)).1.2.2), ((crAt g_4.1.2.2.2.2.2.1 (seAt g_3.1 g_4.2.1).2.1).2.1.1, (crAt g_4.1.2.2.2.2.2.1 (seAt g_3.1 g_4.2.1).2.1).2.1.2), (crAt g_4.1.2.2.2.2.2.1 (seAt g_3.1 g_4.2.1).2.1).2.2) = g_4.1.2.2.2.2.2.1.set (seAt g_3.1 g_4.2.1).2.1.toNat (((Apic.stepL ((crAt g_4.1.2.2.2.2.2.1 (seAt g_3.1 g_4.2.1).2.1).1.1, (crAt g_4.1.2.2.2.2.2.1 (seAt g_3.1 g_4.2.1).2.1).1.2.1, (crAt g_4.1.2.2.2.2.2.1 (seAt g_3.1 g_4.2.1).2.1).1.2.2) ((1 : Int), (seAt g_3.1 g_4.2.1).2.2)).1.1, (Apic.stepL ((crAt g_4.1.2.2.2.2.2.1 (seAt g_3.1 g_4.2.1).2.1).1.1, (crAt g_4.1.2.2.2.2.2.1 (seAt g_3.1 g_4.2.1).2.1).1.2.1, (crAt g_4.1.2.2.2.2.2.1 (seAt g_3.1 g_4.2.1).2.1).1.2.2) ((1 : Int), (seAt g_3.1 g_4.2.1).2.2)).1.2.1, (Apic.stepL ((crAt g_4.1.2.2.2.2.2.1 (seAt g_3.1 g_4.2.1).2.1).1.1, (crAt g_4.1.2.2.2.2.2.1 (seAt g_3.1 g_4.2.1).2.1).1.2.1, (crAt g_4.1.2.2.2.2.2.1 (seAt g_3.1 g_4.2.1).2.1).1.2.2) ((1 : Int), (seAt g_3.1 g_4.2.1).2.2)).1.2.2), ((crAt g_4.1.2.2.2.2.2.1 (seAt g_3.1 g_4.2.1).2.1).2.1.1, (crAt g_4.1.2.2.2.2.2.1 (seAt g_3.1 g_4.2.1).2.1).2.1.2), (crAt g_4.1.2.2.2.2.2.1 (seAt g_3.1 g_4.2.1).2.1).2.2) ∧
 True ∧
 RR g.1.2.2.2.2.1.1 ∧
 RR g.1.2.2.2.2.1.2 ∧
 RR g.1.2.2.2.2.2 ∧
 True) ∧
 (RR ((opAt x.1 g.2.2.1).1) ∧
 RR ((opAt x.1 g.2.2.1).2.1) ∧
 RR ((opAt x.1 g.2.2.1).2.2.1) ∧
 RR ((opAt x.1 g.2.2.1).2.2.2) ∧
 True) ∧
 (RR (0 : Int) ∧
 RR (Value.slice none (0 : Nat) (0 : Nat)) ∧
 True) ∧
 (RR (Value.slice none (0 : Nat) (0 : Nat)) ∧
 RR (Value.slice none (0 : Nat) (0 : Nat)) ∧
 RR (Value.slice none (0 : Nat) (0 : Nat)) ∧
 RR (Value.slice none (0 : Nat) (0 : Nat)) ∧
 RR (0 : Int) ∧
 RR (0 : Int) ∧
 True) ∧
 g.2.1 = g.2.1 ∧
 (RR ((opAt x.1 g.2.2.1).1) ∧
 RR ((opAt x.1 g.2.2.1).2.1) ∧
 RR ((opAt x.1 g.2.2.1).2.2.1) ∧
 RR ((opAt x.1 g.2.2.1).2.2.2) ∧
 True) ∧
 RR g_3.2.1.2.2.2.2.1 ∧
 RR g.1.2.2.2.1 ∧
 True) ∧
 (True ∧
 True) ∧
 True ∧
 (True ∧
 True) ∧
 (True ∧
 True) ∧
 (True ∧
 True) ∧
 (True ∧
 True) ∧
 false = false ∧
 True ∧
 True ∧
 (True ∧
 True) ∧
 True ∧
 (True ∧
 True) ∧
 True ∧
 True ∧
 True ∧
 True ∧
 True ∧
 True ∧
 RR ((Uart.step (g.1.1.1, g.1.1.2.1, g.1.1.2.2.1, g.1.1.2.2.2) (2 : Int) (0 : Int)).2.1) ∧
 RR ((Uart.step (g.1.1.1, g.1.1.2.1, g.1.1.2.2.1, g.1.1.2.2.2) (2 : Int) (0 : Int)).2.2.1) ∧
 R8 (R8 ((True ∧
 True) ∧
 True ∧
 True ∧
 True ∧
 (True ∧
 True) ∧
 RR ((opAt x.1 g.2.2.1).2.1) ∧
 True ∧
 True ∧
 RR (0 : Int) ∧
 ((True ∧
 True ∧
 True ∧
 True ∧
 True) ∧
 (opAt x.1 g.2.2.1).2.1.toNat = (opAt x.1 g.2.2.1).2.1.toNat) ∧
 True ∧
 True ∧
 True ∧
 True ∧
 (True ∧
 True) ∧
 RR ((opAt x.1 g.2.2.1).2.1) ∧
 (True ∧
 True) ∧
 (True ∧
 True) ∧
 ((True ∧
 True ∧
 True ∧
 True ∧
 True) ∧
 (opAt x.1 g.2.2.1).2.1.toNat = (opAt x.1 g.2.2.1).2.1.toNat) ∧
 true = true ∧
 ((True ∧
 True ∧
 True ∧
 True ∧
 True) ∧
 (opAt x.1 g.2.2.1).2.1.toNat = (opAt x.1 g.2.2.1).2.1.toNat) ∧
 ((True ∧
 True ∧
 True ∧
 True ∧
 True) ∧
 (opAt x.1 g.2.2.1).2.1.toNat = (opAt x.1 g.2.2.1).2.1.toNat) ∧
 ((True ∧
 True ∧
 True ∧
 True ∧
 True) ∧
 (opAt x.1 g.2.2.1).2.1.toNat = (opAt x.1 g.2.2.1).2.1.toNat) ∧
 RR ((crAt g.1.2.2.1 (opAt x.1 g.2.2.1).2.1).2.2) ∧
 RR ((crAt g.1.2.2.1 (opAt x.1 g.2.2.1).2.1).2.2) ∧
 True ∧
 True ∧
 True ∧
 True ∧
 True ∧
 RR ((crAt g.1.2.2.1 (opAt x.1 g.2.2.1).2.1).2.2 && g.1.1.2.2.2) ∧
 True ∧
 (True ∧
 True) ∧
 (RR (2 : Int) ∧
 RR (0 : Int) ∧
 True) ∧
 R32 (R32 (R32 (R8 (R8 (True ∧
 (True ∧
 True) ∧
 True ∧
 True ∧
 (True ∧
 True) ∧
 (True ∧
 True) ∧
 RR (Value.func (Fn.func (13 : Nat)) ([] : List Value).toArray ([] : List Value).toArray) ∧
 R32 (True ∧
 True ∧
 True ∧
 True ∧
 True ∧
 g_1.1 = g_1.1 ∧
 false = false ∧
 RR (g_1.1 == 1) ∧
 R8 (True ∧
 True ∧
 True ∧
 true = true ∧
 RR (g_1.1 == 2) ∧
 RR (Value.func (Fn.func (13 : Nat)) ([] : List Value).toArray ([] : List Value).toArray) ∧
 (True ∧
 True) ∧
 (True ∧
 True) ∧
 RR ((opAt x.1 g.2.2.1).2.1) ∧
 R32 (R8 (R8 (R8 (True ∧
 True ∧
 True ∧
 True ∧
 (True ∧
 True) ∧
 (True ∧
 True) ∧
 True ∧
 True ∧
 (True ∧
 True) ∧
 True ∧
 x.1 = x.1 ∧
 RR (↑x.1.length : Int) ∧
 g.2.2.1 = g.2.2.1 ∧
 true = true ∧
 True ∧
 (RR ((opAt x.1 g.2.2.1).1) ∧
 RR ((opAt x.1 g.2.2.1).2.1) ∧
 RR ((opAt x.1 g.2.2.1).2.2.1) ∧
 RR ((opAt x.1 g.2.2.1).2.2.2) ∧
 True) ∧
 True ∧
 (True ∧
 True) ∧
 (RR ((opAt x.1 g.2.2.1).1) ∧
 RR ((opAt x.1 g.2.2.1).2.1) ∧
 RR ((opAt x.1 g.2.2.1).2.2.1) ∧
 RR ((opAt x.1 g.2.2.1).2.2.2) ∧
 True) ∧
 R8 (R8 (R8 (True ∧
 True ∧
 True ∧
 True ∧
 True ∧
 True ∧
 True))))))))))))))))) ∧
 (((Apic.stepL ((crAt g_4.1.2.2.2.2.2.1 (seAt g_3.1 g_4.2.1).2.1).1.1, (crAt g_4.1.2.2.2.2.2.1 (seAt g_3.1 g_4.2.1).2.1).1.2.1, (crAt g_4.1.2.2.2.2.2.1 (seAt g_3.1 g_4.2.1).2.1).1.2.2) ((1 : Int), (seAt g_3.1 g_4.2.1).2.2)).2.2.1 == 0) = false →
 (-9223372036854775808 ≤ g_4.2.1 + 1 ∧
 g_4.2.1 + 1 ≤ (9223372036854775807 : Int)) ∧
 ((0 ≤ g_4.2.1 + 1 ∧
 g_4.2.1 + 1 ≤ (↑g_3.1.length : Int) ∧
 g_4.1.2.2.2.2.2.1 = List.foldl ask1 g.1.2.2.1 (List.take (g_4.2.1 + 1).toNat g_3.1)) ∧
 ((↑g_3.1.length : Int) - (g_4.2.1 + 1)).toNat < ((↑g_3.1.length : Int) - g_4.2.1).toNat) ∧
 ((True ∧
 True) ∧
 g_3.1 = g_3.1 ∧
 RR (↑g_3.1.length : Int) ∧
 g_4.2.1 + 1 = g_4.2.1 + 1 ∧
 True) ∧
 ((RR g_2.1.1.1 ∧
 RR g_2.1.1.2.1 ∧
 RR g_2.1.1.2.2.1 ∧
 RR g_2.1.1.2.2.2 ∧
 True ∧
 RR g_4.1.2.2.2.2.2.1 ∧
 True ∧
 RR g.1.2.2.2.2.1.1 ∧
 RR g.1.2.2.2.2.1.2 ∧
 RR g.1.2.2.2.2.2 ∧
 True) ∧
 (RR ((opAt x.1 g.2.2.1).1) ∧
 RR ((opAt x.1 g.2.2.1).2.1) ∧
 RR ((opAt x.1 g.2.2.1).2.2.1) ∧
 RR ((opAt x.1 g.2.2.1).2.2.2) ∧
 True) ∧
 (RR (0 : Int) ∧
 RR (Value.slice none (0 : Nat) (0 : Nat)) ∧
 True) ∧
 (RR (Value.slice none (0 : Nat) (0 : Nat)) ∧
 RR (Value.slice none (0 : Nat) (0 : Nat)) ∧
 RR (Value.slice none (0 : Nat) (0 : Nat)) ∧
 RR (Value.slice none (0 : Nat) (0 : Nat)) ∧
 RR (0 : Int) ∧
 RR (0 : Int) ∧
 True) ∧
 g.2.1 = g.2.1 ∧
 (RR ((opAt x.1 g.2.2.1).1) ∧
 RR ((opAt x.1 g.2.2.1).2.1) ∧
 RR ((opAt x.1 g.2.2.1).2.2.1) ∧
 RR ((opAt x.1 g.2.2.1).2.2.2) ∧
 True) ∧
 RR g_3.2.1.2.2.2.2.1 ∧
 RR g.1.2.2.2.1 ∧
 True) ∧
 (True ∧
 True) ∧
 True ∧
 (True ∧
 True) ∧
 (True ∧
 True) ∧
 (True ∧
 True) ∧
 (True ∧
 True) ∧
 false = false ∧
 True ∧
 True ∧
 (True ∧
 True) ∧
 True ∧
 (True ∧
 True) ∧
 True ∧
 True ∧
 True ∧
 True ∧
 True ∧
 True ∧
 RR ((Uart.step (g.1.1.1, g.1.1.2.1, g.1.1.2.2.1, g.1.1.2.2.2) (2 : Int) (0 : Int)).2.1) ∧
 RR ((Uart.step (g.1.1.1, g.1.1.2.1, g.1.1.2.2.1, g.1.1.2.2.2) (2 : Int) (0 : Int)).2.2.1) ∧
 R8 (R8 ((True ∧
 True) ∧
 True ∧
 True ∧
 True ∧
 (True ∧
 True) ∧
 RR ((opAt x.1 g.2.2.1).2.1) ∧
 True ∧
 True ∧
 RR (0 : Int) ∧
 ((True ∧
 True ∧
 True ∧
 True ∧
 True) ∧
 (opAt x.1 g.2.2.1).2.1.toNat = (opAt x.1 g.2.2.1).2.1.toNat) ∧
 True ∧
 True ∧
 True ∧
 True ∧
 (True ∧
 True) ∧
 RR ((opAt x.1 g.2.2.1).2.1) ∧
 (True ∧
 True) ∧
 (True ∧
 True) ∧
 ((True ∧
 True ∧
 True ∧
 True ∧
 True) ∧
 (opAt x.1 g.2.2.1).2.1.toNat = (opAt x.1 g.2.2.1).2.1.toNat) ∧
 true = true ∧
 ((True ∧
 True ∧
 True ∧
 True ∧
 True) ∧
 (opAt x.1 g.2.2.1).2.1.toNat = (opAt x.1 g.2.2.1).2.1.toNat) ∧
 ((True ∧
 True ∧
 True ∧
 True ∧
 True) ∧
 (opAt x.1 g.2.2.1).2.1.toNat = (opAt x.1 g.2.2.1).2.1.toNat) ∧
 ((True ∧
 True ∧
 True ∧
 True ∧
 True) ∧
 (opAt x.1 g.2.2.1).2.1.toNat = (opAt x.1 g.2.2.1).2.1.toNat) ∧
 RR ((crAt g.1.2.2.1 (opAt x.1 g.2.2.1).2.1).2.2) ∧
 RR ((crAt g.1.2.2.1 (opAt x.1 g.2.2.1).2.1).2.2) ∧
 True ∧
 True ∧
 True ∧
 True ∧
 True ∧
 RR ((crAt g.1.2.2.1 (opAt x.1 g.2.2.1).2.1).2.2 && g.1.1.2.2.2) ∧
 True ∧
 (True ∧
 True) ∧
 (RR (2 : Int) ∧
 RR (0 : Int) ∧
 True) ∧
 R32 (R32 (R32 (R8 (R8 (True ∧
 (True ∧
 True) ∧
 True ∧
 True ∧
 (True ∧
 True) ∧
 (True ∧
 True) ∧
 RR (Value.func (Fn.func (13 : Nat)) ([] : List Value).toArray ([] : List Value).toArray) ∧
 R32 (True ∧
 True ∧
 True ∧
 True ∧
 True ∧
 g_1.1 = g_1.1 ∧
 false = false ∧
 RR (g_1.1 == 1) ∧
 R8 (True ∧
 True ∧
 True ∧
 true = true ∧
 RR (g_1.1 == 2) ∧
 RR (Value.func (Fn.func (13 : Nat)) ([] : List Value).toArray ([] : List Value).toArray) ∧
 (True ∧
 True) ∧
 (True ∧
 True) ∧
 RR ((opAt x.1 g.2.2.1).2.1) ∧
 R32 (R8 (R8 (R8 (True ∧
 True ∧
 True ∧
 True ∧
 (True ∧
 True) ∧
 (True ∧
 True) ∧
 True ∧
 True ∧
 (True ∧
 True) ∧
 True ∧
 x.1 = x.1 ∧
 RR (↑x.1.length : Int) ∧
 g.2.2.1 = g.2.2.1 ∧
 true = true ∧
 True ∧
 (RR ((opAt x.1 g.2.2.1).1) ∧
 RR ((opAt x.1 g.2.2.1).2.1) ∧
 RR ((opAt x.1 g.2.2.1).2.2.1) ∧
 RR ((opAt x.1 g.2.2.1).2.2.2) ∧
 True) ∧
 True ∧
 (True ∧
 True) ∧
 (RR ((opAt x.1 g.2.2.1).1) ∧
 RR ((opAt x.1 g.2.2.1).2.1) ∧
 RR ((opAt x.1 g.2.2.1).2.2.1) ∧
 RR ((opAt x.1 g.2.2.1).2.2.2) ∧
 True) ∧
 R8 (R8 (R8 (True ∧
 True ∧
 True ∧
 True ∧
 True ∧
 True ∧
 True)))))))))))))))))) ∧
 (decide (g_4.2.1 < (↑g_3.1.length : Int)) = false →
 ((((g_2.1.1.1, g_2.1.1.2.1, g_2.1.1.2.2.1, g_2.1.1.2.2.2), g_3.2.1.2.2.2.2.1, g_4.1.2.2.2.2.2.1) = if (Uart.step (g.1.1.1, g.1.1.2.1, g.1.1.2.2.1, g.1.1.2.2.2) (2 : Int) (0 : Int)).2.2.1 = 0 then (((Uart.step (g.1.1.1, g.1.1.2.1, g.1.1.2.2.1, g.1.1.2.2.2) (2 : Int) (0 : Int)).1.1, (Uart.step (g.1.1.1, g.1.1.2.1, g.1.1.2.2.1, g.1.1.2.2.2) (2 : Int) (0 : Int)).1.2.1, (Uart.step (g.1.1.1, g.1.1.2.1, g.1.1.2.2.1, g.1.1.2.2.2) (2 : Int) (0 : Int)).1.2.2.1, (Uart.step (g.1.1.1, g.1.1.2.1, g.1.1.2.2.1, g.1.1.2.2.2) (2 : Int) (0 : Int)).1.2.2.2), pinF g.1.2.1 g.1.2.2.1 (if (Uart.step (g.1.1.1, g.1.1.2.1, g.1.1.2.2.1, g.1.1.2.2.2) (2 : Int) (0 : Int)).1.2.2.2 = true then (1 : Int) else (2 : Int))) else ((g.1.1.1, g.1.1.2.1, g.1.1.2.2.1, g.1.1.2.2.2), g.1.2.1, g.1.2.2.1)) ∧
 True) ∧
 ((True ∧
 True) ∧
 RR ((Uart.step (g.1.1.1, g.1.1.2.1, g.1.1.2.2.1, g.1.1.2.2.2) (2 : Int) (0 : Int)).2.1) ∧
 RR ((Uart.step (g.1.1.1, g.1.1.2.1, g.1.1.2.2.1, g.1.1.2.2.2) (2 : Int) (0 : Int)).2.2.1) ∧
 True) ∧
 ((RR g_2.1.1.1 ∧
 RR g_2.1.1.2.1 ∧
 RR g_2.1.1.2.2.1 ∧
 RR g_2.1.1.2.2.2 ∧
 True ∧
 RR g_4.1.2.2.2.2.2.1 ∧
 True ∧
 RR g.1.2.2.2.2.1.1 ∧
 RR g.1.2.2.2.2.1.2 ∧
 RR g.1.2.2.2.2.2 ∧
 True) ∧
 RR g_3.2.1.2.2.2.2.1 ∧
 (RR ((opAt x.1 g.2.2.1).1) ∧
 RR ((opAt x.1 g.2.2.1).2.1) ∧
 RR ((opAt x.1 g.2.2.1).2.2.1) ∧
 RR ((opAt x.1 g.2.2.1).2.2.2) ∧
 True) ∧
 (RR (0 : Int) ∧
 RR (Value.slice none (0 : Nat) (0 : Nat)) ∧
 True) ∧
 (RR (Value.slice none (0 : Nat) (0 : Nat)) ∧
 RR (Value.slice none (0 : Nat) (0 : Nat)) ∧
 RR (Value.slice none (0 : Nat) (0 : Nat)) ∧
 RR (Value.slice none (0 : Nat) (0 : Nat)) ∧
 RR (0 : Int) ∧
 RR (0 : Int) ∧
 True) ∧
 g.2.1 = g.2.1 ∧
 (RR ((opAt x.1 g.2.2.1).1) ∧
 RR ((opAt x.1 g.2.2.1).2.1) ∧
 RR ((opAt x.1 g.2.2.1).2.2.1) ∧
 RR ((opAt x.1 g.2.2.1).2.2.2) ∧
 True) ∧
 RR g.1.2.2.2.1 ∧
 True) ∧
 (True ∧
 True) ∧
 RR ((opAt x.1 g.2.2.1).2.1) ∧
 True ∧
 True ∧
 RR (0 : Int) ∧
 ((True ∧
 True ∧
 True ∧
 True ∧
 True) ∧
 (opAt x.1 g.2.2.1).2.1.toNat = (opAt x.1 g.2.2.1).2.1.toNat) ∧
 True ∧
 True ∧
 True ∧
 True ∧
 (True ∧
 True) ∧
 RR ((opAt x.1 g.2.2.1).2.1) ∧
 (True ∧
 True) ∧
 (True ∧
 True) ∧
 ((True ∧
 True ∧
 True ∧
 True ∧
 True) ∧
 (opAt x.1 g.2.2.1).2.1.toNat = (opAt x.1 g.2.2.1).2.1.toNat) ∧
 true = true ∧
 ((True ∧
 True ∧
 True ∧
 True ∧
 True) ∧
 (opAt x.1 g.2.2.1).2.1.toNat = (opAt x.1 g.2.2.1).2.1.toNat) ∧
 ((True ∧
 True ∧
 True ∧
 True ∧
 True) ∧
 (opAt x.1 g.2.2.1).2.1.toNat = (opAt x.1 g.2.2.1).2.1.toNat) ∧
 ((True ∧
 True ∧
 True ∧
 True ∧
 True) ∧
 (opAt x.1 g.2.2.1).2.1.toNat = (opAt x.1 g.2.2.1).2.1.toNat) ∧
 RR ((crAt g.1.2.2.1 (opAt x.1 g.2.2.1).2.1).2.2) ∧
 RR ((crAt g.1.2.2.1 (opAt x.1 g.2.2.1).2.1).2.2) ∧
 True ∧
 True ∧
 True ∧
 True ∧
 True ∧
 RR ((crAt g.1.2.2.1 (opAt x.1 g.2.2.1).2.1).2.2 && g.1.1.2.2.2) ∧
 True ∧
 (True ∧
 True) ∧
 (RR (2 : Int) ∧
 RR (0 : Int) ∧
 True) ∧
 R32 (R32 (R32 (R8 (R8 (True ∧
 (True ∧
 True) ∧
 True ∧
 True ∧
 (True ∧
 True) ∧
 (True ∧
 True) ∧
 RR (Value.func (Fn.func (13 : Nat)) ([] : List Value).toArray ([] : List Value).toArray) ∧
 R32 (True ∧
 True ∧
 True ∧
 True ∧
 True ∧
 g_1.1 = g_1.1 ∧
 false = false ∧
 RR (g_1.1 == 1) ∧
 R8 (True ∧
 True ∧
 True ∧
 true = true ∧
 RR (g_1.1 == 2) ∧
 RR (Value.func (Fn.func (13 : Nat)) ([] : List Value).toArray ([] : List Value).toArray) ∧
 (True ∧
 True) ∧
 (True ∧
 True) ∧
 RR ((opAt x.1 g.2.2.1).2.1) ∧
 R32 (R8 (R8 (R8 (True ∧
 True ∧
 True ∧
 True ∧
 (True ∧
 True) ∧
 (True ∧
 True) ∧
 True ∧
 True ∧
 (True ∧
 True) ∧
 True ∧
 x.1 = x.1 ∧
 RR (↑x.1.length : Int) ∧
 g.2.2.1 = g.2.2.1 ∧
 true = true ∧
 True ∧
 (RR ((opAt x.1 g.2.2.1).1) ∧
 RR ((opAt x.1 g.2.2.1).2.1) ∧
 RR ((opAt x.1 g.2.2.1).2.2.1) ∧
 RR ((opAt x.1 g.2.2.1).2.2.2) ∧
 True) ∧
 True ∧
 (True ∧
 True) ∧
 (RR ((opAt x.1 g.2.2.1).1) ∧
 RR ((opAt x.1 g.2.2.1).2.1) ∧
 RR ((opAt x.1 g.2.2.1).2.2.1) ∧
 RR ((opAt x.1 g.2.2.1).2.2.2) ∧
 True) ∧
 R8 (R8 (R8 (True ∧
 True ∧
 True ∧
 True ∧
 True ∧
 True ∧
 True)))))))))))))))))) ∧
 (((Uart.step (g.1.1.1, g.1.1.2.1, g.1.1.2.2.1, g.1.1.2.2.2) (2 : Int) (0 : Int)).2.2.1 == 0) = false →
 ((((g.1.1.1, g.1.1.2.1, g.1.1.2.2.1, g.1.1.2.2.2), g.1.2.1, g.1.2.2.1) = if (Uart.step (g.1.1.1, g.1.1.2.1, g.1.1.2.2.1, g.1.1.2.2.2) (2 : Int) (0 : Int)).2.2.1 = 0 then (((Uart.step (g.1.1.1, g.1.1.2.1, g.1.1.2.2.1, g.1.1.2.2.2) (2 : Int) (0 : Int)).1.1, (Uart.step (g.1.1.1, g.1.1.2.1, g.1.1.2.2.1, g.1.1.2.2.2) (2 : Int) (0 : Int)).1.2.1, (Uart.step (g.1.1.1, g.1.1.2.1, g.1.1.2.2.1, g.1.1.2.2.2) (2 : Int) (0 : Int)).1.2.2.1, (Uart.step (g.1.1.1, g.1.1.2.1, g.1.1.2.2.1, g.1.1.2.2.2) (2 : Int) (0 : Int)).1.2.2.2), pinF g.1.2.1 g.1.2.2.1 (if (Uart.step (g.1.1.1, g.1.1.2.1, g.1.1.2.2.1, g.1.1.2.2.2) (2 : Int) (0 : Int)).1.2.2.2 = true then (1 : Int) else (2 : Int))) else ((g.1.1.1, g.1.1.2.1, g.1.1.2.2.1, g.1.1.2.2.2), g.1.2.1, g.1.2.2.1)) ∧
 True) ∧
 ((True ∧
 True) ∧
 RR ((Uart.step (g.1.1.1, g.1.1.2.1, g.1.1.2.2.1, g.1.1.2.2.2) (2 : Int) (0 : Int)).2.1) ∧
 RR ((Uart.step (g.1.1.1, g.1.1.2.1, g.1.1.2.2.1, g.1.1.2.2.2) (2 : Int) (0 : Int)).2.2.1) ∧
 True) ∧
 ((g.1.1.1 = g.1.1.1 ∧
 RR g.1.1.2.1 ∧
 RR g.1.1.2.2.1 ∧
 RR g.1.1.2.2.2 ∧
 True ∧
 RR g.1.2.2.1 ∧
 True ∧
 RR g.1.2.2.2.2.1.1 ∧
 RR g.1.2.2.2.2.1.2 ∧
 RR g.1.2.2.2.2.2 ∧
 True) ∧
 g.1.2.1 = g.1.2.1 ∧
 (RR ((opAt x.1 g.2.2.1).1) ∧
 RR ((opAt x.1 g.2.2.1).2.1) ∧
 RR ((opAt x.1 g.2.2.1).2.2.1) ∧
 RR ((opAt x.1 g.2.2.1).2.2.2) ∧
 True) ∧
 (RR (0 : Int) ∧
 RR (Value.slice none (0 : Nat) (0 : Nat)) ∧
 True) ∧
 (RR (Value.slice none (0 : Nat) (0 : Nat)) ∧
 RR (Value.slice none (0 : Nat) (0 : Nat)) ∧
 RR (Value.slice none (0 : Nat) (0 : Nat)) ∧
 RR (Value.slice none (0 : Nat) (0 : Nat)) ∧
 RR (0 : Int) ∧
 RR (0 : Int) ∧
 True) ∧
 g.2.1 = g.2.1 ∧
 (RR ((opAt x.1 g.2.2.1).1) ∧
 RR ((opAt x.1 g.2.2.1).2.1) ∧
 RR ((opAt x.1 g.2.2.1).2.2.1) ∧
 RR ((opAt x.1 g.2.2.1).2.2.2) ∧
 True) ∧
 RR g.1.2.2.2.1 ∧
 True) ∧
 (True ∧
 True) ∧
 RR ((opAt x.1 g.2.2.1).2.1) ∧
 True ∧
 True ∧
 RR (0 : Int) ∧
 ((True ∧
 True ∧
 True ∧
 True ∧
 True) ∧
 (opAt x.1 g.2.2.1).2.1.toNat = (opAt x.1 g.2.2.1).2.1.toNat) ∧
 True ∧
 True ∧
 True ∧
 True ∧
 (True ∧
 True) ∧
 RR ((opAt x.1 g.2.2.1).2.1) ∧
 (True ∧
 True) ∧
 (True ∧
 True) ∧
 ((True ∧
 True ∧
 True ∧
 True ∧
 True) ∧
 (opAt x.1 g.2.2.1).2.1.toNat = (opAt x.1 g.2.2.1).2.1.toNat) ∧
 true = true ∧
 ((True ∧
 True ∧
 True ∧
 True ∧
 True) ∧
 (opAt x.1 g.2.2.1).2.1.toNat = (opAt x.1 g.2.2.1).2.1.toNat) ∧
 ((True ∧
 True ∧
 True ∧
 True ∧
 True) ∧
 (opAt x.1 g.2.2.1).2.1.toNat = (opAt x.1 g.2.2.1).2.1.toNat) ∧
 ((True ∧
 True ∧
 True ∧
 True ∧
 True) ∧
 (opAt x.1 g.2.2.1).2.1.toNat = (opAt x.1 g.2.2.1).2.1.toNat) ∧
 RR ((crAt g.1.2.2.1 (opAt x.1 g.2.2.1).2.1).2.2) ∧
 RR ((crAt g.1.2.2.1 (opAt x.1 g.2.2.1).2.1).2.2) ∧
 True ∧
 True ∧
 True ∧
 True ∧
 True ∧
 RR ((crAt g.1.2.2.1 (opAt x.1 g.2.2.1).2.1).2.2 && g.1.1.2.2.2) ∧
 True ∧
 (True ∧
 True) ∧
 (RR (2 : Int) ∧
 RR (0 : Int) ∧
 True) ∧
 R32 (R32 (R32 (R8 (R8 (True ∧
 (True ∧
 True) ∧
 True ∧
 True ∧
 (True ∧
 True) ∧
 (True ∧
 True) ∧
 RR (Value.func (Fn.func (13 : Nat)) ([] : List Value).toArray ([] : List Value).toArray) ∧
 R32 (True ∧
 True ∧
 True ∧
 True ∧
 True ∧
 g_1.1 = g_1.1 ∧
 false = false ∧
 RR (g_1.1 == 1) ∧
 R8 (True ∧
 True ∧
 True ∧
 true = true ∧
 RR (g_1.1 == 2) ∧
 RR (Value.func (Fn.func (13 : Nat)) ([] : List Value).toArray ([] : List Value).toArray) ∧
 (True ∧
 True) ∧
 (True ∧
 True) ∧
 RR ((opAt x.1 g.2.2.1).2.1) ∧
 R32 (R8 (R8 (R8 (True ∧
 True ∧
 True ∧
 True ∧
 (True ∧
 True) ∧
 (True ∧
 True) ∧
 True ∧
 True ∧
 (True ∧
 True) ∧
 True ∧
 x.1 = x.1 ∧
 RR (↑x.1.length : Int) ∧
 g.2.2.1 = g.2.2.1 ∧
 true = true ∧
 True ∧
 (RR ((opAt x.1 g.2.2.1).1) ∧
 RR ((opAt x.1 g.2.2.1).2.1) ∧
 RR ((opAt x.1 g.2.2.1).2.2.1) ∧
 RR ((opAt x.1 g.2.2.1).2.2.2) ∧
 True) ∧
 True ∧
 (True ∧
 True) ∧
 (RR ((opAt x.1 g.2.2.1).1) ∧
 RR ((opAt x.1 g.2.2.1).2.1) ∧
 RR ((opAt x.1 g.2.2.1).2.2.1) ∧
 RR ((opAt x.1 g.2.2.1).2.2.2) ∧
 True) ∧
 R8 (R8 (R8 (True ∧
 True ∧
 True ∧
 True ∧
 True ∧
 True ∧
 True)))))))))))))))) ∧
 ∀ (g_2 : ((List Int × List Int × Int × Bool) × List (Int × Int × Bool × Bool × Bool × Bool × Bool) × List ((List Int × List Int × Int) × (Bool × List (Bool × Bool)) × Bool) × Unit × Unit × Unit × Unit) × Unit), ((g_2.1.1, g_2.1.2.1, g_2.1.2.2.1) = if (Uart.step (g.1.1.1, g.1.1.2.1, g.1.1.2.2.1, g.1.1.2.2.2) (2 : Int) (0 : Int)).2.2.1 = 0 then (((Uart.step (g.1.1.1, g.1.1.2.1, g.1.1.2.2.1, g.1.1.2.2.2) (2 : Int) (0 : Int)).1.1, (Uart.step (g.1.1.1, g.1.1.2.1, g.1.1.2.2.1, g.1.1.2.2.2) (2 : Int) (0 : Int)).1.2.1, (Uart.step (g.1.1.1, g.1.1.2.1, g.1.1.2.2.1, g.1.1.2.2.2) (2 : Int) (0 : Int)).1.2.2.1, (Uart.step (g.1.1.1, g.1.1.2.1, g.1.1.2.2.1, g.1.1.2.2.2) (2 : Int) (0 : Int)).1.2.2.2), pinF g.1.2.1 g.1.2.2.1 (if (Uart.step (g.1.1.1, g.1.1.2.1, g.1.1.2.2.1, g.1.1.2.2.2) (2 : Int) (0 : Int)).1.2.2.2 = true then (1 : Int) else (2 : Int))) else ((g.1.1.1, g.1.1.2.1, g.1.1.2.2.1, g.1.1.2.2.2), g.1.2.1, g.1.2.2.1)) →
 (((g_2.1.1.1.length ≤ (9223372036854775807 : Nat) ∧
 ∀ (x : Int), x ∈ g_2.1.1.1 →
 0 ≤ x ∧
 x ≤ 255) ∧
 (g_2.1.1.2.1.length ≤ (9223372036854775807 : Nat) ∧
 ∀ (x : Int), x ∈ g_2.1.1.2.1 →
 0 ≤ x ∧
 x ≤ 255) ∧
 (-9223372036854775808 ≤ g_2.1.1.2.2.1 ∧
 g_2.1.1.2.2.1 ≤ 9223372036854775807) ∧
 True) ∧
 (g_2.1.2.1.length ≤ (9223372036854775807 : Nat) ∧
 ∀ (x : Int × Int × Bool × Bool × Bool × Bool × Bool), x ∈ g_2.1.2.1 →
 (-9223372036854775808 ≤ x.1 ∧
 x.1 ≤ 9223372036854775807) ∧
 (-9223372036854775808 ≤ x.2.1 ∧
 x.2.1 ≤ 9223372036854775807) ∧
 True ∧
 True ∧
 True ∧
 True ∧
 True) ∧
 (g_2.1.2.2.1.length = (2 : Nat) ∧
 ∀ (x : (List Int × List Int × Int) × (Bool × List (Bool × Bool)) × Bool), x ∈ g_2.1.2.2.1 →
 ((x.1.1.length = (4 : Nat) ∧
 ∀ (x_1 : Int), x_1 ∈ x.1.1 →
 0 ≤ x_1 ∧
 x_1 ≤ 18446744073709551615) ∧
 (x.1.2.1.length = (4 : Nat) ∧
 ∀ (x_1 : Int), x_1 ∈ x.1.2.1 →
 0 ≤ x_1 ∧
 x_1 ≤ 18446744073709551615) ∧
 -9223372036854775808 ≤ x.1.2.2 ∧
 x.1.2.2 ≤ 9223372036854775807) ∧
 (True ∧
 x.2.1.2.length ≤ (9223372036854775807 : Nat) ∧
 ∀ (x_1 : Bool × Bool), x_1 ∈ x.2.1.2 →
 True ∧
 True) ∧
 True) ∧
 True ∧
 True ∧
 True ∧
 True) ∧
 True →
 Holds (g.1.2.2.2.1.length ≤ (140737488355328 : Nat)) ∧
 (g.1.2.2.2.1.length + (((0 : Int) :: ([] : List Int)).set (0 : Nat) (Uart.step (g.1.1.1, g.1.1.2.1, g.1.1.2.2.1, g.1.1.2.2.2) (2 : Int) (0 : Int)).2.1).length ≤ (9223372036854775807 : Nat) ∧
 (g.1.2.2.2.1.length + (((0 : Int) :: ([] : List Int)).set (0 : Nat) (Uart.step (g.1.1.1, g.1.1.2.1, g.1.1.2.2.1, g.1.1.2.2.2) (2 : Int) (0 : Int)).2.1).length + (g.1.2.2.2.1.length + (((0 : Int) :: ([] : List Int)).set (0 : Nat) (Uart.step (g.1.1.1, g.1.1.2.1, g.1.1.2.2.1, g.1.1.2.2.2) (2 : Int) (0 : Int)).2.1).length) / (4 : Nat) + (192 : Nat)) * (1 : Nat) ≤ (281474976710656 : Nat)) ∧
 (g.2.1.length + ((((0 : Int), ([] : List Int)) :: ([] : List (Int × List Int))).set (0 : Nat) ((0 : Int), ([] : List Int))).length ≤ (9223372036854775807 : Nat) ∧
 (g.2.1.length + ((((0 : Int), ([] : List Int)) :: ([] : List (Int × List Int))).set (0 : Nat) ((0 : Int), ([] : List Int))).length + (g.2.1.length + ((((0 : Int), ([] : List Int)) :: ([] : List (Int × List Int))).set (0 : Nat) ((0 : Int), ([] : List Int))).length) / (4 : Nat) + (192 : Nat)) * (32 : Nat) ≤ (281474976710656 : Nat)) ∧
 (-9223372036854775808 ≤ g.2.2.1 + 1 ∧
 g.2.2.1 + 1 ≤ (9223372036854775807 : Int)) ∧
 ((0 ≤ g.2.2.1 + 1 ∧
 g.2.2.1 + 1 ≤ (↑x.1.length : Int) ∧
 (((g_2.1.1.1, g_2.1.1.2.1, g_2.1.1.2.2.1, g_2.1.1.2.2.2), g_2.1.2.1, g_2.1.2.2.1, g.1.2.2.2.1 ++ ((0 : Int) :: ([] : List Int)).set (0 : Nat) (Uart.step (g.1.1.1, g.1.1.2.1, g.1.1.2.2.1, g.1.1.2.2.2) (2 : Int) (0 : Int)).2.1, (g.1.2.2.2.2.1.1, g.1.2.2.2.2.1.2), g.1.2.2.2.2.2), g.2.1 ++ (((0 : Int), ([] : List Int)) :: ([] : List (Int × List Int))).set (0 : Nat) ((0 : Int), ([] : List Int))) = (wholeOf (ypl (List.take (g.2.2.1 + 1).toNat x.1)).1, (ypl (List.take (g.2.2.1 + 1).toNat x.1)).2)) ∧
 ((↑x.1.length : Int) - (g.2.2.1 + 1)).toNat < ((↑x.1.length : Int) - g.2.2.1).toNat) ∧
 ((True ∧
 True) ∧
 (True ∧
 True) ∧
 True ∧
 x.1 = x.1 ∧
 RR (↑x.1.length : Int) ∧
 g.2.2.1 + 1 = g.2.2.1 + 1 ∧
 True) ∧
 ((RR g_2.1.1.1 ∧
 RR g_2.1.1.2.1 ∧
 RR g_2.1.1.2.2.1 ∧
 RR g_2.1.1.2.2.2 ∧
 True ∧
 RR g_2.1.2.2.1 ∧
 True ∧
 RR g.1.2.2.2.2.1.1 ∧
 RR g.1.2.2.2.2.1.2 ∧
 RR g.1.2.2.2.2.2 ∧
 True) ∧
 RR g_2.1.2.1 ∧
 g.1.2.2.2.1 ++ ((0 : Int) :: ([] : List Int)).set (0 : Nat) (Uart.step (g.1.1.1, g.1.1.2.1, g.1.1.2.2.1, g.1.1.2.2.2) (2 : Int) (0 : Int)).2.1 = g.1.2.2.2.1 ++ ((0 : Int) :: ([] : List Int)).set (0 : Nat) (Uart.step (g.1.1.1, g.1.1.2.1, g.1.1.2.2.1, g.1.1.2.2.2) (2 : Int) (0 : Int)).2.1 ∧
 g.2.1 ++ (((0 : Int), ([] : List Int)) :: ([] : List (Int × List Int))).set (0 : Nat) ((0 : Int), ([] : List Int)) = g.2.1 ++ (((0 : Int), ([] : List Int)) :: ([] : List (Int × List Int))).set (0 : Nat) ((0 : Int), ([] : List Int)) ∧
 (RR (Value.slice none (0 : Nat) (0 : Nat)) ∧
 RR (Value.slice none (0 : Nat) (0 : Nat)) ∧
 RR (Value.slice none (0 : Nat) (0 : Nat)) ∧
 RR (Value.slice none (0 : Nat) (0 : Nat)) ∧
 RR (0 : Int) ∧
 RR (0 : Int) ∧
 True) ∧
 True) ∧
 True) ∧
 (((crAt g.1.2.2.1 (opAt x.1 g.2.2.1).2.1).2.2 && g.1.1.2.2.2) = false →
 ((crAt g.1.2.2.1 (opAt x.1 g.2.2.1).2.1).2.2 = true →
 ((g.1.2.2.1.set (opAt x.1 g.2.2.1).2.1.toNat (((crAt g.1.2.2.1 (opAt x.1 g.2.2.1).2.1).1.1, (crAt g.1.2.2.1 (opAt x.1 g.2.2.1).2.1).1.2.1, (crAt g.1.2.2.1 (opAt x.1 g.2.2.1).2.1).1.2.2), ((crAt g.1.2.2.1 (opAt x.1 g.2.2.1).2.1).2.1.1, (crAt g.1.2.2.1 (opAt x.1 g.2.2.1).2.1).2.1.2), false) = g.1.2.2.1.set (opAt x.1 g.2.2.1).2.1.toNat ((crAt g.1.2.2.1 (opAt x.1 g.2.2.1).2.1).1, (crAt g.1.2.2.1 (opAt x.1 g.2.2.1).2.1).2.1, false) ∧
 True) ∧
 (RR ((opAt x.1 g.2.2.1).2.1) ∧
 ((True ∧
 True ∧
 True ∧
 True ∧
 True) ∧
 (opAt x.1 g.2.2.1).2.1.toNat = (opAt x.1 g.2.2.1).2.1.toNat) ∧
 (True ∧
 True) ∧
 True) ∧
 ((g.1.1.1 = g.1.1.1 ∧
 RR g.1.1.2.1 ∧
 RR g.1.1.2.2.1 ∧
 RR g.1.1.2.2.2 ∧
 True ∧
 RR (g.1.2.2.1.set (opAt x.1 g.2.2.1).2.1.toNat (((crAt g.1.2.2.1 (opAt x.1 g.2.2.1).2.1).1.1, (crAt g.1.2.2.1 (opAt x.1 g.2.2.1).2.1).1.2.1, (crAt g.1.2.2.1 (opAt x.1 g.2.2.1).2.1).1.2.2), ((crAt g.1.2.2.1 (opAt x.1 g.2.2.1).2.1).2.1.1, (crAt g.1.2.2.1 (opAt x.1 g.2.2.1).2.1).2.1.2), false)) ∧
 True ∧
 RR g.1.2.2.2.2.1.1 ∧
 RR g.1.2.2.2.2.1.2 ∧
 RR g.1.2.2.2.2.2 ∧
 True) ∧
 (RR ((opAt x.1 g.2.2.1).1) ∧
 RR ((opAt x.1 g.2.2.1).2.1) ∧
 RR ((opAt x.1 g.2.2.1).2.2.1) ∧
 RR ((opAt x.1 g.2.2.1).2.2.2) ∧
 True) ∧
 (RR (0 : Int) ∧
 RR (Value.slice none (0 : Nat) (0 : Nat)) ∧
 True) ∧
 (RR (Value.slice none (0 : Nat) (0 : Nat)) ∧
 RR (Value.slice none (0 : Nat) (0 : Nat)) ∧
 RR (Value.slice none (0 : Nat) (0 : Nat)) ∧
 RR (Value.slice none (0 : Nat) (0 : Nat)) ∧
 RR (0 : Int) ∧
 RR (0 : Int) ∧
 True) ∧
 g.2.1 = g.2.1 ∧
 (RR ((opAt x.1 g.2.2.1).1) ∧
 RR ((opAt x.1 g.2.2.1).2.1) ∧
 RR ((opAt x.1 g.2.2.1).2.2.1) ∧
 RR ((opAt x.1 g.2.2.1).2.2.2) ∧
 True) ∧
 g.1.2.1 = g.1.2.1 ∧
 RR g.1.2.2.2.1 ∧
 True) ∧
 (True ∧
 True) ∧
 True ∧
 True ∧
 (True ∧
 True) ∧
 (True ∧
 True) ∧
 RR (Value.func (Fn.func (13 : Nat)) ([] : List Value).toArray ([] : List Value).toArray) ∧
 R32 (True ∧
 True ∧
 True ∧
 True ∧
 True ∧
 g_1.1 = g_1.1 ∧
 false = false ∧
 RR (g_1.1 == 1) ∧
 R8 (True ∧
 True ∧
 True ∧
 true = true ∧
 RR (g_1.1 == 2) ∧
 RR (Value.func (Fn.func (13 : Nat)) ([] : List Value).toArray ([] : List Value).toArray) ∧
 (True ∧
 True) ∧
 (True ∧
 True) ∧
 RR ((opAt x.1 g.2.2.1).2.1) ∧
 R32 (R8 (R8 (R8 (True ∧
 True ∧
 True ∧
 True ∧
 (True ∧
 True) ∧
 (True ∧
 True) ∧
 True ∧
 True ∧
 (True ∧
 True) ∧
 True ∧
 x.1 = x.1 ∧
 RR (↑x.1.length : Int) ∧
 g.2.2.1 = g.2.2.1 ∧
 true = true ∧
 True ∧
 (RR ((opAt x.1 g.2.2.1).1) ∧
 RR ((opAt x.1 g.2.2.1).2.1) ∧
 RR ((opAt x.1 g.2.2.1).2.2.1) ∧
 RR ((opAt x.1 g.2.2.1).2.2.2) ∧
 True) ∧
 True ∧
 (True ∧
 True) ∧
 (RR ((opAt x.1 g.2.2.1).1) ∧
 RR ((opAt x.1 g.2.2.1).2.1) ∧
 RR ((opAt x.1 g.2.2.1).2.2.1) ∧
 RR ((opAt x.1 g.2.2.1).2.2.2) ∧
 True) ∧
 R8 (R8 (R8 (True ∧
 True ∧
 True ∧
 True ∧
 True ∧
 True ∧
 True)))))))))) ∧
 ∀ (g_2 : (Unit × Unit × Unit × Unit × Unit × List ((List Int × List Int × Int) × (Bool × List (Bool × Bool)) × Bool) × Unit × Unit × Unit × Unit) × Unit), g_2.1.2.2.2.2.2.1 = g.1.2.2.1.set (opAt x.1 g.2.2.1).2.1.toNat ((crAt g.1.2.2.1 (opAt x.1 g.2.2.1).2.1).1, (crAt g.1.2.2.1 (opAt x.1 g.2.2.1).2.1).2.1, false) →
 (True ∧
 True ∧
 True ∧
 True ∧
 True ∧
 (g_2.1.2.2.2.2.2.1.length = (2 : Nat) ∧
 ∀ (x : (List Int × List Int × Int) × (Bool × List (Bool × Bool)) × Bool), x ∈ g_2.1.2.2.2.2.2.1 →
 ((x.1.1.length = (4 : Nat) ∧
 ∀ (x_1 : Int), x_1 ∈ x.1.1 →
 0 ≤ x_1 ∧
 x_1 ≤ 18446744073709551615) ∧
 (x.1.2.1.length = (4 : Nat) ∧
 ∀ (x_1 : Int), x_1 ∈ x.1.2.1 →
 0 ≤ x_1 ∧
 x_1 ≤ 18446744073709551615) ∧
 -9223372036854775808 ≤ x.1.2.2 ∧
 x.1.2.2 ≤ 9223372036854775807) ∧
 (True ∧
 x.2.1.2.length ≤ (9223372036854775807 : Nat) ∧
 ∀ (x_1 : Bool × Bool), x_1 ∈ x.2.1.2 →
 True ∧
 True) ∧
 True) ∧
 True ∧
 True ∧
 True ∧
 True) ∧
 True →
 (Holds True ∧
 (g_2.1.2.2.2.2.2.1.set (opAt x.1 g.2.2.1).2.1.toNat (((Apic.stepL ((crAt g_2.1.2.2.2.2.2.1 (opAt x.1 g.2.2.1).2.1).1.1, (crAt g_2.1.2.2.2.2.2.1 (opAt x.1 g.2.2.1).2.1).1.2.1, (crAt g_2.1.2.2.2.2.2.1 (opAt x.1 g.2.2.1).2.1).1.2.2) ((3 : Int), (0 : Int))).1.1, (Apic.stepL ((crAt g_2.1.2.2.2.2.2.1 (opAt x.1 g.2.2.1).2.1).1.1, (crAt g_2.1.2.2.2.2.2.1 (opAt x.1 g.2.2.1).2.1).1.2.1, (crAt g_2.1.2.2.2.2.2.1 (opAt x.1 g.2.2.1).2.1).1.2.2) ((3 : Int), (0 : Int))).1.2.1, (Apic.stepL ((crAt g_2.1.2.2.2.2.2.1 (opAt x.1 g.2.2.1).2.1).1.1, (crAt g_2.1.2.2.2.2.2.1 (opAt x.1 g.2.2.1).2.1).1.2.1, (crAt g_2.1.2.2.2.2.2.1 (opAt x.1 g.2.2.1).2.1).1.2.2) ((3 : Int), (0 : Int))).1.2.2), ((crAt g_2.1.2.2.2.2.2.1 (opAt x.1 g.2.2.1).2.1).2.1.1, (crAt g_2.1.2.2.2.2.2.1 (opAt x.1 g.2.2.1).2.1).2.1.2), (crAt g_2.1.2.2.2.2.2.1 (opAt x.1 g.2.2.1).2.1).2.2) = g_2.1.2.2.2.2.2.1.set (opAt x.1 g.2.2.1).2.1.toNat ((Apic.stepL (crAt g_2.1.2.2.2.2.2.1 (opAt x.1 g.2.2.1).2.1).1 ((3 : Int), (0 : Int))).1, (crAt g_2.1.2.2.2.2.2.1 (opAt x.1 g.2.2.1).2.1).2) ∧
 True) ∧
 (RR ((opAt x.1 g.2.2.1).2.1) ∧
 ((True ∧
 True ∧
 True ∧
 True ∧
 True) ∧
 (opAt x.1 g.2.2.1).2.1.toNat = (opAt x.1 g.2.2.1).2.1.toNat) ∧
 (True ∧
 True) ∧
 True) ∧
 ((g.1.1.1 = g.1.1.1 ∧
 RR g.1.1.2.1 ∧
 RR g.1.1.2.2.1 ∧
 RR g.1.1.2.2.2 ∧
 True ∧
 g_2.1.2.2.2.2.2.1.set (opAt x.1 g.2.2.1).2.1.toNat (((Apic.stepL ((crAt g_2.1.2.2.2.2.2.1 (opAt x.1 g.2.2.1).2.1).1.1, (crAt g_2.1.2.2.2.2.2.1 (opAt x.1 g.2.2.1).2.1).1.2.1, (crAt g_2.1.2.2.2.2.2.1 (opAt x.1 g.2.2.1).2.1).1.2.2) ((3 : Int), (0 : Int))).1.1, (Apic.stepL ((crAt g_2.1.2.2.2.2.2.1 (opAt x.1 g.2.2.1).2.1).1.1, (crAt g_2.1.2.2.2.2.2.1 (opAt x.1 g.2.2.1).2.1).1.2.1, (crAt g_2.1.2.2.2.2.2.1 (opAt x.1 g.2.2.1).2.1).1.2.2) ((3 : Int), (0 : Int))).1.2.1, (Apic.stepL ((crAt g_2.1.2.2.2.2.2.1 (opAt x.1 g.2.2.1).2.1).1.1, (crAt g_2.1.2.2.2.2.2.1 (opAt x.1 g.2.2.1).2.1).1.2.1, (crAt g_2.1.2.2.2.2.2.1 (opAt x.1 g.2.2.1).2.1).1.2.2) ((3 : Int), (0 : Int))).1.2.2), ((crAt g_2.1.2.2.2.2.2.1 (opAt x.1 g.2.2.1).2.1).2.1.1, (crAt g_2.1.2.2.2.2.2.1 (opAt x.1 g.2.2.1).2.1).2.1.2), (crAt g_2.1.2.2.2.2.2.1 (opAt x.1 g.2.2.1).2.1).2.2) = g_2.1.2.2.2.2.2.1.set (opAt x.1 g.2.2.1).2.1.toNat (((Apic.stepL ((crAt g_2.1.2.2.2.2.2.1 (opAt x.1 g.2.2.1).2.1).1.1, (crAt g_2.1.2.2.2.2.2.1 (opAt x.1 g.2.2.1).2.1).1.2.1, (crAt g_2.1.2.2.2.2.2.1 (opAt x.1 g.2.2.1).2.1).1.2.2) ((3 : Int), (0 : Int))).1.1, (Apic.stepL ((crAt g_2.1.2.2.2.2.2.1 (opAt x.1 g.2.2.1).2.1).1.1, (crAt g_2.1.2.2.2.2.2.1 (opAt x.1 g.2.2.1).2.1).1.2.1, (crAt g_2.1.2.2.2.2.2.1 (opAt x.1 g.2.2.1).2.1).1.2.2) ((3 : Int), (0 : Int))).1.2.1, (Apic.stepL ((crAt g_2.1.2.2.2.2.2.1 (opAt x.1 g.2.2.1).2.1).1.1, (crAt g_2.1.2.2.2.2.2.1 (opAt x.1 g.2.2.1).2.1).1.2.1, (crAt g_2.1.2.2.2.2.2.1 (opAt x.1 g.2.2.1).2.1).1.2.2) ((3 : Int), (0 : Int))).1.2.2), ((crAt g_2.1.2.2.2.2.2.1 (opAt x.1 g.2.2.1).2.1).2.1.1, (crAt g_2.1.2.2.2.2.2.1 (opAt x.1 g.2.2.1).2.1).2.1.2), (crAt g_2.1.2.2.2.2.2.1 (opAt x.1 g.2.2.1).2.1).2.2) ∧
 True ∧
 RR g.1.2.2.2.2.1.1 ∧
 RR g.1.2.2.2.2.1.2 ∧
 RR g.1.2.2.2.2.2 ∧
 True) ∧
 (RR ((opAt x.1 g.2.2.1).1) ∧
 RR ((opAt x.1 g.2.2.1).2.1) ∧
 RR ((opAt x.1 g.2.2.1).2.2.1) ∧
 RR ((opAt x.1 g.2.2.1).2.2.2) ∧
 True) ∧
 (RR (0 : Int) ∧
 RR (Value.slice none (0 : Nat) (0 : Nat)) ∧
 True) ∧
 (RR (Value.slice none (0 : Nat) (0 : Nat)) ∧
 RR (Value.slice none (0 : Nat) (0 : Nat)) ∧
 RR (Value.slice none (0 : Nat) (0 : Nat)) ∧
 RR (Value.slice none (0 : Nat) (0 : Nat)) ∧
 RR (0 : Int) ∧
 RR (0 : Int) ∧
 True) ∧
 g.2.1 = g.2.1 ∧
 (RR ((opAt x.1 g.2.2.1).1) ∧
 RR ((opAt x.1 g.2.2.1).2.1) ∧
 RR ((opAt x.1 g.2.2.1).2.2.1) ∧
 RR ((opAt x.1 g.2.2.1).2.2.2) ∧
 True) ∧
 g.1.2.1 = g.1.2.1 ∧
 RR g.1.2.2.2.1 ∧
 True) ∧
 (True ∧
 True) ∧
 True ∧
 True ∧
 (True ∧
 True) ∧
 (True ∧
 True) ∧
 RR (Value.func (Fn.func (13 : Nat)) ([] : List Value).toArray ([] : List Value).toArray) ∧
 R32 (True ∧
 True ∧
 True ∧
 True ∧
 True ∧
 g_1.1 = g_1.1 ∧
 false = false ∧
 RR (g_1.1 == 1) ∧
 R8 (True ∧
 True ∧
 True ∧
 true = true ∧
 RR (g_1.1 == 2) ∧
 RR (Value.func (Fn.func (13 : Nat)) ([] : List Value).toArray ([] : List Value).toArray) ∧
 (True ∧
 True) ∧
 (True ∧
 True) ∧
 RR ((opAt x.1 g.2.2.1).2.1) ∧
 R32 (R8 (R8 (R8 (True ∧
 True ∧
 True ∧
 True ∧
 (True ∧
 True) ∧
 (True ∧
 True) ∧
 True ∧
 True ∧
 (True ∧
 True) ∧
 True ∧
 x.1 = x.1 ∧
 RR (↑x.1.length : Int) ∧
 g.2.2.1 = g.2.2.1 ∧
 true = true ∧
 True ∧
 (RR ((opAt x.1 g.2.2.1).1) ∧
 RR ((opAt x.1 g.2.2.1).2.1) ∧
 RR ((opAt x.1 g.2.2.1).2.2.1) ∧
 RR ((opAt x.1 g.2.2.1).2.2.2) ∧
 True) ∧
 True ∧
 (True ∧
 True) ∧
 (RR ((opAt x.1 g.2.2.1).1) ∧
 RR ((opAt x.1 g.2.2.1).2.1) ∧
 RR ((opAt x.1 g.2.2.1).2.2.1) ∧
 RR ((opAt x.1 g.2.2.1).2.2.2) ∧
 True) ∧
 R8 (R8 (R8 (True ∧
 True ∧
 True ∧
 True ∧
 True ∧
 True ∧
 True)))))))))) ∧
 ∀ (g_3 : (Unit × Unit × Unit × Unit × Unit × List ((List Int × List Int × Int) × (Bool × List (Bool × Bool)) × Bool) × Unit × Unit × Unit × Unit) × Unit), g_3.1.2.2.2.2.2.1 = g_2.1.2.2.2.2.2.1.set (opAt x.1 g.2.2.1).2.1.toNat ((Apic.stepL (crAt g_2.1.2.2.2.2.2.1 (opAt x.1 g.2.2.1).2.1).1 ((3 : Int), (0 : Int))).1, (crAt g_2.1.2.2.2.2.2.1 (opAt x.1 g.2.2.1).2.1).2) →
 (True ∧
 True ∧
 True ∧
 True ∧
 True ∧
 (g_3.1.2.2.2.2.2.1.length = (2 : Nat) ∧
 ∀ (x : (List Int × List Int × Int) × (Bool × List (Bool × Bool)) × Bool), x ∈ g_3.1.2.2.2.2.2.1 →
 ((x.1.1.length = (4 : Nat) ∧
 ∀ (x_1 : Int), x_1 ∈ x.1.1 →
 0 ≤ x_1 ∧
 x_1 ≤ 18446744073709551615) ∧
 (x.1.2.1.length = (4 : Nat) ∧
 ∀ (x_1 : Int), x_1 ∈ x.1.2.1 →
 0 ≤ x_1 ∧
 x_1 ≤ 18446744073709551615) ∧
 -9223372036854775808 ≤ x.1.2.2 ∧
 x.1.2.2 ≤ 9223372036854775807) ∧
 (True ∧
 x.2.1.2.length ≤ (9223372036854775807 : Nat) ∧
 ∀ (x_1 : Bool × Bool), x_1 ∈ x.2.1.2 →
 True ∧
 True) ∧
 True) ∧
 True ∧
 True ∧
 True ∧
 True) ∧
 True →
 (Holds True ∧
 (((Nest.step ((crAt g_3.1.2.2.2.2.2.1 (opAt x.1 g.2.2.1).2.1).2.1.1, (crAt g_3.1.2.2.2.2.2.1 (opAt x.1 g.2.2.1).2.1).2.1.2) (4 : Int)).2.1 == 0) = true →
 (g_3.1.2.2.2.2.2.1.set (opAt x.1 g.2.2.1).2.1.toNat (((crAt g_3.1.2.2.2.2.2.1 (opAt x.1 g.2.2.1).2.1).1.1, (crAt g_3.1.2.2.2.2.2.1 (opAt x.1 g.2.2.1).2.1).1.2.1, (crAt g_3.1.2.2.2.2.2.1 (opAt x.1 g.2.2.1).2.1).1.2.2), ((Nest.step ((crAt g_3.1.2.2.2.2.2.1 (opAt x.1 g.2.2.1).2.1).2.1.1, (crAt g_3.1.2.2.2.2.2.1 (opAt x.1 g.2.2.1).2.1).2.1.2) (4 : Int)).1.1, (Nest.step ((crAt g_3.1.2.2.2.2.2.1 (opAt x.1 g.2.2.1).2.1).2.1.1, (crAt g_3.1.2.2.2.2.2.1 (opAt x.1 g.2.2.1).2.1).2.1.2) (4 : Int)).1.2), (crAt g_3.1.2.2.2.2.2.1 (opAt x.1 g.2.2.1).2.1).2.2) = g_3.1.2.2.2.2.2.1.set (opAt x.1 g.2.2.1).2.1.toNat (nestF (crAt g_3.1.2.2.2.2.2.1 (opAt x.1 g.2.2.1).2.1) (4 : Int)) ∧
 True) ∧
 (RR ((opAt x.1 g.2.2.1).2.1) ∧
 ((True ∧
 True ∧
 True ∧
 True ∧
 True) ∧
 (opAt x.1 g.2.2.1).2.1.toNat = (opAt x.1 g.2.2.1).2.1.toNat) ∧
 (True ∧
 True) ∧
 True) ∧
 ((g.1.1.1 = g.1.1.1 ∧
 RR g.1.1.2.1 ∧
 RR g.1.1.2.2.1 ∧
 RR g.1.1.2.2.2 ∧
 True ∧
 g_3.1.2.2.2.2.2.1.set (opAt x.1 g.2.2.1).2.1.toNat (((crAt g_3.1.2.2.2.2.2.1 (opAt x.1 g.2.2.1).2.1).1.1, (crAt g_3.1.2.2.2.2.2.1 (opAt x.1 g.2.2.1).2.1).1.2.1, (crAt g_3.1.2.2.2.2.2.1 (opAt x.1 g.2.2.1).2.1).1.2.2), ((Nest.step ((crAt g_3.1.2.2.2.2.2.1 (opAt x.1 g.2.2.1).2.1).2.1.1, (crAt g_3.1.2.2.2.2.2.1 (opAt x.1 g.2.2.1).2.1).2.1.2) (4 : Int)).1.1, (Nest.step ((crAt g_3.1.2.2.2.2.2.1 (opAt x.1 g.2.2.1).2.1).2.1.1, (crAt g_3.1.2.2.2.2.2.1 (opAt x.1 g.2.2.1).2.1).2.1.2) (4 : Int)).1.2), (crAt g_3.1.2.2.2.2.2.1 (opAt x.1 g.2.2.1).2.1).2.2) = g_3.1.2.2.2.2.2.1.set (opAt x.1 g.2.2.1).2.1.toNat (((crAt g_3.1.2.2.2.2.2.1 (opAt x.1 g.2.2.1).2.1).1.1, (crAt g_3.1.2.2.2.2.2.1 (opAt x.1 g.2.2.1).2.1).1.2.1, (crAt g_3.1.2.2.2.2.2.1 (opAt x.1 g.2.2.1).2.1).1.2.2), ((Nest.step ((crAt g_3.1.2.2.2.2.2.1 (opAt x.1 g.2.2.1).2.1).2.1.1, (crAt g_3.1.2.2.2.2.2.1 (opAt x.1 g.2.2.1).2.1).2.1.2) (4 : Int)).1.1, (Nest.step ((crAt g_3.1.2.2.2.2.2.1 (opAt x.1 g.2.2.1).2.1).2.1.1, (crAt g_3.1.2.2.2.2.2.1 (opAt x.1 g.2.2.1).2.1).2.1.2) (4 : Int)).1.2), (crAt g_3.1.2.2.2.2.2.1 (opAt x.1 g.2.2.1).2.1).2.2) ∧
 True ∧
 RR g.1.2.2.2.2.1.1 ∧
 RR g.1.2.2.2.2.1.2 ∧
 RR g.1.2.2.2.2.2 ∧
 True) ∧
 (RR ((opAt x.1 g.2.2.1).1) ∧
 RR ((opAt x.1 g.2.2.1).2.1) ∧
 RR ((opAt x.1 g.2.2.1).2.2.1) ∧
 RR ((opAt x.1 g.2.2.1).2.2.2) ∧
 True) ∧
 (RR (0 : Int) ∧
 RR (Value.slice none (0 : Nat) (0 : Nat)) ∧
 True) ∧
 (RR (Value.slice none (0 : Nat) (0 : Nat)) ∧
 RR (Value.slice none (0 : Nat) (0 : Nat)) ∧
 RR (Value.slice none (0 : Nat) (0 : Nat)) ∧
 RR (Value.slice none (0 : Nat) (0 : Nat)) ∧
 RR (0 : Int) ∧
 RR (0 : Int) ∧
 True) ∧
 g.2.1 = g.2.1 ∧
 (RR ((opAt x.1 g.2.2.1).1) ∧
 RR ((opAt x.1 g.2.2.1).2.1) ∧
 RR ((opAt x.1 g.2.2.1).2.2.1) ∧
 RR ((opAt x.1 g.2.2.1).2.2.2) ∧
 True) ∧
 g.1.2.1 = g.1.2.1 ∧
 RR g.1.2.2.2.1 ∧
 True) ∧
 (True ∧
 True) ∧
 True ∧
 True ∧
 (True ∧
 True) ∧
 (True ∧
 True) ∧
 RR (Value.func (Fn.func (13 : Nat)) ([] : List Value).toArray ([] : List Value).toArray) ∧
 R32 (True ∧
 True ∧
 True ∧
 True ∧
 True ∧
 g_1.1 = g_1.1 ∧
 false = false ∧
 RR (g_1.1 == 1) ∧
 R8 (True ∧
 True ∧
 True ∧
 true = true ∧
 RR (g_1.1 == 2) ∧
 RR (Value.func (Fn.func (13 : Nat)) ([] : List Value).toArray ([] : List Value).toArray) ∧
 (True ∧
 True) ∧
 (True ∧
 True) ∧
 RR ((opAt x.1 g.2.2.1).2.1) ∧
 R32 (R8 (R8 (R8 (True ∧
 True ∧
 True ∧
 True ∧
 (True ∧
 True) ∧
 (True ∧
 True) ∧
 True ∧
 True ∧
 (True ∧
 True) ∧
 True ∧
 x.1 = x.1 ∧
 RR (↑x.1.length : Int) ∧
 g.2.2.1 = g.2.2.1 ∧
 true = true ∧
 True ∧
 (RR ((opAt x.1 g.2.2.1).1) ∧
 RR ((opAt x.1 g.2.2.1).2.1) ∧
 RR ((opAt x.1 g.2.2.1).2.2.1) ∧
 RR ((opAt x.1 g.2.2.1).2.2.2) ∧
 True) ∧
 True ∧
 (True ∧
 True) ∧
 (RR ((opAt x.1 g.2.2.1).1) ∧
 RR ((opAt x.1 g.2.2.1).2.1) ∧
 RR ((opAt x.1 g.2.2.1).2.2.1) ∧
 RR ((opAt x.1 g.2.2.1).2.2.2) ∧
 True) ∧
 R8 (R8 (R8 (True ∧
 True ∧
 True ∧
 True ∧
 True ∧
 True ∧
 True)))))))))) ∧
 (((Nest.step ((crAt g_3.1.2.2.2.2.2.1 (opAt x.1 g.2.2.1).2.1).2.1.1, (crAt g_3.1.2.2.2.2.2.1 (opAt x.1 g.2.2.1).2.1).2.1.2) (4 : Int)).2.1 == 0) = false →
 (g_3.1.2.2.2.2.2.1 = g_3.1.2.2.2.2.2.1.set (opAt x.1 g.2.2.1).2.1.toNat (nestF (crAt g_3.1.2.2.2.2.2.1 (opAt x.1 g.2.2.1).2.1) (4 : Int)) ∧
 True) ∧
 (RR ((opAt x.1 g.2.2.1).2.1) ∧
 ((True ∧
 True ∧
 True ∧
 True ∧
 True) ∧
 (opAt x.1 g.2.2.1).2.1.toNat = (opAt x.1 g.2.2.1).2.1.toNat) ∧
 (True ∧
 True) ∧
 True) ∧
 ((g.1.1.1 = g.1.1.1 ∧
 RR g.1.1.2.1 ∧
 RR g.1.1.2.2.1 ∧
 RR g.1.1.2.2.2 ∧
 True ∧
 RR g_3.1.2.2.2.2.2.1 ∧
 True ∧
 RR g.1.2.2.2.2.1.1 ∧
 RR g.1.2.2.2.2.1.2 ∧
 RR g.1.2.2.2.2.2 ∧
 True) ∧
 (RR ((opAt x.1 g.2.2.1).1) ∧
 RR ((opAt x.1 g.2.2.1).2.1) ∧
 RR ((opAt x.1 g.2.2.1).2.2.1) ∧
 RR ((opAt x.1 g.2.2.1).2.2.2) ∧
 True) ∧
 (RR (0 : Int) ∧
 RR (Value.slice none (0 : Nat) (0 : Nat)) ∧
 True) ∧
 (RR (Value.slice none (0 : Nat) (0 : Nat)) ∧
 RR (Value.slice none (0 : Nat) (0 : Nat)) ∧
 RR (Value.slice none (0 : Nat) (0 : Nat)) ∧
 RR (Value.slice none (0 : Nat) (0 : Nat)) ∧
 RR (0 : Int) ∧
 RR (0 : Int) ∧
 True) ∧
 g.2.1 = g.2.1 ∧
 (RR ((opAt x.1 g.2.2.1).1) ∧
 RR ((opAt x.1 g.2.2.1).2.1) ∧
 RR ((opAt x.1 g.2.2.1).2.2.1) ∧
 RR ((opAt x.1 g.2.2.1).2.2.2) ∧
 True) ∧
 g.1.2.1 = g.1.2.1 ∧
 RR g.1.2.2.2.1 ∧
 True) ∧
 (True ∧
 True) ∧
 True ∧
 True ∧
 (True ∧
 True) ∧
 (True ∧
 True) ∧
 RR (Value.func (Fn.func (13 : Nat)) ([] : List Value).toArray ([] : List Value).toArray) ∧
 R32 (True ∧
 True ∧
 True ∧
 True ∧
 True ∧
 g_1.1 = g_1.1 ∧
 false = false ∧
 RR (g_1.1 == 1) ∧
 R8 (True ∧
 True ∧
 True ∧
 true = true ∧
 RR (g_1.1 == 2) ∧
 RR (Value.func (Fn.func (13 : Nat)) ([] : List Value).toArray ([] : List Value).toArray) ∧
 (True ∧
 True) ∧
 (True ∧
 True) ∧
 RR ((opAt x.1 g.2.2.1).2.1) ∧
 R32 (R8 (R8 (R8 (True ∧
 True ∧
 True ∧
 True ∧
 (True ∧
 True) ∧
 (True ∧
 True) ∧
 True ∧
 True ∧
 (True ∧
 True) ∧
 True ∧
 x.1 = x.1 ∧
 RR (↑x.1.length : Int) ∧
 g.2.2.1 = g.2.2.1 ∧
 true = true ∧
 True ∧
 (RR ((opAt x.1 g.2.2.1).1) ∧
 RR ((opAt x.1 g.2.2.1).2.1) ∧
 RR ((opAt x.1 g.2.2.1).2.2.1) ∧
 RR ((opAt x.1 g.2.2.1).2.2.2) ∧
 True) ∧
 True ∧
 (True ∧
 True) ∧
 (RR ((opAt x.1 g.2.2.1).1) ∧
 RR ((opAt x.1 g.2.2.1).2.1) ∧
 RR ((opAt x.1 g.2.2.1).2.2.1) ∧
 RR ((opAt x.1 g.2.2.1).2.2.2) ∧
 True) ∧
 R8 (R8 (R8 (True ∧
 True ∧
 True ∧
 True ∧
 True ∧
 True ∧
 True))))))))))) ∧
 ∀ (g_4 : (Unit × Unit × Unit × Unit × Unit × List ((List Int × List Int × Int) × (Bool × List (Bool × Bool)) × Bool) × Unit × Unit × Unit × Unit) × Unit), g_4.1.2.2.2.2.2.1 = g_3.1.2.2.2.2.2.1.set (opAt x.1 g.2.2.1).2.1.toNat (nestF (crAt g_3.1.2.2.2.2.2.1 (opAt x.1 g.2.2.1).2.1) (4 : Int)) →
 (True ∧
 True ∧
 True ∧
 True ∧
 True ∧
 (g_4.1.2.2.2.2.2.1.length = (2 : Nat) ∧
 ∀ (x : (List Int × List Int × Int) × (Bool × List (Bool × Bool)) × Bool), x ∈ g_4.1.2.2.2.2.2.1 →
 ((x.1.1.length = (4 : Nat) ∧
 ∀ (x_1 : Int), x_1 ∈ x.1.1 →
 0 ≤ x_1 ∧
 x_1 ≤ 18446744073709551615) ∧
 (x.1.2.1.length = (4 : Nat) ∧
 ∀ (x_1 : Int), x_1 ∈ x.1.2.1 →
 0 ≤ x_1 ∧
 x_1 ≤ 18446744073709551615) ∧
 -9223372036854775808 ≤ x.1.2.2 ∧
 x.1.2.2 ≤ 9223372036854775807) ∧
 (True ∧
 x.2.1.2.length ≤ (9223372036854775807 : Nat) ∧
 ∀ (x_1 : Bool × Bool), x_1 ∈ x.2.1.2 →
 True ∧
 True) ∧
 True) ∧
 True ∧
 True ∧
 True ∧
 True) ∧
 True →
 Holds True ∧
 (((Line.step g.1.2.1 (5 : Int) (0 : Int)).2.2.1 != 0) = true →
 (g.2.1.length + ((((0 : Int), ([] : List Int)) :: ([] : List (Int × List Int))).set (0 : Nat) ((0 : Int), ([] : List Int))).length ≤ (9223372036854775807 : Nat) ∧
 (g.2.1.length + ((((0 : Int), ([] : List Int)) :: ([] : List (Int × List Int))).set (0 : Nat) ((0 : Int), ([] : List Int))).length + (g.2.1.length + ((((0 : Int), ([] : List Int)) :: ([] : List (Int × List Int))).set (0 : Nat) ((0 : Int), ([] : List Int))).length) / (4 : Nat) + (192 : Nat)) * (32 : Nat) ≤ (281474976710656 : Nat)) ∧
 (-9223372036854775808 ≤ g.2.2.1 + 1 ∧
 g.2.2.1 + 1 ≤ (9223372036854775807 : Int)) ∧
 ∃ (g_5 : ((List Int × List Int × Int × Bool) × List (Int × Int × Bool × Bool × Bool × Bool × Bool) × List ((List Int × List Int × Int) × (Bool × List (Bool × Bool)) × Bool) × List Int × (List (List Int) × List Int) × Int) × List (Int × List Int) × Int × Unit), (((0 ≤ g_5.2.2.1 ∧
 g_5.2.2.1 ≤ (↑x.1.length : Int) ∧
 (g_5.1, g_5.2.1) = (wholeOf (ypl (List.take g_5.2.2.1.toNat x.1)).1, (ypl (List.take g_5.2.2.1.toNat x.1)).2)) ∧
 (((g_5.1.1.1.length ≤ (9223372036854775807 : Nat) ∧
 ∀ (x : Int), x ∈ g_5.1.1.1 →
 0 ≤ x ∧
 x ≤ 255) ∧
 (g_5.1.1.2.1.length ≤ (9223372036854775807 : Nat) ∧
 ∀ (x : Int), x ∈ g_5.1.1.2.1 →
 0 ≤ x ∧
 x ≤ 255) ∧
 (-9223372036854775808 ≤ g_5.1.1.2.2.1 ∧
 g_5.1.1.2.2.1 ≤ 9223372036854775807) ∧
 True) ∧
 (g_5.1.2.1.length ≤ (9223372036854775807 : Nat) ∧
 ∀ (x : Int × Int × Bool × Bool × Bool × Bool × Bool), x ∈ g_5.1.2.1 →
 (-9223372036854775808 ≤ x.1 ∧
 x.1 ≤ 9223372036854775807) ∧
 (-9223372036854775808 ≤ x.2.1 ∧
 x.2.1 ≤ 9223372036854775807) ∧
 True ∧
 True ∧
 True ∧
 True ∧
 True) ∧
 (g_5.1.2.2.1.length = (2 : Nat) ∧
 ∀ (x : (List Int × List Int × Int) × (Bool × List (Bool × Bool)) × Bool), x ∈ g_5.1.2.2.1 →
 ((x.1.1.length = (4 : Nat) ∧
 ∀ (x_1 : Int), x_1 ∈ x.1.1 →
 0 ≤ x_1 ∧
 x_1 ≤ 18446744073709551615) ∧
 (x.1.2.1.length = (4 : Nat) ∧
 ∀ (x_1 : Int), x_1 ∈ x.1.2.1 →
 0 ≤ x_1 ∧
 x_1 ≤ 18446744073709551615) ∧
 -9223372036854775808 ≤ x.1.2.2 ∧
 x.1.2.2 ≤ 9223372036854775807) ∧
 (True ∧
 x.2.1.2.length ≤ (9223372036854775807 : Nat) ∧
 ∀ (x_1 : Bool × Bool), x_1 ∈ x.2.1.2 →
 True ∧
 True) ∧
 True) ∧
 (g_5.1.2.2.2.1.length ≤ (9223372036854775807 : Nat) ∧
 ∀ (x : Int), x ∈ g_5.1.2.2.2.1 →
 0 ≤ x ∧
 x ≤ 255) ∧
 ((g_5.1.2.2.2.2.1.1.length ≤ (9223372036854775807 : Nat) ∧
 ∀ (x : List Int), x ∈ g_5.1.2.2.2.2.1.1 →
 x.length ≤ (9223372036854775807 : Nat) ∧
 ∀ (x_1 : Int), x_1 ∈ x →
 0 ≤ x_1 ∧
 x_1 ≤ 255) ∧
 g_5.1.2.2.2.2.1.2.length ≤ (9223372036854775807 : Nat) ∧
 ∀ (x : Int), x ∈ g_5.1.2.2.2.2.1.2 →
 0 ≤ x ∧
 x ≤ 255) ∧
 -9223372036854775808 ≤ g_5.1.2.2.2.2.2 ∧
 g_5.1.2.2.2.2.2 ≤ 9223372036854775807) ∧
 (g_5.2.1.length ≤ (9223372036854775807 : Nat) ∧
 ∀ (x : Int × List Int), x ∈ g_5.2.1 →
 (-9223372036854775808 ≤ x.1 ∧
 x.1 ≤ 9223372036854775807) ∧
 x.2.length ≤ (9223372036854775807 : Nat) ∧
 ∀ (x_1 : Int), x_1 ∈ x.2 →
 0 ≤ x_1 ∧
 x_1 ≤ 255) ∧
 (-9223372036854775808 ≤ g_5.2.2.1 ∧
 g_5.2.2.1 ≤ 9223372036854775807) ∧
 True) ∧
 ((↑x.1.length : Int) - g_5.2.2.1).toNat < ((↑x.1.length : Int) - g.2.2.1).toNat) ∧
 ((True ∧
 True) ∧
 (True ∧
 True) ∧
 True ∧
 x.1 = x.1 ∧
 RR (↑x.1.length : Int) ∧
 g.2.2.1 + 1 = g_5.2.2.1 ∧
 True) ∧
 ((g.1.1.1 = g_5.1.1.1 ∧
 g.1.1.2.1 = g_5.1.1.2.1 ∧
 g.1.1.2.2.1 = g_5.1.1.2.2.1 ∧
 g.1.1.2.2.2 = g_5.1.1.2.2.2 ∧
 False ∧
 g_4.1.2.2.2.2.2.1 = g_5.1.2.2.1 ∧
 True ∧
 g.1.2.2.2.2.1.1 = g_5.1.2.2.2.2.1.1 ∧
 g.1.2.2.2.2.1.2 = g_5.1.2.2.2.2.1.2 ∧
 g.1.2.2.2.2.2 = g_5.1.2.2.2.2.2 ∧
 True) ∧
 False ∧
 g.1.2.2.2.1 = g_5.1.2.2.2.1 ∧
 g.2.1 ++ (((0 : Int), ([] : List Int)) :: ([] : List (Int × List Int))).set (0 : Nat) ((0 : Int), ([] : List Int)) = g_5.2.1 ∧
 (RR (Value.slice none (0 : Nat) (0 : Nat)) ∧
 RR (Value.slice none (0 : Nat) (0 : Nat)) ∧
 RR (Value.slice none (0 : Nat) (0 : Nat)) ∧
 RR (Value.slice none (0 : Nat) (0 : Nat)) ∧
 RR (0 : Int) ∧
 RR (0 : Int) ∧
 True) ∧
 True) ∧
 True) ∧
 (((Line.step g.1.2.1 (5 : Int) (0 : Int)).2.2.1 != 0) = false →
 (((RR ((Line.step g.1.2.1 (5 : Int) (0 : Int)).2.1) ∧
 (Line.step g.1.2.1 (5 : Int) (0 : Int)).1 = (Line.step g.1.2.1 (5 : Int) (0 : Int)).1) ∧
 True) ∧
 (RR ((Line.step g.1.2.1 (5 : Int) (0 : Int)).2.1) ∧
 (True ∧
 True) ∧
 True) ∧
 ((g.1.1.1 = g.1.1.1 ∧
 RR g.1.1.2.1 ∧
 RR g.1.1.2.2.1 ∧
 RR g.1.1.2.2.2 ∧
 True ∧
 RR g_4.1.2.2.2.2.2.1 ∧
 True ∧
 RR g.1.2.2.2.2.1.1 ∧
 RR g.1.2.2.2.2.1.2 ∧
 RR g.1.2.2.2.2.2 ∧
 True) ∧
 RR ((Line.step g.1.2.1 (5 : Int) (0 : Int)).1) ∧
 (RR ((opAt x.1 g.2.2.1).1) ∧
 RR ((opAt x.1 g.2.2.1).2.1) ∧
 RR ((opAt x.1 g.2.2.1).2.2.1) ∧
 RR ((opAt x.1 g.2.2.1).2.2.2) ∧
 True) ∧
 (RR (0 : Int) ∧
 RR (Value.slice none (0 : Nat) (0 : Nat)) ∧
 True) ∧
 (RR (Value.slice none (0 : Nat) (0 : Nat)) ∧
 RR (Value.slice none (0 : Nat) (0 : Nat)) ∧
 RR (Value.slice none (0 : Nat) (0 : Nat)) ∧
 RR (Value.slice none (0 : Nat) (0 : Nat)) ∧
 RR (0 : Int) ∧
 RR (0 : Int) ∧
 True) ∧
 g.2.1 = g.2.1 ∧
 (RR ((opAt x.1 g.2.2.1).1) ∧
 RR ((opAt x.1 g.2.2.1).2.1) ∧
 RR ((opAt x.1 g.2.2.1).2.2.1) ∧
 RR ((opAt x.1 g.2.2.1).2.2.2) ∧
 True) ∧
 RR g.1.2.2.2.1 ∧
 True) ∧
 (True ∧
 True) ∧
 RR ((opAt x.1 g.2.2.1).2.1) ∧
 True ∧
 True ∧
 True ∧
 ((True ∧
 True ∧
 True ∧
 True ∧
 True) ∧
 (opAt x.1 g.2.2.1).2.1.toNat = (opAt x.1 g.2.2.1).2.1.toNat) ∧
 R32 (R8 (R8 (R8 (True ∧
 True ∧
 True ∧
 True ∧
 True ∧
 (True ∧
 True) ∧
 R32 (R32 (R8 (True ∧
 True ∧
 True ∧
 (True ∧
 True) ∧
 True ∧
 True ∧
 (True ∧
 True) ∧
 (True ∧
 True) ∧
 RR (Value.func (Fn.func (13 : Nat)) ([] : List Value).toArray ([] : List Value).toArray) ∧
 R32 (True ∧
 True ∧
 True ∧
 True ∧
 True ∧
 g_1.1 = g_1.1 ∧
 false = false ∧
 RR (g_1.1 == 1) ∧
 R8 (True ∧
 True ∧
 True ∧
 true = true ∧
 RR (g_1.1 == 2) ∧
 RR (Value.func (Fn.func (13 : Nat)) ([] : List Value).toArray ([] : List Value).toArray) ∧
 (True ∧
 True) ∧
 (True ∧
 True) ∧
 RR ((opAt x.1 g.2.2.1).2.1) ∧
 R32 (R8 (R8 (R8 (True ∧
 True ∧
 True ∧
 True ∧
 (True ∧
 True) ∧
 (True ∧
 True) ∧
 True ∧
 True ∧
 (True ∧
 True) ∧
 True ∧
 x.1 = x.1 ∧
 RR (↑x.1.length : Int) ∧
 g.2.2.1 = g.2.2.1 ∧
 true = true ∧
 True ∧
 (RR ((opAt x.1 g.2.2.1).1) ∧
 RR ((opAt x.1 g.2.2.1).2.1) ∧
 RR ((opAt x.1 g.2.2.1).2.2.1) ∧
 RR ((opAt x.1 g.2.2.1).2.2.2) ∧
 True) ∧
 True ∧
 (True ∧
 True) ∧
 (RR ((opAt x.1 g.2.2.1).1) ∧
 RR ((opAt x.1 g.2.2.1).2.1) ∧
 RR ((opAt x.1 g.2.2.1).2.2.1) ∧
 RR ((opAt x.1 g.2.2.1).2.2.2) ∧
 True) ∧
 R8 (R8 (R8 (True ∧
 True ∧
 True ∧
 True ∧
 True ∧
 True ∧
 True))))))))))))))))) ∧
 ∀ (g_5 : List (Int × Int × Int) × (Unit × Unit × Unit × Unit × List (Int × Int × Bool × Bool × Bool × Bool × Bool) × Unit × Unit × Unit × Unit × Unit) × Unit), g_5.1 = (Line.step g.1.2.1 (5 : Int) (0 : Int)).2.1 ∧
 g_5.2.1.2.2.2.2.1 = (Line.step g.1.2.1 (5 : Int) (0 : Int)).1 →
 (g_5.1.length ≤ (9223372036854775807 : Nat) ∧
 ∀ (x : Int × Int × Int), x ∈ g_5.1 →
 (-9223372036854775808 ≤ x.1 ∧
 x.1 ≤ 9223372036854775807) ∧
 (-9223372036854775808 ≤ x.2.1 ∧
 x.2.1 ≤ 9223372036854775807) ∧
 -9223372036854775808 ≤ x.2.2 ∧
 x.2.2 ≤ 9223372036854775807) ∧
 (True ∧
 True ∧
 True ∧
 True ∧
 (g_5.2.1.2.2.2.2.1.length ≤ (9223372036854775807 : Nat) ∧
 ∀ (x : Int × Int × Bool × Bool × Bool × Bool × Bool), x ∈ g_5.2.1.2.2.2.2.1 →
 (-9223372036854775808 ≤ x.1 ∧
 x.1 ≤ 9223372036854775807) ∧
 (-9223372036854775808 ≤ x.2.1 ∧
 x.2.1 ≤ 9223372036854775807) ∧
 True ∧
 True ∧
 True ∧
 True ∧
 True) ∧
 True ∧
 True ∧
 True ∧
 True ∧
 True) ∧
 True →
 ((((0 : Int) ≤ (0 : Int) ∧
 0 ≤ (↑g_5.1.length : Int) ∧
 g_4.1.2.2.2.2.2.1 = List.foldl ask1 g_4.1.2.2.2.2.2.1 (List.take (Int.toNat (0 : Int)) g_5.1)) ∧
 True) ∧
 ((True ∧
 True) ∧
 g_5.1 = g_5.1 ∧
 RR (↑g_5.1.length : Int) ∧
 RR (0 : Int) ∧
 True) ∧
 ((g.1.1.1 = g.1.1.1 ∧
 RR g.1.1.2.1 ∧
 RR g.1.1.2.2.1 ∧
 RR g.1.1.2.2.2 ∧
 True ∧
 RR g_4.1.2.2.2.2.2.1 ∧
 True ∧
 RR g.1.2.2.2.2.1.1 ∧
 RR g.1.2.2.2.2.1.2 ∧
 RR g.1.2.2.2.2.2 ∧
 True) ∧
 (RR ((opAt x.1 g.2.2.1).1) ∧
 RR ((opAt x.1 g.2.2.1).2.1) ∧
 RR ((opAt x.1 g.2.2.1).2.2.1) ∧
 RR ((opAt x.1 g.2.2.1).2.2.2) ∧
 True) ∧
 (RR (0 : Int) ∧
 RR (Value.slice none (0 : Nat) (0 : Nat)) ∧
 True) ∧
 (RR (Value.slice none (0 : Nat) (0 : Nat)) ∧
 RR (Value.slice none (0 : Nat) (0 : Nat)) ∧
 RR (Value.slice none (0 : Nat) (0 : Nat)) ∧
 RR (Value.slice none (0 : Nat) (0 : Nat)) ∧
 RR (0 : Int) ∧
 RR (0 : Int) ∧
 True) ∧
 g.2.1 = g.2.1 ∧
 (RR ((opAt x.1 g.2.2.1).1) ∧
 RR ((opAt x.1 g.2.2.1).2.1) ∧
 RR ((opAt x.1 g.2.2.1).2.2.1) ∧
 RR ((opAt x.1 g.2.2.1).2.2.2) ∧
 True) ∧
 RR g_5.2.1.2.2.2.2.1 ∧
 RR g.1.2.2.2.1 ∧
 True) ∧
 (True ∧
 True) ∧
 RR ((opAt x.1 g.2.2.1).2.1) ∧
 True ∧
 True ∧
 True ∧
 ((True ∧
 True ∧
 True ∧
 True ∧
 True) ∧
 (opAt x.1 g.2.2.1).2.1.toNat = (opAt x.1 g.2.2.1).2.1.toNat) ∧
 R32 (R8 (R8 (R8 (True ∧
 True ∧
 True ∧
 True ∧
 True ∧
 (True ∧
 True) ∧
 R32 (R32 (R8 (True ∧
 True ∧
 True ∧
 (True ∧
 True) ∧
 True ∧
 True ∧
 (True ∧
 True) ∧
 (True ∧
 True) ∧
 RR (Value.func (Fn.func (13 : Nat)) ([] : List Value).toArray ([] : List Value).toArray) ∧
 R32 (True ∧
 True ∧
 True ∧
 True ∧
 True ∧
 g_1.1 = g_1.1 ∧
 false = false ∧
 RR (g_1.1 == 1) ∧
 R8 (True ∧
 True ∧
 True ∧
 true = true ∧
 RR (g_1.1 == 2) ∧
 RR (Value.func (Fn.func (13 : Nat)) ([] : List Value).toArray ([] : List Value).toArray) ∧
 (True ∧
 True) ∧
 (True ∧
 True) ∧
 RR ((opAt x.1 g.2.2.1).2.1) ∧
 R32 (R8 (R8 (R8 (True ∧
 True ∧
 True ∧
 True ∧
 (True ∧
 True) ∧
 (True ∧
 True) ∧
 True ∧
 True ∧
 (True ∧
 True) ∧
 True ∧
 x.1 = x.1 ∧
 RR (↑x.1.length : Int) ∧
 g.2.2.1 = g.2.2.1 ∧
 true = true ∧
 True ∧
 (RR ((opAt x.1 g.2.2.1).1) ∧
 RR ((opAt x.1 g.2.2.1).2.1) ∧
 RR ((opAt x.1 g.2.2.1).2.2.1) ∧
 RR ((opAt x.1 g.2.2.1).2.2.2) ∧
 True) ∧
 True ∧
 (True ∧
 True) ∧
 (RR ((opAt x.1 g.2.2.1).1) ∧
 RR ((opAt x.1 g.2.2.1).2.1) ∧
 RR ((opAt x.1 g.2.2.1).2.2.1) ∧
 RR ((opAt x.1 g.2.2.1).2.2.2) ∧
 True) ∧
 R8 (R8 (R8 (True ∧
 True ∧
 True ∧
 True ∧
 True ∧
 True ∧
 True))))))))))))))))) ∧
 ∀ (g_6 : (Unit × Unit × Unit × Unit × Unit × List ((List Int × List Int × Int) × (Bool × List (Bool × Bool)) × Bool) × Unit × Unit × Unit × Unit) × Int × Unit), 0 ≤ g_6.2.1 ∧
 g_6.2.1 ≤ (↑g_5.1.length : Int) ∧
 g_6.1.2.2.2.2.2.1 = List.foldl ask1 g_4.1.2.2.2.2.2.1 (List.take g_6.2.1.toNat g_5.1) →
 (True ∧
 True ∧
 True ∧
 True ∧
 True ∧
 (g_6.1.2.2.2.2.2.1.length = (2 : Nat) ∧
 ∀ (x : (List Int × List Int × Int) × (Bool × List (Bool × Bool)) × Bool), x ∈ g_6.1.2.2.2.2.2.1 →
 ((x.1.1.length = (4 : Nat) ∧
 ∀ (x_1 : Int), x_1 ∈ x.1.1 →
 0 ≤ x_1 ∧
 x_1 ≤ 18446744073709551615) ∧
 (x.1.2.1.length = (4 : Nat) ∧
 ∀ (x_1 : Int), x_1 ∈ x.1.2.1 →
 0 ≤ x_1 ∧
 x_1 ≤ 18446744073709551615) ∧
 -9223372036854775808 ≤ x.1.2.2 ∧
 x.1.2.2 ≤ 9223372036854775807) ∧
 (True ∧
 x.2.1.2.length ≤ (9223372036854775807 : Nat) ∧
 ∀ (x_1 : Bool × Bool), x_1 ∈ x.2.1.2 →
 True ∧
 True) ∧
 True) ∧
 True ∧
 True ∧
 True ∧
 True) ∧
 (-9223372036854775808 ≤ g_6.2.1 ∧
 g_6.2.1 ≤ 9223372036854775807) ∧
 True →
 (decide (g_6.2.1 < (↑g_5.1.length : Int)) = true →
 (0 ≤ g_6.2.1 ∧
 g_6.2.1 < (↑g_5.1.length : Int)) ∧
 (0 ≤ (seAt g_5.1 g_6.2.1).2.1 ∧
 (seAt g_5.1 g_6.2.1).2.1 < (↑(2 : Nat) : Int)) ∧
 Holds True ∧
 (((Apic.stepL ((crAt g_6.1.2.2.2.2.2.1 (seAt g_5.1 g_6.2.1).2.1).1.1, (crAt g_6.1.2.2.2.2.2.1 (seAt g_5.1 g_6.2.1).2.1).1.2.1, (crAt g_6.1.2.2.2.2.2.1 (seAt g_5.1 g_6.2.1).2.1).1.2.2) ((1 : Int), (seAt g_5.1 g_6.2.1).2.2)).2.2.1 == 0) = true →
 (-9223372036854775808 ≤ g_6.2.1 + 1 ∧
 g_6.2.1 + 1 ≤ (9223372036854775807 : Int)) ∧
 ((0 ≤ g_6.2.1 + 1 ∧
 g_6.2.1 + 1 ≤ (↑g_5.1.length : Int) ∧
 g_6.1.2.2.2.2.2.1.set (seAt g_5.1 g_6.2.1).2.1.toNat (((Apic.stepL ((crAt g_6.1.2.2.2.2.2.1 (seAt g_5.1 g_6.2.1).2.1).1.1, (crAt g_6.1.2.2.2.2.2.1 (seAt g_5.1 g_6.2.1).2.1).1.2.1, (crAt g_6.1.2.2.2.2.2.1 (seAt g_5.1 g_6.2.1).2.1).1.2.2) ((1 : Int), (seAt g_5.1 g_6.2.1).2.2)).1.1, (Apic.stepL ((crAt g_6.1.2.2.2.2.2.1 (seAt g_5.1 g_6.2.1).2.1).1.1, (crAt g_6.1.2.2.2.2.2.1 (seAt g_5.1 g_6.2.1).2.1).1.2.1, (crAt g_6.1.2.2.2.2.2.1 (seAt g_5.1 g_6.2.1).2.1).1.2.2) ((1 : Int), (seAt g_5.1 g_6.2.1).2.2)).1.2.1, (Apic.stepL ((crAt g_6.1.2.2.2.2.2.1 (seAt g_5.1 g_6.2.1).2.1).1.1, (crAt g_6.1.2.2.2.2.2.1 (seAt g_5.1 g_6.2.1).2.1).1.2.1, (crAt g_6.1.2.2.2.2.2.1 (seAt g_5.1 g_6.2.1).2.1).1.2.2) ((1 : Int), (seAt g_5.1 g_6.2.1).2.2)).1.2.2), ((crAt g_6.1.2.2.2.2.2.1 (seAt g_5.1 g_6.2.1).2.1).2.1.1, (crAt g_6.1.2.2.2.2.2.1 (seAt g_5.1 g_6.2.1).2.1).2.1.2), (crAt g_6.1.2.2.2.2.2.1 (seAt g_5.1 g_6.2.1).2.1).2.2) = List.foldl ask1 g_4.1.2.2.2.2.2.1 (List.take (g_6.2.1 + 1).toNat g_5.1)) ∧
 ((↑g_5.1.length : Int) - (g_6.2.1 + 1)).toNat < ((↑g_5.1.length : Int) - g_6.2.1).toNat) ∧
 ((True ∧
 True) ∧
 g_5.1 = g_5.1 ∧
 RR (↑g_5.1.length : Int) ∧
 g_6.2.1 + 1 = g_6.2.1 + 1 ∧
 True) ∧
 ((g.1.1.1 = g.1.1.1 ∧
 RR g.1.1.2.1 ∧
 RR g.1.1.2.2.1 ∧
 RR g.1.1.2.2.2 ∧
 True ∧
 g_6.1.2.2.2.2.2.1.set (seAt g_5.1 g_6.2.1).2.1.toNat (((Apic.stepL ((crAt g_6.1.2.2.2.2.2.1 (seAt g_5.1 g_6.2.1).2.1).1.1, (crAt g_6.1.2.2.2.2.2.1 (seAt g_5.1 g_6.2.1).2.1).1.2.1, (crAt g_6.1.2.2.2.2.2.1 (seAt g_5.1 g_6.2.1).2.1).1.2.2) ((1 : Int), (seAt g_5.1 g_6.2.1).2.2)).1.1, (Apic.stepL ((crAt g_6.1.2.2.2.2.2.1 (seAt g_5.1 g_6.2.1).2.1).1.1, (crAt g_6.1.2.2.2.2.2.1 (seAt g_5.1 g_6.2.1).2.1).1.2.1, (crAt g_6.1.2.2.2.2.2.1 (seAt g_5.1 g_6.2.1).2.1).1.2.2) ((1 : Int), (seAt g_5.1 g_6.2.1).2.2)).1.2.1, (Apic.stepL ((crAt g_6.1.2.2.2.2.2.1 (seAt g_5.1 g_6.2.1).2.1).1.1, (crAt g_6.1.2.2.2.2.2.1 (seAt g_5.1 g_6.2.1).2.1).1.2.1, (crAt g_6.1.2.2.2.2.2.1 (seAt g_5.1 g_6.2.1).2.1).1.2.2) ((1 : Int), (seAt g_5.1 g_6.2.1).2.2)).1.2.2), ((crAt g_6.1.2.2.2.2.2.1 (seAt g_5.1 g_6.2.1).2.1).2.1.1, (crAt g_6.1.2.2.2.2.2.1 (seAt g_5.1 g_6.2.1).2.1).2.1.2), (crAt g_6.1.2.2.2.2.2.1 (seAt g_5.1 g_6.2.1).2.1).2.2) = g_6.1.2.2.2.2.2.1.set (seAt g_5.1 g_6.2.1).2.1.toNat (((Apic.stepL ((crAt g_6.1.2.2.2.2.2.1 (seAt g_5.1 g_6.2.1).2.1).1.1, (crAt g_6.1.2.2.2.2.2.1 (seAt g_5.1 g_6.2.1).2.1).1.2.1, (crAt g_6.1.2.2.2.2.2.1 (seAt g_5.1 g_6.2.1).2.1).1.2.2) ((1 : Int), (seAt g_5.1 g_6.2.1).2.2)).1.1, (Apic.stepL ((crAt g_6.1.2.2.2.2.2.1 (seAt g_5.1 g_6.2.1).2.1).1.1, (crAt g_6.1.2.2.2.2.2.1 (seAt g_5.1 g_6.2.1).2.1).1.2.1, (crAt g_6.1.2.2.2.2.2.1 (seAt g_5.1 g_6.2.1).2.1).1.2.2) ((1 : Int), (seAt g_5.1 g_6.2.1).2.2)).1.2.1, (Apic.stepL ((crAt g_6.1.2.2.2.2.2.1 (seAt g_5.1 g_6.2.1).2.1).1.1, (crAt g_6.1.2.2.2.2.2.1 (seAt g_5.1 g_6.2.1).2.1).1.2.1, (crAt g_6.1.2.2.2.2.2.1 (seAt g_5.1 g_6.2.1).2.1).1.2.2) ((1 : Int), (seAt g_5.1 g_6.2.1).2.2)).1.2.2), ((crAt g_6.1.2.2.2.2.2.1 (seAt g_5.1 g_6.2.1).2.1).2.1.1, (crAt g_6.1.2.2.2.2.2.1 (seAt g_5.1 g_6.2.1).2.1).2.1.2), (crAt g_6.1.2.2.2.2.2.1 (seAt g_5.1 g_6.2.1).2.1).2.2) ∧
 True ∧
 RR g.1.2.2.2.2.1.1 ∧
 RR g.1.2.2.2.2.1.2 ∧
 RR g.1.2.2.2.2.2 ∧
 True) ∧
 (RR ((opAt x.1 g.2.2.1).1) ∧
 RR ((opAt x.1 g.2.2.1).2.1) ∧
 RR ((opAt x.1 g.2.2.1).2.2.1) ∧
 RR ((opAt x.1 g.2.2.1).2.2.2) ∧
 True) ∧
 (RR (0 : Int) ∧
 RR (Value.slice none (0 : Nat) (0 : Nat)) ∧
 True) ∧
 (RR (Value.slice none (0 : Nat) (0 : Nat)) ∧
 RR (Value.slice none (0 : Nat) (0 : Nat)) ∧
 RR (Value.slice none (0 : Nat) (0 : Nat)) ∧
 RR (Value.slice none (0 : Nat) (0 : Nat)) ∧
 RR (0 : Int) ∧
 RR (0 : Int) ∧
 True) ∧
 g.2.1 = g.2.1 ∧
 (RR ((opAt x.1 g.2.2.1).1) ∧
 RR ((opAt x.1 g.2.2.1).2.1) ∧
 RR ((opAt x.1 g.2.2.1).2.2.1) ∧
 RR ((opAt x.1 g.2.2.1).2.2.2) ∧
 True) ∧
 RR g_5.2.1.2.2.2.2.1 ∧
 RR g.1.2.2.2.1 ∧
 True) ∧
 (True ∧
 True) ∧
 RR ((opAt x.1 g.2.2.1).2.1) ∧
 True ∧
 True ∧
 True ∧
 ((True ∧
 True ∧
 True ∧
 True ∧
 True) ∧
 (opAt x.1 g.2.2.1).2.1.toNat = (opAt x.1 g.2.2.1).2.1.toNat) ∧
 R32 (R8 (R8 (R8 (True ∧
 True ∧
 True ∧
 True ∧
 True ∧
 (True ∧
 True) ∧
 R32 (R32 (R8 (True ∧
 True ∧
 True ∧
 (True ∧
 True) ∧
 True ∧
 True ∧
 (True ∧
 True) ∧
 (True ∧
 True) ∧
 RR (Value.func (Fn.func (13 : Nat)) ([] : List Value).toArray ([] : List Value).toArray) ∧
 R32 (True ∧
 True ∧
 True ∧
 True ∧
 True ∧
 g_1.1 = g_1.1 ∧
 false = false ∧
 RR (g_1.1 == 1) ∧
 R8 (True ∧
 True ∧
 True ∧
 true = true ∧
 RR (g_1.1 == 2) ∧
 RR (Value.func (Fn.func (13 : Nat)) ([] : List Value).toArray ([] : List Value).toArray) ∧
 (True ∧
 True) ∧
 (True ∧
 True) ∧
 RR ((opAt x.1 g.2.2.1).2.1) ∧
 R32 (R8 (R8 (R8 (True ∧
 True ∧
 True ∧
 True ∧
 (True ∧
 True) ∧
 (True ∧
 True) ∧
 True ∧
 True ∧
 (True ∧
 True) ∧
 True ∧
 x.1 = x.1 ∧
 RR (↑x.1.length : Int) ∧
 g.2.2.1 = g.2.2.1 ∧
 true = true ∧
 True ∧
 (RR ((opAt x.1 g.2.2.1).1) ∧
 RR ((opAt x.1 g.2.2.1).2.1) ∧
 RR ((opAt x.1 g.2.2.1).2.2.1) ∧
 RR ((opAt x.1 g.2.2.1).2.2.2) ∧
 True) ∧
 True ∧
 (True ∧
 True) ∧
 (RR ((opAt x.1 g.2.2.1).1) ∧
 RR ((opAt x.1 g.2.2.1).2.1) ∧
 RR ((opAt x.1 g.2.2.1).2.2.1) ∧
 RR ((opAt x.1 g.2.2.1).2.2.2) ∧
 True) ∧
 R8 (R8 (R8 (True ∧
 True ∧
 True ∧
 True ∧
 True ∧
 True ∧
 True))))))))))))))))) ∧
 (((Apic.stepL ((crAt g_6.1.2.2.2.2.2.1 (seAt g_5.1 g_6.2.1).2.1).1.1, (crAt g_6.1.2.2.2.2.2.1 (seAt g_5.1 g_6.2.1).2.1).1.2.1, (crAt g_6.1.2.2.2.2.2.1 (seAt g_5.1 g_6.2.1).2.1).1.2.2) ((1 : Int), (seAt g_5.1 g_6.2.1).2.2)).2.2.1 == 0) = false →
 (-9223372036854775808 ≤ g_6.2.1 + 1 ∧
 g_6.2.1 + 1 ≤ (9223372036854775807 : Int)) ∧
 ((0 ≤ g_6.2.1 + 1 ∧
 g_6.2.1 + 1 ≤ (↑g_5.1.length : Int) ∧
 g_6.1.2.2.2.2.2.1 = List.foldl ask1 g_4.1.2.2.2.2.2.1 (List.take (g_6.2.1 + 1).toNat g_5.1)) ∧
 ((↑g_5.1.length : Int) - (g_6.2.1 + 1)).toNat < ((↑g_5.1.length : Int) - g_6.2.1).toNat) ∧
 ((True ∧
 True) ∧
 g_5.1 = g_5.1 ∧
 RR (↑g_5.1.length : Int) ∧
 g_6.2.1 + 1 = g_6.2.1 + 1 ∧
 True) ∧
 ((g.1.1.1 = g.1.1.1 ∧
 RR g.1.1.2.1 ∧
 RR g.1.1.2.2.1 ∧
 RR g.1.1.2.2.2 ∧
 True ∧
 RR g_6.1.2.2.2.2.2.1 ∧
 True ∧
 RR g.1.2.2.2.2.1.1 ∧
 RR g.1.2.2.2.2.1.2 ∧
 RR g.1.2.2.2.2.2 ∧
 True) ∧
 (RR ((opAt x.1 g.2.2.1).1) ∧
 RR ((opAt x.1 g.2.2.1).2.1) ∧
 RR ((opAt x.1 g.2.2.1).2.2.1) ∧
 RR ((opAt x.1 g.2.2.1).2.2.2) ∧
 True) ∧
 (RR (0 : Int) ∧
 RR (Value.slice none (0 : Nat) (0 : Nat)) ∧
 True) ∧
 (RR (Value.slice none (0 : Nat) (0 : Nat)) ∧
 RR (Value.slice none (0 : Nat) (0 : Nat)) ∧
 RR (Value.slice none (0 : Nat) (0 : Nat)) ∧
 RR (Value.slice none (0 : Nat) (0 : Nat)) ∧
 RR (0 : Int) ∧
 RR (0 : Int) ∧
 True) ∧
 g.2.1 = g.2.1 ∧
 (RR ((opAt x.1 g.2.2.1).1) ∧
 RR ((opAt x.1 g.2.2.1).2.1) ∧
 RR ((opAt x.1 g.2.2.1).2.2.1) ∧
 RR ((opAt x.1 g.2.2.1).2.2.2) ∧
 True) ∧
 RR g_5.2.1.2.2.2.2.1 ∧
 RR g.1.2.2.2.1 ∧
 True) ∧
 (True ∧
 True) ∧
 RR ((opAt x.1 g.2.2.1).2.1) ∧
 True ∧
 True ∧
 True ∧
 ((True ∧
 True ∧
 True ∧
 True ∧
 True) ∧
 (opAt x.1 g.2.2.1).2.1.toNat = (opAt x.1 g.2.2.1).2.1.toNat) ∧
 R32 (R8 (R8 (R8 (True ∧
 True ∧
 True ∧
 True ∧
 True ∧
 (True ∧
 True) ∧
 R32 (R32 (R8 (True ∧
 True ∧
 True ∧
 (True ∧
 True) ∧
 True ∧
 True ∧
 (True ∧
 True) ∧
 (True ∧
 True) ∧
 RR (Value.func (Fn.func (13 : Nat)) ([] : List Value).toArray ([] : List Value).toArray) ∧
 R32 (True ∧
 True ∧
 True ∧
 True ∧
 True ∧
 g_1.1 = g_1.1 ∧
 false = false ∧
 RR (g_1.1 == 1) ∧
 R8 (True ∧
 True ∧
 True ∧
 true = true ∧
 RR (g_1.1 == 2) ∧
 RR (Value.func (Fn.func (13 : Nat)) ([] : List Value).toArray ([] : List Value).toArray) ∧
 (True ∧
 True) ∧
 (True ∧
 True) ∧
 RR ((opAt x.1 g.2.2.1).2.1) ∧
 R32 (R8 (R8 (R8 (True ∧
 True ∧
 True ∧
 True ∧
 (True ∧
 True) ∧
 (True ∧
 True) ∧
 True ∧
 True ∧
 (True ∧
 True) ∧
 True ∧
 x.1 = x.1 ∧
 RR (↑x.1.length : Int) ∧
 g.2.2.1 = g.2.2.1 ∧
 true = true ∧
 True ∧
 (RR ((opAt x.1 g.2.2.1).1) ∧
 RR ((opAt x.1 g.2.2.1).2.1) ∧
 RR ((opAt x.1 g.2.2.1).2.2.1) ∧
 RR ((opAt x.1 g.2.2.1).2.2.2) ∧
 True) ∧
 True ∧
 (True ∧
 True) ∧
 (RR ((opAt x.1 g.2.2.1).1) ∧
 RR ((opAt x.1 g.2.2.1).2.1) ∧
 RR ((opAt x.1 g.2.2.1).2.2.1) ∧
 RR ((opAt x.1 g.2.2.1).2.2.2) ∧
 True) ∧
 R8 (R8 (R8 (True ∧
 True ∧
 True ∧
 True ∧
 True ∧
 True ∧
 True)))))))))))))))))) ∧
 (decide (g_6.2.1 < (↑g_5.1.length : Int)) = false →
 (g.2.1.length + ((((0 : Int), ([] : List Int)) :: ([] : List (Int × List Int))).set (0 : Nat) ((0 : Int), ([] : List Int))).length ≤ (9223372036854775807 : Nat) ∧
 (g.2.1.length + ((((0 : Int), ([] : List Int)) :: ([] : List (Int × List Int))).set (0 : Nat) ((0 : Int), ([] : List Int))).length + (g.2.1.length + ((((0 : Int), ([] : List Int)) :: ([] : List (Int × List Int))).set (0 : Nat) ((0 : Int), ([] : List Int))).length) / (4 : Nat) + (192 : Nat)) * (32 : Nat) ≤ (281474976710656 : Nat)) ∧
 (-9223372036854775808 ≤ g.2.2.1 + 1 ∧
 g.2.2.1 + 1 ≤ (9223372036854775807 : Int)) ∧
 ((0 ≤ g.2.2.1 + 1 ∧
 g.2.2.1 + 1 ≤ (↑x.1.length : Int) ∧
 (((g.1.1.1, g.1.1.2.1, g.1.1.2.2.1, g.1.1.2.2.2), g_5.2.1.2.2.2.2.1, g_6.1.2.2.2.2.2.1, g.1.2.2.2.1, (g.1.2.2.2.2.1.1, g.1.2.2.2.2.1.2), g.1.2.2.2.2.2), g.2.1 ++ (((0 : Int), ([] : List Int)) :: ([] : List (Int × List Int))).set (0 : Nat) ((0 : Int), ([] : List Int))) = (wholeOf (ypl (List.take (g.2.2.1 + 1).toNat x.1)).1, (ypl (List.take (g.2.2.1 + 1).toNat x.1)).2)) ∧
 ((↑x.1.length : Int) - (g.2.2.1 + 1)).toNat < ((↑x.1.length : Int) - g.2.2.1).toNat) ∧
 ((True ∧
 True) ∧
 (True ∧
 True) ∧
 True ∧
 x.1 = x.1 ∧
 RR (↑x.1.length : Int) ∧
 g.2.2.1 + 1 = g.2.2.1 + 1 ∧
 True) ∧
 ((g.1.1.1 = g.1.1.1 ∧
 RR g.1.1.2.1 ∧
 RR g.1.1.2.2.1 ∧
 RR g.1.1.2.2.2 ∧
 True ∧
 RR g_6.1.2.2.2.2.2.1 ∧
 True ∧
 RR g.1.2.2.2.2.1.1 ∧
 RR g.1.2.2.2.2.1.2 ∧
 RR g.1.2.2.2.2.2 ∧
 True) ∧
 RR g_5.2.1.2.2.2.2.1 ∧
 RR g.1.2.2.2.1 ∧
 g.2.1 ++ (((0 : Int), ([] : List Int)) :: ([] : List (Int × List Int))).set (0 : Nat) ((0 : Int), ([] : List Int)) = g.2.1 ++ (((0 : Int), ([] : List Int)) :: ([] : List (Int × List Int))).set (0 : Nat) ((0 : Int), ([] : List Int)) ∧
 (RR (Value.slice none (0 : Nat) (0 : Nat)) ∧
 RR (Value.slice none (0 : Nat) (0 : Nat)) ∧
 RR (Value.slice none (0 : Nat) (0 : Nat)) ∧
 RR (Value.slice none (0 : Nat) (0 : Nat)) ∧
 RR (0 : Int) ∧
 RR (0 : Int) ∧
 True) ∧
 True) ∧
 True))) ∧
 ((crAt g.1.2.2.1 (opAt x.1 g.2.2.1).2.1).2.2 = false →
 ((crAt g.1.2.2.1 (opAt x.1 g.2.2.1).2.1).2.1.1 = true →
 (crAt g.1.2.2.1 (opAt x.1 g.2.2.1).2.1).2.1.1 = true) ∧
 ((crAt g.1.2.2.1 (opAt x.1 g.2.2.1).2.1).2.1.1 = true →
 (crAt g.1.2.2.1 (opAt x.1 g.2.2.1).2.1).2.1.1 = true) ∧
 ((crAt g.1.2.2.1 (opAt x.1 g.2.2.1).2.1).2.1.1 = true →
 (crAt g.1.2.2.1 (opAt x.1 g.2.2.1).2.1).2.1.1 = true ∧
 Holds True ∧
 (decide (0 ≤ Apic.wouldL ((crAt g.1.2.2.1 (opAt x.1 g.2.2.1).2.1).1.1, (crAt g.1.2.2.1 (opAt x.1 g.2.2.1).2.1).1.2.1, (crAt g.1.2.2.1 (opAt x.1 g.2.2.1).2.1).1.2.2)) = true →
 (Holds True ∧
 (((Nest.step ((crAt g.1.2.2.1 (opAt x.1 g.2.2.1).2.1).2.1.1, (crAt g.1.2.2.1 (opAt x.1 g.2.2.1).2.1).2.1.2) (3 : Int)).2.1 == 0) = true →
 (g.1.2.2.1.set (opAt x.1 g.2.2.1).2.1.toNat (((crAt g.1.2.2.1 (opAt x.1 g.2.2.1).2.1).1.1, (crAt g.1.2.2.1 (opAt x.1 g.2.2.1).2.1).1.2.1, (crAt g.1.2.2.1 (opAt x.1 g.2.2.1).2.1).1.2.2), ((Nest.step ((crAt g.1.2.2.1 (opAt x.1 g.2.2.1).2.1).2.1.1, (crAt g.1.2.2.1 (opAt x.1 g.2.2.1).2.1).2.1.2) (3 : Int)).1.1, (Nest.step ((crAt g.1.2.2.1 (opAt x.1 g.2.2.1).2.1).2.1.1, (crAt g.1.2.2.1 (opAt x.1 g.2.2.1).2.1).2.1.2) (3 : Int)).1.2), (crAt g.1.2.2.1 (opAt x.1 g.2.2.1).2.1).2.2) = g.1.2.2.1.set (opAt x.1 g.2.2.1).2.1.toNat (nestF (crAt g.1.2.2.1 (opAt x.1 g.2.2.1).2.1) (3 : Int)) ∧
 True) ∧
 (RR ((opAt x.1 g.2.2.1).2.1) ∧
 ((True ∧
 True ∧
 True ∧
 True ∧
 True) ∧
 (opAt x.1 g.2.2.1).2.1.toNat = (opAt x.1 g.2.2.1).2.1.toNat) ∧
 (True ∧
 True) ∧
 True) ∧
 ((g.1.1.1 = g.1.1.1 ∧
 RR g.1.1.2.1 ∧
 RR g.1.1.2.2.1 ∧
 RR g.1.1.2.2.2 ∧
 True ∧
 g.1.2.2.1.set (opAt x.1 g.2.2.1).2.1.toNat (((crAt g.1.2.2.1 (opAt x.1 g.2.2.1).2.1).1.1, (crAt g.1.2.2.1 (opAt x.1 g.2.2.1).2.1).1.2.1, (crAt g.1.2.2.1 (opAt x.1 g.2.2.1).2.1).1.2.2), ((Nest.step ((crAt g.1.2.2.1 (opAt x.1 g.2.2.1).2.1).2.1.1, (crAt g.1.2.2.1 (opAt x.1 g.2.2.1).2.1).2.1.2) (3 : Int)).1.1, (Nest.step ((crAt g.1.2.2.1 (opAt x.1 g.2.2.1).2.1).2.1.1, (crAt g.1.2.2.1 (opAt x.1 g.2.2.1).2.1).2.1.2) (3 : Int)).1.2), (crAt g.1.2.2.1 (opAt x.1 g.2.2.1).2.1).2.2) = g.1.2.2.1.set (opAt x.1 g.2.2.1).2.1.toNat (((crAt g.1.2.2.1 (opAt x.1 g.2.2.1).2.1).1.1, (crAt g.1.2.2.1 (opAt x.1 g.2.2.1).2.1).1.2.1, (crAt g.1.2.2.1 (opAt x.1 g.2.2.1).2.1).1.2.2), ((Nest.step ((crAt g.1.2.2.1 (opAt x.1 g.2.2.1).2.1).2.1.1, (crAt g.1.2.2.1 (opAt x.1 g.2.2.1).2.1).2.1.2) (3 : Int)).1.1, (Nest.step ((crAt g.1.2.2.1 (opAt x.1 g.2.2.1).2.1).2.1.1, (crAt g.1.2.2.1 (opAt x.1 g.2.2.1).2.1).2.1.2) (3 : Int)).1.2), (crAt g.1.2.2.1 (opAt x.1 g.2.2.1).2.1).2.2) ∧
 True ∧
 RR g.1.2.2.2.2.1.1 ∧
 RR g.1.2.2.2.2.1.2 ∧
 RR g.1.2.2.2.2.2 ∧
 True) ∧
 (RR ((opAt x.1 g.2.2.1).1) ∧
 RR ((opAt x.1 g.2.2.1).2.1) ∧
 RR ((opAt x.1 g.2.2.1).2.2.1) ∧
 RR ((opAt x.1 g.2.2.1).2.2.2) ∧
 True) ∧
 (RR (0 : Int) ∧
 RR (Value.slice none (0 : Nat) (0 : Nat)) ∧
 True) ∧
 (RR (Value.slice none (0 : Nat) (0 : Nat)) ∧
 RR (Value.slice none (0 : Nat) (0 : Nat)) ∧
 RR (Value.slice none (0 : Nat) (0 : Nat)) ∧
 RR (Value.slice none (0 : Nat) (0 : Nat)) ∧
 RR (0 : Int) ∧
 RR (0 : Int) ∧
 True) ∧
 g.2.1 = g.2.1 ∧
 (RR ((opAt x.1 g.2.2.1).1) ∧
 RR ((opAt x.1 g.2.2.1).2.1) ∧
 RR ((opAt x.1 g.2.2.1).2.2.1) ∧
 RR ((opAt x.1 g.2.2.1).2.2.2) ∧
 True) ∧
 g.1.2.1 = g.1.2.1 ∧
 RR g.1.2.2.2.1 ∧
 True) ∧
 (True ∧
 True) ∧
 True ∧
 True ∧
 (True ∧
 True) ∧
 (True ∧
 True) ∧
 RR (Value.func (Fn.func (13 : Nat)) ([] : List Value).toArray ([] : List Value).toArray) ∧
 R32 (True ∧
 True ∧
 True ∧
 True ∧
 True ∧
 g_1.1 = g_1.1 ∧
 false = false ∧
 RR (g_1.1 == 1) ∧
 R8 (True ∧
 True ∧
 True ∧
 true = true ∧
 RR (g_1.1 == 2) ∧
 RR (Value.func (Fn.func (13 : Nat)) ([] : List Value).toArray ([] : List Value).toArray) ∧
 (True ∧
 True) ∧
 (True ∧
 True) ∧
 RR ((opAt x.1 g.2.2.1).2.1) ∧
 R32 (R8 (R8 (R8 (True ∧
 True ∧
 True ∧
 True ∧
 (True ∧
 True) ∧
 (True ∧
 True) ∧
 True ∧
 True ∧
 (True ∧
 True) ∧
 True ∧
 x.1 = x.1 ∧
 RR (↑x.1.length : Int) ∧
 g.2.2.1 = g.2.2.1 ∧
 true = true ∧
 True ∧
 (RR ((opAt x.1 g.2.2.1).1) ∧
 RR ((opAt x.1 g.2.2.1).2.1) ∧
 RR ((opAt x.1 g.2.2.1).2.2.1) ∧
 RR ((opAt x.1 g.2.2.1).2.2.2) ∧
 True) ∧
 True ∧
 (True ∧
 True) ∧
 (RR ((opAt x.1 g.2.2.1).1) ∧
 RR ((opAt x.1 g.2.2.1).2.1) ∧
 RR ((opAt x.1 g.2.2.1).2.2.1) ∧
 RR ((opAt x.1 g.2.2.1).2.2.2) ∧
 True) ∧
 R8 (R8 (R8 (True ∧
 True ∧
 True ∧
 True ∧
 True ∧
 True ∧
 True)))))))))) ∧
 (((Nest.step ((crAt g.1.2.2.1 (opAt x.1 g.2.2.1).2.1).2.1.1, (crAt g.1.2.2.1 (opAt x.1 g.2.2.1).2.1).2.1.2) (3 : Int)).2.1 == 0) = false →
 (g.1.2.2.1 = g.1.2.2.1.set (opAt x.1 g.2.2.1).2.1.toNat (nestF (crAt g.1.2.2.1 (opAt x.1 g.2.2.1).2.1) (3 : Int)) ∧
 True) ∧
 (RR ((opAt x.1 g.2.2.1).2.1) ∧
 ((True ∧
 True ∧
 True ∧
 True ∧
 True) ∧
 (opAt x.1 g.2.2.1).2.1.toNat = (opAt x.1 g.2.2.1).2.1.toNat) ∧
 (True ∧
 True) ∧
 True) ∧
 ((g.1.1.1 = g.1.1.1 ∧
 RR g.1.1.2.1 ∧
 RR g.1.1.2.2.1 ∧
 RR g.1.1.2.2.2 ∧
 True ∧
 RR g.1.2.2.1 ∧
 True ∧
 RR g.1.2.2.2.2.1.1 ∧
 RR g.1.2.2.2.2.1.2 ∧
 RR g.1.2.2.2.2.2 ∧
 True) ∧
 (RR ((opAt x.1 g.2.2.1).1) ∧
 RR ((opAt x.1 g.2.2.1).2.1) ∧
 RR ((opAt x.1 g.2.2.1).2.2.1) ∧
 RR ((opAt x.1 g.2.2.1).2.2.2) ∧
 True) ∧
 (RR (0 : Int) ∧
 RR (Value.slice none (0 : Nat) (0 : Nat)) ∧
 True) ∧
 (RR (Value.slice none (0 : Nat) (0 : Nat)) ∧
 RR (Value.slice none (0 : Nat) (0 : Nat)) ∧
 RR (Value.slice none (0 : Nat) (0 : Nat)) ∧
 RR (Value.slice none (0 : Nat) (0 : Nat)) ∧
 RR (0 : Int) ∧
 RR (0 : Int) ∧
 True) ∧
 g.2.1 = g.2.1 ∧
 (RR ((opAt x.1 g.2.2.1).1) ∧
 RR ((opAt x.1 g.2.2.1).2.1) ∧
 RR ((opAt x.1 g.2.2.1).2.2.1) ∧
 RR ((opAt x.1 g.2.2.1).2.2.2) ∧
 True) ∧
 g.1.2.1 = g.1.2.1 ∧
 RR g.1.2.2.2.1 ∧
 True) ∧
 (True ∧
 True) ∧
 True ∧
 True ∧
 (True ∧
 True) ∧
 (True ∧
 True) ∧
 RR (Value.func (Fn.func (13 : Nat)) ([] : List Value).toArray ([] : List Value).toArray) ∧
 R32 (True ∧
 True ∧
 True ∧
 True ∧
 True ∧
 g_1.1 = g_1.1 ∧
 false = false ∧
 RR (g_1.1 == 1) ∧
 R8 (True ∧
 True ∧
 True ∧
 true = true ∧
 RR (g_1.1 == 2) ∧
 RR (Value.func (Fn.func (13 : Nat)) ([] : List Value).toArray ([] : List Value).toArray) ∧
 (True ∧
 True) ∧
 (True ∧
 True) ∧
 RR ((opAt x.1 g.2.2.1).2.1) ∧
 R32 (R8 (R8 (R8 (True ∧
 True ∧
 True ∧
 True ∧
 (True ∧
 True) ∧
 (True ∧
 True) ∧
 True ∧
 True ∧
 (True ∧
 True) ∧
 True ∧
 x.1 = x.1 ∧
 RR (↑x.1.length : Int) ∧
 g.2.2.1 = g.2.2.1 ∧
 true = true ∧
 True ∧
 (RR ((opAt x.1 g.2.2.1).1) ∧
 RR ((opAt x.1 g.2.2.1).2.1) ∧
 RR ((opAt x.1 g.2.2.1).2.2.1) ∧
 RR ((opAt x.1 g.2.2.1).2.2.2) ∧
 True) ∧
 True ∧
 (True ∧
 True) ∧
 (RR ((opAt x.1 g.2.2.1).1) ∧
 RR ((opAt x.1 g.2.2.1).2.1) ∧
 RR ((opAt x.1 g.2.2.1).2.2.1) ∧
 RR ((opAt x.1 g.2.2.1).2.2.2) ∧
 True) ∧
 R8 (R8 (R8 (True ∧
 True ∧
 True ∧
 True ∧
 True ∧
 True ∧
 True))))))))))) ∧
 ∀ (g_2 : (Unit × Unit × Unit × Unit × Unit × List ((List Int × List Int × Int) × (Bool × List (Bool × Bool)) × Bool) × Unit × Unit × Unit × Unit) × Unit), g_2.1.2.2.2.2.2.1 = g.1.2.2.1.set (opAt x.1 g.2.2.1).2.1.toNat (nestF (crAt g.1.2.2.1 (opAt x.1 g.2.2.1).2.1) (3 : Int)) →
 (True ∧
 True ∧
 True ∧
 True ∧
 True ∧
 (g_2.1.2.2.2.2.2.1.length = (2 : Nat) ∧
 ∀ (x : (List Int × List Int × Int) × (Bool × List (Bool × Bool)) × Bool), x ∈ g_2.1.2.2.2.2.2.1 →
 ((x.1.1.length = (4 : Nat) ∧
 ∀ (x_1 : Int), x_1 ∈ x.1.1 →
 0 ≤ x_1 ∧
 x_1 ≤ 18446744073709551615) ∧
 (x.1.2.1.length = (4 : Nat) ∧
 ∀ (x_1 : Int), x_1 ∈ x.1.2.1 →
 0 ≤ x_1 ∧
 x_1 ≤ 18446744073709551615) ∧
 -9223372036854775808 ≤ x.1.2.2 ∧
 x.1.2.2 ≤ 9223372036854775807) ∧
 (True ∧
 x.2.1.2.length ≤ (9223372036854775807 : Nat) ∧
 ∀ (x_1 : Bool × Bool), x_1 ∈ x.2.1.2 →
 True ∧
 True) ∧
 True) ∧
 True ∧
 True ∧
 True ∧
 True) ∧
 True →
 (Holds True ∧
 (g_2.1.2.2.2.2.2.1.set (opAt x.1 g.2.2.1).2.1.toNat (((Apic.stepL ((crAt g_2.1.2.2.2.2.2.1 (opAt x.1 g.2.2.1).2.1).1.1, (crAt g_2.1.2.2.2.2.2.1 (opAt x.1 g.2.2.1).2.1).1.2.1, (crAt g_2.1.2.2.2.2.2.1 (opAt x.1 g.2.2.1).2.1).1.2.2) ((2 : Int), (0 : Int))).1.1, (Apic.stepL ((crAt g_2.1.2.2.2.2.2.1 (opAt x.1 g.2.2.1).2.1).1.1, (crAt g_2.1.2.2.2.2.2.1 (opAt x.1 g.2.2.1).2.1).1.2.1, (crAt g_2.1.2.2.2.2.2.1 (opAt x.1 g.2.2.1).2.1).1.2.2) ((2 : Int), (0 : Int))).1.2.1, (Apic.stepL ((crAt g_2.1.2.2.2.2.2.1 (opAt x.1 g.2.2.1).2.1).1.1, (crAt g_2.1.2.2.2.2.2.1 (opAt x.1 g.2.2.1).2.1).1.2.1, (crAt g_2.1.2.2.2.2.2.1 (opAt x.1 g.2.2.1).2.1).1.2.2) ((2 : Int), (0 : Int))).1.2.2), ((crAt g_2.1.2.2.2.2.2.1 (opAt x.1 g.2.2.1).2.1).2.1.1, (crAt g_2.1.2.2.2.2.2.1 (opAt x.1 g.2.2.1).2.1).2.1.2), (crAt g_2.1.2.2.2.2.2.1 (opAt x.1 g.2.2.1).2.1).2.2) = g_2.1.2.2.2.2.2.1.set (opAt x.1 g.2.2.1).2.1.toNat ((Apic.stepL (crAt g_2.1.2.2.2.2.2.1 (opAt x.1 g.2.2.1).2.1).1 ((2 : Int), (0 : Int))).1, (crAt g_2.1.2.2.2.2.2.1 (opAt x.1 g.2.2.1).2.1).2) ∧
 True) ∧
 (RR ((opAt x.1 g.2.2.1).2.1) ∧
 ((True ∧
 True ∧
 True ∧
 True ∧
 True) ∧
 (opAt x.1 g.2.2.1).2.1.toNat = (opAt x.1 g.2.2.1).2.1.toNat) ∧
 (True ∧
 True) ∧
 True) ∧
 ((g.1.1.1 = g.1.1.1 ∧
 RR g.1.1.2.1 ∧
 RR g.1.1.2.2.1 ∧
 RR g.1.1.2.2.2 ∧
 True ∧
 g_2.1.2.2.2.2.2.1.set (opAt x.1 g.2.2.1).2.1.toNat (((Apic.stepL ((crAt g_2.1.2.2.2.2.2.1 (opAt x.1 g.2.2.1).2.1).1.1, (crAt g_2.1.2.2.2.2.2.1 (opAt x.1 g.2.2.1).2.1).1.2.1, (crAt g_2.1.2.2.2.2.2.1 (opAt x.1 g.2.2.1).2.1).1.2.2) ((2 : Int), (0 : Int))).1.1, (Apic.stepL ((crAt g_2.1.2.2.2.2.2.1 (opAt x.1 g.2.2.1).2.1).1.1, (crAt g_2.1.2.2.2.2.2.1 (opAt x.1 g.2.2.1).2.1).1.2.1, (crAt g_2.1.2.2.2.2.2.1 (opAt x.1 g.2.2.1).2.1).1.2.2) ((2 : Int), (0 : Int))).1.2.1, (Apic.stepL ((crAt g_2.1.2.2.2.2.2.1 (opAt x.1 g.2.2.1).2.1).1.1, (crAt g_2.1.2.2.2.2.2.1 (opAt x.1 g.2.2.1).2.1).1.2.1, (crAt g_2.1.2.2.2.2.2.1 (opAt x.1 g.2.2.1).2.1).1.2.2) ((2 : Int), (0 : Int))).1.2.2), ((crAt g_2.1.2.2.2.2.2.1 (opAt x.1 g.2.2.1).2.1).2.1.1, (crAt g_2.1.2.2.2.2.2.1 (opAt x.1 g.2.2.1).2.1).2.1.2), (crAt g_2.1.2.2.2.2.2.1 (opAt x.1 g.2.2.1).2.1).2.2) = g_2.1.2.2.2.2.2.1.set (opAt x.1 g.2.2.1).2.1.toNat (((Apic.stepL ((crAt g_2.1.2.2.2.2.2.1 (opAt x.1 g.2.2.1).2.1).1.1, (crAt g_2.1.2.2.2.2.2.1 (opAt x.1 g.2.2.1).2.1).1.2.1, (crAt g_2.1.2.2.2.2.2.1 (opAt x.1 g.2.2.1).2.1).1.2.2) ((2 : Int), (0 : Int))).1.1, (Apic.stepL ((crAt g_2.1.2.2.2.2.2.1 (opAt x.1 g.2.2.1).2.1).1.1, (crAt g_2.1.2.2.2.2.2.1 (opAt x.1 g.2.2.1).2.1).1.2.1, (crAt g_2.1.2.2.2.2.2.1 (opAt x.1 g.2.2.1).2.1).1.2.2) ((2 : Int), (0 : Int))).1.2.1, (Apic.stepL ((crAt g_2.1.2.2.2.2.2.1 (opAt x.1 g.2.2.1).2.1).1.1, (crAt g_2.1.2.2.2.2.2.1 (opAt x.1 g.2.2.1).2.1).1.2.1, (crAt g_2.1.2.2.2.2.2.1 (opAt x.1 g.2.2.1).2.1).1.2.2) ((2 : Int), (0 : Int))).1.2.2), ((crAt g_2.1.2.2.2.2.2.1 (opAt x.1 g.2.2.1).2.1).2.1.1, (crAt g_2.1.2.2.2.2.2.1 (opAt x.1 g.2.2.1).2.1).2.1.2), (crAt g_2.1.2.2.2.2.2.1 (opAt x.1 g.2.2.1).2.1).2.2) ∧
 True ∧
 RR g.1.2.2.2.2.1.1 ∧
 RR g.1.2.2.2.2.1.2 ∧
 RR g.1.2.2.2.2.2 ∧
 True) ∧
 (RR ((opAt x.1 g.2.2.1).1) ∧
 RR ((opAt x.1 g.2.2.1).2.1) ∧
 RR ((opAt x.1 g.2.2.1).2.2.1) ∧
 RR ((opAt x.1 g.2.2.1).2.2.2) ∧
 True) ∧
 (RR (0 : Int) ∧
 RR (Value.slice none (0 : Nat) (0 : Nat)) ∧
 True) ∧
 (RR (Value.slice none (0 : Nat) (0 : Nat)) ∧
 RR (Value.slice none (0 : Nat) (0 : Nat)) ∧
 RR (Value.slice none (0 : Nat) (0 : Nat)) ∧
 RR (Value.slice none (0 : Nat) (0 : Nat)) ∧
 RR (0 : Int) ∧
 RR (0 : Int) ∧
 True) ∧
 g.2.1 = g.2.1 ∧
 (RR ((opAt x.1 g.2.2.1).1) ∧
 RR ((opAt x.1 g.2.2.1).2.1) ∧
 RR ((opAt x.1 g.2.2.1).2.2.1) ∧
 RR ((opAt x.1 g.2.2.1).2.2.2) ∧
 True) ∧
 g.1.2.1 = g.1.2.1 ∧
 RR g.1.2.2.2.1 ∧
 True) ∧
 (True ∧
 True) ∧
 True ∧
 True ∧
 (True ∧
 True) ∧
 (True ∧
 True) ∧
 RR (Value.func (Fn.func (13 : Nat)) ([] : List Value).toArray ([] : List Value).toArray) ∧
 R32 (True ∧
 True ∧
 True ∧
 True ∧
 True ∧
 g_1.1 = g_1.1 ∧
 false = false ∧
 RR (g_1.1 == 1) ∧
 R8 (True ∧
 True ∧
 True ∧
 true = true ∧
 RR (g_1.1 == 2) ∧
 RR (Value.func (Fn.func (13 : Nat)) ([] : List Value).toArray ([] : List Value).toArray) ∧
 (True ∧
 True) ∧
 (True ∧
 True) ∧
 RR ((opAt x.1 g.2.2.1).2.1) ∧
 R32 (R8 (R8 (R8 (True ∧
 True ∧
 True ∧
 True ∧
 (True ∧
 True) ∧
 (True ∧
 True) ∧
 True ∧
 True ∧
 (True ∧
 True) ∧
 True ∧
 x.1 = x.1 ∧
 RR (↑x.1.length : Int) ∧
 g.2.2.1 = g.2.2.1 ∧
 true = true ∧
 True ∧
 (RR ((opAt x.1 g.2.2.1).1) ∧
 RR ((opAt x.1 g.2.2.1).2.1) ∧
 RR ((opAt x.1 g.2.2.1).2.2.1) ∧
 RR ((opAt x.1 g.2.2.1).2.2.2) ∧
 True) ∧
 True ∧
 (True ∧
 True) ∧
 (RR ((opAt x.1 g.2.2.1).1) ∧
 RR ((opAt x.1 g.2.2.1).2.1) ∧
 RR ((opAt x.1 g.2.2.1).2.2.1) ∧
 RR ((opAt x.1 g.2.2.1).2.2.2) ∧
 True) ∧
 R8 (R8 (R8 (True ∧
 True ∧
 True ∧
 True ∧
 True ∧
 True ∧
 True)))))))))) ∧
 ∀ (g_3 : (Unit × Unit × Unit × Unit × Unit × List ((List Int × List Int × Int) × (Bool × List (Bool × Bool)) × Bool) × Unit × Unit × Unit × Unit) × Unit), g_3.1.2.2.2.2.2.1 = g_2.1.2.2.2.2.2.1.set (opAt x.1 g.2.2.1).2.1.toNat ((Apic.stepL (crAt g_2.1.2.2.2.2.2.1 (opAt x.1 g.2.2.1).2.1).1 ((2 : Int), (0 : Int))).1, (crAt g_2.1.2.2.2.2.2.1 (opAt x.1 g.2.2.1).2.1).2) →
 (True ∧
 True ∧
 True ∧
 True ∧
 True ∧
 (g_3.1.2.2.2.2.2.1.length = (2 : Nat) ∧
 ∀ (x : (List Int × List Int × Int) × (Bool × List (Bool × Bool)) × Bool), x ∈ g_3.1.2.2.2.2.2.1 →
 ((x.1.1.length = (4 : Nat) ∧
 ∀ (x_1 : Int), x_1 ∈ x.1.1 →
 0 ≤ x_1 ∧
 x_1 ≤ 18446744073709551615) ∧
 (x.1.2.1.length = (4 : Nat) ∧
 ∀ (x_1 : Int), x_1 ∈ x.1.2.1 →
 0 ≤ x_1 ∧
 x_1 ≤ 18446744073709551615) ∧
 -9223372036854775808 ≤ x.1.2.2 ∧
 x.1.2.2 ≤ 9223372036854775807) ∧
 (True ∧
 x.2.1.2.length ≤ (9223372036854775807 : Nat) ∧
 ∀ (x_1 : Bool × Bool), x_1 ∈ x.2.1.2 →
 True ∧
 True) ∧
 True) ∧
 True ∧
 True ∧
 True ∧
 True) ∧
 True →
 ((g_3.1.2.2.2.2.2.1.set (opAt x.1 g.2.2.1).2.1.toNat (((crAt g_3.1.2.2.2.2.2.1 (opAt x.1 g.2.2.1).2.1).1.1, (crAt g_3.1.2.2.2.2.2.1 (opAt x.1 g.2.2.1).2.1).1.2.1, (crAt g_3.1.2.2.2.2.2.1 (opAt x.1 g.2.2.1).2.1).1.2.2), ((crAt g_3.1.2.2.2.2.2.1 (opAt x.1 g.2.2.1).2.1).2.1.1, (crAt g_3.1.2.2.2.2.2.1 (opAt x.1 g.2.2.1).2.1).2.1.2), true) = g_3.1.2.2.2.2.2.1.set (opAt x.1 g.2.2.1).2.1.toNat ((crAt g_3.1.2.2.2.2.2.1 (opAt x.1 g.2.2.1).2.1).1, (crAt g_3.1.2.2.2.2.2.1 (opAt x.1 g.2.2.1).2.1).2.1, true) ∧
 True) ∧
 (RR ((opAt x.1 g.2.2.1).2.1) ∧
 ((True ∧
 True ∧
 True ∧
 True ∧
 True) ∧
 (opAt x.1 g.2.2.1).2.1.toNat = (opAt x.1 g.2.2.1).2.1.toNat) ∧
 (True ∧
 True) ∧
 True) ∧
 ((g.1.1.1 = g.1.1.1 ∧
 RR g.1.1.2.1 ∧
 RR g.1.1.2.2.1 ∧
 RR g.1.1.2.2.2 ∧
 True ∧
 RR (g_3.1.2.2.2.2.2.1.set (opAt x.1 g.2.2.1).2.1.toNat (((crAt g_3.1.2.2.2.2.2.1 (opAt x.1 g.2.2.1).2.1).1.1, (crAt g_3.1.2.2.2.2.2.1 (opAt x.1 g.2.2.1).2.1).1.2.1, (crAt g_3.1.2.2.2.2.2.1 (opAt x.1 g.2.2.1).2.1).1.2.2), ((crAt g_3.1.2.2.2.2.2.1 (opAt x.1 g.2.2.1).2.1).2.1.1, (crAt g_3.1.2.2.2.2.2.1 (opAt x.1 g.2.2.1).2.1).2.1.2), true)) ∧
 True ∧
 RR g.1.2.2.2.2.1.1 ∧
 RR g.1.2.2.2.2.1.2 ∧
 RR g.1.2.2.2.2.2 ∧
 True) ∧
 (RR ((opAt x.1 g.2.2.1).1) ∧
 RR ((opAt x.1 g.2.2.1).2.1) ∧
 RR ((opAt x.1 g.2.2.1).2.2.1) ∧
 RR ((opAt x.1 g.2.2.1).2.2.2) ∧
 True) ∧
 (RR (0 : Int) ∧
 RR (Value.slice none (0 : Nat) (0 : Nat)) ∧
 True) ∧
 (RR (Value.slice none (0 : Nat) (0 : Nat)) ∧
 RR (Value.slice none (0 : Nat) (0 : Nat)) ∧
 RR (Value.slice none (0 : Nat) (0 : Nat)) ∧
 RR (Value.slice none (0 : Nat) (0 : Nat)) ∧
 RR (0 : Int) ∧
 RR (0 : Int) ∧
 True) ∧
 g.2.1 = g.2.1 ∧
 (RR ((opAt x.1 g.2.2.1).1) ∧
 RR ((opAt x.1 g.2.2.1).2.1) ∧
 RR ((opAt x.1 g.2.2.1).2.2.1) ∧
 RR ((opAt x.1 g.2.2.1).2.2.2) ∧
 True) ∧
 g.1.2.1 = g.1.2.1 ∧
 RR g.1.2.2.2.1 ∧
 True) ∧
 (True ∧
 True) ∧
 True ∧
 True ∧
 (True ∧
 True) ∧
 (True ∧
 True) ∧
 RR (Value.func (Fn.func (13 : Nat)) ([] : List Value).toArray ([] : List Value).toArray) ∧
 R32 (True ∧
 True ∧
 True ∧
 True ∧
 True ∧
 g_1.1 = g_1.1 ∧
 false = false ∧
 RR (g_1.1 == 1) ∧
 R8 (True ∧
 True ∧
 True ∧
 true = true ∧
 RR (g_1.1 == 2) ∧
 RR (Value.func (Fn.func (13 : Nat)) ([] : List Value).toArray ([] : List Value).toArray) ∧
 (True ∧
 True) ∧
 (True ∧
 True) ∧
 RR ((opAt x.1 g.2.2.1).2.1) ∧
 R32 (R8 (R8 (R8 (True ∧
 True ∧
 True ∧
 True ∧
 (True ∧
 True) ∧
 (True ∧
 True) ∧
 True ∧
 True ∧
 (True ∧
 True) ∧
 True ∧
 x.1 = x.1 ∧
 RR (↑x.1.length : Int) ∧
 g.2.2.1 = g.2.2.1 ∧
 true = true ∧
 True ∧
 (RR ((opAt x.1 g.2.2.1).1) ∧
 RR ((opAt x.1 g.2.2.1).2.1) ∧
 RR ((opAt x.1 g.2.2.1).2.2.1) ∧
 RR ((opAt x.1 g.2.2.1).2.2.2) ∧
 True) ∧
 True ∧
 (True ∧
 True) ∧
 (RR ((opAt x.1 g.2.2.1).1) ∧
 RR ((opAt x.1 g.2.2.1).2.1) ∧
 RR ((opAt x.1 g.2.2.1).2.2.1) ∧
 RR ((opAt x.1 g.2.2.1).2.2.2) ∧
 True) ∧
 R8 (R8 (R8 (True ∧
 True ∧
 True ∧
 True ∧
 True ∧
 True ∧
 True)))))))))) ∧
 ∀ (g_4 : (Unit × Unit × Unit × Unit × Unit × List ((List Int × List Int × Int) × (Bool × List (Bool × Bool)) × Bool) × Unit × Unit × Unit × Unit) × Unit), g_4.1.2.2.2.2.2.1 = g_3.1.2.2.2.2.2.1.set (opAt x.1 g.2.2.1).2.1.toNat ((crAt g_3.1.2.2.2.2.2.1 (opAt x.1 g.2.2.1).2.1).1, (crAt g_3.1.2.2.2.2.2.1 (opAt x.1 g.2.2.1).2.1).2.1, true) →
 (True ∧
 True ∧
 True ∧
 True ∧
 True ∧
 (g_4.1.2.2.2.2.2.1.length = (2 : Nat) ∧
 ∀ (x : (List Int × List Int × Int) × (Bool × List (Bool × Bool)) × Bool), x ∈ g_4.1.2.2.2.2.2.1 →
 ((x.1.1.length = (4 : Nat) ∧
 ∀ (x_1 : Int), x_1 ∈ x.1.1 →
 0 ≤ x_1 ∧
 x_1 ≤ 18446744073709551615) ∧
 (x.1.2.1.length = (4 : Nat) ∧
 ∀ (x_1 : Int), x_1 ∈ x.1.2.1 →
 0 ≤ x_1 ∧
 x_1 ≤ 18446744073709551615) ∧
 -9223372036854775808 ≤ x.1.2.2 ∧
 x.1.2.2 ≤ 9223372036854775807) ∧
 (True ∧
 x.2.1.2.length ≤ (9223372036854775807 : Nat) ∧
 ∀ (x_1 : Bool × Bool), x_1 ∈ x.2.1.2 →
 True ∧
 True) ∧
 True) ∧
 True ∧
 True ∧
 True ∧
 True) ∧
 True →
 (-9223372036854775808 ≤ g.1.2.2.2.2.2 + 1 ∧
 g.1.2.2.2.2.2 + 1 ≤ (9223372036854775807 : Int)) ∧
 (g.2.1.length + ((((0 : Int), ([] : List Int)) :: ([] : List (Int × List Int))).set (0 : Nat) ((0 : Int), ([] : List Int))).length ≤ (9223372036854775807 : Nat) ∧
 (g.2.1.length + ((((0 : Int), ([] : List Int)) :: ([] : List (Int × List Int))).set (0 : Nat) ((0 : Int), ([] : List Int))).length + (g.2.1.length + ((((0 : Int), ([] : List Int)) :: ([] : List (Int × List Int))).set (0 : Nat) ((0 : Int), ([] : List Int))).length) / (4 : Nat) + (192 : Nat)) * (32 : Nat) ≤ (281474976710656 : Nat)) ∧
 (-9223372036854775808 ≤ g.2.2.1 + 1 ∧
 g.2.2.1 + 1 ≤ (9223372036854775807 : Int)) ∧
 ((0 ≤ g.2.2.1 + 1 ∧
 g.2.2.1 + 1 ≤ (↑x.1.length : Int) ∧
 (((g.1.1.1, g.1.1.2.1, g.1.1.2.2.1, g.1.1.2.2.2), g.1.2.1, g_4.1.2.2.2.2.2.1, g.1.2.2.2.1, (g.1.2.2.2.2.1.1, g.1.2.2.2.2.1.2), g.1.2.2.2.2.2 + 1), g.2.1 ++ (((0 : Int), ([] : List Int)) :: ([] : List (Int × List Int))).set (0 : Nat) ((0 : Int), ([] : List Int))) = (wholeOf (ypl (List.take (g.2.2.1 + 1).toNat x.1)).1, (ypl (List.take (g.2.2.1 + 1).toNat x.1)).2)) ∧
 ((↑x.1.length : Int) - (g.2.2.1 + 1)).toNat < ((↑x.1.length : Int) - g.2.2.1).toNat) ∧
 ((True ∧
 True) ∧
 (True ∧
 True) ∧
 True ∧
 x.1 = x.1 ∧
 RR (↑x.1.length : Int) ∧
 g.2.2.1 + 1 = g.2.2.1 + 1 ∧
 True) ∧
 ((g.1.1.1 = g.1.1.1 ∧
 RR g.1.1.2.1 ∧
 RR g.1.1.2.2.1 ∧
 RR g.1.1.2.2.2 ∧
 True ∧
 RR g_4.1.2.2.2.2.2.1 ∧
 True ∧
 RR g.1.2.2.2.2.1.1 ∧
 RR g.1.2.2.2.2.1.2 ∧
 g.1.2.2.2.2.2 + 1 = g.1.2.2.2.2.2 + 1 ∧
 True) ∧
 g.1.2.1 = g.1.2.1 ∧
 RR g.1.2.2.2.1 ∧
 g.2.1 ++ (((0 : Int), ([] : List Int)) :: ([] : List (Int × List Int))).set (0 : Nat) ((0 : Int), ([] : List Int)) = g.2.1 ++ (((0 : Int), ([] : List Int)) :: ([] : List (Int × List Int))).set (0 : Nat) ((0 : Int), ([] : List Int)) ∧
 (RR (Value.slice none (0 : Nat) (0 : Nat)) ∧
 RR (Value.slice none (0 : Nat) (0 : Nat)) ∧
 RR (Value.slice none (0 : Nat) (0 : Nat)) ∧
 RR (Value.slice none (0 : Nat) (0 : Nat)) ∧
 RR (0 : Int) ∧
 RR (0 : Int) ∧
 True) ∧
 True) ∧
 True) ∧
 (decide (0 ≤ Apic.wouldL ((crAt g.1.2.2.1 (opAt x.1 g.2.2.1).2.1).1.1, (crAt g.1.2.2.1 (opAt x.1 g.2.2.1).2.1).1.2.1, (crAt g.1.2.2.1 (opAt x.1 g.2.2.1).2.1).1.2.2)) = false →
 (decide (0 < (↑g.1.2.2.2.1.length : Int)) = true →
 ((0 : Int) ≤ (0 : Int) ∧
 0 < (↑g.1.2.2.2.1.length : Int)) ∧
 Holds True ∧
 (((Tty.keyR (g.1.2.2.2.2.1.1, g.1.2.2.2.2.1.2) (g.1.2.2.2.1.getD (nat_lit 0) (0 : Int))).2.1 == 0) = true →
 (((0 : Int) ≤ (1 : Int) ∧
 1 ≤ (↑g.1.2.2.2.1.length : Int)) ∧
 (↑g.1.2.2.2.1.length : Int) ≤ (↑g.1.2.2.2.1.length : Int)) ∧
 (g.2.1.length + ((((0 : Int), ([] : List Int)) :: ([] : List (Int × List Int))).set (0 : Nat) ((0 : Int), ([] : List Int))).length ≤ (9223372036854775807 : Nat) ∧
 (g.2.1.length + ((((0 : Int), ([] : List Int)) :: ([] : List (Int × List Int))).set (0 : Nat) ((0 : Int), ([] : List Int))).length + (g.2.1.length + ((((0 : Int), ([] : List Int)) :: ([] : List (Int × List Int))).set (0 : Nat) ((0 : Int), ([] : List Int))).length) / (4 : Nat) + (192 : Nat)) * (32 : Nat) ≤ (281474976710656 : Nat)) ∧
 (-9223372036854775808 ≤ g.2.2.1 + 1 ∧
 g.2.2.1 + 1 ≤ (9223372036854775807 : Int)) ∧
 ((0 ≤ g.2.2.1 + 1 ∧
 g.2.2.1 + 1 ≤ (↑x.1.length : Int) ∧
 (((g.1.1.1, g.1.1.2.1, g.1.1.2.2.1, g.1.1.2.2.2), g.1.2.1, g.1.2.2.1, List.drop (Int.toNat (1 : Int)) (List.take (↑g.1.2.2.2.1.length : Int).toNat g.1.2.2.2.1), ((Tty.keyR (g.1.2.2.2.2.1.1, g.1.2.2.2.2.1.2) (g.1.2.2.2.1.getD (nat_lit 0) (0 : Int))).1.1, (Tty.keyR (g.1.2.2.2.2.1.1, g.1.2.2.2.2.1.2) (g.1.2.2.2.1.getD (nat_lit 0) (0 : Int))).1.2), g.1.2.2.2.2.2), g.2.1 ++ (((0 : Int), ([] : List Int)) :: ([] : List (Int × List Int))).set (0 : Nat) ((0 : Int), ([] : List Int))) = (wholeOf (ypl (List.take (g.2.2.1 + 1).toNat x.1)).1, (ypl (List.take (g.2.2.1 + 1).toNat x.1)).2)) ∧
 ((↑x.1.length : Int) - (g.2.2.1 + 1)).toNat < ((↑x.1.length : Int) - g.2.2.1).toNat) ∧
 ((True ∧
 True) ∧
 (True ∧
 True) ∧
 True ∧
 x.1 = x.1 ∧
 RR (↑x.1.length : Int) ∧
 g.2.2.1 + 1 = g.2.2.1 + 1 ∧
 True) ∧
 ((g.1.1.1 = g.1.1.1 ∧
 RR g.1.1.2.1 ∧
 RR g.1.1.2.2.1 ∧
 RR g.1.1.2.2.2 ∧
 True ∧
 RR g.1.2.2.1 ∧
 True ∧
 RR ((Tty.keyR (g.1.2.2.2.2.1.1, g.1.2.2.2.2.1.2) (g.1.2.2.2.1.getD (nat_lit 0) (0 : Int))).1.1) ∧
 RR ((Tty.keyR (g.1.2.2.2.2.1.1, g.1.2.2.2.2.1.2) (g.1.2.2.2.1.getD (nat_lit 0) (0 : Int))).1.2) ∧
 RR g.1.2.2.2.2.2 ∧
 True) ∧
 g.1.2.1 = g.1.2.1 ∧
 RR (List.drop (Int.toNat (1 : Int)) (List.take (↑g.1.2.2.2.1.length : Int).toNat g.1.2.2.2.1)) ∧
 g.2.1 ++ (((0 : Int), ([] : List Int)) :: ([] : List (Int × List Int))).set (0 : Nat) ((0 : Int), ([] : List Int)) = g.2.1 ++ (((0 : Int), ([] : List Int)) :: ([] : List (Int × List Int))).set (0 : Nat) ((0 : Int), ([] : List Int)) ∧
 (RR (Value.slice none (0 : Nat) (0 : Nat)) ∧
 RR (Value.slice none (0 : Nat) (0 : Nat)) ∧
 RR (Value.slice none (0 : Nat) (0 : Nat)) ∧
 RR (Value.slice none (0 : Nat) (0 : Nat)) ∧
 RR (0 : Int) ∧
 RR (0 : Int) ∧
 True) ∧
 True) ∧
 True) ∧
 (((Tty.keyR (g.1.2.2.2.2.1.1, g.1.2.2.2.2.1.2) (g.1.2.2.2.1.getD (nat_lit 0) (0 : Int))).2.1 == 0) = false →
 (((0 : Int) ≤ (1 : Int) ∧
 1 ≤ (↑g.1.2.2.2.1.length : Int)) ∧
 (↑g.1.2.2.2.1.length : Int) ≤ (↑g.1.2.2.2.1.length : Int)) ∧
 (g.2.1.length + ((((0 : Int), ([] : List Int)) :: ([] : List (Int × List Int))).set (0 : Nat) ((0 : Int), ([] : List Int))).length ≤ (9223372036854775807 : Nat) ∧
 (g.2.1.length + ((((0 : Int), ([] : List Int)) :: ([] : List (Int × List Int))).set (0 : Nat) ((0 : Int), ([] : List Int))).length + (g.2.1.length + ((((0 : Int), ([] : List Int)) :: ([] : List (Int × List Int))).set (0 : Nat) ((0 : Int), ([] : List Int))).length) / (4 : Nat) + (192 : Nat)) * (32 : Nat) ≤ (281474976710656 : Nat)) ∧
 (-9223372036854775808 ≤ g.2.2.1 + 1 ∧
 g.2.2.1 + 1 ≤ (9223372036854775807 : Int)) ∧
 ((0 ≤ g.2.2.1 + 1 ∧
 g.2.2.1 + 1 ≤ (↑x.1.length : Int) ∧
 (((g.1.1.1, g.1.1.2.1, g.1.1.2.2.1, g.1.1.2.2.2), g.1.2.1, g.1.2.2.1, List.drop (Int.toNat (1 : Int)) (List.take (↑g.1.2.2.2.1.length : Int).toNat g.1.2.2.2.1), (g.1.2.2.2.2.1.1, g.1.2.2.2.2.1.2), g.1.2.2.2.2.2), g.2.1 ++ (((0 : Int), ([] : List Int)) :: ([] : List (Int × List Int))).set (0 : Nat) ((0 : Int), ([] : List Int))) = (wholeOf (ypl (List.take (g.2.2.1 + 1).toNat x.1)).1, (ypl (List.take (g.2.2.1 + 1).toNat x.1)).2)) ∧
 ((↑x.1.length : Int) - (g.2.2.1 + 1)).toNat < ((↑x.1.length : Int) - g.2.2.1).toNat) ∧
 ((True ∧
 True) ∧
 (True ∧
 True) ∧
 True ∧
 x.1 = x.1 ∧
 RR (↑x.1.length : Int) ∧
 g.2.2.1 + 1 = g.2.2.1 + 1 ∧
 True) ∧
 ((g.1.1.1 = g.1.1.1 ∧
 RR g.1.1.2.1 ∧
 RR g.1.1.2.2.1 ∧
 RR g.1.1.2.2.2 ∧
 True ∧
 RR g.1.2.2.1 ∧
 True ∧
 RR g.1.2.2.2.2.1.1 ∧
 RR g.1.2.2.2.2.1.2 ∧
 RR g.1.2.2.2.2.2 ∧
 True) ∧
 g.1.2.1 = g.1.2.1 ∧
 RR (List.drop (Int.toNat (1 : Int)) (List.take (↑g.1.2.2.2.1.length : Int).toNat g.1.2.2.2.1)) ∧
 g.2.1 ++ (((0 : Int), ([] : List Int)) :: ([] : List (Int × List Int))).set (0 : Nat) ((0 : Int), ([] : List Int)) = g.2.1 ++ (((0 : Int), ([] : List Int)) :: ([] : List (Int × List Int))).set (0 : Nat) ((0 : Int), ([] : List Int)) ∧
 (RR (Value.slice none (0 : Nat) (0 : Nat)) ∧
 RR (Value.slice none (0 : Nat) (0 : Nat)) ∧
 RR (Value.slice none (0 : Nat) (0 : Nat)) ∧
 RR (Value.slice none (0 : Nat) (0 : Nat)) ∧
 RR (0 : Int) ∧
 RR (0 : Int) ∧
 True) ∧
 True) ∧
 True)) ∧
 (decide (0 < (↑g.1.2.2.2.1.length : Int)) = false →
 (g.2.1.length + ((((0 : Int), ([] : List Int)) :: ([] : List (Int × List Int))).set (0 : Nat) ((7 : Int), ([] : List Int))).length ≤ (9223372036854775807 : Nat) ∧
 (g.2.1.length + ((((0 : Int), ([] : List Int)) :: ([] : List (Int × List Int))).set (0 : Nat) ((7 : Int), ([] : List Int))).length + (g.2.1.length + ((((0 : Int), ([] : List Int)) :: ([] : List (Int × List Int))).set (0 : Nat) ((7 : Int), ([] : List Int))).length) / (4 : Nat) + (192 : Nat)) * (32 : Nat) ≤ (281474976710656 : Nat)) ∧
 (-9223372036854775808 ≤ g.2.2.1 + 1 ∧
 g.2.2.1 + 1 ≤ (9223372036854775807 : Int)) ∧
 ((0 ≤ g.2.2.1 + 1 ∧
 g.2.2.1 + 1 ≤ (↑x.1.length : Int) ∧
 (((g.1.1.1, g.1.1.2.1, g.1.1.2.2.1, g.1.1.2.2.2), g.1.2.1, g.1.2.2.1, g.1.2.2.2.1, (g.1.2.2.2.2.1.1, g.1.2.2.2.2.1.2), g.1.2.2.2.2.2), g.2.1 ++ (((0 : Int), ([] : List Int)) :: ([] : List (Int × List Int))).set (0 : Nat) ((7 : Int), ([] : List Int))) = (wholeOf (ypl (List.take (g.2.2.1 + 1).toNat x.1)).1, (ypl (List.take (g.2.2.1 + 1).toNat x.1)).2)) ∧
 ((↑x.1.length : Int) - (g.2.2.1 + 1)).toNat < ((↑x.1.length : Int) - g.2.2.1).toNat) ∧
 ((True ∧
 True) ∧
 (True ∧
 True) ∧
 True ∧
 x.1 = x.1 ∧
 RR (↑x.1.length : Int) ∧
 g.2.2.1 + 1 = g.2.2.1 + 1 ∧
 True) ∧
 ((g.1.1.1 = g.1.1.1 ∧
 RR g.1.1.2.1 ∧
 RR g.1.1.2.2.1 ∧
 RR g.1.1.2.2.2 ∧
 True ∧
 RR g.1.2.2.1 ∧
 True ∧
 RR g.1.2.2.2.2.1.1 ∧
 RR g.1.2.2.2.2.1.2 ∧
 RR g.1.2.2.2.2.2 ∧
 True) ∧
 g.1.2.1 = g.1.2.1 ∧
 RR g.1.2.2.2.1 ∧
 g.2.1 ++ (((0 : Int), ([] : List Int)) :: ([] : List (Int × List Int))).set (0 : Nat) ((7 : Int), ([] : List Int)) = g.2.1 ++ (((0 : Int), ([] : List Int)) :: ([] : List (Int × List Int))).set (0 : Nat) ((7 : Int), ([] : List Int)) ∧
 (RR (Value.slice none (0 : Nat) (0 : Nat)) ∧
 RR (Value.slice none (0 : Nat) (0 : Nat)) ∧
 RR (Value.slice none (0 : Nat) (0 : Nat)) ∧
 RR (Value.slice none (0 : Nat) (0 : Nat)) ∧
 RR (0 : Int) ∧
 RR (0 : Int) ∧
 True) ∧
 True) ∧
 True))) ∧
 ((crAt g.1.2.2.1 (opAt x.1 g.2.2.1).2.1).2.1.1 = !true →
 (decide (0 < (↑g.1.2.2.2.1.length : Int)) = true →
 ((0 : Int) ≤ (0 : Int) ∧
 0 < (↑g.1.2.2.2.1.length : Int)) ∧
 Holds True ∧
 (((Tty.keyR (g.1.2.2.2.2.1.1, g.1.2.2.2.2.1.2) (g.1.2.2.2.1.getD (nat_lit 0) (0 : Int))).2.1 == 0) = true →
 (((0 : Int) ≤ (1 : Int) ∧
 1 ≤ (↑g.1.2.2.2.1.length : Int)) ∧
 (↑g.1.2.2.2.1.length : Int) ≤ (↑g.1.2.2.2.1.length : Int)) ∧
 (g.2.1.length + ((((0 : Int), ([] : List Int)) :: ([] : List (Int × List Int))).set (0 : Nat) ((0 : Int), ([] : List Int))).length ≤ (9223372036854775807 : Nat) ∧
 (g.2.1.length + ((((0 : Int), ([] : List Int)) :: ([] : List (Int × List Int))).set (0 : Nat) ((0 : Int), ([] : List Int))).length + (g.2.1.length + ((((0 : Int), ([] : List Int)) :: ([] : List (Int × List Int))).set (0 : Nat) ((0 : Int), ([] : List Int))).length) / (4 : Nat) + (192 : Nat)) * (32 : Nat) ≤ (281474976710656 : Nat)) ∧
 (-9223372036854775808 ≤ g.2.2.1 + 1 ∧
 g.2.2.1 + 1 ≤ (9223372036854775807 : Int)) ∧
 ((0 ≤ g.2.2.1 + 1 ∧
 g.2.2.1 + 1 ≤ (↑x.1.length : Int) ∧
 (((g.1.1.1, g.1.1.2.1, g.1.1.2.2.1, g.1.1.2.2.2), g.1.2.1, g.1.2.2.1, List.drop (Int.toNat (1 : Int)) (List.take (↑g.1.2.2.2.1.length : Int).toNat g.1.2.2.2.1), ((Tty.keyR (g.1.2.2.2.2.1.1, g.1.2.2.2.2.1.2) (g.1.2.2.2.1.getD (nat_lit 0) (0 : Int))).1.1, (Tty.keyR (g.1.2.2.2.2.1.1, g.1.2.2.2.2.1.2) (g.1.2.2.2.1.getD (nat_lit 0) (0 : Int))).1.2), g.1.2.2.2.2.2), g.2.1 ++ (((0 : Int), ([] : List Int)) :: ([] : List (Int × List Int))).set (0 : Nat) ((0 : Int), ([] : List Int))) = (wholeOf (ypl (List.take (g.2.2.1 + 1).toNat x.1)).1, (ypl (List.take (g.2.2.1 + 1).toNat x.1)).2)) ∧
 ((↑x.1.length : Int) - (g.2.2.1 + 1)).toNat < ((↑x.1.length : Int) - g.2.2.1).toNat) ∧
 ((True ∧
 True) ∧
 (True ∧
 True) ∧
 True ∧
 x.1 = x.1 ∧
 RR (↑x.1.length : Int) ∧
 g.2.2.1 + 1 = g.2.2.1 + 1 ∧
 True) ∧
 ((g.1.1.1 = g.1.1.1 ∧
 RR g.1.1.2.1 ∧
 RR g.1.1.2.2.1 ∧
 RR g.1.1.2.2.2 ∧
 True ∧
 RR g.1.2.2.1 ∧
 True ∧
 RR ((Tty.keyR (g.1.2.2.2.2.1.1, g.1.2.2.2.2.1.2) (g.1.2.2.2.1.getD (nat_lit 0) (0 : Int))).1.1) ∧
 RR ((Tty.keyR (g.1.2.2.2.2.1.1, g.1.2.2.2.2.1.2) (g.1.2.2.2.1.getD (nat_lit 0) (0 : Int))).1.2) ∧
 RR g.1.2.2.2.2.2 ∧
 True) ∧
 g.1.2.1 = g.1.2.1 ∧
 RR (List.drop (Int.toNat (1 : Int)) (List.take (↑g.1.2.2.2.1.length : Int).toNat g.1.2.2.2.1)) ∧
 g.2.1 ++ (((0 : Int), ([] : List Int)) :: ([] : List (Int × List Int))).set (0 : Nat) ((0 : Int), ([] : List Int)) = g.2.1 ++ (((0 : Int), ([] : List Int)) :: ([] : List (Int × List Int))).set (0 : Nat) ((0 : Int), ([] : List Int)) ∧
 (RR (Value.slice none (0 : Nat) (0 : Nat)) ∧
 RR (Value.slice none (0 : Nat) (0 : Nat)) ∧
 RR (Value.slice none (0 : Nat) (0 : Nat)) ∧
 RR (Value.slice none (0 : Nat) (0 : Nat)) ∧
 RR (0 : Int) ∧
 RR (0 : Int) ∧
 True) ∧
 True) ∧
 True) ∧
 (((Tty.keyR (g.1.2.2.2.2.1.1, g.1.2.2.2.2.1.2) (g.1.2.2.2.1.getD (nat_lit 0) (0 : Int))).2.1 == 0) = false →
 (((0 : Int) ≤ (1 : Int) ∧
 1 ≤ (↑g.1.2.2.2.1.length : Int)) ∧
 (↑g.1.2.2.2.1.length : Int) ≤ (↑g.1.2.2.2.1.length : Int)) ∧
 (g.2.1.length + ((((0 : Int), ([] : List Int)) :: ([] : List (Int × List Int))).set (0 : Nat) ((0 : Int), ([] : List Int))).length ≤ (9223372036854775807 : Nat) ∧
 (g.2.1.length + ((((0 : Int), ([] : List Int)) :: ([] : List (Int × List Int))).set (0 : Nat) ((0 : Int), ([] : List Int))).length + (g.2.1.length + ((((0 : Int), ([] : List Int)) :: ([] : List (Int × List Int))).set (0 : Nat) ((0 : Int), ([] : List Int))).length) / (4 : Nat) + (192 : Nat)) * (32 : Nat) ≤ (281474976710656 : Nat)) ∧
 (-9223372036854775808 ≤ g.2.2.1 + 1 ∧
 g.2.2.1 + 1 ≤ (9223372036854775807 : Int)) ∧
 ((0 ≤ g.2.2.1 + 1 ∧
 g.2.2.1 + 1 ≤ (↑x.1.length : Int) ∧
 (((g.1.1.1, g.1.1.2.1, g.1.1.2.2.1, g.1.1.2.2.2), g.1.2.1, g.1.2.2.1, List.drop (Int.toNat (1 : Int)) (List.take (↑g.1.2.2.2.1.length : Int).toNat g.1.2.2.2.1), (g.1.2.2.2.2.1.1, g.1.2.2.2.2.1.2), g.1.2.2.2.2.2), g.2.1 ++ (((0 : Int), ([] : List Int)) :: ([] : List (Int × List Int))).set (0 : Nat) ((0 : Int), ([] : List Int))) = (wholeOf (ypl (List.take (g.2.2.1 + 1).toNat x.1)).1, (ypl (List.take (g.2.2.1 + 1).toNat x.1)).2)) ∧
 ((↑x.1.length : Int) - (g.2.2.1 + 1)).toNat < ((↑x.1.length : Int) - g.2.2.1).toNat) ∧
 ((True ∧
 True) ∧
 (True ∧
 True) ∧
 True ∧
 x.1 = x.1 ∧
 RR (↑x.1.length : Int) ∧
 g.2.2.1 + 1 = g.2.2.1 + 1 ∧
 True) ∧
 ((g.1.1.1 = g.1.1.1 ∧
 RR g.1.1.2.1 ∧
 RR g.1.1.2.2.1 ∧
 RR g.1.1.2.2.2 ∧
 True ∧
 RR g.1.2.2.1 ∧
 True ∧
 RR g.1.2.2.2.2.1.1 ∧
 RR g.1.2.2.2.2.1.2 ∧
 RR g.1.2.2.2.2.2 ∧
 True) ∧
 g.1.2.1 = g.1.2.1 ∧
 RR (List.drop (Int.toNat (1 : Int)) (List.take (↑g.1.2.2.2.1.length : Int).toNat g.1.2.2.2.1)) ∧
 g.2.1 ++ (((0 : Int), ([] : List Int)) :: ([] : List (Int × List Int))).set (0 : Nat) ((0 : Int), ([] : List Int)) = g.2.1 ++ (((0 : Int), ([] : List Int)) :: ([] : List (Int × List Int))).set (0 : Nat) ((0 : Int), ([] : List Int)) ∧
 (RR (Value.slice none (0 : Nat) (0 : Nat)) ∧
 RR (Value.slice none (0 : Nat) (0 : Nat)) ∧
 RR (Value.slice none (0 : Nat) (0 : Nat)) ∧
 RR (Value.slice none (0 : Nat) (0 : Nat)) ∧
 RR (0 : Int) ∧
 RR (0 : Int) ∧
 True) ∧
 True) ∧
 True)) ∧
 (decide (0 < (↑g.1.2.2.2.1.length : Int)) = false →
 (g.2.1.length + ((((0 : Int), ([] : List Int)) :: ([] : List (Int × List Int))).set (0 : Nat) ((7 : Int), ([] : List Int))).length ≤ (9223372036854775807 : Nat) ∧
 (g.2.1.length + ((((0 : Int), ([] : List Int)) :: ([] : List (Int × List Int))).set (0 : Nat) ((7 : Int), ([] : List Int))).length + (g.2.1.length + ((((0 : Int), ([] : List Int)) :: ([] : List (Int × List Int))).set (0 : Nat) ((7 : Int), ([] : List Int))).length) / (4 : Nat) + (192 : Nat)) * (32 : Nat) ≤ (281474976710656 : Nat)) ∧
 (-9223372036854775808 ≤ g.2.2.1 + 1 ∧
 g.2.2.1 + 1 ≤ (9223372036854775807 : Int)) ∧
 ((0 ≤ g.2.2.1 + 1 ∧
 g.2.2.1 + 1 ≤ (↑x.1.length : Int) ∧
 (((g.1.1.1, g.1.1.2.1, g.1.1.2.2.1, g.1.1.2.2.2), g.1.2.1, g.1.2.2.1, g.1.2.2.2.1, (g.1.2.2.2.2.1.1, g.1.2.2.2.2.1.2), g.1.2.2.2.2.2), g.2.1 ++ (((0 : Int), ([] : List Int)) :: ([] : List (Int × List Int))).set (0 : Nat) ((7 : Int), ([] : List Int))) = (wholeOf (ypl (List.take (g.2.2.1 + 1).toNat x.1)).1, (ypl (List.take (g.2.2.1 + 1).toNat x.1)).2)) ∧
 ((↑x.1.length : Int) - (g.2.2.1 + 1)).toNat < ((↑x.1.length : Int) - g.2.2.1).toNat) ∧
 ((True ∧
 True) ∧
 (True ∧
 True) ∧
 True ∧
 x.1 = x.1 ∧
 RR (↑x.1.length : Int) ∧
 g.2.2.1 + 1 = g.2.2.1 + 1 ∧
 True) ∧
 ((g.1.1.1 = g.1.1.1 ∧
 RR g.1.1.2.1 ∧
 RR g.1.1.2.2.1 ∧
 RR g.1.1.2.2.2 ∧
 True ∧
 RR g.1.2.2.1 ∧
 True ∧
 RR g.1.2.2.2.2.1.1 ∧
 RR g.1.2.2.2.2.1.2 ∧
 RR g.1.2.2.2.2.2 ∧
 True) ∧
 g.1.2.1 = g.1.2.1 ∧
 RR g.1.2.2.2.1 ∧
 g.2.1 ++ (((0 : Int), ([] : List Int)) :: ([] : List (Int × List Int))).set (0 : Nat) ((7 : Int), ([] : List Int)) = g.2.1 ++ (((0 : Int), ([] : List Int)) :: ([] : List (Int × List Int))).set (0 : Nat) ((7 : Int), ([] : List Int)) ∧
 (RR (Value.slice none (0 : Nat) (0 : Nat)) ∧
 RR (Value.slice none (0 : Nat) (0 : Nat)) ∧
 RR (Value.slice none (0 : Nat) (0 : Nat)) ∧
 RR (Value.slice none (0 : Nat) (0 : Nat)) ∧
 RR (0 : Int) ∧
 RR (0 : Int) ∧
 True) ∧
 True) ∧
 True))))) ∧
 ((g_1.1 == 2) = false →
 ((g_1.1 == 3) = true →
 Holds True ∧
 (((Tty.readT (g.1.2.2.2.2.1.1, g.1.2.2.2.2.1.2) (opAt x.1 g.2.2.1).2.2.1).2.2.1 == 0) = true →
 (g.2.1.length + ((((0 : Int), ([] : List Int)) :: ([] : List (Int × List Int))).set (0 : Nat) ((Tty.readT (g.1.2.2.2.2.1.1, g.1.2.2.2.2.1.2) (opAt x.1 g.2.2.1).2.2.1).2.2.1, (Tty.readT (g.1.2.2.2.2.1.1, g.1.2.2.2.2.1.2) (opAt x.1 g.2.2.1).2.2.1).2.1)).length ≤ (9223372036854775807 : Nat) ∧
 (g.2.1.length + ((((0 : Int), ([] : List Int)) :: ([] : List (Int × List Int))).set (0 : Nat) ((Tty.readT (g.1.2.2.2.2.1.1, g.1.2.2.2.2.1.2) (opAt x.1 g.2.2.1).2.2.1).2.2.1, (Tty.readT (g.1.2.2.2.2.1.1, g.1.2.2.2.2.1.2) (opAt x.1 g.2.2.1).2.2.1).2.1)).length + (g.2.1.length + ((((0 : Int), ([] : List Int)) :: ([] : List (Int × List Int))).set (0 : Nat) ((Tty.readT (g.1.2.2.2.2.1.1, g.1.2.2.2.2.1.2) (opAt x.1 g.2.2.1).2.2.1).2.2.1, (Tty.readT (g.1.2.2.2.2.1.1, g.1.2.2.2.2.1.2) (opAt x.1 g.2.2.1).2.2.1).2.1)).length) / (4 : Nat) + (192 : Nat)) * (32 : Nat) ≤ (281474976710656 : Nat)) ∧
 (-9223372036854775808 ≤ g.2.2.1 + 1 ∧
 g.2.2.1 + 1 ≤ (9223372036854775807 : Int)) ∧
 ((0 ≤ g.2.2.1 + 1 ∧
 g.2.2.1 + 1 ≤ (↑x.1.length : Int) ∧
 (((g.1.1.1, g.1.1.2.1, g.1.1.2.2.1, g.1.1.2.2.2), g.1.2.1, g.1.2.2.1, g.1.2.2.2.1, ((Tty.readT (g.1.2.2.2.2.1.1, g.1.2.2.2.2.1.2) (opAt x.1 g.2.2.1).2.2.1).1.1, (Tty.readT (g.1.2.2.2.2.1.1, g.1.2.2.2.2.1.2) (opAt x.1 g.2.2.1).2.2.1).1.2), g.1.2.2.2.2.2), g.2.1 ++ (((0 : Int), ([] : List Int)) :: ([] : List (Int × List Int))).set (0 : Nat) ((Tty.readT (g.1.2.2.2.2.1.1, g.1.2.2.2.2.1.2) (opAt x.1 g.2.2.1).2.2.1).2.2.1, (Tty.readT (g.1.2.2.2.2.1.1, g.1.2.2.2.2.1.2) (opAt x.1 g.2.2.1).2.2.1).2.1)) = (wholeOf (ypl (List.take (g.2.2.1 + 1).toNat x.1)).1, (ypl (List.take (g.2.2.1 + 1).toNat x.1)).2)) ∧
 ((↑x.1.length : Int) - (g.2.2.1 + 1)).toNat < ((↑x.1.length : Int) - g.2.2.1).toNat) ∧
 ((True ∧
 True) ∧
 (True ∧
 True) ∧
 True ∧
 x.1 = x.1 ∧
 RR (↑x.1.length : Int) ∧
 g.2.2.1 + 1 = g.2.2.1 + 1 ∧
 True) ∧
 ((g.1.1.1 = g.1.1.1 ∧
 RR g.1.1.2.1 ∧
 RR g.1.1.2.2.1 ∧
 RR g.1.1.2.2.2 ∧
 True ∧
 RR g.1.2.2.1 ∧
 True ∧
 RR ((Tty.readT (g.1.2.2.2.2.1.1, g.1.2.2.2.2.1.2) (opAt x.1 g.2.2.1).2.2.1).1.1) ∧
 RR ((Tty.readT (g.1.2.2.2.2.1.1, g.1.2.2.2.2.1.2) (opAt x.1 g.2.2.1).2.2.1).1.2) ∧
 RR g.1.2.2.2.2.2 ∧
 True) ∧
 g.1.2.1 = g.1.2.1 ∧
 RR g.1.2.2.2.1 ∧
 g.2.1 ++ (((0 : Int), ([] : List Int)) :: ([] : List (Int × List Int))).set (0 : Nat) ((Tty.readT (g.1.2.2.2.2.1.1, g.1.2.2.2.2.1.2) (opAt x.1 g.2.2.1).2.2.1).2.2.1, (Tty.readT (g.1.2.2.2.2.1.1, g.1.2.2.2.2.1.2) (opAt x.1 g.2.2.1).2.2.1).2.1) = g.2.1 ++ (((0 : Int), ([] : List Int)) :: ([] : List (Int × List Int))).set (0 : Nat) ((Tty.readT (g.1.2.2.2.2.1.1, g.1.2.2.2.2.1.2) (opAt x.1 g.2.2.1).2.2.1).2.2.1, (Tty.readT (g.1.2.2.2.2.1.1, g.1.2.2.2.2.1.2) (opAt x.1 g.2.2.1).2.2.1).2.1) ∧
 (RR (Value.slice none (0 : Nat) (0 : Nat)) ∧
 RR (Value.slice none (0 : Nat) (0 : Nat)) ∧
 RR (Value.slice none (0 : Nat) (0 : Nat)) ∧
 RR (Value.slice none (0 : Nat) (0 : Nat)) ∧
 RR (0 : Int) ∧
 RR (0 : Int) ∧
 True) ∧
 True) ∧
 True) ∧
 (((Tty.readT (g.1.2.2.2.2.1.1, g.1.2.2.2.2.1.2) (opAt x.1 g.2.2.1).2.2.1).2.2.1 == 0) = false →
 (g.2.1.length + ((((0 : Int), ([] : List Int)) :: ([] : List (Int × List Int))).set (0 : Nat) ((Tty.readT (g.1.2.2.2.2.1.1, g.1.2.2.2.2.1.2) (opAt x.1 g.2.2.1).2.2.1).2.2.1, (Tty.readT (g.1.2.2.2.2.1.1, g.1.2.2.2.2.1.2) (opAt x.1 g.2.2.1).2.2.1).2.1)).length ≤ (9223372036854775807 : Nat) ∧
 (g.2.1.length + ((((0 : Int), ([] : List Int)) :: ([] : List (Int × List Int))).set (0 : Nat) ((Tty.readT (g.1.2.2.2.2.1.1, g.1.2.2.2.2.1.2) (opAt x.1 g.2.2.1).2.2.1).2.2.1, (Tty.readT (g.1.2.2.2.2.1.1, g.1.2.2.2.2.1.2) (opAt x.1 g.2.2.1).2.2.1).2.1)).length + (g.2.1.length + ((((0 : Int), ([] : List Int)) :: ([] : List (Int × List Int))).set (0 : Nat) ((Tty.readT (g.1.2.2.2.2.1.1, g.1.2.2.2.2.1.2) (opAt x.1 g.2.2.1).2.2.1).2.2.1, (Tty.readT (g.1.2.2.2.2.1.1, g.1.2.2.2.2.1.2) (opAt x.1 g.2.2.1).2.2.1).2.1)).length) / (4 : Nat) + (192 : Nat)) * (32 : Nat) ≤ (281474976710656 : Nat)) ∧
 (-9223372036854775808 ≤ g.2.2.1 + 1 ∧
 g.2.2.1 + 1 ≤ (9223372036854775807 : Int)) ∧
 ((0 ≤ g.2.2.1 + 1 ∧
 g.2.2.1 + 1 ≤ (↑x.1.length : Int) ∧
 (((g.1.1.1, g.1.1.2.1, g.1.1.2.2.1, g.1.1.2.2.2), g.1.2.1, g.1.2.2.1, g.1.2.2.2.1, (g.1.2.2.2.2.1.1, g.1.2.2.2.2.1.2), g.1.2.2.2.2.2), g.2.1 ++ (((0 : Int), ([] : List Int)) :: ([] : List (Int × List Int))).set (0 : Nat) ((Tty.readT (g.1.2.2.2.2.1.1, g.1.2.2.2.2.1.2) (opAt x.1 g.2.2.1).2.2.1).2.2.1, (Tty.readT (g.1.2.2.2.2.1.1, g.1.2.2.2.2.1.2) (opAt x.1 g.2.2.1).2.2.1).2.1)) = (wholeOf (ypl (List.take (g.2.2.1 + 1).toNat x.1)).1, (ypl (List.take (g.2.2.1 + 1).toNat x.1)).2)) ∧
 ((↑x.1.length : Int) - (g.2.2.1 + 1)).toNat < ((↑x.1.length : Int) - g.2.2.1).toNat) ∧
 ((True ∧
 True) ∧
 (True ∧
 True) ∧
 True ∧
 x.1 = x.1 ∧
 RR (↑x.1.length : Int) ∧
 g.2.2.1 + 1 = g.2.2.1 + 1 ∧
 True) ∧
 ((g.1.1.1 = g.1.1.1 ∧
 RR g.1.1.2.1 ∧
 RR g.1.1.2.2.1 ∧
 RR g.1.1.2.2.2 ∧
 True ∧
 RR g.1.2.2.1 ∧
 True ∧
 RR g.1.2.2.2.2.1.1 ∧
 RR g.1.2.2.2.2.1.2 ∧
 RR g.1.2.2.2.2.2 ∧
 True) ∧
 g.1.2.1 = g.1.2.1 ∧
 RR g.1.2.2.2.1 ∧
 g.2.1 ++ (((0 : Int), ([] : List Int)) :: ([] : List (Int × List Int))).set (0 : Nat) ((Tty.readT (g.1.2.2.2.2.1.1, g.1.2.2.2.2.1.2) (opAt x.1 g.2.2.1).2.2.1).2.2.1, (Tty.readT (g.1.2.2.2.2.1.1, g.1.2.2.2.2.1.2) (opAt x.1 g.2.2.1).2.2.1).2.1) = g.2.1 ++ (((0 : Int), ([] : List Int)) :: ([] : List (Int × List Int))).set (0 : Nat) ((Tty.readT (g.1.2.2.2.2.1.1, g.1.2.2.2.2.1.2) (opAt x.1 g.2.2.1).2.2.1).2.2.1, (Tty.readT (g.1.2.2.2.2.1.1, g.1.2.2.2.2.1.2) (opAt x.1 g.2.2.1).2.2.1).2.1) ∧
 (RR (Value.slice none (0 : Nat) (0 : Nat)) ∧
 RR (Value.slice none (0 : Nat) (0 : Nat)) ∧
 RR (Value.slice none (0 : Nat) (0 : Nat)) ∧
 RR (Value.slice none (0 : Nat) (0 : Nat)) ∧
 RR (0 : Int) ∧
 RR (0 : Int) ∧
 True) ∧
 True) ∧
 True)) ∧
 ((g_1.1 == 3) = false →
 ((g_1.1 == 4) = true →
 (0 ≤ (opAt x.1 g.2.2.1).2.1 ∧
 (opAt x.1 g.2.2.1).2.1 < (↑(2 : Nat) : Int)) ∧
 ((crAt g.1.2.2.1 (opAt x.1 g.2.2.1).2.1).2.2 = true →
 (g.2.1.length + ((((0 : Int), ([] : List Int)) :: ([] : List (Int × List Int))).set (0 : Nat) ((6 : Int), ([] : List Int))).length ≤ (9223372036854775807 : Nat) ∧
 (g.2.1.length + ((((0 : Int), ([] : List Int)) :: ([] : List (Int × List Int))).set (0 : Nat) ((6 : Int), ([] : List Int))).length + (g.2.1.length + ((((0 : Int), ([] : List Int)) :: ([] : List (Int × List Int))).set (0 : Nat) ((6 : Int), ([] : List Int))).length) / (4 : Nat) + (192 : Nat)) * (32 : Nat) ≤ (281474976710656 : Nat)) ∧
 (-9223372036854775808 ≤ g.2.2.1 + 1 ∧
 g.2.2.1 + 1 ≤ (9223372036854775807 : Int)) ∧
 ((0 ≤ g.2.2.1 + 1 ∧
 g.2.2.1 + 1 ≤ (↑x.1.length : Int) ∧
 (((g.1.1.1, g.1.1.2.1, g.1.1.2.2.1, g.1.1.2.2.2), g.1.2.1, g.1.2.2.1, g.1.2.2.2.1, (g.1.2.2.2.2.1.1, g.1.2.2.2.2.1.2), g.1.2.2.2.2.2), g.2.1 ++ (((0 : Int), ([] : List Int)) :: ([] : List (Int × List Int))).set (0 : Nat) ((6 : Int), ([] : List Int))) = (wholeOf (ypl (List.take (g.2.2.1 + 1).toNat x.1)).1, (ypl (List.take (g.2.2.1 + 1).toNat x.1)).2)) ∧
 ((↑x.1.length : Int) - (g.2.2.1 + 1)).toNat < ((↑x.1.length : Int) - g.2.2.1).toNat) ∧
 ((True ∧
 True) ∧
 (True ∧
 True) ∧
 True ∧
 x.1 = x.1 ∧
 RR (↑x.1.length : Int) ∧
 g.2.2.1 + 1 = g.2.2.1 + 1 ∧
 True) ∧
 ((g.1.1.1 = g.1.1.1 ∧
 RR g.1.1.2.1 ∧
 RR g.1.1.2.2.1 ∧
 RR g.1.1.2.2.2 ∧
 True ∧
 RR g.1.2.2.1 ∧
 True ∧
 RR g.1.2.2.2.2.1.1 ∧
 RR g.1.2.2.2.2.1.2 ∧
 RR g.1.2.2.2.2.2 ∧
 True) ∧
 g.1.2.1 = g.1.2.1 ∧
 RR g.1.2.2.2.1 ∧
 g.2.1 ++ (((0 : Int), ([] : List Int)) :: ([] : List (Int × List Int))).set (0 : Nat) ((6 : Int), ([] : List Int)) = g.2.1 ++ (((0 : Int), ([] : List Int)) :: ([] : List (Int × List Int))).set (0 : Nat) ((6 : Int), ([] : List Int)) ∧
 (RR (Value.slice none (0 : Nat) (0 : Nat)) ∧
 RR (Value.slice none (0 : Nat) (0 : Nat)) ∧
 RR (Value.slice none (0 : Nat) (0 : Nat)) ∧
 RR (Value.slice none (0 : Nat) (0 : Nat)) ∧
 RR (0 : Int) ∧
 RR (0 : Int) ∧
 True) ∧
 True) ∧
 True) ∧
 ((crAt g.1.2.2.1 (opAt x.1 g.2.2.1).2.1).2.2 = false →
 Holds True ∧
 (((Nest.step ((crAt g.1.2.2.1 (opAt x.1 g.2.2.1).2.1).2.1.1, (crAt g.1.2.2.1 (opAt x.1 g.2.2.1).2.1).2.1.2) (mval (Ty.int IntKind.i64) (mput (Ty.int IntKind.i64) (mput (Ty.int IntKind.i64) ([] : List (Int × Int)) (4 : Int) (1 : Int)) (5 : Int) (2 : Int)) (opAt x.1 g.2.2.1).1)).2.1 == 0) = true →
 (g.2.1.length + ((((0 : Int), ([] : List Int)) :: ([] : List (Int × List Int))).set (0 : Nat) ((Nest.step ((crAt g.1.2.2.1 (opAt x.1 g.2.2.1).2.1).2.1.1, (crAt g.1.2.2.1 (opAt x.1 g.2.2.1).2.1).2.1.2) (mval (Ty.int IntKind.i64) (mput (Ty.int IntKind.i64) (mput (Ty.int IntKind.i64) ([] : List (Int × Int)) (4 : Int) (1 : Int)) (5 : Int) (2 : Int)) (opAt x.1 g.2.2.1).1)).2.1, ([] : List Int))).length ≤ (9223372036854775807 : Nat) ∧
 (g.2.1.length + ((((0 : Int), ([] : List Int)) :: ([] : List (Int × List Int))).set (0 : Nat) ((Nest.step ((crAt g.1.2.2.1 (opAt x.1 g.2.2.1).2.1).2.1.1, (crAt g.1.2.2.1 (opAt x.1 g.2.2.1).2.1).2.1.2) (mval (Ty.int IntKind.i64) (mput (Ty.int IntKind.i64) (mput (Ty.int IntKind.i64) ([] : List (Int × Int)) (4 : Int) (1 : Int)) (5 : Int) (2 : Int)) (opAt x.1 g.2.2.1).1)).2.1, ([] : List Int))).length + (g.2.1.length + ((((0 : Int), ([] : List Int)) :: ([] : List (Int × List Int))).set (0 : Nat) ((Nest.step ((crAt g.1.2.2.1 (opAt x.1 g.2.2.1).2.1).2.1.1, (crAt g.1.2.2.1 (opAt x.1 g.2.2.1).2.1).2.1.2) (mval (Ty.int IntKind.i64) (mput (Ty.int IntKind.i64) (mput (Ty.int IntKind.i64) ([] : List (Int × Int)) (4 : Int) (1 : Int)) (5 : Int) (2 : Int)) (opAt x.1 g.2.2.1).1)).2.1, ([] : List Int))).length) / (4 : Nat) + (192 : Nat)) * (32 : Nat) ≤ (281474976710656 : Nat)) ∧
 (-9223372036854775808 ≤ g.2.2.1 + 1 ∧
 g.2.2.1 + 1 ≤ (9223372036854775807 : Int)) ∧
 ((0 ≤ g.2.2.1 + 1 ∧
 g.2.2.1 + 1 ≤ (↑x.1.length : Int) ∧
 (((g.1.1.1, g.1.1.2.1, g.1.1.2.2.1, g.1.1.2.2.2), g.1.2.1, g.1.2.2.1.set (opAt x.1 g.2.2.1).2.1.toNat (((crAt g.1.2.2.1 (opAt x.1 g.2.2.1).2.1).1.1, (crAt g.1.2.2.1 (opAt x.1 g.2.2.1).2.1).1.2.1, (crAt g.1.2.2.1 (opAt x.1 g.2.2.1).2.1).1.2.2), ((Nest.step ((crAt g.1.2.2.1 (opAt x.1 g.2.2.1).2.1).2.1.1, (crAt g.1.2.2.1 (opAt x.1 g.2.2.1).2.1).2.1.2) (mval (Ty.int IntKind.i64) (mput (Ty.int IntKind.i64) (mput (Ty.int IntKind.i64) ([] : List (Int × Int)) (4 : Int) (1 : Int)) (5 : Int) (2 : Int)) (opAt x.1 g.2.2.1).1)).1.1, (Nest.step ((crAt g.1.2.2.1 (opAt x.1 g.2.2.1).2.1).2.1.1, (crAt g.1.2.2.1 (opAt x.1 g.2.2.1).2.1).2.1.2) (mval (Ty.int IntKind.i64) (mput (Ty.int IntKind.i64) (mput (Ty.int IntKind.i64) ([] : List (Int × Int)) (4 : Int) (1 : Int)) (5 : Int) (2 : Int)) (opAt x.1 g.2.2.1).1)).1.2), (crAt g.1.2.2.1 (opAt x.1 g.2.2.1).2.1).2.2), g.1.2.2.2.1, (g.1.2.2.2.2.1.1, g.1.2.2.2.2.1.2), g.1.2.2.2.2.2), g.2.1 ++ (((0 : Int), ([] : List Int)) :: ([] : List (Int × List Int))).set (0 : Nat) ((Nest.step ((crAt g.1.2.2.1 (opAt x.1 g.2.2.1).2.1).2.1.1, (crAt g.1.2.2.1 (opAt x.1 g.2.2.1).2.1).2.1.2) (mval (Ty.int IntKind.i64) (mput (Ty.int IntKind.i64) (mput (Ty.int IntKind.i64) ([] : List (Int × Int)) (4 : Int) (1 : Int)) (5 : Int) (2 : Int)) (opAt x.1 g.2.2.1).1)).2.1, ([] : List Int))) = (wholeOf (ypl (List.take (g.2.2.1 + 1).toNat x.1)).1, (ypl (List.take (g.2.2.1 + 1).toNat x.1)).2)) ∧
 ((↑x.1.length : Int) - (g.2.2.1 + 1)).toNat < ((↑x.1.length : Int) - g.2.2.1).toNat) ∧
 ((True ∧
 True) ∧
 (True ∧
 True) ∧
 True ∧
 x.1 = x.1 ∧
 RR (↑x.1.length : Int) ∧
 g.2.2.1 + 1 = g.2.2.1 + 1 ∧
 True) ∧
 ((g.1.1.1 = g.1.1.1 ∧
 RR g.1.1.2.1 ∧
 RR g.1.1.2.2.1 ∧
 RR g.1.1.2.2.2 ∧
 True ∧
 g.1.2.2.1.set (opAt x.1 g.2.2.1).2.1.toNat (((crAt g.1.2.2.1 (opAt x.1 g.2.2.1).2.1).1.1, (crAt g.1.2.2.1 (opAt x.1 g.2.2.1).2.1).1.2.1, (crAt g.1.2.2.1 (opAt x.1 g.2.2.1).2.1).1.2.2), ((Nest.step ((crAt g.1.2.2.1 (opAt x.1 g.2.2.1).2.1).2.1.1, (crAt g.1.2.2.1 (opAt x.1 g.2.2.1).2.1).2.1.2) (mval (Ty.int IntKind.i64) (mput (Ty.int IntKind.i64) (mput (Ty.int IntKind.i64) ([] : List (Int × Int)) (4 : Int) (1 : Int)) (5 : Int) (2 : Int)) (opAt x.1 g.2.2.1).1)).1.1, (Nest.step ((crAt g.1.2.2.1 (opAt x.1 g.2.2.1).2.1).2.1.1, (crAt g.1.2.2.1 (opAt x.1 g.2.2.1).2.1).2.1.2) (mval (Ty.int IntKind.i64) (mput (Ty.int IntKind.i64) (mput (Ty.int IntKind.i64) ([] : List (Int × Int)) (4 : Int) (1 : Int)) (5 : Int) (2 : Int)) (opAt x.1 g.2.2.1).1)).1.2), (crAt g.1.2.2.1 (opAt x.1 g.2.2.1).2.1).2.2) = g.1.2.2.1.set (opAt x.1 g.2.2.1).2.1.toNat (((crAt g.1.2.2.1 (opAt x.1 g.2.2.1).2.1).1.1, (crAt g.1.2.2.1 (opAt x.1 g.2.2.1).2.1).1.2.1, (crAt g.1.2.2.1 (opAt x.1 g.2.2.1).2.1).1.2.2), ((Nest.step ((crAt g.1.2.2.1 (opAt x.1 g.2.2.1).2.1).2.1.1, (crAt g.1.2.2.1 (opAt x.1 g.2.2.1).2.1).2.1.2) (mval (Ty.int IntKind.i64) (mput (Ty.int IntKind.i64) (mput (Ty.int IntKind.i64) ([] : List (Int × Int)) (4 : Int) (1 : Int)) (5 : Int) (2 : Int)) (opAt x.1 g.2.2.1).1)).1.1, (Nest.step ((crAt g.1.2.2.1 (opAt x.1 g.2.2.1).2.1).2.1.1, (crAt g.1.2.2.1 (opAt x.1 g.2.2.1).2.1).2.1.2) (mval (Ty.int IntKind.i64) (mput (Ty.int IntKind.i64) (mput (Ty.int IntKind.i64) ([] : List (Int × Int)) (4 : Int) (1 : Int)) (5 : Int) (2 : Int)) (opAt x.1 g.2.2.1).1)).1.2), (crAt g.1.2.2.1 (opAt x.1 g.2.2.1).2.1).2.2) ∧
 True ∧
 RR g.1.2.2.2.2.1.1 ∧
 RR g.1.2.2.2.2.1.2 ∧
 RR g.1.2.2.2.2.2 ∧
 True) ∧
 g.1.2.1 = g.1.2.1 ∧
 RR g.1.2.2.2.1 ∧
 g.2.1 ++ (((0 : Int), ([] : List Int)) :: ([] : List (Int × List Int))).set (0 : Nat) ((Nest.step ((crAt g.1.2.2.1 (opAt x.1 g.2.2.1).2.1).2.1.1, (crAt g.1.2.2.1 (opAt x.1 g.2.2.1).2.1).2.1.2) (mval (Ty.int IntKind.i64) (mput (Ty.int IntKind.i64) (mput (Ty.int IntKind.i64) ([] : List (Int × Int)) (4 : Int) (1 : Int)) (5 : Int) (2 : Int)) (opAt x.1 g.2.2.1).1)).2.1, ([] : List Int)) = g.2.1 ++ (((0 : Int), ([] : List Int)) :: ([] : List (Int × List Int))).set (0 : Nat) ((Nest.step ((crAt g.1.2.2.1 (opAt x.1 g.2.2.1).2.1).2.1.1, (crAt g.1.2.2.1 (opAt x.1 g.2.2.1).2.1).2.1.2) (mval (Ty.int IntKind.i64) (mput (Ty.int IntKind.i64) (mput (Ty.int IntKind.i64) ([] : List (Int × Int)) (4 : Int) (1 : Int)) (5 : Int) (2 : Int)) (opAt x.1 g.2.2.1).1)).2.1, ([] : List Int)) ∧
 (RR (Value.slice none (0 : Nat) (0 : Nat)) ∧
 RR (Value.slice none (0 : Nat) (0 : Nat)) ∧
 RR (Value.slice none (0 : Nat) (0 : Nat)) ∧
 RR (Value.slice none (0 : Nat) (0 : Nat)) ∧
 RR (0 : Int) ∧
 RR (0 : Int) ∧
 True) ∧
 True) ∧
 True) ∧
 (((Nest.step ((crAt g.1.2.2.1 (opAt x.1 g.2.2.1).2.1).2.1.1, (crAt g.1.2.2.1 (opAt x.1 g.2.2.1).2.1).2.1.2) (mval (Ty.int IntKind.i64) (mput (Ty.int IntKind.i64) (mput (Ty.int IntKind.i64) ([] : List (Int × Int)) (4 : Int) (1 : Int)) (5 : Int) (2 : Int)) (opAt x.1 g.2.2.1).1)).2.1 == 0) = false →
 (g.2.1.length + ((((0 : Int), ([] : List Int)) :: ([] : List (Int × List Int))).set (0 : Nat) ((Nest.step ((crAt g.1.2.2.1 (opAt x.1 g.2.2.1).2.1).2.1.1, (crAt g.1.2.2.1 (opAt x.1 g.2.2.1).2.1).2.1.2) (mval (Ty.int IntKind.i64) (mput (Ty.int IntKind.i64) (mput (Ty.int IntKind.i64) ([] : List (Int × Int)) (4 : Int) (1 : Int)) (5 : Int) (2 : Int)) (opAt x.1 g.2.2.1).1)).2.1, ([] : List Int))).length ≤ (9223372036854775807 : Nat) ∧
 (g.2.1.length + ((((0 : Int), ([] : List Int)) :: ([] : List (Int × List Int))).set (0 : Nat) ((Nest.step ((crAt g.1.2.2.1 (opAt x.1 g.2.2.1).2.1).2.1.1, (crAt g.1.2.2.1 (opAt x.1 g.2.2.1).2.1).2.1.2) (mval (Ty.int IntKind.i64) (mput (Ty.int IntKind.i64) (mput (Ty.int IntKind.i64) ([] : List (Int × Int)) (4 : Int) (1 : Int)) (5 : Int) (2 : Int)) (opAt x.1 g.2.2.1).1)).2.1, ([] : List Int))).length + (g.2.1.length + ((((0 : Int), ([] : List Int)) :: ([] : List (Int × List Int))).set (0 : Nat) ((Nest.step ((crAt g.1.2.2.1 (opAt x.1 g.2.2.1).2.1).2.1.1, (crAt g.1.2.2.1 (opAt x.1 g.2.2.1).2.1).2.1.2) (mval (Ty.int IntKind.i64) (mput (Ty.int IntKind.i64) (mput (Ty.int IntKind.i64) ([] : List (Int × Int)) (4 : Int) (1 : Int)) (5 : Int) (2 : Int)) (opAt x.1 g.2.2.1).1)).2.1, ([] : List Int))).length) / (4 : Nat) + (192 : Nat)) * (32 : Nat) ≤ (281474976710656 : Nat)) ∧
 (-9223372036854775808 ≤ g.2.2.1 + 1 ∧
 g.2.2.1 + 1 ≤ (9223372036854775807 : Int)) ∧
 ((0 ≤ g.2.2.1 + 1 ∧
 g.2.2.1 + 1 ≤ (↑x.1.length : Int) ∧
 (((g.1.1.1, g.1.1.2.1, g.1.1.2.2.1, g.1.1.2.2.2), g.1.2.1, g.1.2.2.1, g.1.2.2.2.1, (g.1.2.2.2.2.1.1, g.1.2.2.2.2.1.2), g.1.2.2.2.2.2), g.2.1 ++ (((0 : Int), ([] : List Int)) :: ([] : List (Int × List Int))).set (0 : Nat) ((Nest.step ((crAt g.1.2.2.1 (opAt x.1 g.2.2.1).2.1).2.1.1, (crAt g.1.2.2.1 (opAt x.1 g.2.2.1).2.1).2.1.2) (mval (Ty.int IntKind.i64) (mput (Ty.int IntKind.i64) (mput (Ty.int IntKind.i64) ([] : List (Int × Int)) (4 : Int) (1 : Int)) (5 : Int) (2 : Int)) (opAt x.1 g.2.2.1).1)).2.1, ([] : List Int))) = (wholeOf (ypl (List.take (g.2.2.1 + 1).toNat x.1)).1, (ypl (List.take (g.2.2.1 + 1).toNat x.1)).2)) ∧
 ((↑x.1.length : Int) - (g.2.2.1 + 1)).toNat < ((↑x.1.length : Int) - g.2.2.1).toNat) ∧
 ((True ∧
 True) ∧
 (True ∧
 True) ∧
 True ∧
 x.1 = x.1 ∧
 RR (↑x.1.length : Int) ∧
 g.2.2.1 + 1 = g.2.2.1 + 1 ∧
 True) ∧
 ((g.1.1.1 = g.1.1.1 ∧
 RR g.1.1.2.1 ∧
 RR g.1.1.2.2.1 ∧
 RR g.1.1.2.2.2 ∧
 True ∧
 RR g.1.2.2.1 ∧
 True ∧
 RR g.1.2.2.2.2.1.1 ∧
 RR g.1.2.2.2.2.1.2 ∧
 RR g.1.2.2.2.2.2 ∧
 True) ∧
 g.1.2.1 = g.1.2.1 ∧
 RR g.1.2.2.2.1 ∧
 g.2.1 ++ (((0 : Int), ([] : List Int)) :: ([] : List (Int × List Int))).set (0 : Nat) ((Nest.step ((crAt g.1.2.2.1 (opAt x.1 g.2.2.1).2.1).2.1.1, (crAt g.1.2.2.1 (opAt x.1 g.2.2.1).2.1).2.1.2) (mval (Ty.int IntKind.i64) (mput (Ty.int IntKind.i64) (mput (Ty.int IntKind.i64) ([] : List (Int × Int)) (4 : Int) (1 : Int)) (5 : Int) (2 : Int)) (opAt x.1 g.2.2.1).1)).2.1, ([] : List Int)) = g.2.1 ++ (((0 : Int), ([] : List Int)) :: ([] : List (Int × List Int))).set (0 : Nat) ((Nest.step ((crAt g.1.2.2.1 (opAt x.1 g.2.2.1).2.1).2.1.1, (crAt g.1.2.2.1 (opAt x.1 g.2.2.1).2.1).2.1.2) (mval (Ty.int IntKind.i64) (mput (Ty.int IntKind.i64) (mput (Ty.int IntKind.i64) ([] : List (Int × Int)) (4 : Int) (1 : Int)) (5 : Int) (2 : Int)) (opAt x.1 g.2.2.1).1)).2.1, ([] : List Int)) ∧
 (RR (Value.slice none (0 : Nat) (0 : Nat)) ∧
 RR (Value.slice none (0 : Nat) (0 : Nat)) ∧
 RR (Value.slice none (0 : Nat) (0 : Nat)) ∧
 RR (Value.slice none (0 : Nat) (0 : Nat)) ∧
 RR (0 : Int) ∧
 RR (0 : Int) ∧
 True) ∧
 True) ∧
 True))) ∧
 ((g_1.1 == 4) = false →
 ((g_1.1 == 5) = true →
 (0 ≤ (opAt x.1 g.2.2.1).2.1 ∧
 (opAt x.1 g.2.2.1).2.1 < (↑(2 : Nat) : Int)) ∧
 ((crAt g.1.2.2.1 (opAt x.1 g.2.2.1).2.1).2.2 = true →
 (g.2.1.length + ((((0 : Int), ([] : List Int)) :: ([] : List (Int × List Int))).set (0 : Nat) ((6 : Int), ([] : List Int))).length ≤ (9223372036854775807 : Nat) ∧
 (g.2.1.length + ((((0 : Int), ([] : List Int)) :: ([] : List (Int × List Int))).set (0 : Nat) ((6 : Int), ([] : List Int))).length + (g.2.1.length + ((((0 : Int), ([] : List Int)) :: ([] : List (Int × List Int))).set (0 : Nat) ((6 : Int), ([] : List Int))).length) / (4 : Nat) + (192 : Nat)) * (32 : Nat) ≤ (281474976710656 : Nat)) ∧
 (-9223372036854775808 ≤ g.2.2.1 + 1 ∧
 g.2.2.1 + 1 ≤ (9223372036854775807 : Int)) ∧
 ((0 ≤ g.2.2.1 + 1 ∧
 g.2.2.1 + 1 ≤ (↑x.1.length : Int) ∧
 (((g.1.1.1, g.1.1.2.1, g.1.1.2.2.1, g.1.1.2.2.2), g.1.2.1, g.1.2.2.1, g.1.2.2.2.1, (g.1.2.2.2.2.1.1, g.1.2.2.2.2.1.2), g.1.2.2.2.2.2), g.2.1 ++ (((0 : Int), ([] : List Int)) :: ([] : List (Int × List Int))).set (0 : Nat) ((6 : Int), ([] : List Int))) = (wholeOf (ypl (List.take (g.2.2.1 + 1).toNat x.1)).1, (ypl (List.take (g.2.2.1 + 1).toNat x.1)).2)) ∧
 ((↑x.1.length : Int) - (g.2.2.1 + 1)).toNat < ((↑x.1.length : Int) - g.2.2.1).toNat) ∧
 ((True ∧
 True) ∧
 (True ∧
 True) ∧
 True ∧
 x.1 = x.1 ∧
 RR (↑x.1.length : Int) ∧
 g.2.2.1 + 1 = g.2.2.1 + 1 ∧
 True) ∧
 ((g.1.1.1 = g.1.1.1 ∧
 RR g.1.1.2.1 ∧
 RR g.1.1.2.2.1 ∧
 RR g.1.1.2.2.2 ∧
 True ∧
 RR g.1.2.2.1 ∧
 True ∧
 RR g.1.2.2.2.2.1.1 ∧
 RR g.1.2.2.2.2.1.2 ∧
 RR g.1.2.2.2.2.2 ∧
 True) ∧
 g.1.2.1 = g.1.2.1 ∧
 RR g.1.2.2.2.1 ∧
 g.2.1 ++ (((0 : Int), ([] : List Int)) :: ([] : List (Int × List Int))).set (0 : Nat) ((6 : Int), ([] : List Int)) = g.2.1 ++ (((0 : Int), ([] : List Int)) :: ([] : List (Int × List Int))).set (0 : Nat) ((6 : Int), ([] : List Int)) ∧
 (RR (Value.slice none (0 : Nat) (0 : Nat)) ∧
 RR (Value.slice none (0 : Nat) (0 : Nat)) ∧
 RR (Value.slice none (0 : Nat) (0 : Nat)) ∧
 RR (Value.slice none (0 : Nat) (0 : Nat)) ∧
 RR (0 : Int) ∧
 RR (0 : Int) ∧
 True) ∧
 True) ∧
 True) ∧
 ((crAt g.1.2.2.1 (opAt x.1 g.2.2.1).2.1).2.2 = false →
 Holds True ∧
 (((Nest.step ((crAt g.1.2.2.1 (opAt x.1 g.2.2.1).2.1).2.1.1, (crAt g.1.2.2.1 (opAt x.1 g.2.2.1).2.1).2.1.2) (mval (Ty.int IntKind.i64) (mput (Ty.int IntKind.i64) (mput (Ty.int IntKind.i64) ([] : List (Int × Int)) (4 : Int) (1 : Int)) (5 : Int) (2 : Int)) (opAt x.1 g.2.2.1).1)).2.1 == 0) = true →
 (g.2.1.length + ((((0 : Int), ([] : List Int)) :: ([] : List (Int × List Int))).set (0 : Nat) ((Nest.step ((crAt g.1.2.2.1 (opAt x.1 g.2.2.1).2.1).2.1.1, (crAt g.1.2.2.1 (opAt x.1 g.2.2.1).2.1).2.1.2) (mval (Ty.int IntKind.i64) (mput (Ty.int IntKind.i64) (mput (Ty.int IntKind.i64) ([] : List (Int × Int)) (4 : Int) (1 : Int)) (5 : Int) (2 : Int)) (opAt x.1 g.2.2.1).1)).2.1, ([] : List Int))).length ≤ (9223372036854775807 : Nat) ∧
 (g.2.1.length + ((((0 : Int), ([] : List Int)) :: ([] : List (Int × List Int))).set (0 : Nat) ((Nest.step ((crAt g.1.2.2.1 (opAt x.1 g.2.2.1).2.1).2.1.1, (crAt g.1.2.2.1 (opAt x.1 g.2.2.1).2.1).2.1.2) (mval (Ty.int IntKind.i64) (mput (Ty.int IntKind.i64) (mput (Ty.int IntKind.i64) ([] : List (Int × Int)) (4 : Int) (1 : Int)) (5 : Int) (2 : Int)) (opAt x.1 g.2.2.1).1)).2.1, ([] : List Int))).length + (g.2.1.length + ((((0 : Int), ([] : List Int)) :: ([] : List (Int × List Int))).set (0 : Nat) ((Nest.step ((crAt g.1.2.2.1 (opAt x.1 g.2.2.1).2.1).2.1.1, (crAt g.1.2.2.1 (opAt x.1 g.2.2.1).2.1).2.1.2) (mval (Ty.int IntKind.i64) (mput (Ty.int IntKind.i64) (mput (Ty.int IntKind.i64) ([] : List (Int × Int)) (4 : Int) (1 : Int)) (5 : Int) (2 : Int)) (opAt x.1 g.2.2.1).1)).2.1, ([] : List Int))).length) / (4 : Nat) + (192 : Nat)) * (32 : Nat) ≤ (281474976710656 : Nat)) ∧
 (-9223372036854775808 ≤ g.2.2.1 + 1 ∧
 g.2.2.1 + 1 ≤ (9223372036854775807 : Int)) ∧
 ((0 ≤ g.2.2.1 + 1 ∧
 g.2.2.1 + 1 ≤ (↑x.1.length : Int) ∧
 (((g.1.1.1, g.1.1.2.1, g.1.1.2.2.1, g.1.1.2.2.2), g.1.2.1, g.1.2.2.1.set (opAt x.1 g.2.2.1).2.1.toNat (((crAt g.1.2.2.1 (opAt x.1 g.2.2.1).2.1).1.1, (crAt g.1.2.2.1 (opAt x.1 g.2.2.1).2.1).1.2.1, (crAt g.1.2.2.1 (opAt x.1 g.2.2.1).2.1).1.2.2), ((Nest.step ((crAt g.1.2.2.1 (opAt x.1 g.2.2.1).2.1).2.1.1, (crAt g.1.2.2.1 (opAt x.1 g.2.2.1).2.1).2.1.2) (mval (Ty.int IntKind.i64) (mput (Ty.int IntKind.i64) (mput (Ty.int IntKind.i64) ([] : List (Int × Int)) (4 : Int) (1 : Int)) (5 : Int) (2 : Int)) (opAt x.1 g.2.2.1).1)).1.1, (Nest.step ((crAt g.1.2.2.1 (opAt x.1 g.2.2.1).2.1).2.1.1, (crAt g.1.2.2.1 (opAt x.1 g.2.2.1).2.1).2.1.2) (mval (Ty.int IntKind.i64) (mput (Ty.int IntKind.i64) (mput (Ty.int IntKind.i64) ([] : List (Int × Int)) (4 : Int) (1 : Int)) (5 : Int) (2 : Int)) (opAt x.1 g.2.2.1).1)).1.2), (crAt g.1.2.2.1 (opAt x.1 g.2.2.1).2.1).2.2), g.1.2.2.2.1, (g.1.2.2.2.2.1.1, g.1.2.2.2.2.1.2), g.1.2.2.2.2.2), g.2.1 ++ (((0 : Int), ([] : List Int)) :: ([] : List (Int × List Int))).set (0 : Nat) ((Nest.step ((crAt g.1.2.2.1 (opAt x.1 g.2.2.1).2.1).2.1.1, (crAt g.1.2.2.1 (opAt x.1 g.2.2.1).2.1).2.1.2) (mval (Ty.int IntKind.i64) (mput (Ty.int IntKind.i64) (mput (Ty.int IntKind.i64) ([] : List (Int × Int)) (4 : Int) (1 : Int)) (5 : Int) (2 : Int)) (opAt x.1 g.2.2.1).1)).2.1, ([] : List Int))) = (wholeOf (ypl (List.take (g.2.2.1 + 1).toNat x.1)).1, (ypl (List.take (g.2.2.1 + 1).toNat x.1)).2)) ∧
 ((↑x.1.length : Int) - (g.2.2.1 + 1)).toNat < ((↑x.1.length : Int) - g.2.2.1).toNat) ∧
 ((True ∧
 True) ∧
 (True ∧
 True) ∧
 True ∧
 x.1 = x.1 ∧
 RR (↑x.1.length : Int) ∧
 g.2.2.1 + 1 = g.2.2.1 + 1 ∧
 True) ∧
 ((g.1.1.1 = g.1.1.1 ∧
 RR g.1.1.2.1 ∧
 RR g.1.1.2.2.1 ∧
 RR g.1.1.2.2.2 ∧
 True ∧
 g.1.2.2.1.set (opAt x.1 g.2.2.1).2.1.toNat (((crAt g.1.2.2.1 (opAt x.1 g.2.2.1).2.1).1.1, (crAt g.1.2.2.1 (opAt x.1 g.2.2.1).2.1).1.2.1, (crAt g.1.2.2.1 (opAt x.1 g.2.2.1).2.1).1.2.2), ((Nest.step ((crAt g.1.2.2.1 (opAt x.1 g.2.2.1).2.1).2.1.1, (crAt g.1.2.2.1 (opAt x.1 g.2.2.1).2.1).2.1.2) (mval (Ty.int IntKind.i64) (mput (Ty.int IntKind.i64) (mput (Ty.int IntKind.i64) ([] : List (Int × Int)) (4 : Int) (1 : Int)) (5 : Int) (2 : Int)) (opAt x.1 g.2.2.1).1)).1.1, (Nest.step ((crAt g.1.2.2.1 (opAt x.1 g.2.2.1).2.1).2.1.1, (crAt g.1.2.2.1 (opAt x.1 g.2.2.1).2.1).2.1.2) (mval (Ty.int IntKind.i64) (mput (Ty.int IntKind.i64) (mput (Ty.int IntKind.i64) ([] : List (Int × Int)) (4 : Int) (1 : Int)) (5 : Int) (2 : Int)) (opAt x.1 g.2.2.1).1)).1.2), (crAt g.1.2.2.1 (opAt x.1 g.2.2.1).2.1).2.2) = g.1.2.2.1.set (opAt x.1 g.2.2.1).2.1.toNat (((crAt g.1.2.2.1 (opAt x.1 g.2.2.1).2.1).1.1, (crAt g.1.2.2.1 (opAt x.1 g.2.2.1).2.1).1.2.1, (crAt g.1.2.2.1 (opAt x.1 g.2.2.1).2.1).1.2.2), ((Nest.step ((crAt g.1.2.2.1 (opAt x.1 g.2.2.1).2.1).2.1.1, (crAt g.1.2.2.1 (opAt x.1 g.2.2.1).2.1).2.1.2) (mval (Ty.int IntKind.i64) (mput (Ty.int IntKind.i64) (mput (Ty.int IntKind.i64) ([] : List (Int × Int)) (4 : Int) (1 : Int)) (5 : Int) (2 : Int)) (opAt x.1 g.2.2.1).1)).1.1, (Nest.step ((crAt g.1.2.2.1 (opAt x.1 g.2.2.1).2.1).2.1.1, (crAt g.1.2.2.1 (opAt x.1 g.2.2.1).2.1).2.1.2) (mval (Ty.int IntKind.i64) (mput (Ty.int IntKind.i64) (mput (Ty.int IntKind.i64) ([] : List (Int × Int)) (4 : Int) (1 : Int)) (5 : Int) (2 : Int)) (opAt x.1 g.2.2.1).1)).1.2), (crAt g.1.2.2.1 (opAt x.1 g.2.2.1).2.1).2.2) ∧
 True ∧
 RR g.1.2.2.2.2.1.1 ∧
 RR g.1.2.2.2.2.1.2 ∧
 RR g.1.2.2.2.2.2 ∧
 True) ∧
 g.1.2.1 = g.1.2.1 ∧
 RR g.1.2.2.2.1 ∧
 g.2.1 ++ (((0 : Int), ([] : List Int)) :: ([] : List (Int × List Int))).set (0 : Nat) ((Nest.step ((crAt g.1.2.2.1 (opAt x.1 g.2.2.1).2.1).2.1.1, (crAt g.1.2.2.1 (opAt x.1 g.2.2.1).2.1).2.1.2) (mval (Ty.int IntKind.i64) (mput (Ty.int IntKind.i64) (mput (Ty.int IntKind.i64) ([] : List (Int × Int)) (4 : Int) (1 : Int)) (5 : Int) (2 : Int)) (opAt x.1 g.2.2.1).1)).2.1, ([] : List Int)) = g.2.1 ++ (((0 : Int), ([] : List Int)) :: ([] : List (Int × List Int))).set (0 : Nat) ((Nest.step ((crAt g.1.2.2.1 (opAt x.1 g.2.2.1).2.1).2.1.1, (crAt g.1.2.2.1 (opAt x.1 g.2.2.1).2.1).2.1.2) (mval (Ty.int IntKind.i64) (mput (Ty.int IntKind.i64) (mput (Ty.int IntKind.i64) ([] : List (Int × Int)) (4 : Int) (1 : Int)) (5 : Int) (2 : Int)) (opAt x.1 g.2.2.1).1)).2.1, ([] : List Int)) ∧
 (RR (Value.slice none (0 : Nat) (0 : Nat)) ∧
 RR (Value.slice none (0 : Nat) (0 : Nat)) ∧
 RR (Value.slice none (0 : Nat) (0 : Nat)) ∧
 RR (Value.slice none (0 : Nat) (0 : Nat)) ∧
 RR (0 : Int) ∧
 RR (0 : Int) ∧
 True) ∧
 True) ∧
 True) ∧
 (((Nest.step ((crAt g.1.2.2.1 (opAt x.1 g.2.2.1).2.1).2.1.1, (crAt g.1.2.2.1 (opAt x.1 g.2.2.1).2.1).2.1.2) (mval (Ty.int IntKind.i64) (mput (Ty.int IntKind.i64) (mput (Ty.int IntKind.i64) ([] : List (Int × Int)) (4 : Int) (1 : Int)) (5 : Int) (2 : Int)) (opAt x.1 g.2.2.1).1)).2.1 == 0) = false →
 (g.2.1.length + ((((0 : Int), ([] : List Int)) :: ([] : List (Int × List Int))).set (0 : Nat) ((Nest.step ((crAt g.1.2.2.1 (opAt x.1 g.2.2.1).2.1).2.1.1, (crAt g.1.2.2.1 (opAt x.1 g.2.2.1).2.1).2.1.2) (mval (Ty.int IntKind.i64) (mput (Ty.int IntKind.i64) (mput (Ty.int IntKind.i64) ([] : List (Int × Int)) (4 : Int) (1 : Int)) (5 : Int) (2 : Int)) (opAt x.1 g.2.2.1).1)).2.1, ([] : List Int))).length ≤ (9223372036854775807 : Nat) ∧
 (g.2.1.length + ((((0 : Int), ([] : List Int)) :: ([] : List (Int × List Int))).set (0 : Nat) ((Nest.step ((crAt g.1.2.2.1 (opAt x.1 g.2.2.1).2.1).2.1.1, (crAt g.1.2.2.1 (opAt x.1 g.2.2.1).2.1).2.1.2) (mval (Ty.int IntKind.i64) (mput (Ty.int IntKind.i64) (mput (Ty.int IntKind.i64) ([] : List (Int × Int)) (4 : Int) (1 : Int)) (5 : Int) (2 : Int)) (opAt x.1 g.2.2.1).1)).2.1, ([] : List Int))).length + (g.2.1.length + ((((0 : Int), ([] : List Int)) :: ([] : List (Int × List Int))).set (0 : Nat) ((Nest.step ((crAt g.1.2.2.1 (opAt x.1 g.2.2.1).2.1).2.1.1, (crAt g.1.2.2.1 (opAt x.1 g.2.2.1).2.1).2.1.2) (mval (Ty.int IntKind.i64) (mput (Ty.int IntKind.i64) (mput (Ty.int IntKind.i64) ([] : List (Int × Int)) (4 : Int) (1 : Int)) (5 : Int) (2 : Int)) (opAt x.1 g.2.2.1).1)).2.1, ([] : List Int))).length) / (4 : Nat) + (192 : Nat)) * (32 : Nat) ≤ (281474976710656 : Nat)) ∧
 (-9223372036854775808 ≤ g.2.2.1 + 1 ∧
 g.2.2.1 + 1 ≤ (9223372036854775807 : Int)) ∧
 ((0 ≤ g.2.2.1 + 1 ∧
 g.2.2.1 + 1 ≤ (↑x.1.length : Int) ∧
 (((g.1.1.1, g.1.1.2.1, g.1.1.2.2.1, g.1.1.2.2.2), g.1.2.1, g.1.2.2.1, g.1.2.2.2.1, (g.1.2.2.2.2.1.1, g.1.2.2.2.2.1.2), g.1.2.2.2.2.2), g.2.1 ++ (((0 : Int), ([] : List Int)) :: ([] : List (Int × List Int))).set (0 : Nat) ((Nest.step ((crAt g.1.2.2.1 (opAt x.1 g.2.2.1).2.1).2.1.1, (crAt g.1.2.2.1 (opAt x.1 g.2.2.1).2.1).2.1.2) (mval (Ty.int IntKind.i64) (mput (Ty.int IntKind.i64) (mput (Ty.int IntKind.i64) ([] : List (Int × Int)) (4 : Int) (1 : Int)) (5 : Int) (2 : Int)) (opAt x.1 g.2.2.1).1)).2.1, ([] : List Int))) = (wholeOf (ypl (List.take (g.2.2.1 + 1).toNat x.1)).1, (ypl (List.take (g.2.2.1 + 1).toNat x.1)).2)) ∧
 ((↑x.1.length : Int) - (g.2.2.1 + 1)).toNat < ((↑x.1.length : Int) - g.2.2.1).toNat) ∧
 ((True ∧
 True) ∧
 (True ∧
 True) ∧
 True ∧
 x.1 = x.1 ∧
 RR (↑x.1.length : Int) ∧
 g.2.2.1 + 1 = g.2.2.1 + 1 ∧
 True) ∧
 ((g.1.1.1 = g.1.1.1 ∧
 RR g.1.1.2.1 ∧
 RR g.1.1.2.2.1 ∧
 RR g.1.1.2.2.2 ∧
 True ∧
 RR g.1.2.2.1 ∧
 True ∧
 RR g.1.2.2.2.2.1.1 ∧
 RR g.1.2.2.2.2.1.2 ∧
 RR g.1.2.2.2.2.2 ∧
 True) ∧
 g.1.2.1 = g.1.2.1 ∧
 RR g.1.2.2.2.1 ∧
 g.2.1 ++ (((0 : Int), ([] : List Int)) :: ([] : List (Int × List Int))).set (0 : Nat) ((Nest.step ((crAt g.1.2.2.1 (opAt x.1 g.2.2.1).2.1).2.1.1, (crAt g.1.2.2.1 (opAt x.1 g.2.2.1).2.1).2.1.2) (mval (Ty.int IntKind.i64) (mput (Ty.int IntKind.i64) (mput (Ty.int IntKind.i64) ([] : List (Int × Int)) (4 : Int) (1 : Int)) (5 : Int) (2 : Int)) (opAt x.1 g.2.2.1).1)).2.1, ([] : List Int)) = g.2.1 ++ (((0 : Int), ([] : List Int)) :: ([] : List (Int × List Int))).set (0 : Nat) ((Nest.step ((crAt g.1.2.2.1 (opAt x.1 g.2.2.1).2.1).2.1.1, (crAt g.1.2.2.1 (opAt x.1 g.2.2.1).2.1).2.1.2) (mval (Ty.int IntKind.i64) (mput (Ty.int IntKind.i64) (mput (Ty.int IntKind.i64) ([] : List (Int × Int)) (4 : Int) (1 : Int)) (5 : Int) (2 : Int)) (opAt x.1 g.2.2.1).1)).2.1, ([] : List Int)) ∧
 (RR (Value.slice none (0 : Nat) (0 : Nat)) ∧
 RR (Value.slice none (0 : Nat) (0 : Nat)) ∧
 RR (Value.slice none (0 : Nat) (0 : Nat)) ∧
 RR (Value.slice none (0 : Nat) (0 : Nat)) ∧
 RR (0 : Int) ∧
 RR (0 : Int) ∧
 True) ∧
 True) ∧
 True))) ∧
 ((g_1.1 == 5) = false →
 ((0 : Int) ≤ (0 : Int) ∧
 0 < (↑g.1.2.1.length : Int)) ∧
 (g.2.1.length + ((((0 : Int), ([] : List Int)) :: ([] : List (Int × List Int))).set (0 : Nat) ((0 : Int), ([] : List Int))).length ≤ (9223372036854775807 : Nat) ∧
 (g.2.1.length + ((((0 : Int), ([] : List Int)) :: ([] : List (Int × List Int))).set (0 : Nat) ((0 : Int), ([] : List Int))).length + (g.2.1.length + ((((0 : Int), ([] : List Int)) :: ([] : List (Int × List Int))).set (0 : Nat) ((0 : Int), ([] : List Int))).length) / (4 : Nat) + (192 : Nat)) * (32 : Nat) ≤ (281474976710656 : Nat)) ∧
 (-9223372036854775808 ≤ g.2.2.1 + 1 ∧
 g.2.2.1 + 1 ≤ (9223372036854775807 : Int)) ∧
 ((0 ≤ g.2.2.1 + 1 ∧
 g.2.2.1 + 1 ≤ (↑x.1.length : Int) ∧
 (((g.1.1.1, g.1.1.2.1, g.1.1.2.2.1, g.1.1.2.2.2), g.1.2.1.set (nat_lit 0) ((opAt x.1 g.2.2.1).2.1, (g.1.2.1.getD (nat_lit 0) ((0 : Int), (0 : Int), false, false, false, false, false)).2.1, (g.1.2.1.getD (nat_lit 0) ((0 : Int), (0 : Int), false, false, false, false, false)).2.2.1, (g.1.2.1.getD (nat_lit 0) ((0 : Int), (0 : Int), false, false, false, false, false)).2.2.2.1, (g.1.2.1.getD (nat_lit 0) ((0 : Int), (0 : Int), false, false, false, false, false)).2.2.2.2.1, (g.1.2.1.getD (nat_lit 0) ((0 : Int), (0 : Int), false, false, false, false, false)).2.2.2.2.2.1, (g.1.2.1.getD (nat_lit 0) ((0 : Int), (0 : Int), false, false, false, false, false)).2.2.2.2.2.2), g.1.2.2.1, g.1.2.2.2.1, (g.1.2.2.2.2.1.1, g.1.2.2.2.2.1.2), g.1.2.2.2.2.2), g.2.1 ++ (((0 : Int), ([] : List Int)) :: ([] : List (Int × List Int))).set (0 : Nat) ((0 : Int), ([] : List Int))) = (wholeOf (ypl (List.take (g.2.2.1 + 1).toNat x.1)).1, (ypl (List.take (g.2.2.1 + 1).toNat x.1)).2)) ∧
 ((↑x.1.length : Int) - (g.2.2.1 + 1)).toNat < ((↑x.1.length : Int) - g.2.2.1).toNat) ∧
 ((True ∧
 True) ∧
 (True ∧
 True) ∧
 True ∧
 x.1 = x.1 ∧
 RR (↑x.1.length : Int) ∧
 g.2.2.1 + 1 = g.2.2.1 + 1 ∧
 True) ∧
 ((g.1.1.1 = g.1.1.1 ∧
 RR g.1.1.2.1 ∧
 RR g.1.1.2.2.1 ∧
 RR g.1.1.2.2.2 ∧
 True ∧
 RR g.1.2.2.1 ∧
 True ∧
 RR g.1.2.2.2.2.1.1 ∧
 RR g.1.2.2.2.2.1.2 ∧
 RR g.1.2.2.2.2.2 ∧
 True) ∧
 RR (g.1.2.1.set (nat_lit 0) ((opAt x.1 g.2.2.1).2.1, (g.1.2.1.getD (nat_lit 0) ((0 : Int), (0 : Int), false, false, false, false, false)).2.1, (g.1.2.1.getD (nat_lit 0) ((0 : Int), (0 : Int), false, false, false, false, false)).2.2.1, (g.1.2.1.getD (nat_lit 0) ((0 : Int), (0 : Int), false, false, false, false, false)).2.2.2.1, (g.1.2.1.getD (nat_lit 0) ((0 : Int), (0 : Int), false, false, false, false, false)).2.2.2.2.1, (g.1.2.1.getD (nat_lit 0) ((0 : Int), (0 : Int), false, false, false, false, false)).2.2.2.2.2.1, (g.1.2.1.getD (nat_lit 0) ((0 : Int), (0 : Int), false, false, false, false, false)).2.2.2.2.2.2)) ∧
 RR g.1.2.2.2.1 ∧
 g.2.1 ++ (((0 : Int), ([] : List Int)) :: ([] : List (Int × List Int))).set (0 : Nat) ((0 : Int), ([] : List Int)) = g.2.1 ++ (((0 : Int), ([] : List Int)) :: ([] : List (Int × List Int))).set (0 : Nat) ((0 : Int), ([] : List Int)) ∧
 (RR (Value.slice none (0 : Nat) (0 : Nat)) ∧
 RR (Value.slice none (0 : Nat) (0 : Nat)) ∧
 RR (Value.slice none (0 : Nat) (0 : Nat)) ∧
 RR (Value.slice none (0 : Nat) (0 : Nat)) ∧
 RR (0 : Int) ∧
 RR (0 : Int) ∧
 True) ∧
 True) ∧
 True)))))))) ∧
 (decide (g.2.2.1 < (↑x.1.length : Int)) = false →
 Holds (g.1.1.1.length ≤ (140737488355328 : Nat)) ∧
 Holds (g.1.2.2.2.1.length ≤ (140737488355328 : Nat)) ∧
 g.2.1 = (ypl x.1).2 ∧
 (g.1.1.1, g.1.2.2.2.1, (g.1.2.2.2.2.1.1, g.1.2.2.2.2.1.2), g.1.1.2.2.1, g.1.2.2.2.2.2) = yend (ypl x.1).1))

theorem E_kplay_eq (x : HL (cYPlay : Ctr).as) : vc (fx_kplay x) 6 4 Tryd.f4 (cYPlay) x = E_kplay x := by kernel_rfl

end Go.Proofs.YtppgbcmeagbalaaDoor.Kern
