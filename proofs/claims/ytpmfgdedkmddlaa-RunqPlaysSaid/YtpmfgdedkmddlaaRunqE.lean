/-
  The conditions that the executor comes to, written out (by a tool of ours), and that they are the conditions (by the kernel).
-/
import Derived.Test.YtpmfgdedkmddlaaRunqC
namespace Go.Proofs.Ytpmfgdedkmddlaa.Runq
open Go.Sx
set_option maxRecDepth 100000

def E_equal (x : List Int × List Int × Unit) : Prop :=
 (((↑x.1.length : Int) != (↑x.2.1.length : Int)) = true → false = decide (x.1 = x.2.1)) ∧
 (((↑x.1.length : Int) != (↑x.2.1.length : Int)) = false →
 ((((0 : Int) ≤ (0 : Int) ∧
 (0 : Int) ≤ (↑x.1.length : Int) ∧ List.take (Int.toNat (0 : Int)) x.1 = List.take (Int.toNat (0 : Int)) x.2.1) ∧
 True) ∧
 (x.1 = x.1 ∧ x.2.1 = x.2.1 ∧ (↑x.1.length : Int) = (↑x.1.length : Int) ∧ (0 : Int) = (0 : Int) ∧ True) ∧ True ∧ True) ∧
 ∀ (g : Int × Unit),
 (0 : Int) ≤ g.1 ∧ g.1 ≤ (↑x.1.length : Int) ∧ List.take g.1.toNat x.1 = List.take g.1.toNat x.2.1 →
 ((-9223372036854775808 : Int) ≤ g.1 ∧ g.1 ≤ (9223372036854775807 : Int)) ∧ True →
 (decide (g.1 < (↑x.1.length : Int)) = true →
 ((0 : Int) ≤ g.1 ∧ g.1 < (↑x.1.length : Int)) ∧
 ((0 : Int) ≤ g.1 ∧ g.1 < (↑x.2.1.length : Int)) ∧
 ((x.1.getD g.1.toNat (0 : Int) != x.2.1.getD g.1.toNat (0 : Int)) = true → false = decide (x.1 = x.2.1)) ∧
 ((x.1.getD g.1.toNat (0 : Int) != x.2.1.getD g.1.toNat (0 : Int)) = false →
 ((-9223372036854775808 : Int) ≤ g.1 + (1 : Int) ∧ g.1 + (1 : Int) ≤ (9223372036854775807 : Int)) ∧
 (((0 : Int) ≤ g.1 + (1 : Int) ∧
 g.1 + (1 : Int) ≤ (↑x.1.length : Int) ∧
 List.take (g.1 + (1 : Int)).toNat x.1 = List.take (g.1 + (1 : Int)).toNat x.2.1) ∧
 ((↑x.1.length : Int) - (g.1 + (1 : Int))).toNat < ((↑x.1.length : Int) - g.1).toNat) ∧
 (x.1 = x.1 ∧
 x.2.1 = x.2.1 ∧
 (↑x.1.length : Int) = (↑x.1.length : Int) ∧ g.1 + (1 : Int) = g.1 + (1 : Int) ∧ True) ∧
 True ∧ True)) ∧
 (decide (g.1 < (↑x.1.length : Int)) = false → true = decide (x.1 = x.2.1)))

theorem E_equal_eq (x : HL (cEqual : Ctr).as) : vc (fx_equal x) 1 10 Try.f10 (cEqual) x = E_equal x := by kernel_rfl

def E_equali (x : List Int × List Int × Unit) : Prop :=
 (((↑x.1.length : Int) != (↑x.2.1.length : Int)) = true → false = decide (x.1 = x.2.1)) ∧
 (((↑x.1.length : Int) != (↑x.2.1.length : Int)) = false →
 ((((0 : Int) ≤ (0 : Int) ∧
 (0 : Int) ≤ (↑x.1.length : Int) ∧ List.take (Int.toNat (0 : Int)) x.1 = List.take (Int.toNat (0 : Int)) x.2.1) ∧
 True) ∧
 (x.1 = x.1 ∧ x.2.1 = x.2.1 ∧ (↑x.1.length : Int) = (↑x.1.length : Int) ∧ (0 : Int) = (0 : Int) ∧ True) ∧ True ∧ True) ∧
 ∀ (g : Int × Unit),
 (0 : Int) ≤ g.1 ∧ g.1 ≤ (↑x.1.length : Int) ∧ List.take g.1.toNat x.1 = List.take g.1.toNat x.2.1 →
 ((-9223372036854775808 : Int) ≤ g.1 ∧ g.1 ≤ (9223372036854775807 : Int)) ∧ True →
 (decide (g.1 < (↑x.1.length : Int)) = true →
 ((0 : Int) ≤ g.1 ∧ g.1 < (↑x.1.length : Int)) ∧
 ((0 : Int) ≤ g.1 ∧ g.1 < (↑x.2.1.length : Int)) ∧
 ((x.1.getD g.1.toNat (0 : Int) != x.2.1.getD g.1.toNat (0 : Int)) = true → false = decide (x.1 = x.2.1)) ∧
 ((x.1.getD g.1.toNat (0 : Int) != x.2.1.getD g.1.toNat (0 : Int)) = false →
 ((-9223372036854775808 : Int) ≤ g.1 + (1 : Int) ∧ g.1 + (1 : Int) ≤ (9223372036854775807 : Int)) ∧
 (((0 : Int) ≤ g.1 + (1 : Int) ∧
 g.1 + (1 : Int) ≤ (↑x.1.length : Int) ∧
 List.take (g.1 + (1 : Int)).toNat x.1 = List.take (g.1 + (1 : Int)).toNat x.2.1) ∧
 ((↑x.1.length : Int) - (g.1 + (1 : Int))).toNat < ((↑x.1.length : Int) - g.1).toNat) ∧
 (x.1 = x.1 ∧
 x.2.1 = x.2.1 ∧
 (↑x.1.length : Int) = (↑x.1.length : Int) ∧ g.1 + (1 : Int) = g.1 + (1 : Int) ∧ True) ∧
 True ∧ True)) ∧
 (decide (g.1 < (↑x.1.length : Int)) = false → true = decide (x.1 = x.2.1)))

theorem E_equali_eq (x : HL (cEqual : Ctr).as) : vc (fx_equali x) 1 11 Try.f11 (cEqual) x = E_equali x := by kernel_rfl

def E_index (x : List Int × Int × Unit) : Prop :=
 ((((0 : Int) ≤ (0 : Int) ∧ (0 : Int) ≤ (↑x.1.length : Int) ∧ List.idxOf? x.2.1 (List.take (Int.toNat (0 : Int)) x.1) = none) ∧ True) ∧
 (x.1 = x.1 ∧ x.2.1 = x.2.1 ∧ (↑x.1.length : Int) = (↑x.1.length : Int) ∧ (0 : Int) = (0 : Int) ∧ True) ∧ True ∧ True) ∧
 ∀ (g : Int × Unit),
 (0 : Int) ≤ g.1 ∧ g.1 ≤ (↑x.1.length : Int) ∧ List.idxOf? x.2.1 (List.take g.1.toNat x.1) = none →
 ((-9223372036854775808 : Int) ≤ g.1 ∧ g.1 ≤ (9223372036854775807 : Int)) ∧ True →
 (decide (g.1 < (↑x.1.length : Int)) = true →
 ((0 : Int) ≤ g.1 ∧ g.1 < (↑x.1.length : Int)) ∧
 ((x.2.1 == x.1.getD g.1.toNat (0 : Int)) = true → g.1 = idx x.1 x.2.1) ∧
 ((x.2.1 == x.1.getD g.1.toNat (0 : Int)) = false →
 ((-9223372036854775808 : Int) ≤ g.1 + (1 : Int) ∧ g.1 + (1 : Int) ≤ (9223372036854775807 : Int)) ∧
 (((0 : Int) ≤ g.1 + (1 : Int) ∧
 g.1 + (1 : Int) ≤ (↑x.1.length : Int) ∧ List.idxOf? x.2.1 (List.take (g.1 + (1 : Int)).toNat x.1) = none) ∧
 ((↑x.1.length : Int) - (g.1 + (1 : Int))).toNat < ((↑x.1.length : Int) - g.1).toNat) ∧
 (x.1 = x.1 ∧
 x.2.1 = x.2.1 ∧ (↑x.1.length : Int) = (↑x.1.length : Int) ∧ g.1 + (1 : Int) = g.1 + (1 : Int) ∧ True) ∧
 True ∧ True)) ∧
 (decide (g.1 < (↑x.1.length : Int)) = false → (-1 : Int) = idx x.1 x.2.1)

theorem E_index_eq (x : HL (cIndex : Ctr).as) : vc (fx_index x) 1 61 Try.f61 (cIndex) x = E_index x := by kernel_rfl

def E_clone (x : List (Int × Int) × Unit) : Prop :=
 ∀ (b : Bool),
 (b = true → x.1 = ([] : List (Int × Int))) →
 (b = true → ([] : List (Int × Int)) = x.1) ∧
 (b = false →
 (([] : List (Int × Int)).length + x.1.length ≤ (9223372036854775807 : Nat) ∧
 (([] : List (Int × Int)).length + x.1.length + (([] : List (Int × Int)).length + x.1.length) / (4 : Nat) + (192 : Nat)) * (16 : Nat) ≤
 (281474976710656 : Nat)) ∧
 ([] : List (Int × Int)) ++ x.1 = x.1)

theorem E_clone_eq (x : HL (cCloneP : Ctr).as) : vc (fx_clone x) 1 37 Try.f37 (cCloneP) x = E_clone x := by kernel_rfl

def E_idx (x : List (Int × Int) × (Int × Int × Int) × Unit) : Prop :=
 ((((0 : Int) ≤ (0 : Int) ∧ (0 : Int) ≤ (↑x.1.length : Int) ∧ posQ (List.take (Int.toNat (0 : Int)) x.1) x.2.1.2.1 = (-1 : Int)) ∧ True) ∧
 (True ∧ True ∧ (↑x.1.length : Int) = (↑x.1.length : Int) ∧ (0 : Int) = (0 : Int) ∧ True) ∧
 (x.1 = x.1 ∧
 (x.2.1.1 = x.2.1.1 ∧ x.2.1.2.1 = x.2.1.2.1 ∧ x.2.1.2.2 = x.2.1.2.2 ∧ True) ∧
 (True ∧ (True ∧ True) ∧ True) ∧ True) ∧
 True ∧ (True ∧ True) ∧ True ∧ True) ∧
 ∀ (g : Int × Unit),
 (0 : Int) ≤ g.1 ∧ g.1 ≤ (↑x.1.length : Int) ∧ posQ (List.take g.1.toNat x.1) x.2.1.2.1 = (-1 : Int) →
 ((-9223372036854775808 : Int) ≤ g.1 ∧ g.1 ≤ (9223372036854775807 : Int)) ∧ True →
 (decide (g.1 < (↑x.1.length : Int)) = true →
 ((0 : Int) ≤ g.1 ∧ g.1 < (↑x.1.length : Int)) ∧
 (((x.1.getD g.1.toNat ((0 : Int), (0 : Int))).1 == x.2.1.2.1) = true →
 g.1 = posQ x.1 x.2.1.2.1 ∧
 (True ∧ (True ∧ True) ∧ True ∧ True) ∧
 (x.1 = x.1 ∧
 (x.2.1.1 = x.2.1.1 ∧ x.2.1.2.1 = x.2.1.2.1 ∧ x.2.1.2.2 = x.2.1.2.2 ∧ True) ∧
 (True ∧ (True ∧ True) ∧ True) ∧ True) ∧
 True) ∧
 (((x.1.getD g.1.toNat ((0 : Int), (0 : Int))).1 == x.2.1.2.1) = false →
 ((-9223372036854775808 : Int) ≤ g.1 + (1 : Int) ∧ g.1 + (1 : Int) ≤ (9223372036854775807 : Int)) ∧
 (((0 : Int) ≤ g.1 + (1 : Int) ∧
 g.1 + (1 : Int) ≤ (↑x.1.length : Int) ∧
 posQ (List.take (g.1 + (1 : Int)).toNat x.1) x.2.1.2.1 = (-1 : Int)) ∧
 ((↑x.1.length : Int) - (g.1 + (1 : Int))).toNat < ((↑x.1.length : Int) - g.1).toNat) ∧
 (True ∧ True ∧ (↑x.1.length : Int) = (↑x.1.length : Int) ∧ g.1 + (1 : Int) = g.1 + (1 : Int) ∧ True) ∧
 (x.1 = x.1 ∧
 (x.2.1.1 = x.2.1.1 ∧ x.2.1.2.1 = x.2.1.2.1 ∧ x.2.1.2.2 = x.2.1.2.2 ∧ True) ∧
 (True ∧ (True ∧ True) ∧ True) ∧ True) ∧
 True ∧ (True ∧ True) ∧ True ∧ True)) ∧
 (decide (g.1 < (↑x.1.length : Int)) = false →
 (-1 : Int) = posQ x.1 x.2.1.2.1 ∧
 (True ∧ (True ∧ True) ∧ True ∧ True) ∧
 (x.1 = x.1 ∧
 (x.2.1.1 = x.2.1.1 ∧ x.2.1.2.1 = x.2.1.2.1 ∧ x.2.1.2.2 = x.2.1.2.2 ∧ True) ∧
 (True ∧ (True ∧ True) ∧ True) ∧ True) ∧
 True)

theorem E_idx_eq (x : (pIdx : Prc).G) : vcPr (fx_idx x) 1 33 Try.f33 (pIdx) x = E_idx x := by kernel_rfl

def E_mplay (x : List (Int × Int × Int) × Unit) : Prop := ((((0 : Int) ≤ (0 : Int) ∧
 (0 : Int) ≤ (↑x.1.length : Int) ∧
 runQ (List.take (Int.toNat (0 : Int)) x.1) = (([] : List (Int × Int)), ([] : List Int), ([] : List Int)) ∧
 (↑([] : List (Int × Int)).length : Int) ≤ (0 : Int) ∧
 (↑([] : List Int).length : Int) ≤ (0 : Int) ∧
 (↑([] : List Int).length : Int) ≤ (0 : Int)) ∧
 True) ∧
 (True ∧
 True ∧
 True ∧
 RR (Value.slice none (0 : Nat) (0 : Nat)) ∧
 x.1 = x.1 ∧
 RR (↑x.1.length : Int) ∧
 RR (0 : Int) ∧
 True) ∧
 (RR ([] : List (Int × Int)) ∧
 RR ([] : List Int) ∧
 RR ([] : List Int) ∧
 True) ∧
 True) ∧
 ∀ (g : List (Int × Int) × List Int × List Int × Int × Unit), (0 : Int) ≤ g.2.2.2.1 ∧
 g.2.2.2.1 ≤ (↑x.1.length : Int) ∧
 runQ (List.take g.2.2.2.1.toNat x.1) = (g.1, g.2.1, g.2.2.1) ∧
 (↑g.1.length : Int) ≤ g.2.2.2.1 ∧
 (↑g.2.1.length : Int) ≤ g.2.2.2.1 ∧
 (↑g.2.2.1.length : Int) ≤ g.2.2.2.1 →
 (g.1.length ≤ (9223372036854775807 : Nat) ∧
 ∀ (x : Int × Int), x ∈ g.1 →
 ((-9223372036854775808 : Int) ≤ x.1 ∧
 x.1 ≤ (9223372036854775807 : Int)) ∧
 (-9223372036854775808 : Int) ≤ x.2 ∧
 x.2 ≤ (9223372036854775807 : Int)) ∧
 (g.2.1.length ≤ (9223372036854775807 : Nat) ∧
 ∀ (x : Int), x ∈ g.2.1 →
 (-9223372036854775808 : Int) ≤ x ∧
 x ≤ (9223372036854775807 : Int)) ∧
 (g.2.2.1.length ≤ (9223372036854775807 : Nat) ∧
 ∀ (x : Int), x ∈ g.2.2.1 →
 (-9223372036854775808 : Int) ≤ x ∧
 x ≤ (9223372036854775807 : Int)) ∧
 ((-9223372036854775808 : Int) ≤ g.2.2.2.1 ∧
 g.2.2.2.1 ≤ (9223372036854775807 : Int)) ∧
 True →
 (decide (g.2.2.2.1 < (↑x.1.length : Int)) = true →
 ((0 : Int) ≤ g.2.2.2.1 ∧
 g.2.2.2.1 < (↑x.1.length : Int)) ∧
 Holds True ∧
 ((True ∧
 True ∧
 True) ∧
 g.1 = g.1 ∧
 (RR ((opAt x.1 g.2.2.2.1).1) ∧
 RR ((opAt x.1 g.2.2.2.1).2.1) ∧
 RR ((opAt x.1 g.2.2.2.1).2.2) ∧
 True) ∧
 (True ∧
 (True ∧
 True) ∧
 True) ∧
 True) ∧
 ((!(opAt x.1 g.2.2.2.1).1 == (1 : Int)) = true →
 (!(opAt x.1 g.2.2.2.1).1 == (1 : Int)) = true) ∧
 ((!(opAt x.1 g.2.2.2.1).1 == (1 : Int)) = true →
 (!(opAt x.1 g.2.2.2.1).1 == (1 : Int)) = true) ∧
 (((opAt x.1 g.2.2.2.1).1 == (1 : Int)) = false →
 (!(opAt x.1 g.2.2.2.1).1 == (1 : Int)) = true) ∧
 ((!decide ((opAt x.1 g.2.2.2.1).1 < (1 : Int))) = true →
 (!decide ((opAt x.1 g.2.2.2.1).1 < (1 : Int))) = true) ∧
 ((!decide ((opAt x.1 g.2.2.2.1).1 < (1 : Int))) = true →
 (!decide ((opAt x.1 g.2.2.2.1).1 < (1 : Int))) = true) ∧
 (decide ((opAt x.1 g.2.2.2.1).1 < (1 : Int)) = false →
 (!decide ((opAt x.1 g.2.2.2.1).1 < (1 : Int))) = true) ∧
 ((decide ((opAt x.1 g.2.2.2.1).1 < (1 : Int)) || decide ((4 : Int) < (opAt x.1 g.2.2.2.1).1)) = true →
 (g.2.1.length + (((0 : Int) :: ([] : List Int)).set (0 : Nat) (5 : Int)).length ≤ (9223372036854775807 : Nat) ∧
 (g.2.1.length + (((0 : Int) :: ([] : List Int)).set (0 : Nat) (5 : Int)).length + (g.2.1.length + (((0 : Int) :: ([] : List Int)).set (0 : Nat) (5 : Int)).length) / (4 : Nat) + (192 : Nat)) * (8 : Nat) ≤ (281474976710656 : Nat)) ∧
 ((-9223372036854775808 : Int) ≤ g.2.2.2.1 + (1 : Int) ∧
 g.2.2.2.1 + (1 : Int) ≤ (9223372036854775807 : Int)) ∧
 (((0 : Int) ≤ g.2.2.2.1 + (1 : Int) ∧
 g.2.2.2.1 + (1 : Int) ≤ (↑x.1.length : Int) ∧
 runQ (List.take (g.2.2.2.1 + (1 : Int)).toNat x.1) = (g.1, g.2.1 ++ ((0 : Int) :: ([] : List Int)).set (0 : Nat) (5 : Int), g.2.2.1) ∧
 (↑g.1.length : Int) ≤ g.2.2.2.1 + (1 : Int) ∧
 (↑(g.2.1 ++ ((0 : Int) :: ([] : List Int)).set (0 : Nat) (5 : Int)).length : Int) ≤ g.2.2.2.1 + (1 : Int) ∧
 (↑g.2.2.1.length : Int) ≤ g.2.2.2.1 + (1 : Int)) ∧
 ((↑x.1.length : Int) - (g.2.2.2.1 + (1 : Int))).toNat < ((↑x.1.length : Int) - g.2.2.2.1).toNat) ∧
 (True ∧
 True ∧
 True ∧
 RR (Value.slice none (0 : Nat) (0 : Nat)) ∧
 x.1 = x.1 ∧
 RR (↑x.1.length : Int) ∧
 g.2.2.2.1 + (1 : Int) = g.2.2.2.1 + (1 : Int) ∧
 True) ∧
 (g.1 = g.1 ∧
 g.2.1 ++ ((0 : Int) :: ([] : List Int)).set (0 : Nat) (5 : Int) = g.2.1 ++ ((0 : Int) :: ([] : List Int)).set (0 : Nat) (5 : Int) ∧
 g.2.2.1 = g.2.2.1 ∧
 True) ∧
 True) ∧
 ((decide ((opAt x.1 g.2.2.2.1).1 < (1 : Int)) || decide ((4 : Int) < (opAt x.1 g.2.2.2.1).1)) = false →
 (((opAt x.1 g.2.2.2.1).1 == (1 : Int) || (opAt x.1 g.2.2.2.1).1 == (2 : Int)) = true →
 ((opAt x.1 g.2.2.2.1).1 == (1 : Int) || (opAt x.1 g.2.2.2.1).1 == (2 : Int)) = true) ∧
 (((opAt x.1 g.2.2.2.1).1 == (1 : Int) || (opAt x.1 g.2.2.2.1).1 == (2 : Int)) = true →
 ((opAt x.1 g.2.2.2.1).1 == (1 : Int) || (opAt x.1 g.2.2.2.1).1 == (2 : Int)) = true) ∧
 (((opAt x.1 g.2.2.2.1).1 == (1 : Int) || (opAt x.1 g.2.2.2.1).1 == (2 : Int)) = true →
 ((opAt x.1 g.2.2.2.1).1 == (1 : Int) || (opAt x.1 g.2.2.2.1).1 == (2 : Int)) = true) ∧
 ((((opAt x.1 g.2.2.2.1).1 == (1 : Int) || (opAt x.1 g.2.2.2.1).1 == (2 : Int)) && !decide ((opAt x.1 g.2.2.2.1).2.2 < (0 : Int))) = true →
 (((opAt x.1 g.2.2.2.1).1 == (1 : Int) || (opAt x.1 g.2.2.2.1).1 == (2 : Int)) && !decide ((opAt x.1 g.2.2.2.1).2.2 < (0 : Int))) = true) ∧
 ((((opAt x.1 g.2.2.2.1).1 == (1 : Int) || (opAt x.1 g.2.2.2.1).1 == (2 : Int)) && !decide ((opAt x.1 g.2.2.2.1).2.2 < (0 : Int))) = true →
 (((opAt x.1 g.2.2.2.1).1 == (1 : Int) || (opAt x.1 g.2.2.2.1).1 == (2 : Int)) && !decide ((opAt x.1 g.2.2.2.1).2.2 < (0 : Int))) = true) ∧
 (((opAt x.1 g.2.2.2.1).1 == (1 : Int) || (opAt x.1 g.2.2.2.1).1 == (2 : Int)) = true →
 ((opAt x.1 g.2.2.2.1).1 == (1 : Int) || (opAt x.1 g.2.2.2.1).1 == (2 : Int)) = true ∧
 (decide ((opAt x.1 g.2.2.2.1).2.2 < (0 : Int)) = false →
 (((opAt x.1 g.2.2.2.1).1 == (1 : Int) || (opAt x.1 g.2.2.2.1).1 == (2 : Int)) && !decide ((opAt x.1 g.2.2.2.1).2.2 < (0 : Int))) = true)) ∧
 (((opAt x.1 g.2.2.2.1).1 == (1 : Int) || (opAt x.1 g.2.2.2.1).1 == (2 : Int)) = true →
 ((opAt x.1 g.2.2.2.1).1 == (1 : Int) || (opAt x.1 g.2.2.2.1).1 == (2 : Int)) = true) ∧
 ((((opAt x.1 g.2.2.2.1).1 == (1 : Int) || (opAt x.1 g.2.2.2.1).1 == (2 : Int)) && (decide ((opAt x.1 g.2.2.2.1).2.2 < (0 : Int)) || decide ((31 : Int) < (opAt x.1 g.2.2.2.1).2.2))) = true →
 (g.2.1.length + (((0 : Int) :: ([] : List Int)).set (0 : Nat) (2 : Int)).length ≤ (9223372036854775807 : Nat) ∧
 (g.2.1.length + (((0 : Int) :: ([] : List Int)).set (0 : Nat) (2 : Int)).length + (g.2.1.length + (((0 : Int) :: ([] : List Int)).set (0 : Nat) (2 : Int)).length) / (4 : Nat) + (192 : Nat)) * (8 : Nat) ≤ (281474976710656 : Nat)) ∧
 ((-9223372036854775808 : Int) ≤ g.2.2.2.1 + (1 : Int) ∧
 g.2.2.2.1 + (1 : Int) ≤ (9223372036854775807 : Int)) ∧
 (((0 : Int) ≤ g.2.2.2.1 + (1 : Int) ∧
 g.2.2.2.1 + (1 : Int) ≤ (↑x.1.length : Int) ∧
 runQ (List.take (g.2.2.2.1 + (1 : Int)).toNat x.1) = (g.1, g.2.1 ++ ((0 : Int) :: ([] : List Int)).set (0 : Nat) (2 : Int), g.2.2.1) ∧
 (↑g.1.length : Int) ≤ g.2.2.2.1 + (1 : Int) ∧
 (↑(g.2.1 ++ ((0 : Int) :: ([] : List Int)).set (0 : Nat) (2 : Int)).length : Int) ≤ g.2.2.2.1 + (1 : Int) ∧
 (↑g.2.2.1.length : Int) ≤ g.2.2.2.1 + (1 : Int)) ∧
 ((↑x.1.length : Int) - (g.2.2.2.1 + (1 : Int))).toNat < ((↑x.1.length : Int) - g.2.2.2.1).toNat) ∧
 (True ∧
 True ∧
 True ∧
 RR (Value.slice none (0 : Nat) (0 : Nat)) ∧
 x.1 = x.1 ∧
 RR (↑x.1.length : Int) ∧
 g.2.2.2.1 + (1 : Int) = g.2.2.2.1 + (1 : Int) ∧
 True) ∧
 (g.1 = g.1 ∧
 g.2.1 ++ ((0 : Int) :: ([] : List Int)).set (0 : Nat) (2 : Int) = g.2.1 ++ ((0 : Int) :: ([] : List Int)).set (0 : Nat) (2 : Int) ∧
 g.2.2.1 = g.2.2.1 ∧
 True) ∧
 True) ∧
 ((((opAt x.1 g.2.2.2.1).1 == (1 : Int) || (opAt x.1 g.2.2.2.1).1 == (2 : Int)) && (decide ((opAt x.1 g.2.2.2.1).2.2 < (0 : Int)) || decide ((31 : Int) < (opAt x.1 g.2.2.2.1).2.2))) = false →
 (((opAt x.1 g.2.2.2.1).1 == (1 : Int) || (opAt x.1 g.2.2.2.1).1 == (2 : Int)) = true →
 ((opAt x.1 g.2.2.2.1).1 == (1 : Int) || (opAt x.1 g.2.2.2.1).1 == (2 : Int)) = true) ∧
 (((opAt x.1 g.2.2.2.1).1 == (1 : Int) || (opAt x.1 g.2.2.2.1).1 == (2 : Int)) = true →
 ((opAt x.1 g.2.2.2.1).1 == (1 : Int) || (opAt x.1 g.2.2.2.1).1 == (2 : Int)) = true) ∧
 ((((opAt x.1 g.2.2.2.1).1 == (1 : Int) || (opAt x.1 g.2.2.2.1).1 == (2 : Int)) && decide ((0 : Int) ≤ posQ g.1 (opAt x.1 g.2.2.2.1).2.1)) = true →
 (g.2.1.length + (((0 : Int) :: ([] : List Int)).set (0 : Nat) (6 : Int)).length ≤ (9223372036854775807 : Nat) ∧
 (g.2.1.length + (((0 : Int) :: ([] : List Int)).set (0 : Nat) (6 : Int)).length + (g.2.1.length + (((0 : Int) :: ([] : List Int)).set (0 : Nat) (6 : Int)).length) / (4 : Nat) + (192 : Nat)) * (8 : Nat) ≤ (281474976710656 : Nat)) ∧
 ((-9223372036854775808 : Int) ≤ g.2.2.2.1 + (1 : Int) ∧
 g.2.2.2.1 + (1 : Int) ≤ (9223372036854775807 : Int)) ∧
 (((0 : Int) ≤ g.2.2.2.1 + (1 : Int) ∧
 g.2.2.2.1 + (1 : Int) ≤ (↑x.1.length : Int) ∧
 runQ (List.take (g.2.2.2.1 + (1 : Int)).toNat x.1) = (g.1, g.2.1 ++ ((0 : Int) :: ([] : List Int)).set (0 : Nat) (6 : Int), g.2.2.1) ∧
 (↑g.1.length : Int) ≤ g.2.2.2.1 + (1 : Int) ∧
 (↑(g.2.1 ++ ((0 : Int) :: ([] : List Int)).set (0 : Nat) (6 : Int)).length : Int) ≤ g.2.2.2.1 + (1 : Int) ∧
 (↑g.2.2.1.length : Int) ≤ g.2.2.2.1 + (1 : Int)) ∧
 ((↑x.1.length : Int) - (g.2.2.2.1 + (1 : Int))).toNat < ((↑x.1.length : Int) - g.2.2.2.1).toNat) ∧
 (True ∧
 True ∧
 True ∧
 RR (Value.slice none (0 : Nat) (0 : Nat)) ∧
 x.1 = x.1 ∧
 RR (↑x.1.length : Int) ∧
 g.2.2.2.1 + (1 : Int) = g.2.2.2.1 + (1 : Int) ∧
 True) ∧
 (g.1 = g.1 ∧
 g.2.1 ++ ((0 : Int) :: ([] : List Int)).set (0 : Nat) (6 : Int) = g.2.1 ++ ((0 : Int) :: ([] : List Int)).set (0 : Nat) (6 : Int) ∧
 g.2.2.1 = g.2.2.1 ∧
 True) ∧
 True) ∧
 ((((opAt x.1 g.2.2.2.1).1 == (1 : Int) || (opAt x.1 g.2.2.2.1).1 == (2 : Int)) && decide ((0 : Int) ≤ posQ g.1 (opAt x.1 g.2.2.2.1).2.1)) = false →
 (((opAt x.1 g.2.2.2.1).1 == (1 : Int) || (opAt x.1 g.2.2.2.1).1 == (2 : Int)) = true →
 ((((0 : Int) ≤ (0 : Int) ∧
 (0 : Int) ≤ (↑g.1.length : Int) ∧
 (0 : Int) ≤ (↑(inQ g.1 ((opAt x.1 g.2.2.2.1).1, (opAt x.1 g.2.2.2.1).2.1, (opAt x.1 g.2.2.2.1).2.2)) : Int)) ∧
 True) ∧
 (True ∧
 True ∧
 True ∧
 RR (Value.slice none (0 : Nat) (0 : Nat)) ∧
 (True ∧
 True) ∧
 RR (0 : Int) ∧
 RR (0 : Int) ∧
 x.1 = x.1 ∧
 RR (↑x.1.length : Int) ∧
 RR g.2.2.2.1 ∧
 True) ∧
 (g.1 = g.1 ∧
 g.2.1 = g.2.1 ∧
 g.2.2.1 = g.2.2.1 ∧
 (RR ((opAt x.1 g.2.2.2.1).1) ∧
 RR ((opAt x.1 g.2.2.2.1).2.1) ∧
 RR ((opAt x.1 g.2.2.2.1).2.2) ∧
 True) ∧
 True) ∧
 True) ∧
 ∀ (g_1 : Int × Unit), (0 : Int) ≤ g_1.1 ∧
 g_1.1 ≤ (↑g.1.length : Int) ∧
 g_1.1 ≤ (↑(inQ g.1 ((opAt x.1 g.2.2.2.1).1, (opAt x.1 g.2.2.2.1).2.1, (opAt x.1 g.2.2.2.1).2.2)) : Int) →
 ((-9223372036854775808 : Int) ≤ g_1.1 ∧
 g_1.1 ≤ (9223372036854775807 : Int)) ∧
 True →
 (decide (g_1.1 < (↑g.1.length : Int)) = true →
 ((0 : Int) ≤ g_1.1 ∧
 g_1.1 < (↑g.1.length : Int)) ∧
 (decide ((opAt x.1 g.2.2.2.1).2.2 < (g.1.getD g_1.1.toNat ((0 : Int), (0 : Int))).2) = false →
 (((opAt x.1 g.2.2.2.1).1 == (1 : Int)) = true →
 ((0 : Int) ≤ g_1.1 ∧
 g_1.1 < (↑g.1.length : Int)) ∧
 (((g.1.getD g_1.1.toNat ((0 : Int), (0 : Int))).2 == (opAt x.1 g.2.2.2.1).2.2) = true →
 ((-9223372036854775808 : Int) ≤ g_1.1 + (1 : Int) ∧
 g_1.1 + (1 : Int) ≤ (9223372036854775807 : Int)) ∧
 (((0 : Int) ≤ g_1.1 + (1 : Int) ∧
 g_1.1 + (1 : Int) ≤ (↑g.1.length : Int) ∧
 g_1.1 + (1 : Int) ≤ (↑(inQ g.1 ((opAt x.1 g.2.2.2.1).1, (opAt x.1 g.2.2.2.1).2.1, (opAt x.1 g.2.2.2.1).2.2)) : Int)) ∧
 ((↑g.1.length : Int) - (g_1.1 + (1 : Int))).toNat < ((↑g.1.length : Int) - g_1.1).toNat) ∧
 (True ∧
 True ∧
 True ∧
 RR (Value.slice none (0 : Nat) (0 : Nat)) ∧
 (True ∧
 True) ∧
 RR (0 : Int) ∧
 g_1.1 + (1 : Int) = g_1.1 + (1 : Int) ∧
 x.1 = x.1 ∧
 RR (↑x.1.length : Int) ∧
 RR g.2.2.2.1 ∧
 True) ∧
 (g.1 = g.1 ∧
 g.2.1 = g.2.1 ∧
 g.2.2.1 = g.2.2.1 ∧
 (RR ((opAt x.1 g.2.2.2.1).1) ∧
 RR ((opAt x.1 g.2.2.2.1).2.1) ∧
 RR ((opAt x.1 g.2.2.2.1).2.2) ∧
 True) ∧
 True) ∧
 True) ∧
 (((g.1.getD g_1.1.toNat ((0 : Int), (0 : Int))).2 == (opAt x.1 g.2.2.2.1).2.2) = false →
 Holds ((g.1.length + (1 : Nat)) * (16 : Nat) ≤ (140737488355328 : Nat) ∧
 ((0 : Int) ≤ g_1.1 ∧
 g_1.1 ≤ (↑g.1.length : Int)) ∧
 ((((0 : Int), (0 : Int)) :: ([] : List (Int × Int))).set (0 : Nat) ((opAt x.1 g.2.2.2.1).2.1, (opAt x.1 g.2.2.2.1).2.2)).length = (1 : Nat)) ∧
 ((True ∧
 g_1.1 = g_1.1 ∧
 True ∧
 True) ∧
 g.1 = g.1 ∧
 RR ((((0 : Int), (0 : Int)) :: ([] : List (Int × Int))).set (0 : Nat) ((opAt x.1 g.2.2.2.1).2.1, (opAt x.1 g.2.2.2.1).2.2)) ∧
 True) ∧
 (g.2.1.length + (((0 : Int) :: ([] : List Int)).set (0 : Nat) (0 : Int)).length ≤ (9223372036854775807 : Nat) ∧
 (g.2.1.length + (((0 : Int) :: ([] : List Int)).set (0 : Nat) (0 : Int)).length + (g.2.1.length + (((0 : Int) :: ([] : List Int)).set (0 : Nat) (0 : Int)).length) / (4 : Nat) + (192 : Nat)) * (8 : Nat) ≤ (281474976710656 : Nat)) ∧
 ((-9223372036854775808 : Int) ≤ g.2.2.2.1 + (1 : Int) ∧
 g.2.2.2.1 + (1 : Int) ≤ (9223372036854775807 : Int)) ∧
 (((0 : Int) ≤ g.2.2.2.1 + (1 : Int) ∧
 g.2.2.2.1 + (1 : Int) ≤ (↑x.1.length : Int) ∧
 runQ (List.take (g.2.2.2.1 + (1 : Int)).toNat x.1) = (insA g.1 g_1.1 ((((0 : Int), (0 : Int)) :: ([] : List (Int × Int))).set (0 : Nat) ((opAt x.1 g.2.2.2.1).2.1, (opAt x.1 g.2.2.2.1).2.2)), g.2.1 ++ ((0 : Int) :: ([] : List Int)).set (0 : Nat) (0 : Int), g.2.2.1) ∧
 (↑(insA g.1 g_1.1 ((((0 : Int), (0 : Int)) :: ([] : List (Int × Int))).set (0 : Nat) ((opAt x.1 g.2.2.2.1).2.1, (opAt x.1 g.2.2.2.1).2.2))).length : Int) ≤ g.2.2.2.1 + (1 : Int) ∧
 (↑(g.2.1 ++ ((0 : Int) :: ([] : List Int)).set (0 : Nat) (0 : Int)).length : Int) ≤ g.2.2.2.1 + (1 : Int) ∧
 (↑g.2.2.1.length : Int) ≤ g.2.2.2.1 + (1 : Int)) ∧
 ((↑x.1.length : Int) - (g.2.2.2.1 + (1 : Int))).toNat < ((↑x.1.length : Int) - g.2.2.2.1).toNat) ∧
 (True ∧
 True ∧
 True ∧
 RR (Value.slice none (0 : Nat) (0 : Nat)) ∧
 x.1 = x.1 ∧
 RR (↑x.1.length : Int) ∧
 g.2.2.2.1 + (1 : Int) = g.2.2.2.1 + (1 : Int) ∧
 True) ∧
 (RR (insA g.1 g_1.1 ((((0 : Int), (0 : Int)) :: ([] : List (Int × Int))).set (0 : Nat) ((opAt x.1 g.2.2.2.1).2.1, (opAt x.1 g.2.2.2.1).2.2))) ∧
 g.2.1 ++ ((0 : Int) :: ([] : List Int)).set (0 : Nat) (0 : Int) = g.2.1 ++ ((0 : Int) :: ([] : List Int)).set (0 : Nat) (0 : Int) ∧
 g.2.2.1 = g.2.2.1 ∧
 True) ∧
 True)) ∧
 (((opAt x.1 g.2.2.2.1).1 == (1 : Int)) = !true →
 Holds ((g.1.length + (1 : Nat)) * (16 : Nat) ≤ (140737488355328 : Nat) ∧
 ((0 : Int) ≤ g_1.1 ∧
 g_1.1 ≤ (↑g.1.length : Int)) ∧
 ((((0 : Int), (0 : Int)) :: ([] : List (Int × Int))).set (0 : Nat) ((opAt x.1 g.2.2.2.1).2.1, (opAt x.1 g.2.2.2.1).2.2)).length = (1 : Nat)) ∧
 ((True ∧
 g_1.1 = g_1.1 ∧
 True ∧
 True) ∧
 g.1 = g.1 ∧
 RR ((((0 : Int), (0 : Int)) :: ([] : List (Int × Int))).set (0 : Nat) ((opAt x.1 g.2.2.2.1).2.1, (opAt x.1 g.2.2.2.1).2.2)) ∧
 True) ∧
 (g.2.1.length + (((0 : Int) :: ([] : List Int)).set (0 : Nat) (0 : Int)).length ≤ (9223372036854775807 : Nat) ∧
 (g.2.1.length + (((0 : Int) :: ([] : List Int)).set (0 : Nat) (0 : Int)).length + (g.2.1.length + (((0 : Int) :: ([] : List Int)).set (0 : Nat) (0 : Int)).length) / (4 : Nat) + (192 : Nat)) * (8 : Nat) ≤ (281474976710656 : Nat)) ∧
 ((-9223372036854775808 : Int) ≤ g.2.2.2.1 + (1 : Int) ∧
 g.2.2.2.1 + (1 : Int) ≤ (9223372036854775807 : Int)) ∧
 (((0 : Int) ≤ g.2.2.2.1 + (1 : Int) ∧
 g.2.2.2.1 + (1 : Int) ≤ (↑x.1.length : Int) ∧
 runQ (List.take (g.2.2.2.1 + (1 : Int)).toNat x.1) = (insA g.1 g_1.1 ((((0 : Int), (0 : Int)) :: ([] : List (Int × Int))).set (0 : Nat) ((opAt x.1 g.2.2.2.1).2.1, (opAt x.1 g.2.2.2.1).2.2)), g.2.1 ++ ((0 : Int) :: ([] : List Int)).set (0 : Nat) (0 : Int), g.2.2.1) ∧
 (↑(insA g.1 g_1.1 ((((0 : Int), (0 : Int)) :: ([] : List (Int × Int))).set (0 : Nat) ((opAt x.1 g.2.2.2.1).2.1, (opAt x.1 g.2.2.2.1).2.2))).length : Int) ≤ g.2.2.2.1 + (1 : Int) ∧
 (↑(g.2.1 ++ ((0 : Int) :: ([] : List Int)).set (0 : Nat) (0 : Int)).length : Int) ≤ g.2.2.2.1 + (1 : Int) ∧
 (↑g.2.2.1.length : Int) ≤ g.2.2.2.1 + (1 : Int)) ∧
 ((↑x.1.length : Int) - (g.2.2.2.1 + (1 : Int))).toNat < ((↑x.1.length : Int) - g.2.2.2.1).toNat) ∧
 (True ∧
 True ∧
 True ∧
 RR (Value.slice none (0 : Nat) (0 : Nat)) ∧
 x.1 = x.1 ∧
 RR (↑x.1.length : Int) ∧
 g.2.2.2.1 + (1 : Int) = g.2.2.2.1 + (1 : Int) ∧
 True) ∧
 (RR (insA g.1 g_1.1 ((((0 : Int), (0 : Int)) :: ([] : List (Int × Int))).set (0 : Nat) ((opAt x.1 g.2.2.2.1).2.1, (opAt x.1 g.2.2.2.1).2.2))) ∧
 g.2.1 ++ ((0 : Int) :: ([] : List Int)).set (0 : Nat) (0 : Int) = g.2.1 ++ ((0 : Int) :: ([] : List Int)).set (0 : Nat) (0 : Int) ∧
 g.2.2.1 = g.2.2.1 ∧
 True) ∧
 True)) ∧
 (decide ((opAt x.1 g.2.2.2.1).2.2 < (g.1.getD g_1.1.toNat ((0 : Int), (0 : Int))).2) = !false →
 ((-9223372036854775808 : Int) ≤ g_1.1 + (1 : Int) ∧
 g_1.1 + (1 : Int) ≤ (9223372036854775807 : Int)) ∧
 (((0 : Int) ≤ g_1.1 + (1 : Int) ∧
 g_1.1 + (1 : Int) ≤ (↑g.1.length : Int) ∧
 g_1.1 + (1 : Int) ≤ (↑(inQ g.1 ((opAt x.1 g.2.2.2.1).1, (opAt x.1 g.2.2.2.1).2.1, (opAt x.1 g.2.2.2.1).2.2)) : Int)) ∧
 ((↑g.1.length : Int) - (g_1.1 + (1 : Int))).toNat < ((↑g.1.length : Int) - g_1.1).toNat) ∧
 (True ∧
 True ∧
 True ∧
 RR (Value.slice none (0 : Nat) (0 : Nat)) ∧
 (True ∧
 True) ∧
 RR (0 : Int) ∧
 g_1.1 + (1 : Int) = g_1.1 + (1 : Int) ∧
 x.1 = x.1 ∧
 RR (↑x.1.length : Int) ∧
 RR g.2.2.2.1 ∧
 True) ∧
 (g.1 = g.1 ∧
 g.2.1 = g.2.1 ∧
 g.2.2.1 = g.2.2.1 ∧
 (RR ((opAt x.1 g.2.2.2.1).1) ∧
 RR ((opAt x.1 g.2.2.2.1).2.1) ∧
 RR ((opAt x.1 g.2.2.2.1).2.2) ∧
 True) ∧
 True) ∧
 True)) ∧
 (decide (g_1.1 < (↑g.1.length : Int)) = !true →
 Holds ((g.1.length + (1 : Nat)) * (16 : Nat) ≤ (140737488355328 : Nat) ∧
 ((0 : Int) ≤ g_1.1 ∧
 g_1.1 ≤ (↑g.1.length : Int)) ∧
 ((((0 : Int), (0 : Int)) :: ([] : List (Int × Int))).set (0 : Nat) ((opAt x.1 g.2.2.2.1).2.1, (opAt x.1 g.2.2.2.1).2.2)).length = (1 : Nat)) ∧
 ((True ∧
 g_1.1 = g_1.1 ∧
 True ∧
 True) ∧
 g.1 = g.1 ∧
 RR ((((0 : Int), (0 : Int)) :: ([] : List (Int × Int))).set (0 : Nat) ((opAt x.1 g.2.2.2.1).2.1, (opAt x.1 g.2.2.2.1).2.2)) ∧
 True) ∧
 (g.2.1.length + (((0 : Int) :: ([] : List Int)).set (0 : Nat) (0 : Int)).length ≤ (9223372036854775807 : Nat) ∧
 (g.2.1.length + (((0 : Int) :: ([] : List Int)).set (0 : Nat) (0 : Int)).length + (g.2.1.length + (((0 : Int) :: ([] : List Int)).set (0 : Nat) (0 : Int)).length) / (4 : Nat) + (192 : Nat)) * (8 : Nat) ≤ (281474976710656 : Nat)) ∧
 ((-9223372036854775808 : Int) ≤ g.2.2.2.1 + (1 : Int) ∧
 g.2.2.2.1 + (1 : Int) ≤ (9223372036854775807 : Int)) ∧
 (((0 : Int) ≤ g.2.2.2.1 + (1 : Int) ∧
 g.2.2.2.1 + (1 : Int) ≤ (↑x.1.length : Int) ∧
 runQ (List.take (g.2.2.2.1 + (1 : Int)).toNat x.1) = (insA g.1 g_1.1 ((((0 : Int), (0 : Int)) :: ([] : List (Int × Int))).set (0 : Nat) ((opAt x.1 g.2.2.2.1).2.1, (opAt x.1 g.2.2.2.1).2.2)), g.2.1 ++ ((0 : Int) :: ([] : List Int)).set (0 : Nat) (0 : Int), g.2.2.1) ∧
 (↑(insA g.1 g_1.1 ((((0 : Int), (0 : Int)) :: ([] : List (Int × Int))).set (0 : Nat) ((opAt x.1 g.2.2.2.1).2.1, (opAt x.1 g.2.2.2.1).2.2))).length : Int) ≤ g.2.2.2.1 + (1 : Int) ∧
 (↑(g.2.1 ++ ((0 : Int) :: ([] : List Int)).set (0 : Nat) (0 : Int)).length : Int) ≤ g.2.2.2.1 + (1 : Int) ∧
 (↑g.2.2.1.length : Int) ≤ g.2.2.2.1 + (1 : Int)) ∧
 ((↑x.1.length : Int) - (g.2.2.2.1 + (1 : Int))).toNat < ((↑x.1.length : Int) - g.2.2.2.1).toNat) ∧
 (True ∧
 True ∧
 True ∧
 RR (Value.slice none (0 : Nat) (0 : Nat)) ∧
 x.1 = x.1 ∧
 RR (↑x.1.length : Int) ∧
 g.2.2.2.1 + (1 : Int) = g.2.2.2.1 + (1 : Int) ∧
 True) ∧
 (RR (insA g.1 g_1.1 ((((0 : Int), (0 : Int)) :: ([] : List (Int × Int))).set (0 : Nat) ((opAt x.1 g.2.2.2.1).2.1, (opAt x.1 g.2.2.2.1).2.2))) ∧
 g.2.1 ++ ((0 : Int) :: ([] : List Int)).set (0 : Nat) (0 : Int) = g.2.1 ++ ((0 : Int) :: ([] : List Int)).set (0 : Nat) (0 : Int) ∧
 g.2.2.1 = g.2.2.1 ∧
 True) ∧
 True)) ∧
 (((opAt x.1 g.2.2.2.1).1 == (1 : Int) || (opAt x.1 g.2.2.2.1).1 == (2 : Int)) = false →
 (((opAt x.1 g.2.2.2.1).1 == (3 : Int)) = true →
 ((opAt x.1 g.2.2.2.1).1 == (3 : Int)) = true) ∧
 (((opAt x.1 g.2.2.2.1).1 == (3 : Int)) = true →
 ((opAt x.1 g.2.2.2.1).1 == (3 : Int)) = true) ∧
 (((opAt x.1 g.2.2.2.1).1 == (3 : Int)) = true →
 ((opAt x.1 g.2.2.2.1).1 == (3 : Int)) = true) ∧
 (((opAt x.1 g.2.2.2.1).1 == (3 : Int) && (↑g.1.length : Int) == (0 : Int)) = true →
 (g.2.1.length + (((0 : Int) :: ([] : List Int)).set (0 : Nat) (3 : Int)).length ≤ (9223372036854775807 : Nat) ∧
 (g.2.1.length + (((0 : Int) :: ([] : List Int)).set (0 : Nat) (3 : Int)).length + (g.2.1.length + (((0 : Int) :: ([] : List Int)).set (0 : Nat) (3 : Int)).length) / (4 : Nat) + (192 : Nat)) * (8 : Nat) ≤ (281474976710656 : Nat)) ∧
 ((-9223372036854775808 : Int) ≤ g.2.2.2.1 + (1 : Int) ∧
 g.2.2.2.1 + (1 : Int) ≤ (9223372036854775807 : Int)) ∧
 (((0 : Int) ≤ g.2.2.2.1 + (1 : Int) ∧
 g.2.2.2.1 + (1 : Int) ≤ (↑x.1.length : Int) ∧
 runQ (List.take (g.2.2.2.1 + (1 : Int)).toNat x.1) = (g.1, g.2.1 ++ ((0 : Int) :: ([] : List Int)).set (0 : Nat) (3 : Int), g.2.2.1) ∧
 (↑g.1.length : Int) ≤ g.2.2.2.1 + (1 : Int) ∧
 (↑(g.2.1 ++ ((0 : Int) :: ([] : List Int)).set (0 : Nat) (3 : Int)).length : Int) ≤ g.2.2.2.1 + (1 : Int) ∧
 (↑g.2.2.1.length : Int) ≤ g.2.2.2.1 + (1 : Int)) ∧
 ((↑x.1.length : Int) - (g.2.2.2.1 + (1 : Int))).toNat < ((↑x.1.length : Int) - g.2.2.2.1).toNat) ∧
 (True ∧
 True ∧
 True ∧
 RR (Value.slice none (0 : Nat) (0 : Nat)) ∧
 x.1 = x.1 ∧
 RR (↑x.1.length : Int) ∧
 g.2.2.2.1 + (1 : Int) = g.2.2.2.1 + (1 : Int) ∧
 True) ∧
 (g.1 = g.1 ∧
 g.2.1 ++ ((0 : Int) :: ([] : List Int)).set (0 : Nat) (3 : Int) = g.2.1 ++ ((0 : Int) :: ([] : List Int)).set (0 : Nat) (3 : Int) ∧
 g.2.2.1 = g.2.2.1 ∧
 True) ∧
 True) ∧
 (((opAt x.1 g.2.2.2.1).1 == (3 : Int) && (↑g.1.length : Int) == (0 : Int)) = false →
 (((opAt x.1 g.2.2.2.1).1 == (4 : Int)) = true →
 ((opAt x.1 g.2.2.2.1).1 == (4 : Int)) = true) ∧
 (((opAt x.1 g.2.2.2.1).1 == (4 : Int)) = true →
 ((opAt x.1 g.2.2.2.1).1 == (4 : Int)) = true) ∧
 (((opAt x.1 g.2.2.2.1).1 == (4 : Int) && decide (posQ g.1 (opAt x.1 g.2.2.2.1).2.1 < (0 : Int))) = true →
 (g.2.1.length + (((0 : Int) :: ([] : List Int)).set (0 : Nat) (3 : Int)).length ≤ (9223372036854775807 : Nat) ∧
 (g.2.1.length + (((0 : Int) :: ([] : List Int)).set (0 : Nat) (3 : Int)).length + (g.2.1.length + (((0 : Int) :: ([] : List Int)).set (0 : Nat) (3 : Int)).length) / (4 : Nat) + (192 : Nat)) * (8 : Nat) ≤ (281474976710656 : Nat)) ∧
 ((-9223372036854775808 : Int) ≤ g.2.2.2.1 + (1 : Int) ∧
 g.2.2.2.1 + (1 : Int) ≤ (9223372036854775807 : Int)) ∧
 (((0 : Int) ≤ g.2.2.2.1 + (1 : Int) ∧
 g.2.2.2.1 + (1 : Int) ≤ (↑x.1.length : Int) ∧
 runQ (List.take (g.2.2.2.1 + (1 : Int)).toNat x.1) = (g.1, g.2.1 ++ ((0 : Int) :: ([] : List Int)).set (0 : Nat) (3 : Int), g.2.2.1) ∧
 (↑g.1.length : Int) ≤ g.2.2.2.1 + (1 : Int) ∧
 (↑(g.2.1 ++ ((0 : Int) :: ([] : List Int)).set (0 : Nat) (3 : Int)).length : Int) ≤ g.2.2.2.1 + (1 : Int) ∧
 (↑g.2.2.1.length : Int) ≤ g.2.2.2.1 + (1 : Int)) ∧
 ((↑x.1.length : Int) - (g.2.2.2.1 + (1 : Int))).toNat < ((↑x.1.length : Int) - g.2.2.2.1).toNat) ∧
 (True ∧
 True ∧
 True ∧
 RR (Value.slice none (0 : Nat) (0 : Nat)) ∧
 x.1 = x.1 ∧
 RR (↑x.1.length : Int) ∧
 g.2.2.2.1 + (1 : Int) = g.2.2.2.1 + (1 : Int) ∧
 True) ∧
 (g.1 = g.1 ∧
 g.2.1 ++ ((0 : Int) :: ([] : List Int)).set (0 : Nat) (3 : Int) = g.2.1 ++ ((0 : Int) :: ([] : List Int)).set (0 : Nat) (3 : Int) ∧
 g.2.2.1 = g.2.2.1 ∧
 True) ∧
 True) ∧
 (((opAt x.1 g.2.2.2.1).1 == (4 : Int) && decide (posQ g.1 (opAt x.1 g.2.2.2.1).2.1 < (0 : Int))) = false →
 (((opAt x.1 g.2.2.2.1).1 == (3 : Int)) = true →
 ((0 : Int) ≤ (0 : Int) ∧
 (0 : Int) < (↑g.1.length : Int)) ∧
 (g.2.2.1.length + (((0 : Int) :: ([] : List Int)).set (0 : Nat) (g.1.getD (nat_lit 0) ((0 : Int), (0 : Int))).1).length ≤ (9223372036854775807 : Nat) ∧
 (g.2.2.1.length + (((0 : Int) :: ([] : List Int)).set (0 : Nat) (g.1.getD (nat_lit 0) ((0 : Int), (0 : Int))).1).length + (g.2.2.1.length + (((0 : Int) :: ([] : List Int)).set (0 : Nat) (g.1.getD (nat_lit 0) ((0 : Int), (0 : Int))).1).length) / (4 : Nat) + (192 : Nat)) * (8 : Nat) ≤ (281474976710656 : Nat)) ∧
 (((0 : Int) ≤ (1 : Int) ∧
 (1 : Int) ≤ (↑g.1.length : Int)) ∧
 (↑g.1.length : Int) ≤ (↑g.1.length : Int)) ∧
 (g.2.1.length + (((0 : Int) :: ([] : List Int)).set (0 : Nat) (0 : Int)).length ≤ (9223372036854775807 : Nat) ∧
 (g.2.1.length + (((0 : Int) :: ([] : List Int)).set (0 : Nat) (0 : Int)).length + (g.2.1.length + (((0 : Int) :: ([] : List Int)).set (0 : Nat) (0 : Int)).length) / (4 : Nat) + (192 : Nat)) * (8 : Nat) ≤ (281474976710656 : Nat)) ∧
 ((-9223372036854775808 : Int) ≤ g.2.2.2.1 + (1 : Int) ∧
 g.2.2.2.1 + (1 : Int) ≤ (9223372036854775807 : Int)) ∧
 (((0 : Int) ≤ g.2.2.2.1 + (1 : Int) ∧
 g.2.2.2.1 + (1 : Int) ≤ (↑x.1.length : Int) ∧
 runQ (List.take (g.2.2.2.1 + (1 : Int)).toNat x.1) = (List.drop (nat_lit 1) (List.take (↑g.1.length : Int).toNat g.1), g.2.1 ++ ((0 : Int) :: ([] : List Int)).set (0 : Nat) (0 : Int), g.2.2.1 ++ ((0 : Int) :: ([] : List Int)).set (0 : Nat) (g.1.getD (nat_lit 0) ((0 : Int), (0 : Int))).1) ∧
 (↑(List.drop (nat_lit 1) (List.take (↑g.1.length : Int).toNat g.1)).length : Int) ≤ g.2.2.2.1 + (1 : Int) ∧
 (↑(g.2.1 ++ ((0 : Int) :: ([] : List Int)).set (0 : Nat) (0 : Int)).length : Int) ≤ g.2.2.2.1 + (1 : Int) ∧
 (↑(g.2.2.1 ++ ((0 : Int) :: ([] : List Int)).set (0 : Nat) (g.1.getD (nat_lit 0) ((0 : Int), (0 : Int))).1).length : Int) ≤ g.2.2.2.1 + (1 : Int)) ∧
 ((↑x.1.length : Int) - (g.2.2.2.1 + (1 : Int))).toNat < ((↑x.1.length : Int) - g.2.2.2.1).toNat) ∧
 (True ∧
 True ∧
 True ∧
 RR (Value.slice none (0 : Nat) (0 : Nat)) ∧
 x.1 = x.1 ∧
 RR (↑x.1.length : Int) ∧
 g.2.2.2.1 + (1 : Int) = g.2.2.2.1 + (1 : Int) ∧
 True) ∧
 (RR (List.drop (nat_lit 1) (List.take (↑g.1.length : Int).toNat g.1)) ∧
 g.2.1 ++ ((0 : Int) :: ([] : List Int)).set (0 : Nat) (0 : Int) = g.2.1 ++ ((0 : Int) :: ([] : List Int)).set (0 : Nat) (0 : Int) ∧
 g.2.2.1 ++ ((0 : Int) :: ([] : List Int)).set (0 : Nat) (g.1.getD (nat_lit 0) ((0 : Int), (0 : Int))).1 = g.2.2.1 ++ ((0 : Int) :: ([] : List Int)).set (0 : Nat) (g.1.getD (nat_lit 0) ((0 : Int), (0 : Int))).1 ∧
 True) ∧
 True) ∧
 (((opAt x.1 g.2.2.2.1).1 == (3 : Int)) = false →
 Holds (g.1.length * (16 : Nat) ≤ (140737488355328 : Nat)) ∧
 ((-9223372036854775808 : Int) ≤ posQ g.1 (opAt x.1 g.2.2.2.1).2.1 + (1 : Int) ∧
 posQ g.1 (opAt x.1 g.2.2.2.1).2.1 + (1 : Int) ≤ (9223372036854775807 : Int)) ∧
 ((((0 : Int) ≤ posQ g.1 (opAt x.1 g.2.2.2.1).2.1 ∧
 posQ g.1 (opAt x.1 g.2.2.2.1).2.1 ≤ posQ g.1 (opAt x.1 g.2.2.2.1).2.1 + (1 : Int)) ∧
 posQ g.1 (opAt x.1 g.2.2.2.1).2.1 + (1 : Int) ≤ (↑g.1.length : Int)) ∧
 (↑g.1.length : Int) ≤ (↑g.1.length : Int)) ∧
 ((posQ g.1 (opAt x.1 g.2.2.2.1).2.1 == posQ g.1 (opAt x.1 g.2.2.2.1).2.1 + (1 : Int)) = true →
 (g.2.1.length + (((0 : Int) :: ([] : List Int)).set (0 : Nat) (0 : Int)).length ≤ (9223372036854775807 : Nat) ∧
 (g.2.1.length + (((0 : Int) :: ([] : List Int)).set (0 : Nat) (0 : Int)).length + (g.2.1.length + (((0 : Int) :: ([] : List Int)).set (0 : Nat) (0 : Int)).length) / (4 : Nat) + (192 : Nat)) * (8 : Nat) ≤ (281474976710656 : Nat)) ∧
 ((-9223372036854775808 : Int) ≤ g.2.2.2.1 + (1 : Int) ∧
 g.2.2.2.1 + (1 : Int) ≤ (9223372036854775807 : Int)) ∧
 (((0 : Int) ≤ g.2.2.2.1 + (1 : Int) ∧
 g.2.2.2.1 + (1 : Int) ≤ (↑x.1.length : Int) ∧
 runQ (List.take (g.2.2.2.1 + (1 : Int)).toNat x.1) = (g.1, g.2.1 ++ ((0 : Int) :: ([] : List Int)).set (0 : Nat) (0 : Int), g.2.2.1) ∧
 (↑g.1.length : Int) ≤ g.2.2.2.1 + (1 : Int) ∧
 (↑(g.2.1 ++ ((0 : Int) :: ([] : List Int)).set (0 : Nat) (0 : Int)).length : Int) ≤ g.2.2.2.1 + (1 : Int) ∧
 (↑g.2.2.1.length : Int) ≤ g.2.2.2.1 + (1 : Int)) ∧
 ((↑x.1.length : Int) - (g.2.2.2.1 + (1 : Int))).toNat < ((↑x.1.length : Int) - g.2.2.2.1).toNat) ∧
 (True ∧
 True ∧
 True ∧
 RR (Value.slice none (0 : Nat) (0 : Nat)) ∧
 x.1 = x.1 ∧
 RR (↑x.1.length : Int) ∧
 g.2.2.2.1 + (1 : Int) = g.2.2.2.1 + (1 : Int) ∧
 True) ∧
 (g.1 = g.1 ∧
 g.2.1 ++ ((0 : Int) :: ([] : List Int)).set (0 : Nat) (0 : Int) = g.2.1 ++ ((0 : Int) :: ([] : List Int)).set (0 : Nat) (0 : Int) ∧
 g.2.2.1 = g.2.2.1 ∧
 True) ∧
 True) ∧
 ((posQ g.1 (opAt x.1 g.2.2.2.1).2.1 == posQ g.1 (opAt x.1 g.2.2.2.1).2.1 + (1 : Int)) = false →
 (((0 : Int) ≤ (0 : Int) ∧
 (0 : Int) ≤ posQ g.1 (opAt x.1 g.2.2.2.1).2.1) ∧
 posQ g.1 (opAt x.1 g.2.2.2.1).2.1 ≤ (↑g.1.length : Int)) ∧
 (((0 : Int) ≤ posQ g.1 (opAt x.1 g.2.2.2.1).2.1 + (1 : Int) ∧
 posQ g.1 (opAt x.1 g.2.2.2.1).2.1 + (1 : Int) ≤ (↑g.1.length : Int)) ∧
 (↑g.1.length : Int) ≤ (↑g.1.length : Int)) ∧
 (posQ g.1 (opAt x.1 g.2.2.2.1).2.1).toNat + (List.drop (posQ g.1 (opAt x.1 g.2.2.2.1).2.1 + (1 : Int)).toNat (List.take (↑g.1.length : Int).toNat g.1)).length ≤ g.1.length ∧
 (((0 : Int) ≤ (↑(List.drop (nat_lit 0) (List.take ((posQ g.1 (opAt x.1 g.2.2.2.1).2.1).toNat + (List.drop (posQ g.1 (opAt x.1 g.2.2.2.1).2.1 + (1 : Int)).toNat (List.take (↑g.1.length : Int).toNat g.1)).length) (List.take (posQ g.1 (opAt x.1 g.2.2.2.1).2.1).toNat g.1 ++ (List.drop (posQ g.1 (opAt x.1 g.2.2.2.1).2.1 + (1 : Int)).toNat (List.take (↑g.1.length : Int).toNat g.1) ++ List.drop ((posQ g.1 (opAt x.1 g.2.2.2.1).2.1).toNat + (List.drop (posQ g.1 (opAt x.1 g.2.2.2.1).2.1 + (1 : Int)).toNat (List.take (↑g.1.length : Int).toNat g.1)).length) g.1)))).length : Int) ∧
 (↑(List.drop (nat_lit 0) (List.take ((posQ g.1 (opAt x.1 g.2.2.2.1).2.1).toNat + (List.drop (posQ g.1 (opAt x.1 g.2.2.2.1).2.1 + (1 : Int)).toNat (List.take (↑g.1.length : Int).toNat g.1)).length) (List.take (posQ g.1 (opAt x.1 g.2.2.2.1).2.1).toNat g.1 ++ (List.drop (posQ g.1 (opAt x.1 g.2.2.2.1).2.1 + (1 : Int)).toNat (List.take (↑g.1.length : Int).toNat g.1) ++ List.drop ((posQ g.1 (opAt x.1 g.2.2.2.1).2.1).toNat + (List.drop (posQ g.1 (opAt x.1 g.2.2.2.1).2.1 + (1 : Int)).toNat (List.take (↑g.1.length : Int).toNat g.1)).length) g.1)))).length : Int) ≤ (↑g.1.length : Int)) ∧
 (↑g.1.length : Int) ≤ (↑(List.take (posQ g.1 (opAt x.1 g.2.2.2.1).2.1).toNat g.1 ++ (List.drop (posQ g.1 (opAt x.1 g.2.2.2.1).2.1 + (1 : Int)).toNat (List.take (↑g.1.length : Int).toNat g.1) ++ List.drop ((posQ g.1 (opAt x.1 g.2.2.2.1).2.1).toNat + (List.drop (posQ g.1 (opAt x.1 g.2.2.2.1).2.1 + (1 : Int)).toNat (List.take (↑g.1.length : Int).toNat g.1)).length) g.1)).length : Int)) ∧
 (g.2.1.length + (((0 : Int) :: ([] : List Int)).set (0 : Nat) (0 : Int)).length ≤ (9223372036854775807 : Nat) ∧
 (g.2.1.length + (((0 : Int) :: ([] : List Int)).set (0 : Nat) (0 : Int)).length + (g.2.1.length + (((0 : Int) :: ([] : List Int)).set (0 : Nat) (0 : Int)).length) / (4 : Nat) + (192 : Nat)) * (8 : Nat) ≤ (281474976710656 : Nat)) ∧
 ((-9223372036854775808 : Int) ≤ g.2.2.2.1 + (1 : Int) ∧
 g.2.2.2.1 + (1 : Int) ≤ (9223372036854775807 : Int)) ∧
 (((0 : Int) ≤ g.2.2.2.1 + (1 : Int) ∧
 g.2.2.2.1 + (1 : Int) ≤ (↑x.1.length : Int) ∧
 runQ (List.take (g.2.2.2.1 + (1 : Int)).toNat x.1) = (List.drop (nat_lit 0) (List.take ((posQ g.1 (opAt x.1 g.2.2.2.1).2.1).toNat + (List.drop (posQ g.1 (opAt x.1 g.2.2.2.1).2.1 + (1 : Int)).toNat (List.take (↑g.1.length : Int).toNat g.1)).length) (List.take (↑(List.drop (nat_lit 0) (List.take ((posQ g.1 (opAt x.1 g.2.2.2.1).2.1).toNat + (List.drop (posQ g.1 (opAt x.1 g.2.2.2.1).2.1 + (1 : Int)).toNat (List.take (↑g.1.length : Int).toNat g.1)).length) (List.take (posQ g.1 (opAt x.1 g.2.2.2.1).2.1).toNat g.1 ++ (List.drop (posQ g.1 (opAt x.1 g.2.2.2.1).2.1 + (1 : Int)).toNat (List.take (↑g.1.length : Int).toNat g.1) ++ List.drop ((posQ g.1 (opAt x.1 g.2.2.2.1).2.1).toNat + (List.drop (posQ g.1 (opAt x.1 g.2.2.2.1).2.1 + (1 : Int)).toNat (List.take (↑g.1.length : Int).toNat g.1)).length) g.1)))).length : Int).toNat (List.take (posQ g.1 (opAt x.1 g.2.2.2.1).2.1).toNat g.1 ++ (List.drop (posQ g.1 (opAt x.1 g.2.2.2.1).2.1 + (1 : Int)).toNat (List.take (↑g.1.length : Int).toNat g.1) ++ List.drop ((posQ g.1 (opAt x.1 g.2.2.2.1).2.1).toNat + (List.drop (posQ g.1 (opAt x.1 g.2.2.2.1).2.1 + (1 : Int)).toNat (List.take (↑g.1.length : Int).toNat g.1)).length) g.1)) ++ (List.replicate ((↑g.1.length : Int).toNat - (↑(List.drop (nat_lit 0) (List.take ((posQ g.1 (opAt x.1 g.2.2.2.1).2.1).toNat + (List.drop (posQ g.1 (opAt x.1 g.2.2.2.1).2.1 + (1 : Int)).toNat (List.take (↑g.1.length : Int).toNat g.1)).length) (List.take (posQ g.1 (opAt x.1 g.2.2.2.1).2.1).toNat g.1 ++ (List.drop (posQ g.1 (opAt x.1 g.2.2.2.1).2.1 + (1 : Int)).toNat (List.take (↑g.1.length : Int).toNat g.1) ++ List.drop ((posQ g.1 (opAt x.1 g.2.2.2.1).2.1).toNat + (List.drop (posQ g.1 (opAt x.1 g.2.2.2.1).2.1 + (1 : Int)).toNat (List.take (↑g.1.length : Int).toNat g.1)).length) g.1)))).length : Int).toNat) ((0 : Int), (0 : Int)) ++ List.drop ((↑(List.drop (nat_lit 0) (List.take ((posQ g.1 (opAt x.1 g.2.2.2.1).2.1).toNat + (List.drop (posQ g.1 (opAt x.1 g.2.2.2.1).2.1 + (1 : Int)).toNat (List.take (↑g.1.length : Int).toNat g.1)).length) (List.take (posQ g.1 (opAt x.1 g.2.2.2.1).2.1).toNat g.1 ++ (List.drop (posQ g.1 (opAt x.1 g.2.2.2.1).2.1 + (1 : Int)).toNat (List.take (↑g.1.length : Int).toNat g.1) ++ List.drop ((posQ g.1 (opAt x.1 g.2.2.2.1).2.1).toNat + (List.drop (posQ g.1 (opAt x.1 g.2.2.2.1).2.1 + (1 : Int)).toNat (List.take (↑g.1.length : Int).toNat g.1)).length) g.1)))).length : Int).toNat + ((↑g.1.length : Int).toNat - (↑(List.drop (nat_lit 0) (List.take ((posQ g.1 (opAt x.1 g.2.2.2.1).2.1).toNat + (List.drop (posQ g.1 (opAt x.1 g.2.2.2.1).2.1 + (1 : Int)).toNat (List.take (↑g.1.length : Int).toNat g.1)).length) (List.take (posQ g.1 (opAt x.1 g.2.2.2.1).2.1).toNat g.1 ++ (List.drop (posQ g.1 (opAt x.1 g.2.2.2.1).2.1 + (1 : Int)).toNat (List.take (↑g.1.length : Int).toNat g.1) ++ List.drop ((posQ g.1 (opAt x.1 g.2.2.2.1).2.1).toNat + (List.drop (posQ g.1 (opAt x.1 g.2.2.2.1).2.1 + (1 : Int)).toNat (List.take (↑g.1.length : Int).toNat g.1)).length) g.1)))).length : Int).toNat)) (List.take (posQ g.1 (opAt x.1 g.2.2.2.1).2.1).toNat g.1 ++ (List.drop (posQ g.1 (opAt x.1 g.2.2.2.1).2.1 + (1 : Int)).toNat (List.take (↑g.1.length : Int).toNat g.1) ++ List.drop ((posQ g.1 (opAt x.1 g.2.2.2.1).2.1).toNat + (List.drop (posQ g.1 (opAt x.1 g.2.2.2.1).2.1 + (1 : Int)).toNat (List.take (↑g.1.length : Int).toNat g.1)).length) g.1))))), g.2.1 ++ ((0 : Int) :: ([] : List Int)).set (0 : Nat) (0 : Int), g.2.2.1) ∧
 (↑(List.drop (nat_lit 0) (List.take ((posQ g.1 (opAt x.1 g.2.2.2.1).2.1).toNat + (List.drop (posQ g.1 (opAt x.1 g.2.2.2.1).2.1 + (1 : Int)).toNat (List.take (↑g.1.length : Int).toNat g.1)).length) (List.take (↑(List.drop (nat_lit 0) (List.take ((posQ g.1 (opAt x.1 g.2.2.2.1).2.1).toNat + (List.drop (posQ g.1 (opAt x.1 g.2.2.2.1).2.1 + (1 : Int)).toNat (List.take (↑g.1.length : Int).toNat g.1)).length) (List.take (posQ g.1 (opAt x.1 g.2.2.2.1).2.1).toNat g.1 ++ (List.drop (posQ g.1 (opAt x.1 g.2.2.2.1).2.1 + (1 : Int)).toNat (List.take (↑g.1.length : Int).toNat g.1) ++ List.drop ((posQ g.1 (opAt x.1 g.2.2.2.1).2.1).toNat + (List.drop (posQ g.1 (opAt x.1 g.2.2.2.1).2.1 + (1 : Int)).toNat (List.take (↑g.1.length : Int).toNat g.1)).length) g.1)))).length : Int).toNat (List.take (posQ g.1 (opAt x.1 g.2.2.2.1).2.1).toNat g.1 ++ (List.drop (posQ g.1 (opAt x.1 g.2.2.2.1).2.1 + (1 : Int)).toNat (List.take (↑g.1.length : Int).toNat g.1) ++ List.drop ((posQ g.1 (opAt x.1 g.2.2.2.1).2.1).toNat + (List.drop (posQ g.1 (opAt x.1 g.2.2.2.1).2.1 + (1 : Int)).toNat (List.take (↑g.1.length : Int).toNat g.1)).length) g.1)) ++ (List.replicate ((↑g.1.length : Int).toNat - (↑(List.drop (nat_lit 0) (List.take ((posQ g.1 (opAt x.1 g.2.2.2.1).2.1).toNat + (List.drop (posQ g.1 (opAt x.1 g.2.2.2.1).2.1 + (1 : Int)).toNat (List.take (↑g.1.length : Int).toNat g.1)).length) (List.take (posQ g.1 (opAt x.1 g.2.2.2.1).2.1).toNat g.1 ++ (List.drop (posQ g.1 (opAt x.1 g.2.2.2.1).2.1 + (1 : Int)).toNat (List.take (↑g.1.length : Int).toNat g.1) ++ List.drop ((posQ g.1 (opAt x.1 g.2.2.2.1).2.1).toNat + (List.drop (posQ g.1 (opAt x.1 g.2.2.2.1).2.1 + (1 : Int)).toNat (List.take (↑g.1.length : Int).toNat g.1)).length) g.1)))).length : Int).toNat) ((0 : Int), (0 : Int)) ++ List.drop ((↑(List.drop (nat_lit 0) (List.take ((posQ g.1 (opAt x.1 g.2.2.2.1).2.1).toNat + (List.drop (posQ g.1 (opAt x.1 g.2.2.2.1).2.1 + (1 : Int)).toNat (List.take (↑g.1.length : Int).toNat g.1)).length) (List.take (posQ g.1 (opAt x.1 g.2.2.2.1).2.1).toNat g.1 ++ (List.drop (posQ g.1 (opAt x.1 g.2.2.2.1).2.1 + (1 : Int)).toNat (List.take (↑g.1.length : Int).toNat g.1) ++ List.drop ((posQ g.1 (opAt x.1 g.2.2.2.1).2.1).toNat + (List.drop (posQ g.1 (opAt x.1 g.2.2.2.1).2.1 + (1 : Int)).toNat (List.take (↑g.1.length : Int).toNat g.1)).length) g.1)))).length : Int).toNat + ((↑g.1.length : Int).toNat - (↑(List.drop (nat_lit 0) (List.take ((posQ g.1 (opAt x.1 g.2.2.2.1).2.1).toNat + (List.drop (posQ g.1 (opAt x.1 g.2.2.2.1).2.1 + (1 : Int)).toNat (List.take (↑g.1.length : Int).toNat g.1)).length) (List.take (posQ g.1 (opAt x.1 g.2.2.2.1).2.1).toNat g.1 ++ (List.drop (posQ g.1 (opAt x.1 g.2.2.2.1).2.1 + (1 : Int)).toNat (List.take (↑g.1.length : Int).toNat g.1) ++ List.drop ((posQ g.1 (opAt x.1 g.2.2.2.1).2.1).toNat + (List.drop (posQ g.1 (opAt x.1 g.2.2.2.1).2.1 + (1 : Int)).toNat (List.take (↑g.1.length : Int).toNat g.1)).length) g.1)))).length : Int).toNat)) (List.take (posQ g.1 (opAt x.1 g.2.2.2.1).2.1).toNat g.1 ++ (List.drop (posQ g.1 (opAt x.1 g.2.2.2.1).2.1 + (1 : Int)).toNat (List.take (↑g.1.length : Int).toNat g.1) ++ List.drop ((posQ g.1 (opAt x.1 g.2.2.2.1).2.1).toNat + (List.drop (posQ g.1 (opAt x.1 g.2.2.2.1).2.1 + (1 : Int)).toNat (List.take (↑g.1.length : Int).toNat g.1)).length) g.1)))))).length : Int) ≤ g.2.2.2.1 + (1 : Int) ∧
 (↑(g.2.1 ++ ((0 : Int) :: ([] : List Int)).set (0 : Nat) (0 : Int)).length : Int) ≤ g.2.2.2.1 + (1 : Int) ∧
 (↑g.2.2.1.length : Int) ≤ g.2.2.2.1 + (1 : Int)) ∧
 ((↑x.1.length : Int) - (g.2.2.2.1 + (1 : Int))).toNat < ((↑x.1.length : Int) - g.2.2.2.1).toNat) ∧
 (True ∧
 True ∧
 True ∧
 RR (Value.slice none (0 : Nat) (0 : Nat)) ∧
 x.1 = x.1 ∧
 RR (↑x.1.length : Int) ∧
 g.2.2.2.1 + (1 : Int) = g.2.2.2.1 + (1 : Int) ∧
 True) ∧
 (List.drop (nat_lit 0) (List.take ((posQ g.1 (opAt x.1 g.2.2.2.1).2.1).toNat + (List.drop (posQ g.1 (opAt x.1 g.2.2.2.1).2.1 + (1 : Int)).toNat (List.take (↑g.1.length : Int).toNat g.1)).length) (List.take (↑(List.drop (nat_lit 0) (List.take ((posQ g.1 (opAt x.1 g.2.2.2.1).2.1).toNat + (List.drop (posQ g.1 (opAt x.1 g.2.2.2.1).2.1 + (1 : Int)).toNat (List.take (↑g.1.length : Int).toNat g.1)).length) (List.take (posQ g.1 (opAt x.1 g.2.2.2.1).2.1).toNat g.1 ++ (List.drop (posQ g.1 (opAt x.1 g.2.2.2.1).2.1 + (1 : Int)).toNat (List.take (↑g.1.length : Int).toNat g.1) ++ List.drop ((posQ g.1 (opAt x.1 g.2.2.2.1).2.1).toNat + (List.drop (posQ g.1 (opAt x.1 g.2.2.2.1).2.1 + (1 : Int)).toNat (List.take (↑g.1.length : Int).toNat g.1)).length) g.1)))).length : Int).toNat (List.take (posQ g.1 (opAt x.1 g.2.2.2.1).2.1).toNat g.1 ++ (List.drop (posQ g.1 (opAt x.1 g.2.2.2.1).2.1 + (1 : Int)).toNat (List.take (↑g.1.length : Int).toNat g.1) ++ List.drop ((posQ g.1 (opAt x.1 g.2.2.2.1).2.1).toNat + (List.drop (posQ g.1 (opAt x.1 g.2.2.2.1).2.1 + (1 : Int)).toNat (List.take (↑g.1.length : Int).toNat g.1)).length) g.1)) ++ (List.replicate ((↑g.1.length : Int).toNat - (↑(List.drop (nat_lit 0) (List.take ((posQ g.1 (opAt x.1 g.2.2.2.1).2.1).toNat + (List.drop (posQ g.1 (opAt x.1 g.2.2.2.1).2.1 + (1 : Int)).toNat (List.take (↑g.1.length : Int).toNat g.1)).length) (List.take (posQ g.1 (opAt x.1 g.2.2.2.1).2.1).toNat g.1 ++ (List.drop (posQ g.1 (opAt x.1 g.2.2.2.1).2.1 + (1 : Int)).toNat (List.take (↑g.1.length : Int).toNat g.1) ++ List.drop ((posQ g.1 (opAt x.1 g.2.2.2.1).2.1).toNat + (List.drop (posQ g.1 (opAt x.1 g.2.2.2.1).2.1 + (1 : Int)).toNat (List.take (↑g.1.length : Int).toNat g.1)).length) g.1)))).length : Int).toNat) ((0 : Int), (0 : Int)) ++ List.drop ((↑(List.drop (nat_lit 0) (List.take ((posQ g.1 (opAt x.1 g.2.2.2.1).2.1).toNat + (List.drop (posQ g.1 (opAt x.1 g.2.2.2.1).2.1 + (1 : Int)).toNat (List.take (↑g.1.length : Int).toNat g.1)).length) (List.take (posQ g.1 (opAt x.1 g.2.2.2.1).2.1).toNat g.1 ++ (List.drop (posQ g.1 (opAt x.1 g.2.2.2.1).2.1 + (1 : Int)).toNat (List.take (↑g.1.length : Int).toNat g.1) ++ List.drop ((posQ g.1 (opAt x.1 g.2.2.2.1).2.1).toNat + (List.drop (posQ g.1 (opAt x.1 g.2.2.2.1).2.1 + (1 : Int)).toNat (List.take (↑g.1.length : Int).toNat g.1)).length) g.1)))).length : Int).toNat + ((↑g.1.length : Int).toNat - (↑(List.drop (nat_lit 0) (List.take ((posQ g.1 (opAt x.1 g.2.2.2.1).2.1).toNat + (List.drop (posQ g.1 (opAt x.1 g.2.2.2.1).2.1 + (1 : Int)).toNat (List.take (↑g.1.length : Int).toNat g.1)).length) (List.take (posQ g.1 (opAt x.1 g.2.2.2.1).2.1).toNat g.1 ++ (List.drop (posQ g.1 (opAt x.1 g.2.2.2.1).2.1 + (1 : Int)).toNat (List.take (↑g.1.length : Int).toNat g.1) ++ List.drop ((posQ g.1 (opAt x.1 g.2.2.2.1).2.1).toNat + (List.drop (posQ g.1 (opAt x.1 g.2.2.2.1).2.1 + (1 : Int)).toNat (List.take (↑g.1.length : Int).toNat g.1)).length) g.1)))).length : Int).toNat)) (List.take (posQ g.1 (opAt x.1 g.2.2.2.1).2.1).toNat g.1 ++ (List.drop (posQ g.1 (opAt x.1 g.2.2.2.1).2.1 + (1 : Int)).toNat (List.take (↑g.1.length : Int).toNat g.1) ++ List.drop ((posQ g.1 (opAt x.1 g.2.2.2.1).2.1).toNat + (List.drop (posQ g.1 (opAt x.1 g.2.2.2.1).2.1 + (1 : Int)).toNat (List.take (↑g.1.length : Int).toNat g.1)).length) g.1))))) = List.drop (nat_lit 0) (List.take ((posQ g.1 (opAt x.1 g.2.2.2.1).2.1).toNat + (List.drop (posQ g.1 (opAt x.1 g.2.2.2.1).2.1 + (1 : Int)).toNat (List.take (↑g.1.length : Int).toNat g.1)).length) (List.take (↑(List.drop (nat_lit 0) (List.take ((posQ g.1 (opAt x.1 g.2.2.2.1).2.1).toNat + (List.drop (posQ g.1 (opAt x.1 g.2.2.2.1).2.1 + (1 : Int)).toNat (List.take (↑g.1.length : Int).toNat g.1)).length) (List.take (posQ g.1 (opAt x.1 g.2.2.2.1).2.1).toNat g.1 ++ (List.drop (posQ g.1 (opAt x.1 g.2.2.2.1).2.1 + (1 : Int)).toNat (List.take (↑g.1.length : Int).toNat g.1) ++ List.drop ((posQ g.1 (opAt x.1 g.2.2.2.1).2.1).toNat + (List.drop (posQ g.1 (opAt x.1 g.2.2.2.1).2.1 + (1 : Int)).toNat (List.take (↑g.1.length : Int).toNat g.1)).length) g.1)))).length : Int).toNat (List.take (posQ g.1 (opAt x.1 g.2.2.2.1).2.1).toNat g.1 ++ (List.drop (posQ g.1 (opAt x.1 g.2.2.2.1).2.1 + (1 : Int)).toNat (List.take (↑g.1.length : Int).toNat g.1) ++ List.drop ((posQ g.1 (opAt x.1 g.2.2.2.1).2.1).toNat + (List.drop (posQ g.1 (opAt x.1 g.2.2.2.1).2.1 + (1 : Int)).toNat (List.take (↑g.1.length : Int).toNat g.1)).length) g.1)) ++ (List.replicate ((↑g.1.length : Int).toNat - (↑(List.drop (nat_lit 0) (List.take ((posQ g.1 (opAt x.1 g.2.2.2.1).2.1).toNat + (List.drop (posQ g.1 (opAt x.1 g.2.2.2.1).2.1 + (1 : Int)).toNat (List.take (↑g.1.length : Int).toNat g.1)).length) (List.take (posQ g.1 (opAt x.1 g.2.2.2.1).2.1).toNat g.1 ++ (List.drop (posQ g.1 (opAt x.1 g.2.2.2.1).2.1 + (1 : Int)).toNat (List.take (↑g.1.length : Int).toNat g.1) ++ List.drop ((posQ g.1 (opAt x.1 g.2.2.2.1).2.1).toNat + (List.drop (posQ g.1 (opAt x.1 g.2.2.2.1).2.1 + (1 : Int)).toNat (List.take (↑g.1.length : Int).toNat g.1)).length) g.1)))).length : Int).toNat) ((0 : Int), (0 : Int)) ++ List.drop ((↑(List.drop (nat_lit 0) (List.take ((posQ g.1 (opAt x.1 g.2.2.2.1).2.1).toNat + (List.drop (posQ g.1 (opAt x.1 g.2.2.2.1).2.1 + (1 : Int)).toNat (List.take (↑g.1.length : Int).toNat g.1)).length) (List.take (posQ g.1 (opAt x.1 g.2.2.2.1).2.1).toNat g.1 ++ (List.drop (posQ g.1 (opAt x.1 g.2.2.2.1).2.1 + (1 : Int)).toNat (List.take (↑g.1.length : Int).toNat g.1) ++ List.drop ((posQ g.1 (opAt x.1 g.2.2.2.1).2.1).toNat + (List.drop (posQ g.1 (opAt x.1 g.2.2.2.1).2.1 + (1 : Int)).toNat (List.take (↑g.1.length : Int).toNat g.1)).length) g.1)))).length : Int).toNat + ((↑g.1.length : Int).toNat - (↑(List.drop (nat_lit 0) (List.take ((posQ g.1 (opAt x.1 g.2.2.2.1).2.1).toNat + (List.drop (posQ g.1 (opAt x.1 g.2.2.2.1).2.1 + (1 : Int)).toNat (List.take (↑g.1.length : Int).toNat g.1)).length) (List.take (posQ g.1 (opAt x.1 g.2.2.2.1).2.1).toNat g.1 ++ (List.drop (posQ g.1 (opAt x.1 g.2.2.2.1).2.1 + (1 : Int)).toNat (List.take (↑g.1.length : Int).toNat g.1) ++ List.drop ((posQ g.1 (opAt x.1 g.2.2.2.1).2.1).toNat + (List.drop (posQ g.1 (opAt x.1 g.2.2.2.1).2.1 + (1 : Int)).toNat (List.take (↑g.1.length : Int).toNat g.1)).length) g.1)))).length : Int).toNat)) (List.take (posQ g.1 (opAt x.1 g.2.2.2.1).2.1).toNat g.1 ++ (List.drop (posQ g.1 (opAt x.1 g.2.2.2.1).2.1 + (1 : Int)).toNat (List.take (↑g.1.length : Int).toNat g.1) ++ List.drop ((posQ g.1 (opAt x.1 g.2.2.2.1).2.1).toNat + (List.drop (posQ g.1 (opAt x.1 g.2.2.2.1).2.1 + (1 : Int)).toNat (List.take (↑g.1.length : Int).toNat g.1)).length) g.1))))) ∧
 g.2.1 ++ ((0 : Int) :: ([] : List Int)).set (0 : Nat) (0 : Int) = g.2.1 ++ ((0 : Int) :: ([] : List Int)).set (0 : Nat) (0 : Int) ∧
 g.2.2.1 = g.2.2.1 ∧
 True) ∧
 True))))))))) ∧
 (decide (g.2.2.2.1 < (↑x.1.length : Int)) = false →
 ((((0 : Int) ≤ (0 : Int) ∧
 (0 : Int) ≤ (↑g.1.length : Int) ∧
 ([] : List Int) = ids (List.take (Int.toNat (0 : Int)) g.1)) ∧
 True) ∧
 (True ∧
 True ∧
 True ∧
 True ∧
 RR (↑g.1.length : Int) ∧
 RR (0 : Int) ∧
 True) ∧
 (RR ([] : List Int) ∧
 g.2.1 = g.2.1 ∧
 g.2.2.1 = g.2.2.1 ∧
 g.1 = g.1 ∧
 True) ∧
 True) ∧
 ∀ (g_1 : List Int × Int × Unit), (0 : Int) ≤ g_1.2.1 ∧
 g_1.2.1 ≤ (↑g.1.length : Int) ∧
 g_1.1 = ids (List.take g_1.2.1.toNat g.1) →
 (g_1.1.length ≤ (9223372036854775807 : Nat) ∧
 ∀ (x : Int), x ∈ g_1.1 →
 (-9223372036854775808 : Int) ≤ x ∧
 x ≤ (9223372036854775807 : Int)) ∧
 ((-9223372036854775808 : Int) ≤ g_1.2.1 ∧
 g_1.2.1 ≤ (9223372036854775807 : Int)) ∧
 True →
 (decide (g_1.2.1 < (↑g.1.length : Int)) = true →
 ((0 : Int) ≤ g_1.2.1 ∧
 g_1.2.1 < (↑g.1.length : Int)) ∧
 (g_1.1.length + (((0 : Int) :: ([] : List Int)).set (0 : Nat) (g.1.getD g_1.2.1.toNat ((0 : Int), (0 : Int))).1).length ≤ (9223372036854775807 : Nat) ∧
 (g_1.1.length + (((0 : Int) :: ([] : List Int)).set (0 : Nat) (g.1.getD g_1.2.1.toNat ((0 : Int), (0 : Int))).1).length + (g_1.1.length + (((0 : Int) :: ([] : List Int)).set (0 : Nat) (g.1.getD g_1.2.1.toNat ((0 : Int), (0 : Int))).1).length) / (4 : Nat) + (192 : Nat)) * (8 : Nat) ≤ (281474976710656 : Nat)) ∧
 ((-9223372036854775808 : Int) ≤ g_1.2.1 + (1 : Int) ∧
 g_1.2.1 + (1 : Int) ≤ (9223372036854775807 : Int)) ∧
 (((0 : Int) ≤ g_1.2.1 + (1 : Int) ∧
 g_1.2.1 + (1 : Int) ≤ (↑g.1.length : Int) ∧
 g_1.1 ++ ((0 : Int) :: ([] : List Int)).set (0 : Nat) (g.1.getD g_1.2.1.toNat ((0 : Int), (0 : Int))).1 = ids (List.take (g_1.2.1 + (1 : Int)).toNat g.1)) ∧
 ((↑g.1.length : Int) - (g_1.2.1 + (1 : Int))).toNat < ((↑g.1.length : Int) - g_1.2.1).toNat) ∧
 (True ∧
 True ∧
 True ∧
 True ∧
 RR (↑g.1.length : Int) ∧
 g_1.2.1 + (1 : Int) = g_1.2.1 + (1 : Int) ∧
 True) ∧
 (g_1.1 ++ ((0 : Int) :: ([] : List Int)).set (0 : Nat) (g.1.getD g_1.2.1.toNat ((0 : Int), (0 : Int))).1 = g_1.1 ++ ((0 : Int) :: ([] : List Int)).set (0 : Nat) (g.1.getD g_1.2.1.toNat ((0 : Int), (0 : Int))).1 ∧
 g.2.1 = g.2.1 ∧
 g.2.2.1 = g.2.2.1 ∧
 g.1 = g.1 ∧
 True) ∧
 True) ∧
 (decide (g_1.2.1 < (↑g.1.length : Int)) = false →
 g.2.1 = (mplay x.1).1 ∧
 g.2.2.1 = (mplay x.1).2.1 ∧
 g_1.1 = (mplay x.1).2.2.1))

theorem E_mplay_eq (x : HL (cPlay : Ctr).as) : vc (fx_mplay x) 3 16 Try.f16 (cPlay) x = E_mplay x := by kernel_rfl

def E_play (x : List (Int × Int × Int) × Unit) : Prop := (∃ (g : ((Int × List (List Int) × List (Int × Int)) × List Int × List Int × Int × Unit)), ((((0 : Int) ≤ g.2.2.2.1 ∧
 g.2.2.2.1 ≤ (↑x.1.length : Int) ∧
 (∃ l, runQ (List.take g.2.2.2.1.toNat x.1) = (l, g.2.1, g.2.2.1) ∧
 RQ g.1 l ∧
 (↑(List.length l) : Int) ≤ g.2.2.2.1) ∧
 (↑g.2.1.length : Int) ≤ g.2.2.2.1 ∧
 (↑g.2.2.1.length : Int) ≤ g.2.2.2.1) ∧
 (((0 : Int) ≤ g.1.1 ∧
 g.1.1 ≤ (4294967295 : Int)) ∧
 (g.1.2.1.length = (32 : Nat) ∧
 ∀ (xs : List Int), xs ∈ g.1.2.1 →
 xs.length ≤ (9223372036854775807 : Nat) ∧
 ∀ (x : Int), x ∈ xs →
 (-9223372036854775808 : Int) ≤ x ∧
 x ≤ (9223372036854775807 : Int)) ∧
 ∀ (e : Int × Int), e ∈ g.1.2.2 →
 ((-9223372036854775808 : Int) ≤ e.1 ∧
 e.1 ≤ (9223372036854775807 : Int)) ∧
 (-9223372036854775808 : Int) ≤ e.2 ∧
 e.2 ≤ (9223372036854775807 : Int)) ∧
 (g.2.1.length ≤ (9223372036854775807 : Nat) ∧
 ∀ (x : Int), x ∈ g.2.1 →
 (-9223372036854775808 : Int) ≤ x ∧
 x ≤ (9223372036854775807 : Int)) ∧
 (g.2.2.1.length ≤ (9223372036854775807 : Nat) ∧
 ∀ (x : Int), x ∈ g.2.2.1 →
 (-9223372036854775808 : Int) ≤ x ∧
 x ≤ (9223372036854775807 : Int)) ∧
 ((-9223372036854775808 : Int) ≤ g.2.2.2.1 ∧
 g.2.2.2.1 ≤ (9223372036854775807 : Int)) ∧
 True) ∧
 True) ∧
 ((True ∧
 True) ∧
 True ∧
 True ∧
 RR (Value.slice none (0 : Nat) (0 : Nat)) ∧
 x.1 = x.1 ∧
 RR (↑x.1.length : Int) ∧
 (0 : Int) = g.2.2.2.1 ∧
 True) ∧
 (((0 : Int) = g.1.1 ∧
 (True ∧
 True) ∧
 True ∧
 True) ∧
 List.replicate (32 : Nat) ([] : List Int) = g.1.2.1 ∧
 ([] : List (Int × Int)) = g.1.2.2 ∧
 ([] : List Int) = g.2.1 ∧
 ([] : List Int) = g.2.2.1 ∧
 True) ∧
 True) ∧
 ∀ (g : (Int × List (List Int) × List (Int × Int)) × List Int × List Int × Int × Unit), (0 : Int) ≤ g.2.2.2.1 ∧
 g.2.2.2.1 ≤ (↑x.1.length : Int) ∧
 (∃ l, runQ (List.take g.2.2.2.1.toNat x.1) = (l, g.2.1, g.2.2.1) ∧
 RQ g.1 l ∧
 (↑(List.length l) : Int) ≤ g.2.2.2.1) ∧
 (↑g.2.1.length : Int) ≤ g.2.2.2.1 ∧
 (↑g.2.2.1.length : Int) ≤ g.2.2.2.1 →
 (((0 : Int) ≤ g.1.1 ∧
 g.1.1 ≤ (4294967295 : Int)) ∧
 (g.1.2.1.length = (32 : Nat) ∧
 ∀ (xs : List Int), xs ∈ g.1.2.1 →
 xs.length ≤ (9223372036854775807 : Nat) ∧
 ∀ (x : Int), x ∈ xs →
 (-9223372036854775808 : Int) ≤ x ∧
 x ≤ (9223372036854775807 : Int)) ∧
 ∀ (e : Int × Int), e ∈ g.1.2.2 →
 ((-9223372036854775808 : Int) ≤ e.1 ∧
 e.1 ≤ (9223372036854775807 : Int)) ∧
 (-9223372036854775808 : Int) ≤ e.2 ∧
 e.2 ≤ (9223372036854775807 : Int)) ∧
 (g.2.1.length ≤ (9223372036854775807 : Nat) ∧
 ∀ (x : Int), x ∈ g.2.1 →
 (-9223372036854775808 : Int) ≤ x ∧
 x ≤ (9223372036854775807 : Int)) ∧
 (g.2.2.1.length ≤ (9223372036854775807 : Nat) ∧
 ∀ (x : Int), x ∈ g.2.2.1 →
 (-9223372036854775808 : Int) ≤ x ∧
 x ≤ (9223372036854775807 : Int)) ∧
 ((-9223372036854775808 : Int) ≤ g.2.2.2.1 ∧
 g.2.2.2.1 ≤ (9223372036854775807 : Int)) ∧
 True →
 (decide (g.2.2.2.1 < (↑x.1.length : Int)) = true →
 ((0 : Int) ≤ g.2.2.2.1 ∧
 g.2.2.2.1 < (↑x.1.length : Int)) ∧
 ((((RR ((opAt x.1 g.2.2.2.1).1, (opAt x.1 g.2.2.2.1).2.1, (opAt x.1 g.2.2.2.1).2.2) ∧
 mhas (Ty.int IntKind.i64) g.1.2.2 (opAt x.1 g.2.2.2.1).2.1 = mhas (Ty.int IntKind.i64) g.1.2.2 (opAt x.1 g.2.2.2.1).2.1) ∧
 True) ∧
 ((True ∧
 True) ∧
 (True ∧
 True) ∧
 RR (mhas (Ty.int IntKind.i64) g.1.2.2 (opAt x.1 g.2.2.2.1).2.1) ∧
 True) ∧
 ((RR ((opAt x.1 g.2.2.2.1).1) ∧
 RR ((opAt x.1 g.2.2.2.1).2.1) ∧
 RR ((opAt x.1 g.2.2.2.1).2.2) ∧
 True) ∧
 (g.1.1 = g.1.1 ∧
 (True ∧
 True) ∧
 True ∧
 True) ∧
 g.1.2.1 = g.1.2.1 ∧
 g.1.2.2 = g.1.2.2 ∧
 g.2.1 = g.2.1 ∧
 g.2.2.1 = g.2.2.1 ∧
 (RR ((opAt x.1 g.2.2.2.1).1) ∧
 RR ((opAt x.1 g.2.2.2.1).2.1) ∧
 RR ((opAt x.1 g.2.2.2.1).2.2) ∧
 True) ∧
 True) ∧
 True ∧
 True ∧
 True ∧
 True ∧
 True ∧
 (True ∧
 True) ∧
 True ∧
 True ∧
 RR (Value.slice none (0 : Nat) (0 : Nat)) ∧
 True ∧
 (True ∧
 True) ∧
 True ∧
 True ∧
 True ∧
 True ∧
 True ∧
 True ∧
 x.1 = x.1 ∧
 RR (↑x.1.length : Int) ∧
 RR g.2.2.2.1 ∧
 true = true ∧
 True ∧
 (RR ((opAt x.1 g.2.2.2.1).1) ∧
 RR ((opAt x.1 g.2.2.2.1).2.1) ∧
 RR ((opAt x.1 g.2.2.2.1).2.2) ∧
 True) ∧
 True ∧
 (True ∧
 True) ∧
 (RR ((opAt x.1 g.2.2.2.1).1) ∧
 RR ((opAt x.1 g.2.2.2.1).2.1) ∧
 RR ((opAt x.1 g.2.2.2.1).2.2) ∧
 True) ∧
 R32 (True ∧
 True ∧
 True)) ∧
 ∀ (g_1 : (Int × Int × Int) × Bool × Unit), g_1.1 = ((opAt x.1 g.2.2.2.1).1, (opAt x.1 g.2.2.2.1).2.1, (opAt x.1 g.2.2.2.1).2.2) ∧
 g_1.2.1 = mhas (Ty.int IntKind.i64) g.1.2.2 (opAt x.1 g.2.2.2.1).2.1 →
 (((-9223372036854775808 : Int) ≤ g_1.1.1 ∧
 g_1.1.1 ≤ (9223372036854775807 : Int)) ∧
 ((-9223372036854775808 : Int) ≤ g_1.1.2.1 ∧
 g_1.1.2.1 ≤ (9223372036854775807 : Int)) ∧
 (-9223372036854775808 : Int) ≤ g_1.1.2.2 ∧
 g_1.1.2.2 ≤ (9223372036854775807 : Int)) ∧
 True ∧
 True →
 ((g_1.1.1 == (1 : Int)) = true →
 ((!decide (g_1.1.2.2 < (0 : Int))) = true →
 (!decide (g_1.1.2.2 < (0 : Int))) = true) ∧
 ((!decide (g_1.1.2.2 < (0 : Int))) = true →
 (!decide (g_1.1.2.2 < (0 : Int))) = true) ∧
 (decide (g_1.1.2.2 < (0 : Int)) = false →
 (!decide (g_1.1.2.2 < (0 : Int))) = true) ∧
 ((decide (g_1.1.2.2 < (0 : Int)) || decide ((32 : Int) ≤ g_1.1.2.2)) = true →
 (((g.1.1, g.1.2.1, g.1.2.2), (0 : Int), (2 : Int)) = doQ (g.1.1, g.1.2.1, g.1.2.2) ((opAt x.1 g.2.2.2.1).1, (opAt x.1 g.2.2.2.1).2.1, (opAt x.1 g.2.2.2.1).2.2) ∧
 True) ∧
 ((True ∧
 True) ∧
 True ∧
 True ∧
 RR (Value.slice none (0 : Nat) (0 : Nat)) ∧
 (True ∧
 True) ∧
 RR (0 : Int) ∧
 RR (2 : Int) ∧
 x.1 = x.1 ∧
 RR (↑x.1.length : Int) ∧
 RR g.2.2.2.1 ∧
 True) ∧
 ((g.1.1 = g.1.1 ∧
 (True ∧
 True) ∧
 True ∧
 True) ∧
 g.1.2.1 = g.1.2.1 ∧
 g.1.2.2 = g.1.2.2 ∧
 g.2.1 = g.2.1 ∧
 g.2.2.1 = g.2.2.1 ∧
 (RR ((opAt x.1 g.2.2.2.1).1) ∧
 RR ((opAt x.1 g.2.2.2.1).2.1) ∧
 RR ((opAt x.1 g.2.2.2.1).2.2) ∧
 True) ∧
 True) ∧
 True) ∧
 ((decide (g_1.1.2.2 < (0 : Int)) || decide ((32 : Int) ≤ g_1.1.2.2)) = false →
 (g_1.2.1 = true →
 (((g.1.1, g.1.2.1, g.1.2.2), (0 : Int), (6 : Int)) = doQ (g.1.1, g.1.2.1, g.1.2.2) ((opAt x.1 g.2.2.2.1).1, (opAt x.1 g.2.2.2.1).2.1, (opAt x.1 g.2.2.2.1).2.2) ∧
 True) ∧
 ((True ∧
 True) ∧
 True ∧
 True ∧
 RR (Value.slice none (0 : Nat) (0 : Nat)) ∧
 (True ∧
 True) ∧
 RR (0 : Int) ∧
 RR (6 : Int) ∧
 x.1 = x.1 ∧
 RR (↑x.1.length : Int) ∧
 RR g.2.2.2.1 ∧
 True) ∧
 ((g.1.1 = g.1.1 ∧
 (True ∧
 True) ∧
 True ∧
 True) ∧
 g.1.2.1 = g.1.2.1 ∧
 g.1.2.2 = g.1.2.2 ∧
 g.2.1 = g.2.1 ∧
 g.2.2.1 = g.2.2.1 ∧
 (RR ((opAt x.1 g.2.2.2.1).1) ∧
 RR ((opAt x.1 g.2.2.2.1).2.1) ∧
 RR ((opAt x.1 g.2.2.2.1).2.2) ∧
 True) ∧
 True) ∧
 True) ∧
 (g_1.2.1 = false →
 ((0 : Int) ≤ g_1.1.2.2 ∧
 g_1.1.2.2 < (↑(32 : Nat) : Int)) ∧
 g_1.1.2.2.toNat * nat_lit 1 + nat_lit 0 < nat_lit 32 ∧
 ((g_1.1.1 == (2 : Int)) = true →
 Holds (((g.1.2.1.getD (g_1.1.2.2.toNat * nat_lit 1 + nat_lit 0) ([] : List Int)).length + (1 : Nat)) * (8 : Nat) ≤ (140737488355328 : Nat) ∧
 ((0 : Int) ≤ (0 : Int) ∧
 (0 : Int) ≤ (↑(g.1.2.1.getD (g_1.1.2.2.toNat * nat_lit 1 + nat_lit 0) ([] : List Int)).length : Int)) ∧
 (((0 : Int) :: ([] : List Int)).set (0 : Nat) g_1.1.2.1).length = (1 : Nat)) ∧
 ((True ∧
 RR (0 : Int) ∧
 True ∧
 True) ∧
 RR (g.1.2.1.getD (g_1.1.2.2.toNat * nat_lit 1 + nat_lit 0) ([] : List Int)) ∧
 RR (((0 : Int) :: ([] : List Int)).set (0 : Nat) g_1.1.2.1) ∧
 True) ∧
 (((0 : Int) ≤ g_1.1.2.2 ∧
 g_1.1.2.2 < (↑(32 : Nat) : Int)) ∧
 g_1.1.2.2.toNat * nat_lit 1 + nat_lit 0 = g_1.1.2.2.toNat * nat_lit 1 + nat_lit 0 ∧
 (((g.1.2.1.set (g_1.1.2.2.toNat * nat_lit 1 + nat_lit 0) ([] : List Int)).set (g_1.1.2.2.toNat * nat_lit 1 + nat_lit 0) (insA (g.1.2.1.getD (g_1.1.2.2.toNat * nat_lit 1 + nat_lit 0) ([] : List Int)) (0 : Int) (((0 : Int) :: ([] : List Int)).set (0 : Nat) g_1.1.2.1)) = (List.set g.1.2.1 (g_1.1.2.2.toNat * nat_lit 1 + nat_lit 0) ([] : List Int)).set g_1.1.2.2.toNat (insA (g.1.2.1.getD (g_1.1.2.2.toNat * nat_lit 1 + nat_lit 0) ([] : List Int)) (0 : Int) (((0 : Int) :: ([] : List Int)).set (0 : Nat) g_1.1.2.1)) ∧
 mput (Ty.int IntKind.i64) g.1.2.2 g_1.1.2.1 g_1.1.2.2 = mput (Ty.int IntKind.i64) g.1.2.2 g_1.1.2.1 g_1.1.2.2) ∧
 True) ∧
 ((True ∧
 True) ∧
 RR g_1.1.2.2 ∧
 True) ∧
 ((g.1.1 = g.1.1 ∧
 (True ∧
 True) ∧
 True ∧
 True) ∧
 RR ((g.1.2.1.set (g_1.1.2.2.toNat * nat_lit 1 + nat_lit 0) ([] : List Int)).set (g_1.1.2.2.toNat * nat_lit 1 + nat_lit 0) (insA (g.1.2.1.getD (g_1.1.2.2.toNat * nat_lit 1 + nat_lit 0) ([] : List Int)) (0 : Int) (((0 : Int) :: ([] : List Int)).set (0 : Nat) g_1.1.2.1))) ∧
 RR (mput (Ty.int IntKind.i64) g.1.2.2 g_1.1.2.1 g_1.1.2.2) ∧
 (g_1.1.1 = g_1.1.1 ∧
 RR g_1.1.2.1 ∧
 RR g_1.1.2.2 ∧
 True) ∧
 g.2.1 = g.2.1 ∧
 g.2.2.1 = g.2.2.1 ∧
 (RR ((opAt x.1 g.2.2.2.1).1) ∧
 RR ((opAt x.1 g.2.2.2.1).2.1) ∧
 RR ((opAt x.1 g.2.2.2.1).2.2) ∧
 True) ∧
 True) ∧
 (True ∧
 True) ∧
 True ∧
 True ∧
 (True ∧
 True) ∧
 True ∧
 True ∧
 True ∧
 g_1.2.1 = g_1.2.1 ∧
 R8 (True ∧
 True ∧
 True ∧
 (True ∧
 True) ∧
 g_1.1.1 = g_1.1.1 ∧
 true = true ∧
 RR (g_1.1.1 == (1 : Int)) ∧
 True ∧
 false = false ∧
 (True ∧
 True) ∧
 RR g_1.1.2.2 ∧
 RR (decide (g_1.1.2.2 < (0 : Int))) ∧
 RR (decide (g_1.1.2.2 < (0 : Int))) ∧
 True ∧
 True ∧
 True ∧
 RR (decide (g_1.1.2.2 < (0 : Int)) || decide ((32 : Int) ≤ g_1.1.2.2)) ∧
 false = false ∧
 g_1.2.1 = g_1.2.1 ∧
 (True ∧
 True) ∧
 (True ∧
 True) ∧
 RR g_1.1.2.1 ∧
 (True ∧
 True) ∧
 RR g_1.1.2.2 ∧
 (True ∧
 True) ∧
 g_1.1.1 = g_1.1.1 ∧
 RR (g_1.1.1 == (2 : Int)) ∧
 R32 (True ∧
 True ∧
 True ∧
 True ∧
 True ∧
 True ∧
 (True ∧
 True) ∧
 True ∧
 True ∧
 RR (Value.slice none (0 : Nat) (0 : Nat)) ∧
 True ∧
 (True ∧
 True) ∧
 True ∧
 True ∧
 True ∧
 True ∧
 True ∧
 True ∧
 x.1 = x.1 ∧
 RR (↑x.1.length : Int) ∧
 RR g.2.2.2.1 ∧
 true = true ∧
 True ∧
 (RR ((opAt x.1 g.2.2.2.1).1) ∧
 RR ((opAt x.1 g.2.2.2.1).2.1) ∧
 RR ((opAt x.1 g.2.2.2.1).2.2) ∧
 True) ∧
 True ∧
 (True ∧
 True) ∧
 (RR ((opAt x.1 g.2.2.2.1).1) ∧
 RR ((opAt x.1 g.2.2.2.1).2.1) ∧
 RR ((opAt x.1 g.2.2.2.1).2.2) ∧
 True) ∧
 R32 (True ∧
 True ∧
 True)))) ∧
 ∀ (g_2 : (Unit × List (List Int) × List (Int × Int)) × Unit), g_2.1.2.1 = (List.set g.1.2.1 (g_1.1.2.2.toNat * nat_lit 1 + nat_lit 0) ([] : List Int)).set g_1.1.2.2.toNat (insA (g.1.2.1.getD (g_1.1.2.2.toNat * nat_lit 1 + nat_lit 0) ([] : List Int)) (0 : Int) (((0 : Int) :: ([] : List Int)).set (0 : Nat) g_1.1.2.1)) ∧
 g_2.1.2.2 = mput (Ty.int IntKind.i64) g.1.2.2 g_1.1.2.1 g_1.1.2.2 →
 (True ∧
 (g_2.1.2.1.length = (32 : Nat) ∧
 ∀ (xs : List Int), xs ∈ g_2.1.2.1 →
 xs.length ≤ (9223372036854775807 : Nat) ∧
 ∀ (x : Int), x ∈ xs →
 (-9223372036854775808 : Int) ≤ x ∧
 x ≤ (9223372036854775807 : Int)) ∧
 ∀ (e : Int × Int), e ∈ g_2.1.2.2 →
 ((-9223372036854775808 : Int) ≤ e.1 ∧
 e.1 ≤ (9223372036854775807 : Int)) ∧
 (-9223372036854775808 : Int) ≤ e.2 ∧
 e.2 ≤ (9223372036854775807 : Int)) ∧
 True →
 (0 : Int) ≤ g_1.1.2.2 ∧
 (((bits BinOp.or IntKind.u32 g.1.1 (IntKind.u32.wrap ((1 : Int) * (2 : Int) ^ min g_1.1.2.2.toNat IntKind.u32.bits)), g_2.1.2.1, g_2.1.2.2), (0 : Int), (0 : Int)) = doQ (g.1.1, g.1.2.1, g.1.2.2) ((opAt x.1 g.2.2.2.1).1, (opAt x.1 g.2.2.2.1).2.1, (opAt x.1 g.2.2.2.1).2.2) ∧
 True) ∧
 ((True ∧
 True) ∧
 True ∧
 True ∧
 RR (Value.slice none (0 : Nat) (0 : Nat)) ∧
 (True ∧
 True) ∧
 RR (0 : Int) ∧
 RR (0 : Int) ∧
 x.1 = x.1 ∧
 RR (↑x.1.length : Int) ∧
 RR g.2.2.2.1 ∧
 True) ∧
 ((RR (bits BinOp.or IntKind.u32 g.1.1 (IntKind.u32.wrap ((1 : Int) * (2 : Int) ^ min g_1.1.2.2.toNat IntKind.u32.bits))) ∧
 (True ∧
 True) ∧
 True ∧
 True) ∧
 RR g_2.1.2.1 ∧
 RR g_2.1.2.2 ∧
 g.2.1 = g.2.1 ∧
 g.2.2.1 = g.2.2.1 ∧
 (RR ((opAt x.1 g.2.2.2.1).1) ∧
 RR ((opAt x.1 g.2.2.2.1).2.1) ∧
 RR ((opAt x.1 g.2.2.2.1).2.2) ∧
 True) ∧
 True) ∧
 True) ∧
 ((g_1.1.1 == (2 : Int)) = false →
 ((g.1.2.1.getD (g_1.1.2.2.toNat * nat_lit 1 + nat_lit 0) ([] : List Int)).length + (((0 : Int) :: ([] : List Int)).set (0 : Nat) g_1.1.2.1).length ≤ (9223372036854775807 : Nat) ∧
 ((g.1.2.1.getD (g_1.1.2.2.toNat * nat_lit 1 + nat_lit 0) ([] : List Int)).length + (((0 : Int) :: ([] : List Int)).set (0 : Nat) g_1.1.2.1).length + ((g.1.2.1.getD (g_1.1.2.2.toNat * nat_lit 1 + nat_lit 0) ([] : List Int)).length + (((0 : Int) :: ([] : List Int)).set (0 : Nat) g_1.1.2.1).length) / (4 : Nat) + (192 : Nat)) * (8 : Nat) ≤ (281474976710656 : Nat)) ∧
 (((0 : Int) ≤ g_1.1.2.2 ∧
 g_1.1.2.2 < (↑(32 : Nat) : Int)) ∧
 g_1.1.2.2.toNat * nat_lit 1 + nat_lit 0 = g_1.1.2.2.toNat * nat_lit 1 + nat_lit 0 ∧
 (((g.1.2.1.set (g_1.1.2.2.toNat * nat_lit 1 + nat_lit 0) ([] : List Int)).set (g_1.1.2.2.toNat * nat_lit 1 + nat_lit 0) (g.1.2.1.getD (g_1.1.2.2.toNat * nat_lit 1 + nat_lit 0) ([] : List Int) ++ ((0 : Int) :: ([] : List Int)).set (0 : Nat) g_1.1.2.1) = (List.set g.1.2.1 (g_1.1.2.2.toNat * nat_lit 1 + nat_lit 0) ([] : List Int)).set g_1.1.2.2.toNat (g.1.2.1.getD (g_1.1.2.2.toNat * nat_lit 1 + nat_lit 0) ([] : List Int) ++ ((0 : Int) :: ([] : List Int)).set (0 : Nat) g_1.1.2.1) ∧
 mput (Ty.int IntKind.i64) g.1.2.2 g_1.1.2.1 g_1.1.2.2 = mput (Ty.int IntKind.i64) g.1.2.2 g_1.1.2.1 g_1.1.2.2) ∧
 True) ∧
 ((True ∧
 True) ∧
 RR g_1.1.2.2 ∧
 True) ∧
 ((g.1.1 = g.1.1 ∧
 (True ∧
 True) ∧
 True ∧
 True) ∧
 RR ((g.1.2.1.set (g_1.1.2.2.toNat * nat_lit 1 + nat_lit 0) ([] : List Int)).set (g_1.1.2.2.toNat * nat_lit 1 + nat_lit 0) (g.1.2.1.getD (g_1.1.2.2.toNat * nat_lit 1 + nat_lit 0) ([] : List Int) ++ ((0 : Int) :: ([] : List Int)).set (0 : Nat) g_1.1.2.1)) ∧
 RR (mput (Ty.int IntKind.i64) g.1.2.2 g_1.1.2.1 g_1.1.2.2) ∧
 (g_1.1.1 = g_1.1.1 ∧
 RR g_1.1.2.1 ∧
 RR g_1.1.2.2 ∧
 True) ∧
 g.2.1 = g.2.1 ∧
 g.2.2.1 = g.2.2.1 ∧
 (RR ((opAt x.1 g.2.2.2.1).1) ∧
 RR ((opAt x.1 g.2.2.2.1).2.1) ∧
 RR ((opAt x.1 g.2.2.2.1).2.2) ∧
 True) ∧
 True) ∧
 (True ∧
 True) ∧
 True ∧
 True ∧
 (True ∧
 True) ∧
 True ∧
 True ∧
 True ∧
 g_1.2.1 = g_1.2.1 ∧
 R8 (True ∧
 True ∧
 True ∧
 (True ∧
 True) ∧
 g_1.1.1 = g_1.1.1 ∧
 true = true ∧
 RR (g_1.1.1 == (1 : Int)) ∧
 True ∧
 false = false ∧
 (True ∧
 True) ∧
 RR g_1.1.2.2 ∧
 RR (decide (g_1.1.2.2 < (0 : Int))) ∧
 RR (decide (g_1.1.2.2 < (0 : Int))) ∧
 True ∧
 True ∧
 True ∧
 RR (decide (g_1.1.2.2 < (0 : Int)) || decide ((32 : Int) ≤ g_1.1.2.2)) ∧
 false = false ∧
 g_1.2.1 = g_1.2.1 ∧
 (True ∧
 True) ∧
 (True ∧
 True) ∧
 RR g_1.1.2.1 ∧
 (True ∧
 True) ∧
 RR g_1.1.2.2 ∧
 (True ∧
 True) ∧
 g_1.1.1 = g_1.1.1 ∧
 RR (g_1.1.1 == (2 : Int)) ∧
 R32 (True ∧
 True ∧
 True ∧
 True ∧
 True ∧
 True ∧
 (True ∧
 True) ∧
 True ∧
 True ∧
 RR (Value.slice none (0 : Nat) (0 : Nat)) ∧
 True ∧
 (True ∧
 True) ∧
 True ∧
 True ∧
 True ∧
 True ∧
 True ∧
 True ∧
 x.1 = x.1 ∧
 RR (↑x.1.length : Int) ∧
 RR g.2.2.2.1 ∧
 true = true ∧
 True ∧
 (RR ((opAt x.1 g.2.2.2.1).1) ∧
 RR ((opAt x.1 g.2.2.2.1).2.1) ∧
 RR ((opAt x.1 g.2.2.2.1).2.2) ∧
 True) ∧
 True ∧
 (True ∧
 True) ∧
 (RR ((opAt x.1 g.2.2.2.1).1) ∧
 RR ((opAt x.1 g.2.2.2.1).2.1) ∧
 RR ((opAt x.1 g.2.2.2.1).2.2) ∧
 True) ∧
 R32 (True ∧
 True ∧
 True)))) ∧
 ∀ (g_2 : (Unit × List (List Int) × List (Int × Int)) × Unit), g_2.1.2.1 = (List.set g.1.2.1 (g_1.1.2.2.toNat * nat_lit 1 + nat_lit 0) ([] : List Int)).set g_1.1.2.2.toNat (g.1.2.1.getD (g_1.1.2.2.toNat * nat_lit 1 + nat_lit 0) ([] : List Int) ++ ((0 : Int) :: ([] : List Int)).set (0 : Nat) g_1.1.2.1) ∧
 g_2.1.2.2 = mput (Ty.int IntKind.i64) g.1.2.2 g_1.1.2.1 g_1.1.2.2 →
 (True ∧
 (g_2.1.2.1.length = (32 : Nat) ∧
 ∀ (xs : List Int), xs ∈ g_2.1.2.1 →
 xs.length ≤ (9223372036854775807 : Nat) ∧
 ∀ (x : Int), x ∈ xs →
 (-9223372036854775808 : Int) ≤ x ∧
 x ≤ (9223372036854775807 : Int)) ∧
 ∀ (e : Int × Int), e ∈ g_2.1.2.2 →
 ((-9223372036854775808 : Int) ≤ e.1 ∧
 e.1 ≤ (9223372036854775807 : Int)) ∧
 (-9223372036854775808 : Int) ≤ e.2 ∧
 e.2 ≤ (9223372036854775807 : Int)) ∧
 True →
 (0 : Int) ≤ g_1.1.2.2 ∧
 (((bits BinOp.or IntKind.u32 g.1.1 (IntKind.u32.wrap ((1 : Int) * (2 : Int) ^ min g_1.1.2.2.toNat IntKind.u32.bits)), g_2.1.2.1, g_2.1.2.2), (0 : Int), (0 : Int)) = doQ (g.1.1, g.1.2.1, g.1.2.2) ((opAt x.1 g.2.2.2.1).1, (opAt x.1 g.2.2.2.1).2.1, (opAt x.1 g.2.2.2.1).2.2) ∧
 True) ∧
 ((True ∧
 True) ∧
 True ∧
 True ∧
 RR (Value.slice none (0 : Nat) (0 : Nat)) ∧
 (True ∧
 True) ∧
 RR (0 : Int) ∧
 RR (0 : Int) ∧
 x.1 = x.1 ∧
 RR (↑x.1.length : Int) ∧
 RR g.2.2.2.1 ∧
 True) ∧
 ((RR (bits BinOp.or IntKind.u32 g.1.1 (IntKind.u32.wrap ((1 : Int) * (2 : Int) ^ min g_1.1.2.2.toNat IntKind.u32.bits))) ∧
 (True ∧
 True) ∧
 True ∧
 True) ∧
 RR g_2.1.2.1 ∧
 RR g_2.1.2.2 ∧
 g.2.1 = g.2.1 ∧
 g.2.2.1 = g.2.2.1 ∧
 (RR ((opAt x.1 g.2.2.2.1).1) ∧
 RR ((opAt x.1 g.2.2.2.1).2.1) ∧
 RR ((opAt x.1 g.2.2.2.1).2.2) ∧
 True) ∧
 True) ∧
 True)))) ∧
 ((g_1.1.1 == (1 : Int)) = false →
 ((g_1.1.1 == (2 : Int)) = true →
 ((!decide (g_1.1.2.2 < (0 : Int))) = true →
 (!decide (g_1.1.2.2 < (0 : Int))) = true) ∧
 ((!decide (g_1.1.2.2 < (0 : Int))) = true →
 (!decide (g_1.1.2.2 < (0 : Int))) = true) ∧
 (decide (g_1.1.2.2 < (0 : Int)) = false →
 (!decide (g_1.1.2.2 < (0 : Int))) = true) ∧
 ((decide (g_1.1.2.2 < (0 : Int)) || decide ((32 : Int) ≤ g_1.1.2.2)) = true →
 (((g.1.1, g.1.2.1, g.1.2.2), (0 : Int), (2 : Int)) = doQ (g.1.1, g.1.2.1, g.1.2.2) ((opAt x.1 g.2.2.2.1).1, (opAt x.1 g.2.2.2.1).2.1, (opAt x.1 g.2.2.2.1).2.2) ∧
 True) ∧
 ((True ∧
 True) ∧
 True ∧
 True ∧
 RR (Value.slice none (0 : Nat) (0 : Nat)) ∧
 (True ∧
 True) ∧
 RR (0 : Int) ∧
 RR (2 : Int) ∧
 x.1 = x.1 ∧
 RR (↑x.1.length : Int) ∧
 RR g.2.2.2.1 ∧
 True) ∧
 ((g.1.1 = g.1.1 ∧
 (True ∧
 True) ∧
 True ∧
 True) ∧
 g.1.2.1 = g.1.2.1 ∧
 g.1.2.2 = g.1.2.2 ∧
 g.2.1 = g.2.1 ∧
 g.2.2.1 = g.2.2.1 ∧
 (RR ((opAt x.1 g.2.2.2.1).1) ∧
 RR ((opAt x.1 g.2.2.2.1).2.1) ∧
 RR ((opAt x.1 g.2.2.2.1).2.2) ∧
 True) ∧
 True) ∧
 True) ∧
 ((decide (g_1.1.2.2 < (0 : Int)) || decide ((32 : Int) ≤ g_1.1.2.2)) = false →
 (g_1.2.1 = true →
 (((g.1.1, g.1.2.1, g.1.2.2), (0 : Int), (6 : Int)) = doQ (g.1.1, g.1.2.1, g.1.2.2) ((opAt x.1 g.2.2.2.1).1, (opAt x.1 g.2.2.2.1).2.1, (opAt x.1 g.2.2.2.1).2.2) ∧
 True) ∧
 ((True ∧
 True) ∧
 True ∧
 True ∧
 RR (Value.slice none (0 : Nat) (0 : Nat)) ∧
 (True ∧
 True) ∧
 RR (0 : Int) ∧
 RR (6 : Int) ∧
 x.1 = x.1 ∧
 RR (↑x.1.length : Int) ∧
 RR g.2.2.2.1 ∧
 True) ∧
 ((g.1.1 = g.1.1 ∧
 (True ∧
 True) ∧
 True ∧
 True) ∧
 g.1.2.1 = g.1.2.1 ∧
 g.1.2.2 = g.1.2.2 ∧
 g.2.1 = g.2.1 ∧
 g.2.2.1 = g.2.2.1 ∧
 (RR ((opAt x.1 g.2.2.2.1).1) ∧
 RR ((opAt x.1 g.2.2.2.1).2.1) ∧
 RR ((opAt x.1 g.2.2.2.1).2.2) ∧
 True) ∧
 True) ∧
 True) ∧
 (g_1.2.1 = false →
 ((0 : Int) ≤ g_1.1.2.2 ∧
 g_1.1.2.2 < (↑(32 : Nat) : Int)) ∧
 g_1.1.2.2.toNat * nat_lit 1 + nat_lit 0 < nat_lit 32 ∧
 ((g_1.1.1 == (2 : Int)) = true →
 Holds (((g.1.2.1.getD (g_1.1.2.2.toNat * nat_lit 1 + nat_lit 0) ([] : List Int)).length + (1 : Nat)) * (8 : Nat) ≤ (140737488355328 : Nat) ∧
 ((0 : Int) ≤ (0 : Int) ∧
 (0 : Int) ≤ (↑(g.1.2.1.getD (g_1.1.2.2.toNat * nat_lit 1 + nat_lit 0) ([] : List Int)).length : Int)) ∧
 (((0 : Int) :: ([] : List Int)).set (0 : Nat) g_1.1.2.1).length = (1 : Nat)) ∧
 ((True ∧
 RR (0 : Int) ∧
 True ∧
 True) ∧
 RR (g.1.2.1.getD (g_1.1.2.2.toNat * nat_lit 1 + nat_lit 0) ([] : List Int)) ∧
 RR (((0 : Int) :: ([] : List Int)).set (0 : Nat) g_1.1.2.1) ∧
 True) ∧
 (((0 : Int) ≤ g_1.1.2.2 ∧
 g_1.1.2.2 < (↑(32 : Nat) : Int)) ∧
 g_1.1.2.2.toNat * nat_lit 1 + nat_lit 0 = g_1.1.2.2.toNat * nat_lit 1 + nat_lit 0 ∧
 (((g.1.2.1.set (g_1.1.2.2.toNat * nat_lit 1 + nat_lit 0) ([] : List Int)).set (g_1.1.2.2.toNat * nat_lit 1 + nat_lit 0) (insA (g.1.2.1.getD (g_1.1.2.2.toNat * nat_lit 1 + nat_lit 0) ([] : List Int)) (0 : Int) (((0 : Int) :: ([] : List Int)).set (0 : Nat) g_1.1.2.1)) = (List.set g.1.2.1 (g_1.1.2.2.toNat * nat_lit 1 + nat_lit 0) ([] : List Int)).set g_1.1.2.2.toNat (insA (g.1.2.1.getD (g_1.1.2.2.toNat * nat_lit 1 + nat_lit 0) ([] : List Int)) (0 : Int) (((0 : Int) :: ([] : List Int)).set (0 : Nat) g_1.1.2.1)) ∧
 mput (Ty.int IntKind.i64) g.1.2.2 g_1.1.2.1 g_1.1.2.2 = mput (Ty.int IntKind.i64) g.1.2.2 g_1.1.2.1 g_1.1.2.2) ∧
 True) ∧
 ((True ∧
 True) ∧
 RR g_1.1.2.2 ∧
 True) ∧
 ((g.1.1 = g.1.1 ∧
 (True ∧
 True) ∧
 True ∧
 True) ∧
 RR ((g.1.2.1.set (g_1.1.2.2.toNat * nat_lit 1 + nat_lit 0) ([] : List Int)).set (g_1.1.2.2.toNat * nat_lit 1 + nat_lit 0) (insA (g.1.2.1.getD (g_1.1.2.2.toNat * nat_lit 1 + nat_lit 0) ([] : List Int)) (0 : Int) (((0 : Int) :: ([] : List Int)).set (0 : Nat) g_1.1.2.1))) ∧
 RR (mput (Ty.int IntKind.i64) g.1.2.2 g_1.1.2.1 g_1.1.2.2) ∧
 (g_1.1.1 = g_1.1.1 ∧
 RR g_1.1.2.1 ∧
 RR g_1.1.2.2 ∧
 True) ∧
 g.2.1 = g.2.1 ∧
 g.2.2.1 = g.2.2.1 ∧
 (RR ((opAt x.1 g.2.2.2.1).1) ∧
 RR ((opAt x.1 g.2.2.2.1).2.1) ∧
 RR ((opAt x.1 g.2.2.2.1).2.2) ∧
 True) ∧
 True) ∧
 (True ∧
 True) ∧
 True ∧
 True ∧
 (True ∧
 True) ∧
 True ∧
 True ∧
 True ∧
 g_1.2.1 = g_1.2.1 ∧
 R8 (True ∧
 True ∧
 True ∧
 (True ∧
 True) ∧
 g_1.1.1 = g_1.1.1 ∧
 true = true ∧
 RR (g_1.1.1 == (1 : Int)) ∧
 RR (g_1.1.1 == (2 : Int)) ∧
 false = false ∧
 (True ∧
 True) ∧
 RR g_1.1.2.2 ∧
 RR (decide (g_1.1.2.2 < (0 : Int))) ∧
 RR (decide (g_1.1.2.2 < (0 : Int))) ∧
 True ∧
 True ∧
 True ∧
 RR (decide (g_1.1.2.2 < (0 : Int)) || decide ((32 : Int) ≤ g_1.1.2.2)) ∧
 false = false ∧
 g_1.2.1 = g_1.2.1 ∧
 (True ∧
 True) ∧
 (True ∧
 True) ∧
 RR g_1.1.2.1 ∧
 (True ∧
 True) ∧
 RR g_1.1.2.2 ∧
 (True ∧
 True) ∧
 g_1.1.1 = g_1.1.1 ∧
 RR (g_1.1.1 == (2 : Int)) ∧
 R32 (True ∧
 True ∧
 True ∧
 True ∧
 True ∧
 True ∧
 (True ∧
 True) ∧
 True ∧
 True ∧
 RR (Value.slice none (0 : Nat) (0 : Nat)) ∧
 True ∧
 (True ∧
 True) ∧
 True ∧
 True ∧
 True ∧
 True ∧
 True ∧
 True ∧
 x.1 = x.1 ∧
 RR (↑x.1.length : Int) ∧
 RR g.2.2.2.1 ∧
 true = true ∧
 True ∧
 (RR ((opAt x.1 g.2.2.2.1).1) ∧
 RR ((opAt x.1 g.2.2.2.1).2.1) ∧
 RR ((opAt x.1 g.2.2.2.1).2.2) ∧
 True) ∧
 True ∧
 (True ∧
 True) ∧
 (RR ((opAt x.1 g.2.2.2.1).1) ∧
 RR ((opAt x.1 g.2.2.2.1).2.1) ∧
 RR ((opAt x.1 g.2.2.2.1).2.2) ∧
 True) ∧
 R32 (True ∧
 True ∧
 True)))) ∧
 ∀ (g_2 : (Unit × List (List Int) × List (Int × Int)) × Unit), g_2.1.2.1 = (List.set g.1.2.1 (g_1.1.2.2.toNat * nat_lit 1 + nat_lit 0) ([] : List Int)).set g_1.1.2.2.toNat (insA (g.1.2.1.getD (g_1.1.2.2.toNat * nat_lit 1 + nat_lit 0) ([] : List Int)) (0 : Int) (((0 : Int) :: ([] : List Int)).set (0 : Nat) g_1.1.2.1)) ∧
 g_2.1.2.2 = mput (Ty.int IntKind.i64) g.1.2.2 g_1.1.2.1 g_1.1.2.2 →
 (True ∧
 (g_2.1.2.1.length = (32 : Nat) ∧
 ∀ (xs : List Int), xs ∈ g_2.1.2.1 →
 xs.length ≤ (9223372036854775807 : Nat) ∧
 ∀ (x : Int), x ∈ xs →
 (-9223372036854775808 : Int) ≤ x ∧
 x ≤ (9223372036854775807 : Int)) ∧
 ∀ (e : Int × Int), e ∈ g_2.1.2.2 →
 ((-9223372036854775808 : Int) ≤ e.1 ∧
 e.1 ≤ (9223372036854775807 : Int)) ∧
 (-9223372036854775808 : Int) ≤ e.2 ∧
 e.2 ≤ (9223372036854775807 : Int)) ∧
 True →
 (0 : Int) ≤ g_1.1.2.2 ∧
 (((bits BinOp.or IntKind.u32 g.1.1 (IntKind.u32.wrap ((1 : Int) * (2 : Int) ^ min g_1.1.2.2.toNat IntKind.u32.bits)), g_2.1.2.1, g_2.1.2.2), (0 : Int), (0 : Int)) = doQ (g.1.1, g.1.2.1, g.1.2.2) ((opAt x.1 g.2.2.2.1).1, (opAt x.1 g.2.2.2.1).2.1, (opAt x.1 g.2.2.2.1).2.2) ∧
 True) ∧
 ((True ∧
 True) ∧
 True ∧
 True ∧
 RR (Value.slice none (0 : Nat) (0 : Nat)) ∧
 (True ∧
 True) ∧
 RR (0 : Int) ∧
 RR (0 : Int) ∧
 x.1 = x.1 ∧
 RR (↑x.1.length : Int) ∧
 RR g.2.2.2.1 ∧
 True) ∧
 ((RR (bits BinOp.or IntKind.u32 g.1.1 (IntKind.u32.wrap ((1 : Int) * (2 : Int) ^ min g_1.1.2.2.toNat IntKind.u32.bits))) ∧
 (True ∧
 True) ∧
 True ∧
 True) ∧
 RR g_2.1.2.1 ∧
 RR g_2.1.2.2 ∧
 g.2.1 = g.2.1 ∧
 g.2.2.1 = g.2.2.1 ∧
 (RR ((opAt x.1 g.2.2.2.1).1) ∧
 RR ((opAt x.1 g.2.2.2.1).2.1) ∧
 RR ((opAt x.1 g.2.2.2.1).2.2) ∧
 True) ∧
 True) ∧
 True) ∧
 ((g_1.1.1 == (2 : Int)) = false →
 ((g.1.2.1.getD (g_1.1.2.2.toNat * nat_lit 1 + nat_lit 0) ([] : List Int)).length + (((0 : Int) :: ([] : List Int)).set (0 : Nat) g_1.1.2.1).length ≤ (9223372036854775807 : Nat) ∧
 ((g.1.2.1.getD (g_1.1.2.2.toNat * nat_lit 1 + nat_lit 0) ([] : List Int)).length + (((0 : Int) :: ([] : List Int)).set (0 : Nat) g_1.1.2.1).length + ((g.1.2.1.getD (g_1.1.2.2.toNat * nat_lit 1 + nat_lit 0) ([] : List Int)).length + (((0 : Int) :: ([] : List Int)).set (0 : Nat) g_1.1.2.1).length) / (4 : Nat) + (192 : Nat)) * (8 : Nat) ≤ (281474976710656 : Nat)) ∧
 (((0 : Int) ≤ g_1.1.2.2 ∧
 g_1.1.2.2 < (↑(32 : Nat) : Int)) ∧
 g_1.1.2.2.toNat * nat_lit 1 + nat_lit 0 = g_1.1.2.2.toNat * nat_lit 1 + nat_lit 0 ∧
 (((g.1.2.1.set (g_1.1.2.2.toNat * nat_lit 1 + nat_lit 0) ([] : List Int)).set (g_1.1.2.2.toNat * nat_lit 1 + nat_lit 0) (g.1.2.1.getD (g_1.1.2.2.toNat * nat_lit 1 + nat_lit 0) ([] : List Int) ++ ((0 : Int) :: ([] : List Int)).set (0 : Nat) g_1.1.2.1) = (List.set g.1.2.1 (g_1.1.2.2.toNat * nat_lit 1 + nat_lit 0) ([] : List Int)).set g_1.1.2.2.toNat (g.1.2.1.getD (g_1.1.2.2.toNat * nat_lit 1 + nat_lit 0) ([] : List Int) ++ ((0 : Int) :: ([] : List Int)).set (0 : Nat) g_1.1.2.1) ∧
 mput (Ty.int IntKind.i64) g.1.2.2 g_1.1.2.1 g_1.1.2.2 = mput (Ty.int IntKind.i64) g.1.2.2 g_1.1.2.1 g_1.1.2.2) ∧
 True) ∧
 ((True ∧
 True) ∧
 RR g_1.1.2.2 ∧
 True) ∧
 ((g.1.1 = g.1.1 ∧
 (True ∧
 True) ∧
 True ∧
 True) ∧
 RR ((g.1.2.1.set (g_1.1.2.2.toNat * nat_lit 1 + nat_lit 0) ([] : List Int)).set (g_1.1.2.2.toNat * nat_lit 1 + nat_lit 0) (g.1.2.1.getD (g_1.1.2.2.toNat * nat_lit 1 + nat_lit 0) ([] : List Int) ++ ((0 : Int) :: ([] : List Int)).set (0 : Nat) g_1.1.2.1)) ∧
 RR (mput (Ty.int IntKind.i64) g.1.2.2 g_1.1.2.1 g_1.1.2.2) ∧
 (g_1.1.1 = g_1.1.1 ∧
 RR g_1.1.2.1 ∧
 RR g_1.1.2.2 ∧
 True) ∧
 g.2.1 = g.2.1 ∧
 g.2.2.1 = g.2.2.1 ∧
 (RR ((opAt x.1 g.2.2.2.1).1) ∧
 RR ((opAt x.1 g.2.2.2.1).2.1) ∧
 RR ((opAt x.1 g.2.2.2.1).2.2) ∧
 True) ∧
 True) ∧
 (True ∧
 True) ∧
 True ∧
 True ∧
 (True ∧
 True) ∧
 True ∧
 True ∧
 True ∧
 g_1.2.1 = g_1.2.1 ∧
 R8 (True ∧
 True ∧
 True ∧
 (True ∧
 True) ∧
 g_1.1.1 = g_1.1.1 ∧
 true = true ∧
 RR (g_1.1.1 == (1 : Int)) ∧
 RR (g_1.1.1 == (2 : Int)) ∧
 false = false ∧
 (True ∧
 True) ∧
 RR g_1.1.2.2 ∧
 RR (decide (g_1.1.2.2 < (0 : Int))) ∧
 RR (decide (g_1.1.2.2 < (0 : Int))) ∧
 True ∧
 True ∧
 True ∧
 RR (decide (g_1.1.2.2 < (0 : Int)) || decide ((32 : Int) ≤ g_1.1.2.2)) ∧
 false = false ∧
 g_1.2.1 = g_1.2.1 ∧
 (True ∧
 True) ∧
 (True ∧
 True) ∧
 RR g_1.1.2.1 ∧
 (True ∧
 True) ∧
 RR g_1.1.2.2 ∧
 (True ∧
 True) ∧
 g_1.1.1 = g_1.1.1 ∧
 RR (g_1.1.1 == (2 : Int)) ∧
 R32 (True ∧
 True ∧
 True ∧
 True ∧
 True ∧
 True ∧
 (True ∧
 True) ∧
 True ∧
 True ∧
 RR (Value.slice none (0 : Nat) (0 : Nat)) ∧
 True ∧
 (True ∧
 True) ∧
 True ∧
 True ∧
 True ∧
 True ∧
 True ∧
 True ∧
 x.1 = x.1 ∧
 RR (↑x.1.length : Int) ∧
 RR g.2.2.2.1 ∧
 true = true ∧
 True ∧
 (RR ((opAt x.1 g.2.2.2.1).1) ∧
 RR ((opAt x.1 g.2.2.2.1).2.1) ∧
 RR ((opAt x.1 g.2.2.2.1).2.2) ∧
 True) ∧
 True ∧
 (True ∧
 True) ∧
 (RR ((opAt x.1 g.2.2.2.1).1) ∧
 RR ((opAt x.1 g.2.2.2.1).2.1) ∧
 RR ((opAt x.1 g.2.2.2.1).2.2) ∧
 True) ∧
 R32 (True ∧
 True ∧
 True)))) ∧
 ∀ (g_2 : (Unit × List (List Int) × List (Int × Int)) × Unit), g_2.1.2.1 = (List.set g.1.2.1 (g_1.1.2.2.toNat * nat_lit 1 + nat_lit 0) ([] : List Int)).set g_1.1.2.2.toNat (g.1.2.1.getD (g_1.1.2.2.toNat * nat_lit 1 + nat_lit 0) ([] : List Int) ++ ((0 : Int) :: ([] : List Int)).set (0 : Nat) g_1.1.2.1) ∧
 g_2.1.2.2 = mput (Ty.int IntKind.i64) g.1.2.2 g_1.1.2.1 g_1.1.2.2 →
 (True ∧
 (g_2.1.2.1.length = (32 : Nat) ∧
 ∀ (xs : List Int), xs ∈ g_2.1.2.1 →
 xs.length ≤ (9223372036854775807 : Nat) ∧
 ∀ (x : Int), x ∈ xs →
 (-9223372036854775808 : Int) ≤ x ∧
 x ≤ (9223372036854775807 : Int)) ∧
 ∀ (e : Int × Int), e ∈ g_2.1.2.2 →
 ((-9223372036854775808 : Int) ≤ e.1 ∧
 e.1 ≤ (9223372036854775807 : Int)) ∧
 (-9223372036854775808 : Int) ≤ e.2 ∧
 e.2 ≤ (9223372036854775807 : Int)) ∧
 True →
 (0 : Int) ≤ g_1.1.2.2 ∧
 (((bits BinOp.or IntKind.u32 g.1.1 (IntKind.u32.wrap ((1 : Int) * (2 : Int) ^ min g_1.1.2.2.toNat IntKind.u32.bits)), g_2.1.2.1, g_2.1.2.2), (0 : Int), (0 : Int)) = doQ (g.1.1, g.1.2.1, g.1.2.2) ((opAt x.1 g.2.2.2.1).1, (opAt x.1 g.2.2.2.1).2.1, (opAt x.1 g.2.2.2.1).2.2) ∧
 True) ∧
 ((True ∧
 True) ∧
 True ∧
 True ∧
 RR (Value.slice none (0 : Nat) (0 : Nat)) ∧
 (True ∧
 True) ∧
 RR (0 : Int) ∧
 RR (0 : Int) ∧
 x.1 = x.1 ∧
 RR (↑x.1.length : Int) ∧
 RR g.2.2.2.1 ∧
 True) ∧
 ((RR (bits BinOp.or IntKind.u32 g.1.1 (IntKind.u32.wrap ((1 : Int) * (2 : Int) ^ min g_1.1.2.2.toNat IntKind.u32.bits))) ∧
 (True ∧
 True) ∧
 True ∧
 True) ∧
 RR g_2.1.2.1 ∧
 RR g_2.1.2.2 ∧
 g.2.1 = g.2.1 ∧
 g.2.2.1 = g.2.2.1 ∧
 (RR ((opAt x.1 g.2.2.2.1).1) ∧
 RR ((opAt x.1 g.2.2.2.1).2.1) ∧
 RR ((opAt x.1 g.2.2.2.1).2.2) ∧
 True) ∧
 True) ∧
 True)))) ∧
 ((g_1.1.1 == (2 : Int)) = false →
 ((g_1.1.1 == (3 : Int)) = true →
 ((g.1.1 == (0 : Int)) = true →
 (((g.1.1, g.1.2.1, g.1.2.2), (0 : Int), (3 : Int)) = doQ (g.1.1, g.1.2.1, g.1.2.2) ((opAt x.1 g.2.2.2.1).1, (opAt x.1 g.2.2.2.1).2.1, (opAt x.1 g.2.2.2.1).2.2) ∧
 True) ∧
 ((True ∧
 True) ∧
 True ∧
 True ∧
 RR (Value.slice none (0 : Nat) (0 : Nat)) ∧
 (True ∧
 True) ∧
 RR (0 : Int) ∧
 RR (3 : Int) ∧
 x.1 = x.1 ∧
 RR (↑x.1.length : Int) ∧
 RR g.2.2.2.1 ∧
 True) ∧
 ((g.1.1 = g.1.1 ∧
 (True ∧
 True) ∧
 True ∧
 True) ∧
 g.1.2.1 = g.1.2.1 ∧
 g.1.2.2 = g.1.2.2 ∧
 g.2.1 = g.2.1 ∧
 g.2.2.1 = g.2.2.1 ∧
 (RR ((opAt x.1 g.2.2.2.1).1) ∧
 RR ((opAt x.1 g.2.2.2.1).2.1) ∧
 RR ((opAt x.1 g.2.2.2.1).2.2) ∧
 True) ∧
 True) ∧
 True) ∧
 ((g.1.1 == (0 : Int)) = false →
 (Holds True ∧
 ((-9223372036854775808 : Int) ≤ (↑(Lib.bitLen g.1.1.toNat) : Int) - (1 : Int) ∧
 (↑(Lib.bitLen g.1.1.toNat) : Int) - (1 : Int) ≤ (9223372036854775807 : Int)) ∧
 ((0 : Int) ≤ (↑(Lib.bitLen g.1.1.toNat) : Int) - (1 : Int) ∧
 (↑(Lib.bitLen g.1.1.toNat) : Int) - (1 : Int) < (↑(32 : Nat) : Int)) ∧
 ((↑(Lib.bitLen g.1.1.toNat) : Int) - (1 : Int)).toNat * nat_lit 1 + nat_lit 0 < nat_lit 32 ∧
 ((0 : Int) ≤ (0 : Int) ∧
 (0 : Int) < (↑(g.1.2.1.getD (((↑(Lib.bitLen g.1.1.toNat) : Int) - (1 : Int)).toNat * nat_lit 1 + nat_lit 0) ([] : List Int)).length : Int)) ∧
 ((g.1.2.1.getD (((↑(Lib.bitLen g.1.1.toNat) : Int) - (1 : Int)).toNat * nat_lit 1 + nat_lit 0) ([] : List Int)).getD (nat_lit 0) (0 : Int) = firstQ (g.1.1, g.1.2.1, g.1.2.2) ∧
 True) ∧
 ((True ∧
 True) ∧
 (g.1.2.1.getD (((↑(Lib.bitLen g.1.1.toNat) : Int) - (1 : Int)).toNat * nat_lit 1 + nat_lit 0) ([] : List Int)).getD (nat_lit 0) (0 : Int) = (g.1.2.1.getD (((↑(Lib.bitLen g.1.1.toNat) : Int) - (1 : Int)).toNat * nat_lit 1 + nat_lit 0) ([] : List Int)).getD (nat_lit 0) (0 : Int) ∧
 True) ∧
 ((g.1.1 = g.1.1 ∧
 (True ∧
 True) ∧
 True ∧
 True) ∧
 (g.1.2.1.set (((↑(Lib.bitLen g.1.1.toNat) : Int) - (1 : Int)).toNat * nat_lit 1 + nat_lit 0) ([] : List Int)).set (((↑(Lib.bitLen g.1.1.toNat) : Int) - (1 : Int)).toNat * nat_lit 1 + nat_lit 0) (g.1.2.1.getD (((↑(Lib.bitLen g.1.1.toNat) : Int) - (1 : Int)).toNat * nat_lit 1 + nat_lit 0) ([] : List Int)) = g.1.2.1 ∧
 g.1.2.2 = g.1.2.2 ∧
 g.2.1 = g.2.1 ∧
 g.2.2.1 = g.2.2.1 ∧
 (RR ((opAt x.1 g.2.2.2.1).1) ∧
 RR ((opAt x.1 g.2.2.2.1).2.1) ∧
 RR ((opAt x.1 g.2.2.2.1).2.2) ∧
 True) ∧
 True) ∧
 True ∧
 True ∧
 True ∧
 True ∧
 True ∧
 (True ∧
 True) ∧
 True ∧
 True ∧
 RR (Value.slice none (0 : Nat) (0 : Nat)) ∧
 True ∧
 (True ∧
 True) ∧
 True ∧
 True ∧
 True ∧
 True ∧
 True ∧
 True ∧
 x.1 = x.1 ∧
 RR (↑x.1.length : Int) ∧
 RR g.2.2.2.1 ∧
 true = true ∧
 True ∧
 (RR ((opAt x.1 g.2.2.2.1).1) ∧
 RR ((opAt x.1 g.2.2.2.1).2.1) ∧
 RR ((opAt x.1 g.2.2.2.1).2.2) ∧
 True) ∧
 True ∧
 (True ∧
 True) ∧
 (RR ((opAt x.1 g.2.2.2.1).1) ∧
 RR ((opAt x.1 g.2.2.2.1).2.1) ∧
 RR ((opAt x.1 g.2.2.2.1).2.2) ∧
 True) ∧
 R32 (True ∧
 True ∧
 True)) ∧
 ∀ (g_2 : Int × Unit), g_2.1 = firstQ (g.1.1, g.1.2.1, g.1.2.2) →
 ((-9223372036854775808 : Int) ≤ g_2.1 ∧
 g_2.1 ≤ (9223372036854775807 : Int)) ∧
 True →
 (((g_2.1 = g_2.1 ∧
 mval (Ty.int IntKind.i64) g.1.2.2 g_2.1 = mval (Ty.int IntKind.i64) g.1.2.2 g_2.1) ∧
 True) ∧
 ((True ∧
 True) ∧
 g_2.1 = g_2.1 ∧
 RR (mval (Ty.int IntKind.i64) g.1.2.2 g_2.1) ∧
 True) ∧
 ((g.1.1 = g.1.1 ∧
 (True ∧
 True) ∧
 True ∧
 True) ∧
 g.1.2.1 = g.1.2.1 ∧
 g.1.2.2 = g.1.2.2 ∧
 g.2.1 = g.2.1 ∧
 g.2.2.1 = g.2.2.1 ∧
 (RR ((opAt x.1 g.2.2.2.1).1) ∧
 RR ((opAt x.1 g.2.2.2.1).2.1) ∧
 RR ((opAt x.1 g.2.2.2.1).2.2) ∧
 True) ∧
 True) ∧
 (True ∧
 True) ∧
 True ∧
 True ∧
 True ∧
 True ∧
 True ∧
 True ∧
 True ∧
 g_2.1 = g_2.1 ∧
 R32 (R8 (R8 (True ∧
 True ∧
 True ∧
 True ∧
 True ∧
 True ∧
 True ∧
 (True ∧
 True) ∧
 g_2.1 = g_2.1 ∧
 R8 (True ∧
 True ∧
 True ∧
 True ∧
 True ∧
 True ∧
 True ∧
 (True ∧
 True) ∧
 True ∧
 True ∧
 RR (Value.slice none (0 : Nat) (0 : Nat)) ∧
 True ∧
 (True ∧
 True) ∧
 True ∧
 True ∧
 True ∧
 True ∧
 True ∧
 True ∧
 x.1 = x.1 ∧
 RR (↑x.1.length : Int) ∧
 RR g.2.2.2.1 ∧
 true = true ∧
 True ∧
 (RR ((opAt x.1 g.2.2.2.1).1) ∧
 RR ((opAt x.1 g.2.2.2.1).2.1) ∧
 RR ((opAt x.1 g.2.2.2.1).2.2) ∧
 True) ∧
 True ∧
 (True ∧
 True) ∧
 (RR ((opAt x.1 g.2.2.2.1).1) ∧
 RR ((opAt x.1 g.2.2.2.1).2.1) ∧
 RR ((opAt x.1 g.2.2.2.1).2.2) ∧
 True) ∧
 R32 (True ∧
 True ∧
 True)))))) ∧
 ∀ (g_3 : Int × Int × Unit), g_3.1 = g_2.1 ∧
 g_3.2.1 = mval (Ty.int IntKind.i64) g.1.2.2 g_2.1 →
 ((-9223372036854775808 : Int) ≤ g_3.1 ∧
 g_3.1 ≤ (9223372036854775807 : Int)) ∧
 ((-9223372036854775808 : Int) ≤ g_3.2.1 ∧
 g_3.2.1 ≤ (9223372036854775807 : Int)) ∧
 True →
 (((0 : Int) ≤ g_3.2.1 ∧
 g_3.2.1 < (↑(32 : Nat) : Int)) ∧
 g_3.2.1.toNat * nat_lit 1 + nat_lit 0 < nat_lit 32 ∧
 Holds True ∧
 (idx (g.1.2.1.getD (g_3.2.1.toNat * nat_lit 1 + nat_lit 0) ([] : List Int)) g_3.1 = idx (g.1.2.1.getD g_3.2.1.toNat ([] : List Int)) g_3.1 ∧
 True) ∧
 ((True ∧
 True) ∧
 g_3.1 = g_3.1 ∧
 g_3.2.1 = g_3.2.1 ∧
 RR (idx (g.1.2.1.getD (g_3.2.1.toNat * nat_lit 1 + nat_lit 0) ([] : List Int)) g_3.1) ∧
 True) ∧
 ((g.1.1 = g.1.1 ∧
 (True ∧
 True) ∧
 True ∧
 True) ∧
 (g.1.2.1.set (g_3.2.1.toNat * nat_lit 1 + nat_lit 0) ([] : List Int)).set (g_3.2.1.toNat * nat_lit 1 + nat_lit 0) (g.1.2.1.getD (g_3.2.1.toNat * nat_lit 1 + nat_lit 0) ([] : List Int)) = g.1.2.1 ∧
 g.1.2.2 = g.1.2.2 ∧
 g.2.1 = g.2.1 ∧
 g.2.2.1 = g.2.2.1 ∧
 (RR ((opAt x.1 g.2.2.2.1).1) ∧
 RR ((opAt x.1 g.2.2.2.1).2.1) ∧
 RR ((opAt x.1 g.2.2.2.1).2.2) ∧
 True) ∧
 True) ∧
 (True ∧
 True) ∧
 True ∧
 True ∧
 True ∧
 True ∧
 True ∧
 True ∧
 True ∧
 g_2.1 = g_2.1 ∧
 R32 (R8 (R8 (True ∧
 True ∧
 True ∧
 True ∧
 True ∧
 True ∧
 True ∧
 (True ∧
 True) ∧
 g_2.1 = g_2.1 ∧
 R8 (True ∧
 True ∧
 True ∧
 True ∧
 True ∧
 True ∧
 True ∧
 (True ∧
 True) ∧
 True ∧
 True ∧
 RR (Value.slice none (0 : Nat) (0 : Nat)) ∧
 True ∧
 (True ∧
 True) ∧
 True ∧
 True ∧
 True ∧
 True ∧
 True ∧
 True ∧
 x.1 = x.1 ∧
 RR (↑x.1.length : Int) ∧
 RR g.2.2.2.1 ∧
 true = true ∧
 True ∧
 (RR ((opAt x.1 g.2.2.2.1).1) ∧
 RR ((opAt x.1 g.2.2.2.1).2.1) ∧
 RR ((opAt x.1 g.2.2.2.1).2.2) ∧
 True) ∧
 True ∧
 (True ∧
 True) ∧
 (RR ((opAt x.1 g.2.2.2.1).1) ∧
 RR ((opAt x.1 g.2.2.2.1).2.1) ∧
 RR ((opAt x.1 g.2.2.2.1).2.2) ∧
 True) ∧
 R32 (True ∧
 True ∧
 True)))))) ∧
 ∀ (g_4 : Int × Unit), g_4.1 = idx (g.1.2.1.getD g_3.2.1.toNat ([] : List Int)) g_3.1 →
 ((-9223372036854775808 : Int) ≤ g_4.1 ∧
 g_4.1 ≤ (9223372036854775807 : Int)) ∧
 True →
 (((-9223372036854775808 : Int) ≤ g_4.1 + (1 : Int) ∧
 g_4.1 + (1 : Int) ≤ (9223372036854775807 : Int)) ∧
 ((0 : Int) ≤ g_3.2.1 ∧
 g_3.2.1 < (↑(32 : Nat) : Int)) ∧
 g_3.2.1.toNat * nat_lit 1 + nat_lit 0 < nat_lit 32 ∧
 ((((0 : Int) ≤ g_4.1 ∧
 g_4.1 ≤ g_4.1 + (1 : Int)) ∧
 g_4.1 + (1 : Int) ≤ (↑(g.1.2.1.getD (g_3.2.1.toNat * nat_lit 1 + nat_lit 0) ([] : List Int)).length : Int)) ∧
 (↑(g.1.2.1.getD (g_3.2.1.toNat * nat_lit 1 + nat_lit 0) ([] : List Int)).length : Int) ≤ (↑(g.1.2.1.getD (g_3.2.1.toNat * nat_lit 1 + nat_lit 0) ([] : List Int)).length : Int)) ∧
 ((g_4.1 == g_4.1 + (1 : Int)) = true →
 ((0 : Int) ≤ g_3.2.1 ∧
 g_3.2.1 < (↑(32 : Nat) : Int)) ∧
 g_3.2.1.toNat * nat_lit 1 + nat_lit 0 = g_3.2.1.toNat * nat_lit 1 + nat_lit 0 ∧
 ((g.1.2.1.set (g_3.2.1.toNat * nat_lit 1 + nat_lit 0) ([] : List Int)).set (g_3.2.1.toNat * nat_lit 1 + nat_lit 0) (g.1.2.1.getD (g_3.2.1.toNat * nat_lit 1 + nat_lit 0) ([] : List Int)) = g.1.2.1.set g_3.2.1.toNat (cutL (g.1.2.1.getD g_3.2.1.toNat ([] : List Int)) g_4.1) ∧
 True) ∧
 ((True ∧
 True) ∧
 g_3.1 = g_3.1 ∧
 g_3.2.1 = g_3.2.1 ∧
 True) ∧
 ((g.1.1 = g.1.1 ∧
 (True ∧
 True) ∧
 True ∧
 True) ∧
 RR ((g.1.2.1.set (g_3.2.1.toNat * nat_lit 1 + nat_lit 0) ([] : List Int)).set (g_3.2.1.toNat * nat_lit 1 + nat_lit 0) (g.1.2.1.getD (g_3.2.1.toNat * nat_lit 1 + nat_lit 0) ([] : List Int))) ∧
 g.2.1 = g.2.1 ∧
 g.2.2.1 = g.2.2.1 ∧
 (RR ((opAt x.1 g.2.2.2.1).1) ∧
 RR ((opAt x.1 g.2.2.2.1).2.1) ∧
 RR ((opAt x.1 g.2.2.2.1).2.2) ∧
 True) ∧
 g.1.2.2 = g.1.2.2 ∧
 True) ∧
 (True ∧
 True) ∧
 True ∧
 True ∧
 True ∧
 True ∧
 True ∧
 True ∧
 True ∧
 g_2.1 = g_2.1 ∧
 R32 (R8 (R8 (True ∧
 True ∧
 True ∧
 True ∧
 True ∧
 True ∧
 True ∧
 (True ∧
 True) ∧
 g_2.1 = g_2.1 ∧
 R8 (True ∧
 True ∧
 True ∧
 True ∧
 True ∧
 True ∧
 True ∧
 (True ∧
 True) ∧
 True ∧
 True ∧
 RR (Value.slice none (0 : Nat) (0 : Nat)) ∧
 True ∧
 (True ∧
 True) ∧
 True ∧
 True ∧
 True ∧
 True ∧
 True ∧
 True ∧
 x.1 = x.1 ∧
 RR (↑x.1.length : Int) ∧
 RR g.2.2.2.1 ∧
 true = true ∧
 True ∧
 (RR ((opAt x.1 g.2.2.2.1).1) ∧
 RR ((opAt x.1 g.2.2.2.1).2.1) ∧
 RR ((opAt x.1 g.2.2.2.1).2.2) ∧
 True) ∧
 True ∧
 (True ∧
 True) ∧
 (RR ((opAt x.1 g.2.2.2.1).1) ∧
 RR ((opAt x.1 g.2.2.2.1).2.1) ∧
 RR ((opAt x.1 g.2.2.2.1).2.2) ∧
 True) ∧
 R32 (True ∧
 True ∧
 True)))))) ∧
 ((g_4.1 == g_4.1 + (1 : Int)) = false →
 (((0 : Int) ≤ (0 : Int) ∧
 (0 : Int) ≤ g_4.1) ∧
 g_4.1 ≤ (↑(g.1.2.1.getD (g_3.2.1.toNat * nat_lit 1 + nat_lit 0) ([] : List Int)).length : Int)) ∧
 (((0 : Int) ≤ g_4.1 + (1 : Int) ∧
 g_4.1 + (1 : Int) ≤ (↑(g.1.2.1.getD (g_3.2.1.toNat * nat_lit 1 + nat_lit 0) ([] : List Int)).length : Int)) ∧
 (↑(g.1.2.1.getD (g_3.2.1.toNat * nat_lit 1 + nat_lit 0) ([] : List Int)).length : Int) ≤ (↑(g.1.2.1.getD (g_3.2.1.toNat * nat_lit 1 + nat_lit 0) ([] : List Int)).length : Int)) ∧
 g_4.1.toNat + (List.drop (g_4.1 + (1 : Int)).toNat (List.take (↑(g.1.2.1.getD (g_3.2.1.toNat * nat_lit 1 + nat_lit 0) ([] : List Int)).length : Int).toNat (g.1.2.1.getD (g_3.2.1.toNat * nat_lit 1 + nat_lit 0) ([] : List Int)))).length ≤ (g.1.2.1.getD (g_3.2.1.toNat * nat_lit 1 + nat_lit 0) ([] : List Int)).length ∧
 (((0 : Int) ≤ (↑(List.drop (nat_lit 0) (List.take (g_4.1.toNat + (List.drop (g_4.1 + (1 : Int)).toNat (List.take (↑(g.1.2.1.getD (g_3.2.1.toNat * nat_lit 1 + nat_lit 0) ([] : List Int)).length : Int).toNat (g.1.2.1.getD (g_3.2.1.toNat * nat_lit 1 + nat_lit 0) ([] : List Int)))).length) (List.take g_4.1.toNat (g.1.2.1.getD (g_3.2.1.toNat * nat_lit 1 + nat_lit 0) ([] : List Int)) ++ (List.drop (g_4.1 + (1 : Int)).toNat (List.take (↑(g.1.2.1.getD (g_3.2.1.toNat * nat_lit 1 + nat_lit 0) ([] : List Int)).length : Int).toNat (g.1.2.1.getD (g_3.2.1.toNat * nat_lit 1 + nat_lit 0) ([] : List Int))) ++ List.drop (g_4.1.toNat + (List.drop (g_4.1 + (1 : Int)).toNat (List.take (↑(g.1.2.1.getD (g_3.2.1.toNat * nat_lit 1 + nat_lit 0) ([] : List Int)).length : Int).toNat (g.1.2.1.getD (g_3.2.1.toNat * nat_lit 1 + nat_lit 0) ([] : List Int)))).length) (g.1.2.1.getD (g_3.2.1.toNat * nat_lit 1 + nat_lit 0) ([] : List Int)))))).length : Int) ∧
 (↑(List.drop (nat_lit 0) (List.take (g_4.1.toNat + (List.drop (g_4.1 + (1 : Int)).toNat (List.take (↑(g.1.2.1.getD (g_3.2.1.toNat * nat_lit 1 + nat_lit 0) ([] : List Int)).length : Int).toNat (g.1.2.1.getD (g_3.2.1.toNat * nat_lit 1 + nat_lit 0) ([] : List Int)))).length) (List.take g_4.1.toNat (g.1.2.1.getD (g_3.2.1.toNat * nat_lit 1 + nat_lit 0) ([] : List Int)) ++ (List.drop (g_4.1 + (1 : Int)).toNat (List.take (↑(g.1.2.1.getD (g_3.2.1.toNat * nat_lit 1 + nat_lit 0) ([] : List Int)).length : Int).toNat (g.1.2.1.getD (g_3.2.1.toNat * nat_lit 1 + nat_lit 0) ([] : List Int))) ++ List.drop (g_4.1.toNat + (List.drop (g_4.1 + (1 : Int)).toNat (List.take (↑(g.1.2.1.getD (g_3.2.1.toNat * nat_lit 1 + nat_lit 0) ([] : List Int)).length : Int).toNat (g.1.2.1.getD (g_3.2.1.toNat * nat_lit 1 + nat_lit 0) ([] : List Int)))).length) (g.1.2.1.getD (g_3.2.1.toNat * nat_lit 1 + nat_lit 0) ([] : List Int)))))).length : Int) ≤ (↑(g.1.2.1.getD (g_3.2.1.toNat * nat_lit 1 + nat_lit 0) ([] : List Int)).length : Int)) ∧
 (↑(g.1.2.1.getD (g_3.2.1.toNat * nat_lit 1 + nat_lit 0) ([] : List Int)).length : Int) ≤ (↑(List.take g_4.1.toNat (g.1.2.1.getD (g_3.2.1.toNat * nat_lit 1 + nat_lit 0) ([] : List Int)) ++ (List.drop (g_4.1 + (1 : Int)).toNat (List.take (↑(g.1.2.1.getD (g_3.2.1.toNat * nat_lit 1 + nat_lit 0) ([] : List Int)).length : Int).toNat (g.1.2.1.getD (g_3.2.1.toNat * nat_lit 1 + nat_lit 0) ([] : List Int))) ++ List.drop (g_4.1.toNat + (List.drop (g_4.1 + (1 : Int)).toNat (List.take (↑(g.1.2.1.getD (g_3.2.1.toNat * nat_lit 1 + nat_lit 0) ([] : List Int)).length : Int).toNat (g.1.2.1.getD (g_3.2.1.toNat * nat_lit 1 + nat_lit 0) ([] : List Int)))).length) (g.1.2.1.getD (g_3.2.1.toNat * nat_lit 1 + nat_lit 0) ([] : List Int)))).length : Int)) ∧
 ((0 : Int) ≤ g_3.2.1 ∧
 g_3.2.1 < (↑(32 : Nat) : Int)) ∧
 g_3.2.1.toNat * nat_lit 1 + nat_lit 0 = g_3.2.1.toNat * nat_lit 1 + nat_lit 0 ∧
 ((g.1.2.1.set (g_3.2.1.toNat * nat_lit 1 + nat_lit 0) ([] : List Int)).set (g_3.2.1.toNat * nat_lit 1 + nat_lit 0) (List.drop (nat_lit 0) (List.take (g_4.1.toNat + (List.drop (g_4.1 + (1 : Int)).toNat (List.take (↑(g.1.2.1.getD (g_3.2.1.toNat * nat_lit 1 + nat_lit 0) ([] : List Int)).length : Int).toNat (g.1.2.1.getD (g_3.2.1.toNat * nat_lit 1 + nat_lit 0) ([] : List Int)))).length) (List.take (↑(List.drop (nat_lit 0) (List.take (g_4.1.toNat + (List.drop (g_4.1 + (1 : Int)).toNat (List.take (↑(g.1.2.1.getD (g_3.2.1.toNat * nat_lit 1 + nat_lit 0) ([] : List Int)).length : Int).toNat (g.1.2.1.getD (g_3.2.1.toNat * nat_lit 1 + nat_lit 0) ([] : List Int)))).length) (List.take g_4.1.toNat (g.1.2.1.getD (g_3.2.1.toNat * nat_lit 1 + nat_lit 0) ([] : List Int)) ++ (List.drop (g_4.1 + (1 : Int)).toNat (List.take (↑(g.1.2.1.getD (g_3.2.1.toNat * nat_lit 1 + nat_lit 0) ([] : List Int)).length : Int).toNat (g.1.2.1.getD (g_3.2.1.toNat * nat_lit 1 + nat_lit 0) ([] : List Int))) ++ List.drop (g_4.1.toNat + (List.drop (g_4.1 + (1 : Int)).toNat (List.take (↑(g.1.2.1.getD (g_3.2.1.toNat * nat_lit 1 + nat_lit 0) ([] : List Int)).length : Int).toNat (g.1.2.1.getD (g_3.2.1.toNat * nat_lit 1 + nat_lit 0) ([] : List Int)))).length) (g.1.2.1.getD (g_3.2.1.toNat * nat_lit 1 + nat_lit 0) ([] : List Int)))))).length : Int).toNat (List.take g_4.1.toNat (g.1.2.1.getD (g_3.2.1.toNat * nat_lit 1 + nat_lit 0) ([] : List Int)) ++ (List.drop (g_4.1 + (1 : Int)).toNat (List.take (↑(g.1.2.1.getD (g_3.2.1.toNat * nat_lit 1 + nat_lit 0) ([] : List Int)).length : Int).toNat (g.1.2.1.getD (g_3.2.1.toNat * nat_lit 1 + nat_lit 0) ([] : List Int))) ++ List.drop (g_4.1.toNat + (List.drop (g_4.1 + (1 : Int)).toNat (List.take (↑(g.1.2.1.getD (g_3.2.1.toNat * nat_lit 1 + nat_lit 0) ([] : List Int)).length : Int).toNat (g.1.2.1.getD (g_3.2.1.toNat * nat_lit 1 + nat_lit 0) ([] : List Int)))).length) (g.1.2.1.getD (g_3.2.1.toNat * nat_lit 1 + nat_lit 0) ([] : List Int)))) ++ (List.replicate ((↑(g.1.2.1.getD (g_3.2.1.toNat * nat_lit 1 + nat_lit 0) ([] : List Int)).length : Int).toNat - (↑(List.drop (nat_lit 0) (List.take (g_4.1.toNat + (List.drop (g_4.1 + (1 : Int)).toNat (List.take (↑(g.1.2.1.getD (g_3.2.1.toNat * nat_lit 1 + nat_lit 0) ([] : List Int)).length : Int).toNat (g.1.2.1.getD (g_3.2.1.toNat * nat_lit 1 + nat_lit 0) ([] : List Int)))).length) (List.take g_4.1.toNat (g.1.2.1.getD (g_3.2.1.toNat * nat_lit 1 + nat_lit 0) ([] : List Int)) ++ (List.drop (g_4.1 + (1 : Int)).toNat (List.take (↑(g.1.2.1.getD (g_3.2.1.toNat * nat_lit 1 + nat_lit 0) ([] : List Int)).length : Int).toNat (g.1.2.1.getD (g_3.2.1.toNat * nat_lit 1 + nat_lit 0) ([] : List Int))) ++ List.drop (g_4.1.toNat + (List.drop (g_4.1 + (1 : Int)).toNat (List.take (↑(g.1.2.1.getD (g_3.2.1.toNat * nat_lit 1 + nat_lit 0) ([] : List Int)).length : Int).toNat (g.1.2.1.getD (g_3.2.1.toNat * nat_lit 1 + nat_lit 0) ([] : List Int)))).length) (g.1.2.1.getD (g_3.2.1.toNat * nat_lit 1 + nat_lit 0) ([] : List Int)))))).length : Int).toNat) (0 : Int) ++ List.drop ((↑(List.drop (nat_lit 0) (List.take (g_4.1.toNat + (List.drop (g_4.1 + (1 : Int)).toNat (List.take (↑(g.1.2.1.getD (g_3.2.1.toNat * nat_lit 1 + nat_lit 0) ([] : List Int)).length : Int).toNat (g.1.2.1.getD (g_3.2.1.toNat * nat_lit 1 + nat_lit 0) ([] : List Int)))).length) (List.take g_4.1.toNat (g.1.2.1.getD (g_3.2.1.toNat * nat_lit 1 + nat_lit 0) ([] : List Int)) ++ (List.drop (g_4.1 + (1 : Int)).toNat (List.take (↑(g.1.2.1.getD (g_3.2.1.toNat * nat_lit 1 + nat_lit 0) ([] : List Int)).length : Int).toNat (g.1.2.1.getD (g_3.2.1.toNat * nat_lit 1 + nat_lit 0) ([] : List Int))) ++ List.drop (g_4.1.toNat + (List.drop (g_4.1 + (1 : Int)).toNat (List.take (↑(g.1.2.1.getD (g_3.2.1.toNat * nat_lit 1 + nat_lit 0) ([] : List Int)).length : Int).toNat (g.1.2.1.getD (g_3.2.1.toNat * nat_lit 1 + nat_lit 0) ([] : List Int)))).length) (g.1.2.1.getD (g_3.2.1.toNat * nat_lit 1 + nat_lit 0) ([] : List Int)))))).length : Int).toNat + ((↑(g.1.2.1.getD (g_3.2.1.toNat * nat_lit 1 + nat_lit 0) ([] : List Int)).length : Int).toNat - (↑(List.drop (nat_lit 0) (List.take (g_4.1.toNat + (List.drop (g_4.1 + (1 : Int)).toNat (List.take (↑(g.1.2.1.getD (g_3.2.1.toNat * nat_lit 1 + nat_lit 0) ([] : List Int)).length : Int).toNat (g.1.2.1.getD (g_3.2.1.toNat * nat_lit 1 + nat_lit 0) ([] : List Int)))).length) (List.take g_4.1.toNat (g.1.2.1.getD (g_3.2.1.toNat * nat_lit 1 + nat_lit 0) ([] : List Int)) ++ (List.drop (g_4.1 + (1 : Int)).toNat (List.take (↑(g.1.2.1.getD (g_3.2.1.toNat * nat_lit 1 + nat_lit 0) ([] : List Int)).length : Int).toNat (g.1.2.1.getD (g_3.2.1.toNat * nat_lit 1 + nat_lit 0) ([] : List Int))) ++ List.drop (g_4.1.toNat + (List.drop (g_4.1 + (1 : Int)).toNat (List.take (↑(g.1.2.1.getD (g_3.2.1.toNat * nat_lit 1 + nat_lit 0) ([] : List Int)).length : Int).toNat (g.1.2.1.getD (g_3.2.1.toNat * nat_lit 1 + nat_lit 0) ([] : List Int)))).length) (g.1.2.1.getD (g_3.2.1.toNat * nat_lit 1 + nat_lit 0) ([] : List Int)))))).length : Int).toNat)) (List.take g_4.1.toNat (g.1.2.1.getD (g_3.2.1.toNat * nat_lit 1 + nat_lit 0) ([] : List Int)) ++ (List.drop (g_4.1 + (1 : Int)).toNat (List.take (↑(g.1.2.1.getD (g_3.2.1.toNat * nat_lit 1 + nat_lit 0) ([] : List Int)).length : Int).toNat (g.1.2.1.getD (g_3.2.1.toNat * nat_lit 1 + nat_lit 0) ([] : List Int))) ++ List.drop (g_4.1.toNat + (List.drop (g_4.1 + (1 : Int)).toNat (List.take (↑(g.1.2.1.getD (g_3.2.1.toNat * nat_lit 1 + nat_lit 0) ([] : List Int)).length : Int).toNat (g.1.2.1.getD (g_3.2.1.toNat * nat_lit 1 + nat_lit 0) ([] : List Int)))).length) (g.1.2.1.getD (g_3.2.1.toNat * nat_lit 1 + nat_lit 0) ([] : List Int)))))))) = g.1.2.1.set g_3.2.1.toNat (cutL (g.1.2.1.getD g_3.2.1.toNat ([] : List Int)) g_4.1) ∧
 True) ∧
 ((True ∧
 True) ∧
 g_3.1 = g_3.1 ∧
 g_3.2.1 = g_3.2.1 ∧
 True) ∧
 ((g.1.1 = g.1.1 ∧
 (True ∧
 True) ∧
 True ∧
 True) ∧
 (g.1.2.1.set (g_3.2.1.toNat * nat_lit 1 + nat_lit 0) ([] : List Int)).set (g_3.2.1.toNat * nat_lit 1 + nat_lit 0) (List.drop (nat_lit 0) (List.take (g_4.1.toNat + (List.drop (g_4.1 + (1 : Int)).toNat (List.take (↑(g.1.2.1.getD (g_3.2.1.toNat * nat_lit 1 + nat_lit 0) ([] : List Int)).length : Int).toNat (g.1.2.1.getD (g_3.2.1.toNat * nat_lit 1 + nat_lit 0) ([] : List Int)))).length) (List.take (↑(List.drop (nat_lit 0) (List.take (g_4.1.toNat + (List.drop (g_4.1 + (1 : Int)).toNat (List.take (↑(g.1.2.1.getD (g_3.2.1.toNat * nat_lit 1 + nat_lit 0) ([] : List Int)).length : Int).toNat (g.1.2.1.getD (g_3.2.1.toNat * nat_lit 1 + nat_lit 0) ([] : List Int)))).length) (List.take g_4.1.toNat (g.1.2.1.getD (g_3.2.1.toNat * nat_lit 1 + nat_lit 0) ([] : List Int)) ++ (List.drop (g_4.1 + (1 : Int)).toNat (List.take (↑(g.1.2.1.getD (g_3.2.1.toNat * nat_lit 1 + nat_lit 0) ([] : List Int)).length : Int).toNat (g.1.2.1.getD (g_3.2.1.toNat * nat_lit 1 + nat_lit 0) ([] : List Int))) ++ List.drop (g_4.1.toNat + (List.drop (g_4.1 + (1 : Int)).toNat (List.take (↑(g.1.2.1.getD (g_3.2.1.toNat * nat_lit 1 + nat_lit 0) ([] : List Int)).length : Int).toNat (g.1.2.1.getD (g_3.2.1.toNat * nat_lit 1 + nat_lit 0) ([] : List Int)))).length) (g.1.2.1.getD (g_3.2.1.toNat * nat_lit 1 + nat_lit 0) ([] : List Int)))))).length : Int).toNat (List.take g_4.1.toNat (g.1.2.1.getD (g_3.2.1.toNat * nat_lit 1 + nat_lit 0) ([] : List Int)) ++ (List.drop (g_4.1 + (1 : Int)).toNat (List.take (↑(g.1.2.1.getD (g_3.2.1.toNat * nat_lit 1 + nat_lit 0) ([] : List Int)).length : Int).toNat (g.1.2.1.getD (g_3.2.1.toNat * nat_lit 1 + nat_lit 0) ([] : List Int))) ++ List.drop (g_4.1.toNat + (List.drop (g_4.1 + (1 : Int)).toNat (List.take (↑(g.1.2.1.getD (g_3.2.1.toNat * nat_lit 1 + nat_lit 0) ([] : List Int)).length : Int).toNat (g.1.2.1.getD (g_3.2.1.toNat * nat_lit 1 + nat_lit 0) ([] : List Int)))).length) (g.1.2.1.getD (g_3.2.1.toNat * nat_lit 1 + nat_lit 0) ([] : List Int)))) ++ (List.replicate ((↑(g.1.2.1.getD (g_3.2.1.toNat * nat_lit 1 + nat_lit 0) ([] : List Int)).length : Int).toNat - (↑(List.drop (nat_lit 0) (List.take (g_4.1.toNat + (List.drop (g_4.1 + (1 : Int)).toNat (List.take (↑(g.1.2.1.getD (g_3.2.1.toNat * nat_lit 1 + nat_lit 0) ([] : List Int)).length : Int).toNat (g.1.2.1.getD (g_3.2.1.toNat * nat_lit 1 + nat_lit 0) ([] : List Int)))).length) (List.take g_4.1.toNat (g.1.2.1.getD (g_3.2.1.toNat * nat_lit 1 + nat_lit 0) ([] : List Int)) ++ (List.drop (g_4.1 + (1 : Int)).toNat (List.take (↑(g.1.2.1.getD (g_3.2.1.toNat * nat_lit 1 + nat_lit 0) ([] : List Int)).length : Int).toNat (g.1.2.1.getD (g_3.2.1.toNat * nat_lit 1 + nat_lit 0) ([] : List Int))) ++ List.drop (g_4.1.toNat + (List.drop (g_4.1 + (1 : Int)).toNat (List.take (↑(g.1.2.1.getD (g_3.2.1.toNat * nat_lit 1 + nat_lit 0) ([] : List Int)).length : Int).toNat (g.1.2.1.getD (g_3.2.1.toNat * nat_lit 1 + nat_lit 0) ([] : List Int)))).length) (g.1.2.1.getD (g_3.2.1.toNat * nat_lit 1 + nat_lit 0) ([] : List Int)))))).length : Int).toNat) (0 : Int) ++ List.drop ((↑(List.drop (nat_lit 0) (List.take (g_4.1.toNat + (List.drop (g_4.1 + (1 : Int)).toNat (List.take (↑(g.1.2.1.getD (g_3.2.1.toNat * nat_lit 1 + nat_lit 0) ([] : List Int)).length : Int).toNat (g.1.2.1.getD (g_3.2.1.toNat * nat_lit 1 + nat_lit 0) ([] : List Int)))).length) (List.take g_4.1.toNat (g.1.2.1.getD (g_3.2.1.toNat * nat_lit 1 + nat_lit 0) ([] : List Int)) ++ (List.drop (g_4.1 + (1 : Int)).toNat (List.take (↑(g.1.2.1.getD (g_3.2.1.toNat * nat_lit 1 + nat_lit 0) ([] : List Int)).length : Int).toNat (g.1.2.1.getD (g_3.2.1.toNat * nat_lit 1 + nat_lit 0) ([] : List Int))) ++ List.drop (g_4.1.toNat + (List.drop (g_4.1 + (1 : Int)).toNat (List.take (↑(g.1.2.1.getD (g_3.2.1.toNat * nat_lit 1 + nat_lit 0) ([] : List Int)).length : Int).toNat (g.1.2.1.getD (g_3.2.1.toNat * nat_lit 1 + nat_lit 0) ([] : List Int)))).length) (g.1.2.1.getD (g_3.2.1.toNat * nat_lit 1 + nat_lit 0) ([] : List Int)))))).length : Int).toNat + ((↑(g.1.2.1.getD (g_3.2.1.toNat * nat_lit 1 + nat_lit 0) ([] : List Int)).length : Int).toNat - (↑(List.drop (nat_lit 0) (List.take (g_4.1.toNat + (List.drop (g_4.1 + (1 : Int)).toNat (List.take (↑(g.1.2.1.getD (g_3.2.1.toNat * nat_lit 1 + nat_lit 0) ([] : List Int)).length : Int).toNat (g.1.2.1.getD (g_3.2.1.toNat * nat_lit 1 + nat_lit 0) ([] : List Int)))).length) (List.take g_4.1.toNat (g.1.2.1.getD (g_3.2.1.toNat * nat_lit 1 + nat_lit 0) ([] : List Int)) ++ (List.drop (g_4.1 + (1 : Int)).toNat (List.take (↑(g.1.2.1.getD (g_3.2.1.toNat * nat_lit 1 + nat_lit 0) ([] : List Int)).length : Int).toNat (g.1.2.1.getD (g_3.2.1.toNat * nat_lit 1 + nat_lit 0) ([] : List Int))) ++ List.drop (g_4.1.toNat + (List.drop (g_4.1 + (1 : Int)).toNat (List.take (↑(g.1.2.1.getD (g_3.2.1.toNat * nat_lit 1 + nat_lit 0) ([] : List Int)).length : Int).toNat (g.1.2.1.getD (g_3.2.1.toNat * nat_lit 1 + nat_lit 0) ([] : List Int)))).length) (g.1.2.1.getD (g_3.2.1.toNat * nat_lit 1 + nat_lit 0) ([] : List Int)))))).length : Int).toNat)) (List.take g_4.1.toNat (g.1.2.1.getD (g_3.2.1.toNat * nat_lit 1 + nat_lit 0) ([] : List Int)) ++ (List.drop (g_4.1 + (1 : Int)).toNat (List.take (↑(g.1.2.1.getD (g_3.2.1.toNat * nat_lit 1 + nat_lit 0) ([] : List Int)).length : Int).toNat (g.1.2.1.getD (g_3.2.1.toNat * nat_lit 1 + nat_lit 0) ([] : List Int))) ++ List.drop (g_4.1.toNat + (List.drop (g_4.1 + (1 : Int)).toNat (List.take (↑(g.1.2.1.getD (g_3.2.1.toNat * nat_lit 1 + nat_lit 0) ([] : List Int)).length : Int).toNat (g.1.2.1.getD (g_3.2.1.toNat * nat_lit 1 + nat_lit 0) ([] : List Int)))).length) (g.1.2.1.getD (g_3.2.1.toNat * nat_lit 1 + nat_lit 0) ([] : List Int)))))))) = (g.1.2.1.set (g_3.2.1.toNat * nat_lit 1 + nat_lit 0) ([] : List Int)).set (g_3.2.1.toNat * nat_lit 1 + nat_lit 0) (List.drop (nat_lit 0) (List.take (g_4.1.toNat + (List.drop (g_4.1 + (1 : Int)).toNat (List.take (↑(g.1.2.1.getD (g_3.2.1.toNat * nat_lit 1 + nat_lit 0) ([] : List Int)).length : Int).toNat (g.1.2.1.getD (g_3.2.1.toNat * nat_lit 1 + nat_lit 0) ([] : List Int)))).length) (List.take (↑(List.drop (nat_lit 0) (List.take (g_4.1.toNat + (List.drop (g_4.1 + (1 : Int)).toNat (List.take (↑(g.1.2.1.getD (g_3.2.1.toNat * nat_lit 1 + nat_lit 0) ([] : List Int)).length : Int).toNat (g.1.2.1.getD (g_3.2.1.toNat * nat_lit 1 + nat_lit 0) ([] : List Int)))).length) (List.take g_4.1.toNat (g.1.2.1.getD (g_3.2.1.toNat * nat_lit 1 + nat_lit 0) ([] : List Int)) ++ (List.drop (g_4.1 + (1 : Int)).toNat (List.take (↑(g.1.2.1.getD (g_3.2.1.toNat * nat_lit 1 + nat_lit 0) ([] : List Int)).length : Int).toNat (g.1.2.1.getD (g_3.2.1.toNat * nat_lit 1 + nat_lit 0) ([] : List Int))) ++ List.drop (g_4.1.toNat + (List.drop (g_4.1 + (1 : Int)).toNat (List.take (↑(g.1.2.1.getD (g_3.2.1.toNat * nat_lit 1 + nat_lit 0) ([] : List Int)).length : Int).toNat (g.1.2.1.getD (g_3.2.1.toNat * nat_lit 1 + nat_lit 0) ([] : List Int)))).length) (g.1.2.1.getD (g_3.2.1.toNat * nat_lit 1 + nat_lit 0) ([] : List Int)))))).length : Int).toNat (List.take g_4.1.toNat (g.1.2.1.getD (g_3.2.1.toNat * nat_lit 1 + nat_lit 0) ([] : List Int)) ++ (List.drop (g_4.1 + (1 : Int)).toNat (List.take (↑(g.1.2.1.getD (g_3.2.1.toNat * nat_lit 1 + nat_lit 0) ([] : List Int)).length : Int).toNat (g.1.2.1.getD (g_3.2.1.toNat * nat_lit 1 + nat_lit 0) ([] : List Int))) ++ List.drop (g_4.1.toNat + (List.drop (g_4.1 + (1 : Int)).toNat (List.take (↑(g.1.2.1.getD (g_3.2.1.toNat * nat_lit 1 + nat_lit 0) ([] : List Int)).length : Int).toNat (g.1.2.1.getD (g_3.2.1.toNat * nat_lit 1 + nat_lit 0) ([] : List Int)))).length) (g.1.2.1.getD (g_3.2.1.toNat * nat_lit 1 + nat_lit 0) ([] : List Int)))) ++ (List.replicate ((↑(g.1.2.1.getD (g_3.2.1.toNat * nat_lit 1 + nat_lit 0) ([] : List Int)).length : Int).toNat - (↑(List.drop (nat_lit 0) (List.take (g_4.1.toNat + (List.drop (g_4.1 + (1 : Int)).toNat (List.take (↑(g.1.2.1.getD (g_3.2.1.toNat * nat_lit 1 + nat_lit 0) ([] : List Int)).length : Int).toNat (g.1.2.1.getD (g_3.2.1.toNat * nat_lit 1 + nat_lit 0) ([] : List Int)))).length) (List.take g_4.1.toNat (g.1.2.1.getD (g_3.2.1.toNat * nat_lit 1 + nat_lit 0) ([] : List Int)) ++ (List.drop (g_4.1 + (1 : Int)).toNat (List.take (↑(g.1.2.1.getD (g_3.2.1.toNat * nat_lit 1 + nat_lit 0) ([] : List Int)).length : Int).toNat (g.1.2.1.getD (g_3.2.1.toNat * nat_lit 1 + nat_lit 0) ([] : List Int))) ++ List.drop (g_4.1.toNat + (List.drop (g_4.1 + (1 : Int)).toNat (List.take (↑(g.1.2.1.getD (g_3.2.1.toNat * nat_lit 1 + nat_lit 0) ([] : List Int)).length : Int).toNat (g.1.2.1.getD (g_3.2.1.toNat * nat_lit 1 + nat_lit 0) ([] : List Int)))).length) (g.1.2.1.getD (g_3.2.1.toNat * nat_lit 1 + nat_lit 0) ([] : List Int)))))).length : Int).toNat) (0 : Int) ++ List.drop ((↑(List.drop (nat_lit 0) (List.take (g_4.1.toNat + (List.drop (g_4.1 + (1 : Int)).toNat (List.take (↑(g.1.2.1.getD (g_3.2.1.toNat * nat_lit 1 + nat_lit 0) ([] : List Int)).length : Int).toNat (g.1.2.1.getD (g_3.2.1.toNat * nat_lit 1 + nat_lit 0) ([] : List Int)))).length) (List.take g_4.1.toNat (g.1.2.1.getD (g_3.2.1.toNat * nat_lit 1 + nat_lit 0) ([] : List Int)) ++ (List.drop (g_4.1 + (1 : Int)).toNat (List.take (↑(g.1.2.1.getD (g_3.2.1.toNat * nat_lit 1 + nat_lit 0) ([] : List Int)).length : Int).toNat (g.1.2.1.getD (g_3.2.1.toNat * nat_lit 1 + nat_lit 0) ([] : List Int))) ++ List.drop (g_4.1.toNat + (List.drop (g_4.1 + (1 : Int)).toNat (List.take (↑(g.1.2.1.getD (g_3.2.1.toNat * nat_lit 1 + nat_lit 0) ([] : List Int)).length : Int).toNat (g.1.2.1.getD (g_3.2.1.toNat * nat_lit 1 + nat_lit 0) ([] : List Int)))).length) (g.1.2.1.getD (g_3.2.1.toNat * nat_lit 1 + nat_lit 0) ([] : List Int)))))).length : Int).toNat + ((↑(g.1.2.1.getD (g_3.2.1.toNat * nat_lit 1 + nat_lit 0) ([] : List Int)).length : Int).toNat - (↑(List.drop (nat_lit 0) (List.take (g_4.1.toNat + (List.drop (g_4.1 + (1 : Int)).toNat (List.take (↑(g.1.2.1.getD (g_3.2.1.toNat * nat_lit 1 + nat_lit 0) ([] : List Int)).length : Int).toNat (g.1.2.1.getD (g_3.2.1.toNat * nat_lit 1 + nat_lit 0) ([] : List Int)))).length) (List.take g_4.1.toNat (g.1.2.1.getD (g_3.2.1.toNat * nat_lit 1 + nat_lit 0) ([] : List Int)) ++ (List.drop (g_4.1 + (1 : Int)).toNat (List.take (↑(g.1.2.1.getD (g_3.2.1.toNat * nat_lit 1 + nat_lit 0) ([] : List Int)).length : Int).toNat (g.1.2.1.getD (g_3.2.1.toNat * nat_lit 1 + nat_lit 0) ([] : List Int))) ++ List.drop (g_4.1.toNat + (List.drop (g_4.1 + (1 : Int)).toNat (List.take (↑(g.1.2.1.getD (g_3.2.1.toNat * nat_lit 1 + nat_lit 0) ([] : List Int)).length : Int).toNat (g.1.2.1.getD (g_3.2.1.toNat * nat_lit 1 + nat_lit 0) ([] : List Int)))).length) (g.1.2.1.getD (g_3.2.1.toNat * nat_lit 1 + nat_lit 0) ([] : List Int)))))).length : Int).toNat)) (List.take g_4.1.toNat (g.1.2.1.getD (g_3.2.1.toNat * nat_lit 1 + nat_lit 0) ([] : List Int)) ++ (List.drop (g_4.1 + (1 : Int)).toNat (List.take (↑(g.1.2.1.getD (g_3.2.1.toNat * nat_lit 1 + nat_lit 0) ([] : List Int)).length : Int).toNat (g.1.2.1.getD (g_3.2.1.toNat * nat_lit 1 + nat_lit 0) ([] : List Int))) ++ List.drop (g_4.1.toNat + (List.drop (g_4.1 + (1 : Int)).toNat (List.take (↑(g.1.2.1.getD (g_3.2.1.toNat * nat_lit 1 + nat_lit 0) ([] : List Int)).length : Int).toNat (g.1.2.1.getD (g_3.2.1.toNat * nat_lit 1 + nat_lit 0) ([] : List Int)))).length) (g.1.2.1.getD (g_3.2.1.toNat * nat_lit 1 + nat_lit 0) ([] : List Int)))))))) ∧
 g.2.1 = g.2.1 ∧
 g.2.2.1 = g.2.2.1 ∧
 (RR ((opAt x.1 g.2.2.2.1).1) ∧
 RR ((opAt x.1 g.2.2.2.1).2.1) ∧
 RR ((opAt x.1 g.2.2.2.1).2.2) ∧
 True) ∧
 g.1.2.2 = g.1.2.2 ∧
 True) ∧
 (True ∧
 True) ∧
 True ∧
 True ∧
 True ∧
 True ∧
 True ∧
 True ∧
 True ∧
 g_2.1 = g_2.1 ∧
 R32 (R8 (R8 (True ∧
 True ∧
 True ∧
 True ∧
 True ∧
 True ∧
 True ∧
 (True ∧
 True) ∧
 g_2.1 = g_2.1 ∧
 R8 (True ∧
 True ∧
 True ∧
 True ∧
 True ∧
 True ∧
 True ∧
 (True ∧
 True) ∧
 True ∧
 True ∧
 RR (Value.slice none (0 : Nat) (0 : Nat)) ∧
 True ∧
 (True ∧
 True) ∧
 True ∧
 True ∧
 True ∧
 True ∧
 True ∧
 True ∧
 x.1 = x.1 ∧
 RR (↑x.1.length : Int) ∧
 RR g.2.2.2.1 ∧
 true = true ∧
 True ∧
 (RR ((opAt x.1 g.2.2.2.1).1) ∧
 RR ((opAt x.1 g.2.2.2.1).2.1) ∧
 RR ((opAt x.1 g.2.2.2.1).2.2) ∧
 True) ∧
 True ∧
 (True ∧
 True) ∧
 (RR ((opAt x.1 g.2.2.2.1).1) ∧
 RR ((opAt x.1 g.2.2.2.1).2.1) ∧
 RR ((opAt x.1 g.2.2.2.1).2.2) ∧
 True) ∧
 R32 (True ∧
 True ∧
 True))))))) ∧
 ∀ (g_5 : (Unit × List (List Int) × Unit) × Unit), g_5.1.2.1 = g.1.2.1.set g_3.2.1.toNat (cutL (g.1.2.1.getD g_3.2.1.toNat ([] : List Int)) g_4.1) →
 (True ∧
 (g_5.1.2.1.length = (32 : Nat) ∧
 ∀ (xs : List Int), xs ∈ g_5.1.2.1 →
 xs.length ≤ (9223372036854775807 : Nat) ∧
 ∀ (x : Int), x ∈ xs →
 (-9223372036854775808 : Int) ≤ x ∧
 x ≤ (9223372036854775807 : Int)) ∧
 True) ∧
 True →
 (((0 : Int) ≤ g_3.2.1 ∧
 g_3.2.1 < (↑(32 : Nat) : Int)) ∧
 g_3.2.1.toNat * nat_lit 1 + nat_lit 0 < nat_lit 32 ∧
 (((↑(g_5.1.2.1.getD (g_3.2.1.toNat * nat_lit 1 + nat_lit 0) ([] : List Int)).length : Int) == (0 : Int)) = true →
 (0 : Int) ≤ g_3.2.1 ∧
 ((bits BinOp.andNot IntKind.u32 g.1.1 (IntKind.u32.wrap ((1 : Int) * (2 : Int) ^ min g_3.2.1.toNat IntKind.u32.bits)) = if g_5.1.2.1.getD g_3.2.1.toNat ([] : List Int) = ([] : List Int) then clrB g.1.1 g_3.2.1 else g.1.1) ∧
 True) ∧
 ((True ∧
 True) ∧
 g_3.1 = g_3.1 ∧
 True) ∧
 ((RR (bits BinOp.andNot IntKind.u32 g.1.1 (IntKind.u32.wrap ((1 : Int) * (2 : Int) ^ min g_3.2.1.toNat IntKind.u32.bits))) ∧
 (True ∧
 True) ∧
 True ∧
 True) ∧
 g.2.1 = g.2.1 ∧
 g.2.2.1 = g.2.2.1 ∧
 (RR ((opAt x.1 g.2.2.2.1).1) ∧
 RR ((opAt x.1 g.2.2.2.1).2.1) ∧
 RR ((opAt x.1 g.2.2.2.1).2.2) ∧
 True) ∧
 (g_5.1.2.1.set (g_3.2.1.toNat * nat_lit 1 + nat_lit 0) ([] : List Int)).set (g_3.2.1.toNat * nat_lit 1 + nat_lit 0) (g_5.1.2.1.getD (g_3.2.1.toNat * nat_lit 1 + nat_lit 0) ([] : List Int)) = g_5.1.2.1 ∧
 g.1.2.2 = g.1.2.2 ∧
 True) ∧
 (True ∧
 True) ∧
 True ∧
 True ∧
 True ∧
 True ∧
 True ∧
 True ∧
 True ∧
 g_2.1 = g_2.1 ∧
 R32 (R8 (R8 (True ∧
 True ∧
 True ∧
 True ∧
 True ∧
 True ∧
 True ∧
 (True ∧
 True) ∧
 g_2.1 = g_2.1 ∧
 R8 (True ∧
 True ∧
 True ∧
 True ∧
 True ∧
 True ∧
 True ∧
 (True ∧
 True) ∧
 True ∧
 True ∧
 RR (Value.slice none (0 : Nat) (0 : Nat)) ∧
 True ∧
 (True ∧
 True) ∧
 True ∧
 True ∧
 True ∧
 True ∧
 True ∧
 True ∧
 x.1 = x.1 ∧
 RR (↑x.1.length : Int) ∧
 RR g.2.2.2.1 ∧
 true = true ∧
 True ∧
 (RR ((opAt x.1 g.2.2.2.1).1) ∧
 RR ((opAt x.1 g.2.2.2.1).2.1) ∧
 RR ((opAt x.1 g.2.2.2.1).2.2) ∧
 True) ∧
 True ∧
 (True ∧
 True) ∧
 (RR ((opAt x.1 g.2.2.2.1).1) ∧
 RR ((opAt x.1 g.2.2.2.1).2.1) ∧
 RR ((opAt x.1 g.2.2.2.1).2.2) ∧
 True) ∧
 R32 (True ∧
 True ∧
 True)))))) ∧
 (((↑(g_5.1.2.1.getD (g_3.2.1.toNat * nat_lit 1 + nat_lit 0) ([] : List Int)).length : Int) == (0 : Int)) = false →
 ((g.1.1 = if g_5.1.2.1.getD g_3.2.1.toNat ([] : List Int) = ([] : List Int) then clrB g.1.1 g_3.2.1 else g.1.1) ∧
 True) ∧
 ((True ∧
 True) ∧
 g_3.1 = g_3.1 ∧
 True) ∧
 ((g.1.1 = g.1.1 ∧
 (True ∧
 True) ∧
 True ∧
 True) ∧
 g.2.1 = g.2.1 ∧
 g.2.2.1 = g.2.2.1 ∧
 (RR ((opAt x.1 g.2.2.2.1).1) ∧
 RR ((opAt x.1 g.2.2.2.1).2.1) ∧
 RR ((opAt x.1 g.2.2.2.1).2.2) ∧
 True) ∧
 (g_5.1.2.1.set (g_3.2.1.toNat * nat_lit 1 + nat_lit 0) ([] : List Int)).set (g_3.2.1.toNat * nat_lit 1 + nat_lit 0) (g_5.1.2.1.getD (g_3.2.1.toNat * nat_lit 1 + nat_lit 0) ([] : List Int)) = g_5.1.2.1 ∧
 g.1.2.2 = g.1.2.2 ∧
 True) ∧
 (True ∧
 True) ∧
 True ∧
 True ∧
 True ∧
 True ∧
 True ∧
 True ∧
 True ∧
 g_2.1 = g_2.1 ∧
 R32 (R8 (R8 (True ∧
 True ∧
 True ∧
 True ∧
 True ∧
 True ∧
 True ∧
 (True ∧
 True) ∧
 g_2.1 = g_2.1 ∧
 R8 (True ∧
 True ∧
 True ∧
 True ∧
 True ∧
 True ∧
 True ∧
 (True ∧
 True) ∧
 True ∧
 True ∧
 RR (Value.slice none (0 : Nat) (0 : Nat)) ∧
 True ∧
 (True ∧
 True) ∧
 True ∧
 True ∧
 True ∧
 True ∧
 True ∧
 True ∧
 x.1 = x.1 ∧
 RR (↑x.1.length : Int) ∧
 RR g.2.2.2.1 ∧
 true = true ∧
 True ∧
 (RR ((opAt x.1 g.2.2.2.1).1) ∧
 RR ((opAt x.1 g.2.2.2.1).2.1) ∧
 RR ((opAt x.1 g.2.2.2.1).2.2) ∧
 True) ∧
 True ∧
 (True ∧
 True) ∧
 (RR ((opAt x.1 g.2.2.2.1).1) ∧
 RR ((opAt x.1 g.2.2.2.1).2.1) ∧
 RR ((opAt x.1 g.2.2.2.1).2.2) ∧
 True) ∧
 R32 (True ∧
 True ∧
 True))))))) ∧
 ∀ (g_6 : (Int × Unit × Unit) × Unit), (g_6.1.1 = if g_5.1.2.1.getD g_3.2.1.toNat ([] : List Int) = ([] : List Int) then clrB g.1.1 g_3.2.1 else g.1.1) →
 (((0 : Int) ≤ g_6.1.1 ∧
 g_6.1.1 ≤ (4294967295 : Int)) ∧
 True ∧
 True) ∧
 True →
 (((g_6.1.1, g_5.1.2.1, mdel (Ty.int IntKind.i64) g.1.2.2 g_3.1), g_2.1, (0 : Int)) = doQ (g.1.1, g.1.2.1, g.1.2.2) ((opAt x.1 g.2.2.2.1).1, (opAt x.1 g.2.2.2.1).2.1, (opAt x.1 g.2.2.2.1).2.2) ∧
 True) ∧
 ((True ∧
 True) ∧
 True ∧
 True ∧
 RR (Value.slice none (0 : Nat) (0 : Nat)) ∧
 (True ∧
 True) ∧
 g_2.1 = g_2.1 ∧
 RR (0 : Int) ∧
 x.1 = x.1 ∧
 RR (↑x.1.length : Int) ∧
 RR g.2.2.2.1 ∧
 True) ∧
 ((g_6.1.1 = g_6.1.1 ∧
 (True ∧
 True) ∧
 True ∧
 True) ∧
 RR g_5.1.2.1 ∧
 RR (mdel (Ty.int IntKind.i64) g.1.2.2 g_3.1) ∧
 g.2.1 = g.2.1 ∧
 g.2.2.1 = g.2.2.1 ∧
 (RR ((opAt x.1 g.2.2.2.1).1) ∧
 RR ((opAt x.1 g.2.2.2.1).2.1) ∧
 RR ((opAt x.1 g.2.2.2.1).2.2) ∧
 True) ∧
 True) ∧
 True)) ∧
 ((g_1.1.1 == (3 : Int)) = false →
 ((g_1.1.1 == (4 : Int)) = true →
 ((!g_1.2.1) = true →
 (((g.1.1, g.1.2.1, g.1.2.2), (0 : Int), (3 : Int)) = doQ (g.1.1, g.1.2.1, g.1.2.2) ((opAt x.1 g.2.2.2.1).1, (opAt x.1 g.2.2.2.1).2.1, (opAt x.1 g.2.2.2.1).2.2) ∧
 True) ∧
 ((True ∧
 True) ∧
 True ∧
 True ∧
 RR (Value.slice none (0 : Nat) (0 : Nat)) ∧
 (True ∧
 True) ∧
 RR (0 : Int) ∧
 RR (3 : Int) ∧
 x.1 = x.1 ∧
 RR (↑x.1.length : Int) ∧
 RR g.2.2.2.1 ∧
 True) ∧
 ((g.1.1 = g.1.1 ∧
 (True ∧
 True) ∧
 True ∧
 True) ∧
 g.1.2.1 = g.1.2.1 ∧
 g.1.2.2 = g.1.2.2 ∧
 g.2.1 = g.2.1 ∧
 g.2.2.1 = g.2.2.1 ∧
 (RR ((opAt x.1 g.2.2.2.1).1) ∧
 RR ((opAt x.1 g.2.2.2.1).2.1) ∧
 RR ((opAt x.1 g.2.2.2.1).2.2) ∧
 True) ∧
 True) ∧
 True) ∧
 ((!g_1.2.1) = false →
 (((RR g_1.1.2.1 ∧
 mval (Ty.int IntKind.i64) g.1.2.2 g_1.1.2.1 = mval (Ty.int IntKind.i64) g.1.2.2 g_1.1.2.1) ∧
 True) ∧
 ((True ∧
 True) ∧
 RR g_1.1.2.1 ∧
 RR (mval (Ty.int IntKind.i64) g.1.2.2 g_1.1.2.1) ∧
 True) ∧
 ((g.1.1 = g.1.1 ∧
 (True ∧
 True) ∧
 True ∧
 True) ∧
 g.1.2.1 = g.1.2.1 ∧
 g.1.2.2 = g.1.2.2 ∧
 (g_1.1.1 = g_1.1.1 ∧
 RR g_1.1.2.1 ∧
 RR g_1.1.2.2 ∧
 True) ∧
 g.2.1 = g.2.1 ∧
 g.2.2.1 = g.2.2.1 ∧
 (RR ((opAt x.1 g.2.2.2.1).1) ∧
 RR ((opAt x.1 g.2.2.2.1).2.1) ∧
 RR ((opAt x.1 g.2.2.2.1).2.2) ∧
 True) ∧
 True) ∧
 (True ∧
 True) ∧
 True ∧
 True ∧
 (True ∧
 True) ∧
 True ∧
 True ∧
 True ∧
 g_1.2.1 = g_1.2.1 ∧
 R8 (True ∧
 True ∧
 True ∧
 (True ∧
 True) ∧
 g_1.1.1 = g_1.1.1 ∧
 false = false ∧
 RR (g_1.1.1 == (1 : Int)) ∧
 RR (g_1.1.1 == (2 : Int)) ∧
 R8 (R8 (True ∧
 True ∧
 True ∧
 True ∧
 false = false ∧
 RR (g_1.1.1 == (3 : Int)) ∧
 R8 (R8 (True ∧
 True ∧
 True ∧
 True ∧
 True ∧
 True ∧
 true = true ∧
 RR (g_1.1.1 == (4 : Int)) ∧
 g_1.2.1 = g_1.2.1 ∧
 false = false ∧
 (True ∧
 True) ∧
 (True ∧
 True) ∧
 RR g_1.1.2.1 ∧
 True ∧
 True ∧
 True ∧
 True ∧
 True ∧
 True ∧
 (True ∧
 True) ∧
 True ∧
 True ∧
 RR (Value.slice none (0 : Nat) (0 : Nat)) ∧
 True ∧
 (True ∧
 True) ∧
 True ∧
 True ∧
 True ∧
 True ∧
 True ∧
 True ∧
 x.1 = x.1 ∧
 RR (↑x.1.length : Int) ∧
 RR g.2.2.2.1 ∧
 true = true ∧
 True ∧
 (RR ((opAt x.1 g.2.2.2.1).1) ∧
 RR ((opAt x.1 g.2.2.2.1).2.1) ∧
 RR ((opAt x.1 g.2.2.2.1).2.2) ∧
 True) ∧
 True ∧
 (True ∧
 True) ∧
 (RR ((opAt x.1 g.2.2.2.1).1) ∧
 RR ((opAt x.1 g.2.2.2.1).2.1) ∧
 RR ((opAt x.1 g.2.2.2.1).2.2) ∧
 True) ∧
 R32 (True ∧
 True ∧
 True))))))) ∧
 ∀ (g_2 : Int × Int × Unit), g_2.1 = g_1.1.2.1 ∧
 g_2.2.1 = mval (Ty.int IntKind.i64) g.1.2.2 g_1.1.2.1 →
 ((-9223372036854775808 : Int) ≤ g_2.1 ∧
 g_2.1 ≤ (9223372036854775807 : Int)) ∧
 ((-9223372036854775808 : Int) ≤ g_2.2.1 ∧
 g_2.2.1 ≤ (9223372036854775807 : Int)) ∧
 True →
 (((0 : Int) ≤ g_2.2.1 ∧
 g_2.2.1 < (↑(32 : Nat) : Int)) ∧
 g_2.2.1.toNat * nat_lit 1 + nat_lit 0 < nat_lit 32 ∧
 Holds True ∧
 (idx (g.1.2.1.getD (g_2.2.1.toNat * nat_lit 1 + nat_lit 0) ([] : List Int)) g_2.1 = idx (g.1.2.1.getD g_2.2.1.toNat ([] : List Int)) g_2.1 ∧
 True) ∧
 ((True ∧
 True) ∧
 g_2.1 = g_2.1 ∧
 g_2.2.1 = g_2.2.1 ∧
 RR (idx (g.1.2.1.getD (g_2.2.1.toNat * nat_lit 1 + nat_lit 0) ([] : List Int)) g_2.1) ∧
 True) ∧
 ((g.1.1 = g.1.1 ∧
 (True ∧
 True) ∧
 True ∧
 True) ∧
 (g.1.2.1.set (g_2.2.1.toNat * nat_lit 1 + nat_lit 0) ([] : List Int)).set (g_2.2.1.toNat * nat_lit 1 + nat_lit 0) (g.1.2.1.getD (g_2.2.1.toNat * nat_lit 1 + nat_lit 0) ([] : List Int)) = g.1.2.1 ∧
 g.1.2.2 = g.1.2.2 ∧
 (g_1.1.1 = g_1.1.1 ∧
 RR g_1.1.2.1 ∧
 RR g_1.1.2.2 ∧
 True) ∧
 g.2.1 = g.2.1 ∧
 g.2.2.1 = g.2.2.1 ∧
 (RR ((opAt x.1 g.2.2.2.1).1) ∧
 RR ((opAt x.1 g.2.2.2.1).2.1) ∧
 RR ((opAt x.1 g.2.2.2.1).2.2) ∧
 True) ∧
 True) ∧
 (True ∧
 True) ∧
 True ∧
 True ∧
 (True ∧
 True) ∧
 True ∧
 True ∧
 True ∧
 g_1.2.1 = g_1.2.1 ∧
 R8 (True ∧
 True ∧
 True ∧
 (True ∧
 True) ∧
 g_1.1.1 = g_1.1.1 ∧
 false = false ∧
 RR (g_1.1.1 == (1 : Int)) ∧
 RR (g_1.1.1 == (2 : Int)) ∧
 R8 (R8 (True ∧
 True ∧
 True ∧
 True ∧
 false = false ∧
 RR (g_1.1.1 == (3 : Int)) ∧
 R8 (R8 (True ∧
 True ∧
 True ∧
 True ∧
 True ∧
 True ∧
 true = true ∧
 RR (g_1.1.1 == (4 : Int)) ∧
 g_1.2.1 = g_1.2.1 ∧
 false = false ∧
 (True ∧
 True) ∧
 (True ∧
 True) ∧
 RR g_1.1.2.1 ∧
 True ∧
 True ∧
 True ∧
 True ∧
 True ∧
 True ∧
 (True ∧
 True) ∧
 True ∧
 True ∧
 RR (Value.slice none (0 : Nat) (0 : Nat)) ∧
 True ∧
 (True ∧
 True) ∧
 True ∧
 True ∧
 True ∧
 True ∧
 True ∧
 True ∧
 x.1 = x.1 ∧
 RR (↑x.1.length : Int) ∧
 RR g.2.2.2.1 ∧
 true = true ∧
 True ∧
 (RR ((opAt x.1 g.2.2.2.1).1) ∧
 RR ((opAt x.1 g.2.2.2.1).2.1) ∧
 RR ((opAt x.1 g.2.2.2.1).2.2) ∧
 True) ∧
 True ∧
 (True ∧
 True) ∧
 (RR ((opAt x.1 g.2.2.2.1).1) ∧
 RR ((opAt x.1 g.2.2.2.1).2.1) ∧
 RR ((opAt x.1 g.2.2.2.1).2.2) ∧
 True) ∧
 R32 (True ∧
 True ∧
 True))))))) ∧
 ∀ (g_3 : Int × Unit), g_3.1 = idx (g.1.2.1.getD g_2.2.1.toNat ([] : List Int)) g_2.1 →
 ((-9223372036854775808 : Int) ≤ g_3.1 ∧
 g_3.1 ≤ (9223372036854775807 : Int)) ∧
 True →
 (((-9223372036854775808 : Int) ≤ g_3.1 + (1 : Int) ∧
 g_3.1 + (1 : Int) ≤ (9223372036854775807 : Int)) ∧
 ((0 : Int) ≤ g_2.2.1 ∧
 g_2.2.1 < (↑(32 : Nat) : Int)) ∧
 g_2.2.1.toNat * nat_lit 1 + nat_lit 0 < nat_lit 32 ∧
 ((((0 : Int) ≤ g_3.1 ∧
 g_3.1 ≤ g_3.1 + (1 : Int)) ∧
 g_3.1 + (1 : Int) ≤ (↑(g.1.2.1.getD (g_2.2.1.toNat * nat_lit 1 + nat_lit 0) ([] : List Int)).length : Int)) ∧
 (↑(g.1.2.1.getD (g_2.2.1.toNat * nat_lit 1 + nat_lit 0) ([] : List Int)).length : Int) ≤ (↑(g.1.2.1.getD (g_2.2.1.toNat * nat_lit 1 + nat_lit 0) ([] : List Int)).length : Int)) ∧
 ((g_3.1 == g_3.1 + (1 : Int)) = true →
 ((0 : Int) ≤ g_2.2.1 ∧
 g_2.2.1 < (↑(32 : Nat) : Int)) ∧
 g_2.2.1.toNat * nat_lit 1 + nat_lit 0 = g_2.2.1.toNat * nat_lit 1 + nat_lit 0 ∧
 ((g.1.2.1.set (g_2.2.1.toNat * nat_lit 1 + nat_lit 0) ([] : List Int)).set (g_2.2.1.toNat * nat_lit 1 + nat_lit 0) (g.1.2.1.getD (g_2.2.1.toNat * nat_lit 1 + nat_lit 0) ([] : List Int)) = g.1.2.1.set g_2.2.1.toNat (cutL (g.1.2.1.getD g_2.2.1.toNat ([] : List Int)) g_3.1) ∧
 True) ∧
 ((True ∧
 True) ∧
 g_2.1 = g_2.1 ∧
 g_2.2.1 = g_2.2.1 ∧
 True) ∧
 ((g.1.1 = g.1.1 ∧
 (True ∧
 True) ∧
 True ∧
 True) ∧
 RR ((g.1.2.1.set (g_2.2.1.toNat * nat_lit 1 + nat_lit 0) ([] : List Int)).set (g_2.2.1.toNat * nat_lit 1 + nat_lit 0) (g.1.2.1.getD (g_2.2.1.toNat * nat_lit 1 + nat_lit 0) ([] : List Int))) ∧
 (g_1.1.1 = g_1.1.1 ∧
 RR g_1.1.2.1 ∧
 RR g_1.1.2.2 ∧
 True) ∧
 g.2.1 = g.2.1 ∧
 g.2.2.1 = g.2.2.1 ∧
 (RR ((opAt x.1 g.2.2.2.1).1) ∧
 RR ((opAt x.1 g.2.2.2.1).2.1) ∧
 RR ((opAt x.1 g.2.2.2.1).2.2) ∧
 True) ∧
 g.1.2.2 = g.1.2.2 ∧
 True) ∧
 (True ∧
 True) ∧
 True ∧
 True ∧
 (True ∧
 True) ∧
 True ∧
 True ∧
 True ∧
 g_1.2.1 = g_1.2.1 ∧
 R8 (True ∧
 True ∧
 True ∧
 (True ∧
 True) ∧
 g_1.1.1 = g_1.1.1 ∧
 false = false ∧
 RR (g_1.1.1 == (1 : Int)) ∧
 RR (g_1.1.1 == (2 : Int)) ∧
 R8 (R8 (True ∧
 True ∧
 True ∧
 True ∧
 false = false ∧
 RR (g_1.1.1 == (3 : Int)) ∧
 R8 (R8 (True ∧
 True ∧
 True ∧
 True ∧
 True ∧
 True ∧
 true = true ∧
 RR (g_1.1.1 == (4 : Int)) ∧
 g_1.2.1 = g_1.2.1 ∧
 false = false ∧
 (True ∧
 True) ∧
 (True ∧
 True) ∧
 RR g_1.1.2.1 ∧
 True ∧
 True ∧
 True ∧
 True ∧
 True ∧
 True ∧
 (True ∧
 True) ∧
 True ∧
 True ∧
 RR (Value.slice none (0 : Nat) (0 : Nat)) ∧
 True ∧
 (True ∧
 True) ∧
 True ∧
 True ∧
 True ∧
 True ∧
 True ∧
 True ∧
 x.1 = x.1 ∧
 RR (↑x.1.length : Int) ∧
 RR g.2.2.2.1 ∧
 true = true ∧
 True ∧
 (RR ((opAt x.1 g.2.2.2.1).1) ∧
 RR ((opAt x.1 g.2.2.2.1).2.1) ∧
 RR ((opAt x.1 g.2.2.2.1).2.2) ∧
 True) ∧
 True ∧
 (True ∧
 True) ∧
 (RR ((opAt x.1 g.2.2.2.1).1) ∧
 RR ((opAt x.1 g.2.2.2.1).2.1) ∧
 RR ((opAt x.1 g.2.2.2.1).2.2) ∧
 True) ∧
 R32 (True ∧
 True ∧
 True))))))) ∧
 ((g_3.1 == g_3.1 + (1 : Int)) = false →
 (((0 : Int) ≤ (0 : Int) ∧
 (0 : Int) ≤ g_3.1) ∧
 g_3.1 ≤ (↑(g.1.2.1.getD (g_2.2.1.toNat * nat_lit 1 + nat_lit 0) ([] : List Int)).length : Int)) ∧
 (((0 : Int) ≤ g_3.1 + (1 : Int) ∧
 g_3.1 + (1 : Int) ≤ (↑(g.1.2.1.getD (g_2.2.1.toNat * nat_lit 1 + nat_lit 0) ([] : List Int)).length : Int)) ∧
 (↑(g.1.2.1.getD (g_2.2.1.toNat * nat_lit 1 + nat_lit 0) ([] : List Int)).length : Int) ≤ (↑(g.1.2.1.getD (g_2.2.1.toNat * nat_lit 1 + nat_lit 0) ([] : List Int)).length : Int)) ∧
 g_3.1.toNat + (List.drop (g_3.1 + (1 : Int)).toNat (List.take (↑(g.1.2.1.getD (g_2.2.1.toNat * nat_lit 1 + nat_lit 0) ([] : List Int)).length : Int).toNat (g.1.2.1.getD (g_2.2.1.toNat * nat_lit 1 + nat_lit 0) ([] : List Int)))).length ≤ (g.1.2.1.getD (g_2.2.1.toNat * nat_lit 1 + nat_lit 0) ([] : List Int)).length ∧
 (((0 : Int) ≤ (↑(List.drop (nat_lit 0) (List.take (g_3.1.toNat + (List.drop (g_3.1 + (1 : Int)).toNat (List.take (↑(g.1.2.1.getD (g_2.2.1.toNat * nat_lit 1 + nat_lit 0) ([] : List Int)).length : Int).toNat (g.1.2.1.getD (g_2.2.1.toNat * nat_lit 1 + nat_lit 0) ([] : List Int)))).length) (List.take g_3.1.toNat (g.1.2.1.getD (g_2.2.1.toNat * nat_lit 1 + nat_lit 0) ([] : List Int)) ++ (List.drop (g_3.1 + (1 : Int)).toNat (List.take (↑(g.1.2.1.getD (g_2.2.1.toNat * nat_lit 1 + nat_lit 0) ([] : List Int)).length : Int).toNat (g.1.2.1.getD (g_2.2.1.toNat * nat_lit 1 + nat_lit 0) ([] : List Int))) ++ List.drop (g_3.1.toNat + (List.drop (g_3.1 + (1 : Int)).toNat (List.take (↑(g.1.2.1.getD (g_2.2.1.toNat * nat_lit 1 + nat_lit 0) ([] : List Int)).length : Int).toNat (g.1.2.1.getD (g_2.2.1.toNat * nat_lit 1 + nat_lit 0) ([] : List Int)))).length) (g.1.2.1.getD (g_2.2.1.toNat * nat_lit 1 + nat_lit 0) ([] : List Int)))))).length : Int) ∧
 (↑(List.drop (nat_lit 0) (List.take (g_3.1.toNat + (List.drop (g_3.1 + (1 : Int)).toNat (List.take (↑(g.1.2.1.getD (g_2.2.1.toNat * nat_lit 1 + nat_lit 0) ([] : List Int)).length : Int).toNat (g.1.2.1.getD (g_2.2.1.toNat * nat_lit 1 + nat_lit 0) ([] : List Int)))).length) (List.take g_3.1.toNat (g.1.2.1.getD (g_2.2.1.toNat * nat_lit 1 + nat_lit 0) ([] : List Int)) ++ (List.drop (g_3.1 + (1 : Int)).toNat (List.take (↑(g.1.2.1.getD (g_2.2.1.toNat * nat_lit 1 + nat_lit 0) ([] : List Int)).length : Int).toNat (g.1.2.1.getD (g_2.2.1.toNat * nat_lit 1 + nat_lit 0) ([] : List Int))) ++ List.drop (g_3.1.toNat + (List.drop (g_3.1 + (1 : Int)).toNat (List.take (↑(g.1.2.1.getD (g_2.2.1.toNat * nat_lit 1 + nat_lit 0) ([] : List Int)).length : Int).toNat (g.1.2.1.getD (g_2.2.1.toNat * nat_lit 1 + nat_lit 0) ([] : List Int)))).length) (g.1.2.1.getD (g_2.2.1.toNat * nat_lit 1 + nat_lit 0) ([] : List Int)))))).length : Int) ≤ (↑(g.1.2.1.getD (g_2.2.1.toNat * nat_lit 1 + nat_lit 0) ([] : List Int)).length : Int)) ∧
 (↑(g.1.2.1.getD (g_2.2.1.toNat * nat_lit 1 + nat_lit 0) ([] : List Int)).length : Int) ≤ (↑(List.take g_3.1.toNat (g.1.2.1.getD (g_2.2.1.toNat * nat_lit 1 + nat_lit 0) ([] : List Int)) ++ (List.drop (g_3.1 + (1 : Int)).toNat (List.take (↑(g.1.2.1.getD (g_2.2.1.toNat * nat_lit 1 + nat_lit 0) ([] : List Int)).length : Int).toNat (g.1.2.1.getD (g_2.2.1.toNat * nat_lit 1 + nat_lit 0) ([] : List Int))) ++ List.drop (g_3.1.toNat + (List.drop (g_3.1 + (1 : Int)).toNat (List.take (↑(g.1.2.1.getD (g_2.2.1.toNat * nat_lit 1 + nat_lit 0) ([] : List Int)).length : Int).toNat (g.1.2.1.getD (g_2.2.1.toNat * nat_lit 1 + nat_lit 0) ([] : List Int)))).length) (g.1.2.1.getD (g_2.2.1.toNat * nat_lit 1 + nat_lit 0) ([] : List Int)))).length : Int)) ∧
 ((0 : Int) ≤ g_2.2.1 ∧
 g_2.2.1 < (↑(32 : Nat) : Int)) ∧
 g_2.2.1.toNat * nat_lit 1 + nat_lit 0 = g_2.2.1.toNat * nat_lit 1 + nat_lit 0 ∧
 ((g.1.2.1.set (g_2.2.1.toNat * nat_lit 1 + nat_lit 0) ([] : List Int)).set (g_2.2.1.toNat * nat_lit 1 + nat_lit 0) (List.drop (nat_lit 0) (List.take (g_3.1.toNat + (List.drop (g_3.1 + (1 : Int)).toNat (List.take (↑(g.1.2.1.getD (g_2.2.1.toNat * nat_lit 1 + nat_lit 0) ([] : List Int)).length : Int).toNat (g.1.2.1.getD (g_2.2.1.toNat * nat_lit 1 + nat_lit 0) ([] : List Int)))).length) (List.take (↑(List.drop (nat_lit 0) (List.take (g_3.1.toNat + (List.drop (g_3.1 + (1 : Int)).toNat (List.take (↑(g.1.2.1.getD (g_2.2.1.toNat * nat_lit 1 + nat_lit 0) ([] : List Int)).length : Int).toNat (g.1.2.1.getD (g_2.2.1.toNat * nat_lit 1 + nat_lit 0) ([] : List Int)))).length) (List.take g_3.1.toNat (g.1.2.1.getD (g_2.2.1.toNat * nat_lit 1 + nat_lit 0) ([] : List Int)) ++ (List.drop (g_3.1 + (1 : Int)).toNat (List.take (↑(g.1.2.1.getD (g_2.2.1.toNat * nat_lit 1 + nat_lit 0) ([] : List Int)).length : Int).toNat (g.1.2.1.getD (g_2.2.1.toNat * nat_lit 1 + nat_lit 0) ([] : List Int))) ++ List.drop (g_3.1.toNat + (List.drop (g_3.1 + (1 : Int)).toNat (List.take (↑(g.1.2.1.getD (g_2.2.1.toNat * nat_lit 1 + nat_lit 0) ([] : List Int)).length : Int).toNat (g.1.2.1.getD (g_2.2.1.toNat * nat_lit 1 + nat_lit 0) ([] : List Int)))).length) (g.1.2.1.getD (g_2.2.1.toNat * nat_lit 1 + nat_lit 0) ([] : List Int)))))).length : Int).toNat (List.take g_3.1.toNat (g.1.2.1.getD (g_2.2.1.toNat * nat_lit 1 + nat_lit 0) ([] : List Int)) ++ (List.drop (g_3.1 + (1 : Int)).toNat (List.take (↑(g.1.2.1.getD (g_2.2.1.toNat * nat_lit 1 + nat_lit 0) ([] : List Int)).length : Int).toNat (g.1.2.1.getD (g_2.2.1.toNat * nat_lit 1 + nat_lit 0) ([] : List Int))) ++ List.drop (g_3.1.toNat + (List.drop (g_3.1 + (1 : Int)).toNat (List.take (↑(g.1.2.1.getD (g_2.2.1.toNat * nat_lit 1 + nat_lit 0) ([] : List Int)).length : Int).toNat (g.1.2.1.getD (g_2.2.1.toNat * nat_lit 1 + nat_lit 0) ([] : List Int)))).length) (g.1.2.1.getD (g_2.2.1.toNat * nat_lit 1 + nat_lit 0) ([] : List Int)))) ++ (List.replicate ((↑(g.1.2.1.getD (g_2.2.1.toNat * nat_lit 1 + nat_lit 0) ([] : List Int)).length : Int).toNat - (↑(List.drop (nat_lit 0) (List.take (g_3.1.toNat + (List.drop (g_3.1 + (1 : Int)).toNat (List.take (↑(g.1.2.1.getD (g_2.2.1.toNat * nat_lit 1 + nat_lit 0) ([] : List Int)).length : Int).toNat (g.1.2.1.getD (g_2.2.1.toNat * nat_lit 1 + nat_lit 0) ([] : List Int)))).length) (List.take g_3.1.toNat (g.1.2.1.getD (g_2.2.1.toNat * nat_lit 1 + nat_lit 0) ([] : List Int)) ++ (List.drop (g_3.1 + (1 : Int)).toNat (List.take (↑(g.1.2.1.getD (g_2.2.1.toNat * nat_lit 1 + nat_lit 0) ([] : List Int)).length : Int).toNat (g.1.2.1.getD (g_2.2.1.toNat * nat_lit 1 + nat_lit 0) ([] : List Int))) ++ List.drop (g_3.1.toNat + (List.drop (g_3.1 + (1 : Int)).toNat (List.take (↑(g.1.2.1.getD (g_2.2.1.toNat * nat_lit 1 + nat_lit 0) ([] : List Int)).length : Int).toNat (g.1.2.1.getD (g_2.2.1.toNat * nat_lit 1 + nat_lit 0) ([] : List Int)))).length) (g.1.2.1.getD (g_2.2.1.toNat * nat_lit 1 + nat_lit 0) ([] : List Int)))))).length : Int).toNat) (0 : Int) ++ List.drop ((↑(List.drop (nat_lit 0) (List.take (g_3.1.toNat + (List.drop (g_3.1 + (1 : Int)).toNat (List.take (↑(g.1.2.1.getD (g_2.2.1.toNat * nat_lit 1 + nat_lit 0) ([] : List Int)).length : Int).toNat (g.1.2.1.getD (g_2.2.1.toNat * nat_lit 1 + nat_lit 0) ([] : List Int)))).length) (List.take g_3.1.toNat (g.1.2.1.getD (g_2.2.1.toNat * nat_lit 1 + nat_lit 0) ([] : List Int)) ++ (List.drop (g_3.1 + (1 : Int)).toNat (List.take (↑(g.1.2.1.getD (g_2.2.1.toNat * nat_lit 1 + nat_lit 0) ([] : List Int)).length : Int).toNat (g.1.2.1.getD (g_2.2.1.toNat * nat_lit 1 + nat_lit 0) ([] : List Int))) ++ List.drop (g_3.1.toNat + (List.drop (g_3.1 + (1 : Int)).toNat (List.take (↑(g.1.2.1.getD (g_2.2.1.toNat * nat_lit 1 + nat_lit 0) ([] : List Int)).length : Int).toNat (g.1.2.1.getD (g_2.2.1.toNat * nat_lit 1 + nat_lit 0) ([] : List Int)))).length) (g.1.2.1.getD (g_2.2.1.toNat * nat_lit 1 + nat_lit 0) ([] : List Int)))))).length : Int).toNat + ((↑(g.1.2.1.getD (g_2.2.1.toNat * nat_lit 1 + nat_lit 0) ([] : List Int)).length : Int).toNat - (↑(List.drop (nat_lit 0) (List.take (g_3.1.toNat + (List.drop (g_3.1 + (1 : Int)).toNat (List.take (↑(g.1.2.1.getD (g_2.2.1.toNat * nat_lit 1 + nat_lit 0) ([] : List Int)).length : Int).toNat (g.1.2.1.getD (g_2.2.1.toNat * nat_lit 1 + nat_lit 0) ([] : List Int)))).length) (List.take g_3.1.toNat (g.1.2.1.getD (g_2.2.1.toNat * nat_lit 1 + nat_lit 0) ([] : List Int)) ++ (List.drop (g_3.1 + (1 : Int)).toNat (List.take (↑(g.1.2.1.getD (g_2.2.1.toNat * nat_lit 1 + nat_lit 0) ([] : List Int)).length : Int).toNat (g.1.2.1.getD (g_2.2.1.toNat * nat_lit 1 + nat_lit 0) ([] : List Int))) ++ List.drop (g_3.1.toNat + (List.drop (g_3.1 + (1 : Int)).toNat (List.take (↑(g.1.2.1.getD (g_2.2.1.toNat * nat_lit 1 + nat_lit 0) ([] : List Int)).length : Int).toNat (g.1.2.1.getD (g_2.2.1.toNat * nat_lit 1 + nat_lit 0) ([] : List Int)))).length) (g.1.2.1.getD (g_2.2.1.toNat * nat_lit 1 + nat_lit 0) ([] : List Int)))))).length : Int).toNat)) (List.take g_3.1.toNat (g.1.2.1.getD (g_2.2.1.toNat * nat_lit 1 + nat_lit 0) ([] : List Int)) ++ (List.drop (g_3.1 + (1 : Int)).toNat (List.take (↑(g.1.2.1.getD (g_2.2.1.toNat * nat_lit 1 + nat_lit 0) ([] : List Int)).length : Int).toNat (g.1.2.1.getD (g_2.2.1.toNat * nat_lit 1 + nat_lit 0) ([] : List Int))) ++ List.drop (g_3.1.toNat + (List.drop (g_3.1 + (1 : Int)).toNat (List.take (↑(g.1.2.1.getD (g_2.2.1.toNat * nat_lit 1 + nat_lit 0) ([] : List Int)).length : Int).toNat (g.1.2.1.getD (g_2.2.1.toNat * nat_lit 1 + nat_lit 0) ([] : List Int)))).length) (g.1.2.1.getD (g_2.2.1.toNat * nat_lit 1 + nat_lit 0) ([] : List Int)))))))) = g.1.2.1.set g_2.2.1.toNat (cutL (g.1.2.1.getD g_2.2.1.toNat ([] : List Int)) g_3.1) ∧
 True) ∧
 ((True ∧
 True) ∧
 g_2.1 = g_2.1 ∧
 g_2.2.1 = g_2.2.1 ∧
 True) ∧
 ((g.1.1 = g.1.1 ∧
 (True ∧
 True) ∧
 True ∧
 True) ∧
 (g.1.2.1.set (g_2.2.1.toNat * nat_lit 1 + nat_lit 0) ([] : List Int)).set (g_2.2.1.toNat * nat_lit 1 + nat_lit 0) (List.drop (nat_lit 0) (List.take (g_3.1.toNat + (List.drop (g_3.1 + (1 : Int)).toNat (List.take (↑(g.1.2.1.getD (g_2.2.1.toNat * nat_lit 1 + nat_lit 0) ([] : List Int)).length : Int).toNat (g.1.2.1.getD (g_2.2.1.toNat * nat_lit 1 + nat_lit 0) ([] : List Int)))).length) (List.take (↑(List.drop (nat_lit 0) (List.take (g_3.1.toNat + (List.drop (g_3.1 + (1 : Int)).toNat (List.take (↑(g.1.2.1.getD (g_2.2.1.toNat * nat_lit 1 + nat_lit 0) ([] : List Int)).length : Int).toNat (g.1.2.1.getD (g_2.2.1.toNat * nat_lit 1 + nat_lit 0) ([] : List Int)))).length) (List.take g_3.1.toNat (g.1.2.1.getD (g_2.2.1.toNat * nat_lit 1 + nat_lit 0) ([] : List Int)) ++ (List.drop (g_3.1 + (1 : Int)).toNat (List.take (↑(g.1.2.1.getD (g_2.2.1.toNat * nat_lit 1 + nat_lit 0) ([] : List Int)).length : Int).toNat (g.1.2.1.getD (g_2.2.1.toNat * nat_lit 1 + nat_lit 0) ([] : List Int))) ++ List.drop (g_3.1.toNat + (List.drop (g_3.1 + (1 : Int)).toNat (List.take (↑(g.1.2.1.getD (g_2.2.1.toNat * nat_lit 1 + nat_lit 0) ([] : List Int)).length : Int).toNat (g.1.2.1.getD (g_2.2.1.toNat * nat_lit 1 + nat_lit 0) ([] : List Int)))).length) (g.1.2.1.getD (g_2.2.1.toNat * nat_lit 1 + nat_lit 0) ([] : List Int)))))).length : Int).toNat (List.take g_3.1.toNat (g.1.2.1.getD (g_2.2.1.toNat * nat_lit 1 + nat_lit 0) ([] : List Int)) ++ (List.drop (g_3.1 + (1 : Int)).toNat (List.take (↑(g.1.2.1.getD (g_2.2.1.toNat * nat_lit 1 + nat_lit 0) ([] : List Int)).length : Int).toNat (g.1.2.1.getD (g_2.2.1.toNat * nat_lit 1 + nat_lit 0) ([] : List Int))) ++ List.drop (g_3.1.toNat + (List.drop (g_3.1 + (1 : Int)).toNat (List.take (↑(g.1.2.1.getD (g_2.2.1.toNat * nat_lit 1 + nat_lit 0) ([] : List Int)).length : Int).toNat (g.1.2.1.getD (g_2.2.1.toNat * nat_lit 1 + nat_lit 0) ([] : List Int)))).length) (g.1.2.1.getD (g_2.2.1.toNat * nat_lit 1 + nat_lit 0) ([] : List Int)))) ++ (List.replicate ((↑(g.1.2.1.getD (g_2.2.1.toNat * nat_lit 1 + nat_lit 0) ([] : List Int)).length : Int).toNat - (↑(List.drop (nat_lit 0) (List.take (g_3.1.toNat + (List.drop (g_3.1 + (1 : Int)).toNat (List.take (↑(g.1.2.1.getD (g_2.2.1.toNat * nat_lit 1 + nat_lit 0) ([] : List Int)).length : Int).toNat (g.1.2.1.getD (g_2.2.1.toNat * nat_lit 1 + nat_lit 0) ([] : List Int)))).length) (List.take g_3.1.toNat (g.1.2.1.getD (g_2.2.1.toNat * nat_lit 1 + nat_lit 0) ([] : List Int)) ++ (List.drop (g_3.1 + (1 : Int)).toNat (List.take (↑(g.1.2.1.getD (g_2.2.1.toNat * nat_lit 1 + nat_lit 0) ([] : List Int)).length : Int).toNat (g.1.2.1.getD (g_2.2.1.toNat * nat_lit 1 + nat_lit 0) ([] : List Int))) ++ List.drop (g_3.1.toNat + (List.drop (g_3.1 + (1 : Int)).toNat (List.take (↑(g.1.2.1.getD (g_2.2.1.toNat * nat_lit 1 + nat_lit 0) ([] : List Int)).length : Int).toNat (g.1.2.1.getD (g_2.2.1.toNat * nat_lit 1 + nat_lit 0) ([] : List Int)))).length) (g.1.2.1.getD (g_2.2.1.toNat * nat_lit 1 + nat_lit 0) ([] : List Int)))))).length : Int).toNat) (0 : Int) ++ List.drop ((↑(List.drop (nat_lit 0) (List.take (g_3.1.toNat + (List.drop (g_3.1 + (1 : Int)).toNat (List.take (↑(g.1.2.1.getD (g_2.2.1.toNat * nat_lit 1 + nat_lit 0) ([] : List Int)).length : Int).toNat (g.1.2.1.getD (g_2.2.1.toNat * nat_lit 1 + nat_lit 0) ([] : List Int)))).length) (List.take g_3.1.toNat (g.1.2.1.getD (g_2.2.1.toNat * nat_lit 1 + nat_lit 0) ([] : List Int)) ++ (List.drop (g_3.1 + (1 : Int)).toNat (List.take (↑(g.1.2.1.getD (g_2.2.1.toNat * nat_lit 1 + nat_lit 0) ([] : List Int)).length : Int).toNat (g.1.2.1.getD (g_2.2.1.toNat * nat_lit 1 + nat_lit 0) ([] : List Int))) ++ List.drop (g_3.1.toNat + (List.drop (g_3.1 + (1 : Int)).toNat (List.take (↑(g.1.2.1.getD (g_2.2.1.toNat * nat_lit 1 + nat_lit 0) ([] : List Int)).length : Int).toNat (g.1.2.1.getD (g_2.2.1.toNat * nat_lit 1 + nat_lit 0) ([] : List Int)))).length) (g.1.2.1.getD (g_2.2.1.toNat * nat_lit 1 + nat_lit 0) ([] : List Int)))))).length : Int).toNat + ((↑(g.1.2.1.getD (g_2.2.1.toNat * nat_lit 1 + nat_lit 0) ([] : List Int)).length : Int).toNat - (↑(List.drop (nat_lit 0) (List.take (g_3.1.toNat + (List.drop (g_3.1 + (1 : Int)).toNat (List.take (↑(g.1.2.1.getD (g_2.2.1.toNat * nat_lit 1 + nat_lit 0) ([] : List Int)).length : Int).toNat (g.1.2.1.getD (g_2.2.1.toNat * nat_lit 1 + nat_lit 0) ([] : List Int)))).length) (List.take g_3.1.toNat (g.1.2.1.getD (g_2.2.1.toNat * nat_lit 1 + nat_lit 0) ([] : List Int)) ++ (List.drop (g_3.1 + (1 : Int)).toNat (List.take (↑(g.1.2.1.getD (g_2.2.1.toNat * nat_lit 1 + nat_lit 0) ([] : List Int)).length : Int).toNat (g.1.2.1.getD (g_2.2.1.toNat * nat_lit 1 + nat_lit 0) ([] : List Int))) ++ List.drop (g_3.1.toNat + (List.drop (g_3.1 + (1 : Int)).toNat (List.take (↑(g.1.2.1.getD (g_2.2.1.toNat * nat_lit 1 + nat_lit 0) ([] : List Int)).length : Int).toNat (g.1.2.1.getD (g_2.2.1.toNat * nat_lit 1 + nat_lit 0) ([] : List Int)))).length) (g.1.2.1.getD (g_2.2.1.toNat * nat_lit 1 + nat_lit 0) ([] : List Int)))))).length : Int).toNat)) (List.take g_3.1.toNat (g.1.2.1.getD (g_2.2.1.toNat * nat_lit 1 + nat_lit 0) ([] : List Int)) ++ (List.drop (g_3.1 + (1 : Int)).toNat (List.take (↑(g.1.2.1.getD (g_2.2.1.toNat * nat_lit 1 + nat_lit 0) ([] : List Int)).length : Int).toNat (g.1.2.1.getD (g_2.2.1.toNat * nat_lit 1 + nat_lit 0) ([] : List Int))) ++ List.drop (g_3.1.toNat + (List.drop (g_3.1 + (1 : Int)).toNat (List.take (↑(g.1.2.1.getD (g_2.2.1.toNat * nat_lit 1 + nat_lit 0) ([] : List Int)).length : Int).toNat (g.1.2.1.getD (g_2.2.1.toNat * nat_lit 1 + nat_lit 0) ([] : List Int)))).length) (g.1.2.1.getD (g_2.2.1.toNat * nat_lit 1 + nat_lit 0) ([] : List Int)))))))) = (g.1.2.1.set (g_2.2.1.toNat * nat_lit 1 + nat_lit 0) ([] : List Int)).set (g_2.2.1.toNat * nat_lit 1 + nat_lit 0) (List.drop (nat_lit 0) (List.take (g_3.1.toNat + (List.drop (g_3.1 + (1 : Int)).toNat (List.take (↑(g.1.2.1.getD (g_2.2.1.toNat * nat_lit 1 + nat_lit 0) ([] : List Int)).length : Int).toNat (g.1.2.1.getD (g_2.2.1.toNat * nat_lit 1 + nat_lit 0) ([] : List Int)))).length) (List.take (↑(List.drop (nat_lit 0) (List.take (g_3.1.toNat + (List.drop (g_3.1 + (1 : Int)).toNat (List.take (↑(g.1.2.1.getD (g_2.2.1.toNat * nat_lit 1 + nat_lit 0) ([] : List Int)).length : Int).toNat (g.1.2.1.getD (g_2.2.1.toNat * nat_lit 1 + nat_lit 0) ([] : List Int)))).length) (List.take g_3.1.toNat (g.1.2.1.getD (g_2.2.1.toNat * nat_lit 1 + nat_lit 0) ([] : List Int)) ++ (List.drop (g_3.1 + (1 : Int)).toNat (List.take (↑(g.1.2.1.getD (g_2.2.1.toNat * nat_lit 1 + nat_lit 0) ([] : List Int)).length : Int).toNat (g.1.2.1.getD (g_2.2.1.toNat * nat_lit 1 + nat_lit 0) ([] : List Int))) ++ List.drop (g_3.1.toNat + (List.drop (g_3.1 + (1 : Int)).toNat (List.take (↑(g.1.2.1.getD (g_2.2.1.toNat * nat_lit 1 + nat_lit 0) ([] : List Int)).length : Int).toNat (g.1.2.1.getD (g_2.2.1.toNat * nat_lit 1 + nat_lit 0) ([] : List Int)))).length) (g.1.2.1.getD (g_2.2.1.toNat * nat_lit 1 + nat_lit 0) ([] : List Int)))))).length : Int).toNat (List.take g_3.1.toNat (g.1.2.1.getD (g_2.2.1.toNat * nat_lit 1 + nat_lit 0) ([] : List Int)) ++ (List.drop (g_3.1 + (1 : Int)).toNat (List.take (↑(g.1.2.1.getD (g_2.2.1.toNat * nat_lit 1 + nat_lit 0) ([] : List Int)).length : Int).toNat (g.1.2.1.getD (g_2.2.1.toNat * nat_lit 1 + nat_lit 0) ([] : List Int))) ++ List.drop (g_3.1.toNat + (List.drop (g_3.1 + (1 : Int)).toNat (List.take (↑(g.1.2.1.getD (g_2.2.1.toNat * nat_lit 1 + nat_lit 0) ([] : List Int)).length : Int).toNat (g.1.2.1.getD (g_2.2.1.toNat * nat_lit 1 + nat_lit 0) ([] : List Int)))).length) (g.1.2.1.getD (g_2.2.1.toNat * nat_lit 1 + nat_lit 0) ([] : List Int)))) ++ (List.replicate ((↑(g.1.2.1.getD (g_2.2.1.toNat * nat_lit 1 + nat_lit 0) ([] : List Int)).length : Int).toNat - (↑(List.drop (nat_lit 0) (List.take (g_3.1.toNat + (List.drop (g_3.1 + (1 : Int)).toNat (List.take (↑(g.1.2.1.getD (g_2.2.1.toNat * nat_lit 1 + nat_lit 0) ([] : List Int)).length : Int).toNat (g.1.2.1.getD (g_2.2.1.toNat * nat_lit 1 + nat_lit 0) ([] : List Int)))).length) (List.take g_3.1.toNat (g.1.2.1.getD (g_2.2.1.toNat * nat_lit 1 + nat_lit 0) ([] : List Int)) ++ (List.drop (g_3.1 + (1 : Int)).toNat (List.take (↑(g.1.2.1.getD (g_2.2.1.toNat * nat_lit 1 + nat_lit 0) ([] : List Int)).length : Int).toNat (g.1.2.1.getD (g_2.2.1.toNat * nat_lit 1 + nat_lit 0) ([] : List Int))) ++ List.drop (g_3.1.toNat + (List.drop (g_3.1 + (1 : Int)).toNat (List.take (↑(g.1.2.1.getD (g_2.2.1.toNat * nat_lit 1 + nat_lit 0) ([] : List Int)).length : Int).toNat (g.1.2.1.getD (g_2.2.1.toNat * nat_lit 1 + nat_lit 0) ([] : List Int)))).length) (g.1.2.1.getD (g_2.2.1.toNat * nat_lit 1 + nat_lit 0) ([] : List Int)))))).length : Int).toNat) (0 : Int) ++ List.drop ((↑(List.drop (nat_lit 0) (List.take (g_3.1.toNat + (List.drop (g_3.1 + (1 : Int)).toNat (List.take (↑(g.1.2.1.getD (g_2.2.1.toNat * nat_lit 1 + nat_lit 0) ([] : List Int)).length : Int).toNat (g.1.2.1.getD (g_2.2.1.toNat * nat_lit 1 + nat_lit 0) ([] : List Int)))).length) (List.take g_3.1.toNat (g.1.2.1.getD (g_2.2.1.toNat * nat_lit 1 + nat_lit 0) ([] : List Int)) ++ (List.drop (g_3.1 + (1 : Int)).toNat (List.take (↑(g.1.2.1.getD (g_2.2.1.toNat * nat_lit 1 + nat_lit 0) ([] : List Int)).length : Int).toNat (g.1.2.1.getD (g_2.2.1.toNat * nat_lit 1 + nat_lit 0) ([] : List Int))) ++ List.drop (g_3.1.toNat + (List.drop (g_3.1 + (1 : Int)).toNat (List.take (↑(g.1.2.1.getD (g_2.2.1.toNat * nat_lit 1 + nat_lit 0) ([] : List Int)).length : Int).toNat (g.1.2.1.getD (g_2.2.1.toNat * nat_lit 1 + nat_lit 0) ([] : List Int)))).length) (g.1.2.1.getD (g_2.2.1.toNat * nat_lit 1 + nat_lit 0) ([] : List Int)))))).length : Int).toNat + ((↑(g.1.2.1.getD (g_2.2.1.toNat * nat_lit 1 + nat_lit 0) ([] : List Int)).length : Int).toNat - (↑(List.drop (nat_lit 0) (List.take (g_3.1.toNat + (List.drop (g_3.1 + (1 : Int)).toNat (List.take (↑(g.1.2.1.getD (g_2.2.1.toNat * nat_lit 1 + nat_lit 0) ([] : List Int)).length : Int).toNat (g.1.2.1.getD (g_2.2.1.toNat * nat_lit 1 + nat_lit 0) ([] : List Int)))).length) (List.take g_3.1.toNat (g.1.2.1.getD (g_2.2.1.toNat * nat_lit 1 + nat_lit 0) ([] : List Int)) ++ (List.drop (g_3.1 + (1 : Int)).toNat (List.take (↑(g.1.2.1.getD (g_2.2.1.toNat * nat_lit 1 + nat_lit 0) ([] : List Int)).length : Int).toNat (g.1.2.1.getD (g_2.2.1.toNat * nat_lit 1 + nat_lit 0) ([] : List Int))) ++ List.drop (g_3.1.toNat + (List.drop (g_3.1 + (1 : Int)).toNat (List.take (↑(g.1.2.1.getD (g_2.2.1.toNat * nat_lit 1 + nat_lit 0) ([] : List Int)).length : Int).toNat (g.1.2.1.getD (g_2.2.1.toNat * nat_lit 1 + nat_lit 0) ([] : List Int)))).length) (g.1.2.1.getD (g_2.2.1.toNat * nat_lit 1 + nat_lit 0) ([] : List Int)))))).length : Int).toNat)) (List.take g_3.1.toNat (g.1.2.1.getD (g_2.2.1.toNat * nat_lit 1 + nat_lit 0) ([] : List Int)) ++ (List.drop (g_3.1 + (1 : Int)).toNat (List.take (↑(g.1.2.1.getD (g_2.2.1.toNat * nat_lit 1 + nat_lit 0) ([] : List Int)).length : Int).toNat (g.1.2.1.getD (g_2.2.1.toNat * nat_lit 1 + nat_lit 0) ([] : List Int))) ++ List.drop (g_3.1.toNat + (List.drop (g_3.1 + (1 : Int)).toNat (List.take (↑(g.1.2.1.getD (g_2.2.1.toNat * nat_lit 1 + nat_lit 0) ([] : List Int)).length : Int).toNat (g.1.2.1.getD (g_2.2.1.toNat * nat_lit 1 + nat_lit 0) ([] : List Int)))).length) (g.1.2.1.getD (g_2.2.1.toNat * nat_lit 1 + nat_lit 0) ([] : List Int)))))))) ∧
 (g_1.1.1 = g_1.1.1 ∧
 RR g_1.1.2.1 ∧
 RR g_1.1.2.2 ∧
 True) ∧
 g.2.1 = g.2.1 ∧
 g.2.2.1 = g.2.2.1 ∧
 (RR ((opAt x.1 g.2.2.2.1).1) ∧
 RR ((opAt x.1 g.2.2.2.1).2.1) ∧
 RR ((opAt x.1 g.2.2.2.1).2.2) ∧
 True) ∧
 g.1.2.2 = g.1.2.2 ∧
 True) ∧
 (True ∧
 True) ∧
 True ∧
 True ∧
 (True ∧
 True) ∧
 True ∧
 True ∧
 True ∧
 g_1.2.1 = g_1.2.1 ∧
 R8 (True ∧
 True ∧
 True ∧
 (True ∧
 True) ∧
 g_1.1.1 = g_1.1.1 ∧
 false = false ∧
 RR (g_1.1.1 == (1 : Int)) ∧
 RR (g_1.1.1 == (2 : Int)) ∧
 R8 (R8 (True ∧
 True ∧
 True ∧
 True ∧
 false = false ∧
 RR (g_1.1.1 == (3 : Int)) ∧
 R8 (R8 (True ∧
 True ∧
 True ∧
 True ∧
 True ∧
 True ∧
 true = true ∧
 RR (g_1.1.1 == (4 : Int)) ∧
 g_1.2.1 = g_1.2.1 ∧
 false = false ∧
 (True ∧
 True) ∧
 (True ∧
 True) ∧
 RR g_1.1.2.1 ∧
 True ∧
 True ∧
 True ∧
 True ∧
 True ∧
 True ∧
 (True ∧
 True) ∧
 True ∧
 True ∧
 RR (Value.slice none (0 : Nat) (0 : Nat)) ∧
 True ∧
 (True ∧
 True) ∧
 True ∧
 True ∧
 True ∧
 True ∧
 True ∧
 True ∧
 x.1 = x.1 ∧
 RR (↑x.1.length : Int) ∧
 RR g.2.2.2.1 ∧
 true = true ∧
 True ∧
 (RR ((opAt x.1 g.2.2.2.1).1) ∧
 RR ((opAt x.1 g.2.2.2.1).2.1) ∧
 RR ((opAt x.1 g.2.2.2.1).2.2) ∧
 True) ∧
 True ∧
 (True ∧
 True) ∧
 (RR ((opAt x.1 g.2.2.2.1).1) ∧
 RR ((opAt x.1 g.2.2.2.1).2.1) ∧
 RR ((opAt x.1 g.2.2.2.1).2.2) ∧
 True) ∧
 R32 (True ∧
 True ∧
 True)))))))) ∧
 ∀ (g_4 : (Unit × List (List Int) × Unit) × Unit), g_4.1.2.1 = g.1.2.1.set g_2.2.1.toNat (cutL (g.1.2.1.getD g_2.2.1.toNat ([] : List Int)) g_3.1) →
 (True ∧
 (g_4.1.2.1.length = (32 : Nat) ∧
 ∀ (xs : List Int), xs ∈ g_4.1.2.1 →
 xs.length ≤ (9223372036854775807 : Nat) ∧
 ∀ (x : Int), x ∈ xs →
 (-9223372036854775808 : Int) ≤ x ∧
 x ≤ (9223372036854775807 : Int)) ∧
 True) ∧
 True →
 (((0 : Int) ≤ g_2.2.1 ∧
 g_2.2.1 < (↑(32 : Nat) : Int)) ∧
 g_2.2.1.toNat * nat_lit 1 + nat_lit 0 < nat_lit 32 ∧
 (((↑(g_4.1.2.1.getD (g_2.2.1.toNat * nat_lit 1 + nat_lit 0) ([] : List Int)).length : Int) == (0 : Int)) = true →
 (0 : Int) ≤ g_2.2.1 ∧
 ((bits BinOp.andNot IntKind.u32 g.1.1 (IntKind.u32.wrap ((1 : Int) * (2 : Int) ^ min g_2.2.1.toNat IntKind.u32.bits)) = if g_4.1.2.1.getD g_2.2.1.toNat ([] : List Int) = ([] : List Int) then clrB g.1.1 g_2.2.1 else g.1.1) ∧
 True) ∧
 ((True ∧
 True) ∧
 g_2.1 = g_2.1 ∧
 True) ∧
 ((RR (bits BinOp.andNot IntKind.u32 g.1.1 (IntKind.u32.wrap ((1 : Int) * (2 : Int) ^ min g_2.2.1.toNat IntKind.u32.bits))) ∧
 (True ∧
 True) ∧
 True ∧
 True) ∧
 (g_1.1.1 = g_1.1.1 ∧
 RR g_1.1.2.1 ∧
 RR g_1.1.2.2 ∧
 True) ∧
 g.2.1 = g.2.1 ∧
 g.2.2.1 = g.2.2.1 ∧
 (RR ((opAt x.1 g.2.2.2.1).1) ∧
 RR ((opAt x.1 g.2.2.2.1).2.1) ∧
 RR ((opAt x.1 g.2.2.2.1).2.2) ∧
 True) ∧
 (g_4.1.2.1.set (g_2.2.1.toNat * nat_lit 1 + nat_lit 0) ([] : List Int)).set (g_2.2.1.toNat * nat_lit 1 + nat_lit 0) (g_4.1.2.1.getD (g_2.2.1.toNat * nat_lit 1 + nat_lit 0) ([] : List Int)) = g_4.1.2.1 ∧
 g.1.2.2 = g.1.2.2 ∧
 True) ∧
 (True ∧
 True) ∧
 True ∧
 True ∧
 (True ∧
 True) ∧
 True ∧
 True ∧
 True ∧
 g_1.2.1 = g_1.2.1 ∧
 R8 (True ∧
 True ∧
 True ∧
 (True ∧
 True) ∧
 g_1.1.1 = g_1.1.1 ∧
 false = false ∧
 RR (g_1.1.1 == (1 : Int)) ∧
 RR (g_1.1.1 == (2 : Int)) ∧
 R8 (R8 (True ∧
 True ∧
 True ∧
 True ∧
 false = false ∧
 RR (g_1.1.1 == (3 : Int)) ∧
 R8 (R8 (True ∧
 True ∧
 True ∧
 True ∧
 True ∧
 True ∧
 true = true ∧
 RR (g_1.1.1 == (4 : Int)) ∧
 g_1.2.1 = g_1.2.1 ∧
 false = false ∧
 (True ∧
 True) ∧
 (True ∧
 True) ∧
 RR g_1.1.2.1 ∧
 True ∧
 True ∧
 True ∧
 True ∧
 True ∧
 True ∧
 (True ∧
 True) ∧
 True ∧
 True ∧
 RR (Value.slice none (0 : Nat) (0 : Nat)) ∧
 True ∧
 (True ∧
 True) ∧
 True ∧
 True ∧
 True ∧
 True ∧
 True ∧
 True ∧
 x.1 = x.1 ∧
 RR (↑x.1.length : Int) ∧
 RR g.2.2.2.1 ∧
 true = true ∧
 True ∧
 (RR ((opAt x.1 g.2.2.2.1).1) ∧
 RR ((opAt x.1 g.2.2.2.1).2.1) ∧
 RR ((opAt x.1 g.2.2.2.1).2.2) ∧
 True) ∧
 True ∧
 (True ∧
 True) ∧
 (RR ((opAt x.1 g.2.2.2.1).1) ∧
 RR ((opAt x.1 g.2.2.2.1).2.1) ∧
 RR ((opAt x.1 g.2.2.2.1).2.2) ∧
 True) ∧
 R32 (True ∧
 True ∧
 True))))))) ∧
 (((↑(g_4.1.2.1.getD (g_2.2.1.toNat * nat_lit 1 + nat_lit 0) ([] : List Int)).length : Int) == (0 : Int)) = false →
 ((g.1.1 = if g_4.1.2.1.getD g_2.2.1.toNat ([] : List Int) = ([] : List Int) then clrB g.1.1 g_2.2.1 else g.1.1) ∧
 True) ∧
 ((True ∧
 True) ∧
 g_2.1 = g_2.1 ∧
 True) ∧
 ((g.1.1 = g.1.1 ∧
 (True ∧
 True) ∧
 True ∧
 True) ∧
 (g_1.1.1 = g_1.1.1 ∧
 RR g_1.1.2.1 ∧
 RR g_1.1.2.2 ∧
 True) ∧
 g.2.1 = g.2.1 ∧
 g.2.2.1 = g.2.2.1 ∧
 (RR ((opAt x.1 g.2.2.2.1).1) ∧
 RR ((opAt x.1 g.2.2.2.1).2.1) ∧
 RR ((opAt x.1 g.2.2.2.1).2.2) ∧
 True) ∧
 (g_4.1.2.1.set (g_2.2.1.toNat * nat_lit 1 + nat_lit 0) ([] : List Int)).set (g_2.2.1.toNat * nat_lit 1 + nat_lit 0) (g_4.1.2.1.getD (g_2.2.1.toNat * nat_lit 1 + nat_lit 0) ([] : List Int)) = g_4.1.2.1 ∧
 g.1.2.2 = g.1.2.2 ∧
 True) ∧
 (True ∧
 True) ∧
 True ∧
 True ∧
 (True ∧
 True) ∧
 True ∧
 True ∧
 True ∧
 g_1.2.1 = g_1.2.1 ∧
 R8 (True ∧
 True ∧
 True ∧
 (True ∧
 True) ∧
 g_1.1.1 = g_1.1.1 ∧
 false = false ∧
 RR (g_1.1.1 == (1 : Int)) ∧
 RR (g_1.1.1 == (2 : Int)) ∧
 R8 (R8 (True ∧
 True ∧
 True ∧
 True ∧
 false = false ∧
 RR (g_1.1.1 == (3 : Int)) ∧
 R8 (R8 (True ∧
 True ∧
 True ∧
 True ∧
 True ∧
 True ∧
 true = true ∧
 RR (g_1.1.1 == (4 : Int)) ∧
 g_1.2.1 = g_1.2.1 ∧
 false = false ∧
 (True ∧
 True) ∧
 (True ∧
 True) ∧
 RR g_1.1.2.1 ∧
 True ∧
 True ∧
 True ∧
 True ∧
 True ∧
 True ∧
 (True ∧
 True) ∧
 True ∧
 True ∧
 RR (Value.slice none (0 : Nat) (0 : Nat)) ∧
 True ∧
 (True ∧
 True) ∧
 True ∧
 True ∧
 True ∧
 True ∧
 True ∧
 True ∧
 x.1 = x.1 ∧
 RR (↑x.1.length : Int) ∧
 RR g.2.2.2.1 ∧
 true = true ∧
 True ∧
 (RR ((opAt x.1 g.2.2.2.1).1) ∧
 RR ((opAt x.1 g.2.2.2.1).2.1) ∧
 RR ((opAt x.1 g.2.2.2.1).2.2) ∧
 True) ∧
 True ∧
 (True ∧
 True) ∧
 (RR ((opAt x.1 g.2.2.2.1).1) ∧
 RR ((opAt x.1 g.2.2.2.1).2.1) ∧
 RR ((opAt x.1 g.2.2.2.1).2.2) ∧
 True) ∧
 R32 (True ∧
 True ∧
 True)))))))) ∧
 ∀ (g_5 : (Int × Unit × Unit) × Unit), (g_5.1.1 = if g_4.1.2.1.getD g_2.2.1.toNat ([] : List Int) = ([] : List Int) then clrB g.1.1 g_2.2.1 else g.1.1) →
 (((0 : Int) ≤ g_5.1.1 ∧
 g_5.1.1 ≤ (4294967295 : Int)) ∧
 True ∧
 True) ∧
 True →
 (((g_5.1.1, g_4.1.2.1, mdel (Ty.int IntKind.i64) g.1.2.2 g_2.1), (0 : Int), (0 : Int)) = doQ (g.1.1, g.1.2.1, g.1.2.2) ((opAt x.1 g.2.2.2.1).1, (opAt x.1 g.2.2.2.1).2.1, (opAt x.1 g.2.2.2.1).2.2) ∧
 True) ∧
 ((True ∧
 True) ∧
 True ∧
 True ∧
 RR (Value.slice none (0 : Nat) (0 : Nat)) ∧
 (True ∧
 True) ∧
 RR (0 : Int) ∧
 RR (0 : Int) ∧
 x.1 = x.1 ∧
 RR (↑x.1.length : Int) ∧
 RR g.2.2.2.1 ∧
 True) ∧
 ((g_5.1.1 = g_5.1.1 ∧
 (True ∧
 True) ∧
 True ∧
 True) ∧
 RR g_4.1.2.1 ∧
 RR (mdel (Ty.int IntKind.i64) g.1.2.2 g_2.1) ∧
 g.2.1 = g.2.1 ∧
 g.2.2.1 = g.2.2.1 ∧
 (RR ((opAt x.1 g.2.2.2.1).1) ∧
 RR ((opAt x.1 g.2.2.2.1).2.1) ∧
 RR ((opAt x.1 g.2.2.2.1).2.2) ∧
 True) ∧
 True) ∧
 True)) ∧
 ((g_1.1.1 == (4 : Int)) = false →
 (((g.1.1, g.1.2.1, g.1.2.2), (0 : Int), (5 : Int)) = doQ (g.1.1, g.1.2.1, g.1.2.2) ((opAt x.1 g.2.2.2.1).1, (opAt x.1 g.2.2.2.1).2.1, (opAt x.1 g.2.2.2.1).2.2) ∧
 True) ∧
 ((True ∧
 True) ∧
 True ∧
 True ∧
 RR (Value.slice none (0 : Nat) (0 : Nat)) ∧
 (True ∧
 True) ∧
 RR (0 : Int) ∧
 RR (5 : Int) ∧
 x.1 = x.1 ∧
 RR (↑x.1.length : Int) ∧
 RR g.2.2.2.1 ∧
 True) ∧
 ((g.1.1 = g.1.1 ∧
 (True ∧
 True) ∧
 True ∧
 True) ∧
 g.1.2.1 = g.1.2.1 ∧
 g.1.2.2 = g.1.2.2 ∧
 g.2.1 = g.2.1 ∧
 g.2.2.1 = g.2.2.1 ∧
 (RR ((opAt x.1 g.2.2.2.1).1) ∧
 RR ((opAt x.1 g.2.2.2.1).2.1) ∧
 RR ((opAt x.1 g.2.2.2.1).2.2) ∧
 True) ∧
 True) ∧
 True))))) ∧
 ∀ (g_1 : (Int × List (List Int) × List (Int × Int)) × Int × Int × Unit), (g_1.1, g_1.2.1, g_1.2.2.1) = doQ (g.1.1, g.1.2.1, g.1.2.2) ((opAt x.1 g.2.2.2.1).1, (opAt x.1 g.2.2.2.1).2.1, (opAt x.1 g.2.2.2.1).2.2) →
 (((0 : Int) ≤ g_1.1.1 ∧
 g_1.1.1 ≤ (4294967295 : Int)) ∧
 (g_1.1.2.1.length = (32 : Nat) ∧
 ∀ (xs : List Int), xs ∈ g_1.1.2.1 →
 xs.length ≤ (9223372036854775807 : Nat) ∧
 ∀ (x : Int), x ∈ xs →
 (-9223372036854775808 : Int) ≤ x ∧
 x ≤ (9223372036854775807 : Int)) ∧
 ∀ (e : Int × Int), e ∈ g_1.1.2.2 →
 ((-9223372036854775808 : Int) ≤ e.1 ∧
 e.1 ≤ (9223372036854775807 : Int)) ∧
 (-9223372036854775808 : Int) ≤ e.2 ∧
 e.2 ≤ (9223372036854775807 : Int)) ∧
 ((-9223372036854775808 : Int) ≤ g_1.2.1 ∧
 g_1.2.1 ≤ (9223372036854775807 : Int)) ∧
 ((-9223372036854775808 : Int) ≤ g_1.2.2.1 ∧
 g_1.2.2.1 ≤ (9223372036854775807 : Int)) ∧
 True →
 (g.2.1.length + (((0 : Int) :: ([] : List Int)).set (0 : Nat) g_1.2.2.1).length ≤ (9223372036854775807 : Nat) ∧
 (g.2.1.length + (((0 : Int) :: ([] : List Int)).set (0 : Nat) g_1.2.2.1).length + (g.2.1.length + (((0 : Int) :: ([] : List Int)).set (0 : Nat) g_1.2.2.1).length) / (4 : Nat) + (192 : Nat)) * (8 : Nat) ≤ (281474976710656 : Nat)) ∧
 ((g_1.2.2.1 == (0 : Int)) = true →
 (g_1.2.2.1 == (0 : Int)) = true) ∧
 ((g_1.2.2.1 == (0 : Int)) = true →
 (g_1.2.2.1 == (0 : Int)) = true) ∧
 ((g_1.2.2.1 == (0 : Int)) = true →
 (g_1.2.2.1 == (0 : Int)) = true) ∧
 ((g_1.2.2.1 == (0 : Int) && (opAt x.1 g.2.2.2.1).1 == (3 : Int)) = true →
 (g.2.2.1.length + (((0 : Int) :: ([] : List Int)).set (0 : Nat) g_1.2.1).length ≤ (9223372036854775807 : Nat) ∧
 (g.2.2.1.length + (((0 : Int) :: ([] : List Int)).set (0 : Nat) g_1.2.1).length + (g.2.2.1.length + (((0 : Int) :: ([] : List Int)).set (0 : Nat) g_1.2.1).length) / (4 : Nat) + (192 : Nat)) * (8 : Nat) ≤ (281474976710656 : Nat)) ∧
 ((-9223372036854775808 : Int) ≤ g.2.2.2.1 + (1 : Int) ∧
 g.2.2.2.1 + (1 : Int) ≤ (9223372036854775807 : Int)) ∧
 (((0 : Int) ≤ g.2.2.2.1 + (1 : Int) ∧
 g.2.2.2.1 + (1 : Int) ≤ (↑x.1.length : Int) ∧
 (∃ l, runQ (List.take (g.2.2.2.1 + (1 : Int)).toNat x.1) = (l, g.2.1 ++ ((0 : Int) :: ([] : List Int)).set (0 : Nat) g_1.2.2.1, g.2.2.1 ++ ((0 : Int) :: ([] : List Int)).set (0 : Nat) g_1.2.1) ∧
 RQ (g_1.1.1, g_1.1.2.1, g_1.1.2.2) l ∧
 (↑(List.length l) : Int) ≤ g.2.2.2.1 + (1 : Int)) ∧
 (↑(g.2.1 ++ ((0 : Int) :: ([] : List Int)).set (0 : Nat) g_1.2.2.1).length : Int) ≤ g.2.2.2.1 + (1 : Int) ∧
 (↑(g.2.2.1 ++ ((0 : Int) :: ([] : List Int)).set (0 : Nat) g_1.2.1).length : Int) ≤ g.2.2.2.1 + (1 : Int)) ∧
 ((↑x.1.length : Int) - (g.2.2.2.1 + (1 : Int))).toNat < ((↑x.1.length : Int) - g.2.2.2.1).toNat) ∧
 ((True ∧
 True) ∧
 True ∧
 True ∧
 RR (Value.slice none (0 : Nat) (0 : Nat)) ∧
 x.1 = x.1 ∧
 RR (↑x.1.length : Int) ∧
 g.2.2.2.1 + (1 : Int) = g.2.2.2.1 + (1 : Int) ∧
 True) ∧
 ((g_1.1.1 = g_1.1.1 ∧
 (True ∧
 True) ∧
 True ∧
 True) ∧
 RR g_1.1.2.1 ∧
 RR g_1.1.2.2 ∧
 g.2.1 ++ ((0 : Int) :: ([] : List Int)).set (0 : Nat) g_1.2.2.1 = g.2.1 ++ ((0 : Int) :: ([] : List Int)).set (0 : Nat) g_1.2.2.1 ∧
 g.2.2.1 ++ ((0 : Int) :: ([] : List Int)).set (0 : Nat) g_1.2.1 = g.2.2.1 ++ ((0 : Int) :: ([] : List Int)).set (0 : Nat) g_1.2.1 ∧
 True) ∧
 True) ∧
 ((g_1.2.2.1 == (0 : Int) && (opAt x.1 g.2.2.2.1).1 == (3 : Int)) = false →
 ((-9223372036854775808 : Int) ≤ g.2.2.2.1 + (1 : Int) ∧
 g.2.2.2.1 + (1 : Int) ≤ (9223372036854775807 : Int)) ∧
 (((0 : Int) ≤ g.2.2.2.1 + (1 : Int) ∧
 g.2.2.2.1 + (1 : Int) ≤ (↑x.1.length : Int) ∧
 (∃ l, runQ (List.take (g.2.2.2.1 + (1 : Int)).toNat x.1) = (l, g.2.1 ++ ((0 : Int) :: ([] : List Int)).set (0 : Nat) g_1.2.2.1, g.2.2.1) ∧
 RQ (g_1.1.1, g_1.1.2.1, g_1.1.2.2) l ∧
 (↑(List.length l) : Int) ≤ g.2.2.2.1 + (1 : Int)) ∧
 (↑(g.2.1 ++ ((0 : Int) :: ([] : List Int)).set (0 : Nat) g_1.2.2.1).length : Int) ≤ g.2.2.2.1 + (1 : Int) ∧
 (↑g.2.2.1.length : Int) ≤ g.2.2.2.1 + (1 : Int)) ∧
 ((↑x.1.length : Int) - (g.2.2.2.1 + (1 : Int))).toNat < ((↑x.1.length : Int) - g.2.2.2.1).toNat) ∧
 ((True ∧
 True) ∧
 True ∧
 True ∧
 RR (Value.slice none (0 : Nat) (0 : Nat)) ∧
 x.1 = x.1 ∧
 RR (↑x.1.length : Int) ∧
 g.2.2.2.1 + (1 : Int) = g.2.2.2.1 + (1 : Int) ∧
 True) ∧
 ((g_1.1.1 = g_1.1.1 ∧
 (True ∧
 True) ∧
 True ∧
 True) ∧
 RR g_1.1.2.1 ∧
 RR g_1.1.2.2 ∧
 g.2.1 ++ ((0 : Int) :: ([] : List Int)).set (0 : Nat) g_1.2.2.1 = g.2.1 ++ ((0 : Int) :: ([] : List Int)).set (0 : Nat) g_1.2.2.1 ∧
 g.2.2.1 = g.2.2.1 ∧
 True) ∧
 True)) ∧
 (decide (g.2.2.2.1 < (↑x.1.length : Int)) = false →
 ((((-1 : Int) ≤ (31 : Int) ∧
 (31 : Int) ≤ (31 : Int) ∧
 ([] : List Int) = (List.map (fun j ↦ g.1.2.1.getD ((31 : Nat) - j) ([] : List Int)) (List.range ((31 : Int) - (31 : Int)).toNat)).flatten) ∧
 True) ∧
 ((True ∧
 True) ∧
 True ∧
 True ∧
 True ∧
 RR (31 : Int) ∧
 True) ∧
 (RR ([] : List Int) ∧
 (g.1.1 = g.1.1 ∧
 (True ∧
 True) ∧
 True ∧
 True) ∧
 g.1.2.1 = g.1.2.1 ∧
 g.1.2.2 = g.1.2.2 ∧
 g.2.1 = g.2.1 ∧
 g.2.2.1 = g.2.2.1 ∧
 True) ∧
 True) ∧
 ∀ (g_1 : List Int × Int × Unit), (-1 : Int) ≤ g_1.2.1 ∧
 g_1.2.1 ≤ (31 : Int) ∧
 g_1.1 = (List.map (fun j ↦ g.1.2.1.getD ((31 : Nat) - j) ([] : List Int)) (List.range ((31 : Int) - g_1.2.1).toNat)).flatten →
 (g_1.1.length ≤ (9223372036854775807 : Nat) ∧
 ∀ (x : Int), x ∈ g_1.1 →
 (-9223372036854775808 : Int) ≤ x ∧
 x ≤ (9223372036854775807 : Int)) ∧
 ((-9223372036854775808 : Int) ≤ g_1.2.1 ∧
 g_1.2.1 ≤ (9223372036854775807 : Int)) ∧
 True →
 (decide ((0 : Int) ≤ g_1.2.1) = true →
 ((0 : Int) ≤ g_1.2.1 ∧
 g_1.2.1 < (↑(32 : Nat) : Int)) ∧
 g_1.2.1.toNat * nat_lit 1 + nat_lit 0 < nat_lit 32 ∧
 (g_1.1.length + (g.1.2.1.getD (g_1.2.1.toNat * nat_lit 1 + nat_lit 0) ([] : List Int)).length ≤ (9223372036854775807 : Nat) ∧
 (g_1.1.length + (g.1.2.1.getD (g_1.2.1.toNat * nat_lit 1 + nat_lit 0) ([] : List Int)).length + (g_1.1.length + (g.1.2.1.getD (g_1.2.1.toNat * nat_lit 1 + nat_lit 0) ([] : List Int)).length) / (4 : Nat) + (192 : Nat)) * (8 : Nat) ≤ (281474976710656 : Nat)) ∧
 ((-9223372036854775808 : Int) ≤ g_1.2.1 - (1 : Int) ∧
 g_1.2.1 - (1 : Int) ≤ (9223372036854775807 : Int)) ∧
 (((-1 : Int) ≤ g_1.2.1 - (1 : Int) ∧
 g_1.2.1 - (1 : Int) ≤ (31 : Int) ∧
 g_1.1 ++ g.1.2.1.getD (g_1.2.1.toNat * nat_lit 1 + nat_lit 0) ([] : List Int) = (List.map (fun j ↦ g.1.2.1.getD ((31 : Nat) - j) ([] : List Int)) (List.range ((31 : Int) - (g_1.2.1 - (1 : Int))).toNat)).flatten) ∧
 (g_1.2.1 - (1 : Int) + (1 : Int)).toNat < (g_1.2.1 + (1 : Int)).toNat) ∧
 ((True ∧
 True) ∧
 True ∧
 True ∧
 True ∧
 g_1.2.1 - (1 : Int) = g_1.2.1 - (1 : Int) ∧
 True) ∧
 (g_1.1 ++ g.1.2.1.getD (g_1.2.1.toNat * nat_lit 1 + nat_lit 0) ([] : List Int) = g_1.1 ++ g.1.2.1.getD (g_1.2.1.toNat * nat_lit 1 + nat_lit 0) ([] : List Int) ∧
 (g.1.1 = g.1.1 ∧
 (True ∧
 True) ∧
 True ∧
 True) ∧
 (g.1.2.1.set (g_1.2.1.toNat * nat_lit 1 + nat_lit 0) ([] : List Int)).set (g_1.2.1.toNat * nat_lit 1 + nat_lit 0) (g.1.2.1.getD (g_1.2.1.toNat * nat_lit 1 + nat_lit 0) ([] : List Int)) = g.1.2.1 ∧
 g.1.2.2 = g.1.2.2 ∧
 g.2.1 = g.2.1 ∧
 g.2.2.1 = g.2.2.1 ∧
 True) ∧
 True) ∧
 (decide ((0 : Int) ≤ g_1.2.1) = false →
 g.2.1 = (mplay x.1).1 ∧
 g.2.2.1 = (mplay x.1).2.1 ∧
 g_1.1 = (mplay x.1).2.2.1))

theorem E_play_eq (x : HL (cPlay : Ctr).as) : vc (fx_play x) 4 15 Try.f15 (cPlay) x = E_play x := by kernel_rfl

def E_law (x : List (Int × Int × Int) × Unit) : Prop :=
 Holds (x.1.length * (24 : Nat) ≤ (140737488355328 : Nat)) ∧
 Holds (x.1.length * (24 : Nat) ≤ (140737488355328 : Nat)) ∧
 Holds True ∧
 (decide ((mplay x.1).1 = (mplay x.1).1) = true →
 (decide ((mplay x.1).1 = (mplay x.1).1) = true ∧ decide ((mplay x.1).1 = (mplay x.1).1) = true) ∧ Holds True) ∧
 (decide ((mplay x.1).1 = (mplay x.1).1) = true → decide ((mplay x.1).1 = (mplay x.1).1) = true) ∧
 ((decide ((mplay x.1).1 = (mplay x.1).1) && decide ((mplay x.1).2.1 = (mplay x.1).2.1)) = true →
 ((decide ((mplay x.1).1 = (mplay x.1).1) && decide ((mplay x.1).2.1 = (mplay x.1).2.1)) = true ∧
 (decide ((mplay x.1).1 = (mplay x.1).1) && decide ((mplay x.1).2.1 = (mplay x.1).2.1)) = true) ∧
 Holds True) ∧
 ((decide ((mplay x.1).1 = (mplay x.1).1) && decide ((mplay x.1).2.1 = (mplay x.1).2.1)) = true →
 (decide ((mplay x.1).1 = (mplay x.1).1) && decide ((mplay x.1).2.1 = (mplay x.1).2.1)) = true) ∧
 (decide ((mplay x.1).1 = (mplay x.1).1) && decide ((mplay x.1).2.1 = (mplay x.1).2.1) &&
 decide ((mplay x.1).2.2.1 = (mplay x.1).2.2.1)) =
 true

theorem E_law_eq (x : HL (cLaw : Ctr).as) : vc (fx_law x) 1 5 Try.f5 (cLaw) x = E_law x := by kernel_rfl

end Go.Proofs.Ytpmfgdedkmddlaa.Runq
