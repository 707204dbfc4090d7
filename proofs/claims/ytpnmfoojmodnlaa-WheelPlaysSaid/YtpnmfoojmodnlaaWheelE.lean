/-
  The conditions that the executor comes to, written out (by a tool of ours), and that they are the conditions (by the kernel).
-/
import Derived.Test.YtpnmfoojmodnlaaWheelC
namespace Go.Proofs.Ytpnmfoojmodnlaa.Wheel
open Go.Sx
set_option maxRecDepth 100000

def E_equal (x : List Int × List Int × Unit) : Prop :=
 (((↑x.1.length : Int) != (↑x.2.1.length : Int)) = true → false = decide (x.1 = x.2.1)) ∧
 (((↑x.1.length : Int) != (↑x.2.1.length : Int)) = false →
 ((((0 : Int) ≤ (0 : Int) ∧
 (0 : Int) ≤ (↑x.1.length : Int) ∧ List.take (Int.toNat (0 : Int)) x.1 = List.take (Int.toNat (0 : Int)) x.2.1) ∧
 True) ∧
 (x.1 = x.1 ∧ x.2.1 = x.2.1 ∧ (↑x.1.length : Int) = (↑x.1.length : Int) ∧ (0 : Int) = (0 : Int) ∧ True) ∧ True ∧ True) ∧
 ∀ (g : Int × Unit),
 (0 : Int) ≤ g.1 ∧ g.1 ≤ (↑x.1.length : Int) ∧ List.take g.1.toNat x.1 = List.take g.1.toNat x.2.1 →
 ((-9223372036854775808 : Int) ≤ g.1 ∧ g.1 ≤ (9223372036854775807 : Int)) ∧ True →
 (decide (g.1 < (↑x.1.length : Int)) = true →
 ((0 : Int) ≤ g.1 ∧ g.1 < (↑x.1.length : Int)) ∧
 ((0 : Int) ≤ g.1 ∧ g.1 < (↑x.2.1.length : Int)) ∧
 ((x.1.getD g.1.toNat (0 : Int) != x.2.1.getD g.1.toNat (0 : Int)) = true → false = decide (x.1 = x.2.1)) ∧
 ((x.1.getD g.1.toNat (0 : Int) != x.2.1.getD g.1.toNat (0 : Int)) = false →
 ((-9223372036854775808 : Int) ≤ g.1 + (1 : Int) ∧ g.1 + (1 : Int) ≤ (9223372036854775807 : Int)) ∧
 (((0 : Int) ≤ g.1 + (1 : Int) ∧
 g.1 + (1 : Int) ≤ (↑x.1.length : Int) ∧
 List.take (g.1 + (1 : Int)).toNat x.1 = List.take (g.1 + (1 : Int)).toNat x.2.1) ∧
 ((↑x.1.length : Int) - (g.1 + (1 : Int))).toNat < ((↑x.1.length : Int) - g.1).toNat) ∧
 (x.1 = x.1 ∧
 x.2.1 = x.2.1 ∧
 (↑x.1.length : Int) = (↑x.1.length : Int) ∧ g.1 + (1 : Int) = g.1 + (1 : Int) ∧ True) ∧
 True ∧ True)) ∧
 (decide (g.1 < (↑x.1.length : Int)) = false → true = decide (x.1 = x.2.1)))

theorem E_equal_eq (x : HL (cEqual : Ctr).as) : vc (fx_equal x) 1 21 Try.f21 (cEqual) x = E_equal x := by kernel_rfl

def E_equalf (x : List (Int × Int) × List (Int × Int) × Unit) : Prop :=
 (((↑x.1.length : Int) != (↑x.2.1.length : Int)) = true → false = decide (x.1 = x.2.1)) ∧
 (((↑x.1.length : Int) != (↑x.2.1.length : Int)) = false →
 ((((0 : Int) ≤ (0 : Int) ∧
 (0 : Int) ≤ (↑x.1.length : Int) ∧ List.take (Int.toNat (0 : Int)) x.1 = List.take (Int.toNat (0 : Int)) x.2.1) ∧
 True) ∧
 (x.1 = x.1 ∧ x.2.1 = x.2.1 ∧ (↑x.1.length : Int) = (↑x.1.length : Int) ∧ (0 : Int) = (0 : Int) ∧ True) ∧ True ∧ True) ∧
 ∀ (g : Int × Unit),
 (0 : Int) ≤ g.1 ∧ g.1 ≤ (↑x.1.length : Int) ∧ List.take g.1.toNat x.1 = List.take g.1.toNat x.2.1 →
 ((-9223372036854775808 : Int) ≤ g.1 ∧ g.1 ≤ (9223372036854775807 : Int)) ∧ True →
 (decide (g.1 < (↑x.1.length : Int)) = true →
 ((0 : Int) ≤ g.1 ∧ g.1 < (↑x.1.length : Int)) ∧
 ((0 : Int) ≤ g.1 ∧ g.1 < (↑x.2.1.length : Int)) ∧
 ((!deq ((Ty.int IntKind.i64).pair (Ty.int IntKind.i64))
 ((x.1.getD g.1.toNat ((0 : Int), (0 : Int))).1, (x.1.getD g.1.toNat ((0 : Int), (0 : Int))).2)
 ((x.2.1.getD g.1.toNat ((0 : Int), (0 : Int))).1, (x.2.1.getD g.1.toNat ((0 : Int), (0 : Int))).2)) =
 true →
 false = decide (x.1 = x.2.1)) ∧
 ((!deq ((Ty.int IntKind.i64).pair (Ty.int IntKind.i64))
 ((x.1.getD g.1.toNat ((0 : Int), (0 : Int))).1, (x.1.getD g.1.toNat ((0 : Int), (0 : Int))).2)
 ((x.2.1.getD g.1.toNat ((0 : Int), (0 : Int))).1, (x.2.1.getD g.1.toNat ((0 : Int), (0 : Int))).2)) =
 false →
 ((-9223372036854775808 : Int) ≤ g.1 + (1 : Int) ∧ g.1 + (1 : Int) ≤ (9223372036854775807 : Int)) ∧
 (((0 : Int) ≤ g.1 + (1 : Int) ∧
 g.1 + (1 : Int) ≤ (↑x.1.length : Int) ∧
 List.take (g.1 + (1 : Int)).toNat x.1 = List.take (g.1 + (1 : Int)).toNat x.2.1) ∧
 ((↑x.1.length : Int) - (g.1 + (1 : Int))).toNat < ((↑x.1.length : Int) - g.1).toNat) ∧
 (x.1 = x.1 ∧
 x.2.1 = x.2.1 ∧
 (↑x.1.length : Int) = (↑x.1.length : Int) ∧ g.1 + (1 : Int) = g.1 + (1 : Int) ∧ True) ∧
 True ∧ True)) ∧
 (decide (g.1 < (↑x.1.length : Int)) = false → true = decide (x.1 = x.2.1)))

theorem E_equalf_eq (x : HL (cEqualF : Ctr).as) : vc (fx_equalf x) 1 22 Try.f22 (cEqualF) x = E_equalf x := by kernel_rfl

def E_compact (x : List Int × Unit) : Prop :=
 (decide ((↑x.1.length : Int) < (2 : Int)) = true → x.1 = x.1) ∧
 (decide ((↑x.1.length : Int) < (2 : Int)) = false →
 ((((1 : Int) ≤ (1 : Int) ∧ (1 : Int) ≤ (↑x.1.length : Int)) ∧ True) ∧ (x.1 = x.1 ∧ (1 : Int) = (1 : Int) ∧ True) ∧ True ∧ True) ∧
 ∀ (g : Int × Unit),
 (1 : Int) ≤ g.1 ∧ g.1 ≤ (↑x.1.length : Int) →
 ((-9223372036854775808 : Int) ≤ g.1 ∧ g.1 ≤ (9223372036854775807 : Int)) ∧ True →
 (decide (g.1 < (↑x.1.length : Int)) = true →
 ((0 : Int) ≤ g.1 ∧ g.1 < (↑x.1.length : Int)) ∧
 ((-9223372036854775808 : Int) ≤ g.1 - (1 : Int) ∧ g.1 - (1 : Int) ≤ (9223372036854775807 : Int)) ∧
 ((0 : Int) ≤ g.1 - (1 : Int) ∧ g.1 - (1 : Int) < (↑x.1.length : Int)) ∧
 ((x.1.getD g.1.toNat (0 : Int) == x.1.getD (g.1 - (1 : Int)).toNat (0 : Int)) = true →
 (((0 : Int) ≤ g.1 ∧ g.1 ≤ (↑x.1.length : Int)) ∧ (↑x.1.length : Int) ≤ (↑x.1.length : Int)) ∧
 ((False ∧ True) ∧
 (x.1 = x.1 ∧
 g.1 = g.1 ∧
 List.drop g.1.toNat (List.take (↑x.1.length : Int).toNat x.1) =
 List.drop g.1.toNat (List.take (↑x.1.length : Int).toNat x.1) ∧
 (1 : Int) = (1 : Int) ∧ True) ∧
 True ∧ True) ∧
 ∀ (g_1 : Int × Int × Unit),
 False →
 ((-9223372036854775808 : Int) ≤ g_1.1 ∧ g_1.1 ≤ (9223372036854775807 : Int)) ∧
 ((-9223372036854775808 : Int) ≤ g_1.2.1 ∧ g_1.2.1 ≤ (9223372036854775807 : Int)) ∧ True →
 (decide (g_1.2.1 < (↑(List.drop g.1.toNat (List.take (↑x.1.length : Int).toNat x.1)).length : Int)) =
 true →
 ((0 : Int) ≤ g_1.2.1 ∧
 g_1.2.1 < (↑(List.drop g.1.toNat (List.take (↑x.1.length : Int).toNat x.1)).length : Int)) ∧
 ((-9223372036854775808 : Int) ≤ g_1.2.1 - (1 : Int) ∧
 g_1.2.1 - (1 : Int) ≤ (9223372036854775807 : Int)) ∧
 ((0 : Int) ≤ g_1.2.1 - (1 : Int) ∧
 g_1.2.1 - (1 : Int) <
 (↑(List.drop g.1.toNat (List.take (↑x.1.length : Int).toNat x.1)).length : Int)) ∧
 (((List.drop g.1.toNat (List.take (↑x.1.length : Int).toNat x.1)).getD g_1.2.1.toNat
 (0 : Int) !=
 (List.drop g.1.toNat (List.take (↑x.1.length : Int).toNat x.1)).getD
 (g_1.2.1 - (1 : Int)).toNat (0 : Int)) =
 true →
 ((0 : Int) ≤ g_1.2.1 ∧
 g_1.2.1 <
 (↑(List.drop g.1.toNat (List.take (↑x.1.length : Int).toNat x.1)).length : Int)) ∧
 ((0 : Int) ≤ g_1.1 ∧ g_1.1 < (↑x.1.length : Int)) ∧ False) ∧
 (((List.drop g.1.toNat (List.take (↑x.1.length : Int).toNat x.1)).getD g_1.2.1.toNat
 (0 : Int) !=
 (List.drop g.1.toNat (List.take (↑x.1.length : Int).toNat x.1)).getD
 (g_1.2.1 - (1 : Int)).toNat (0 : Int)) =
 false →
 ((-9223372036854775808 : Int) ≤ g_1.2.1 + (1 : Int) ∧
 g_1.2.1 + (1 : Int) ≤ (9223372036854775807 : Int)) ∧
 (False ∧ (0 : Nat) < (0 : Nat)) ∧
 (x.1 = x.1 ∧
 g_1.1 = g_1.1 ∧
 List.drop g.1.toNat (List.take (↑x.1.length : Int).toNat x.1) =
 List.drop g.1.toNat (List.take (↑x.1.length : Int).toNat x.1) ∧
 g_1.2.1 + (1 : Int) = g_1.2.1 + (1 : Int) ∧ True) ∧
 True ∧ True)) ∧
 (decide (g_1.2.1 < (↑(List.drop g.1.toNat (List.take (↑x.1.length : Int).toNat x.1)).length : Int)) =
 false →
 (((0 : Int) ≤ g_1.1 ∧ g_1.1 ≤ (↑x.1.length : Int)) ∧ (↑x.1.length : Int) ≤ (↑x.1.length : Int)) ∧
 False)) ∧
 ((x.1.getD g.1.toNat (0 : Int) == x.1.getD (g.1 - (1 : Int)).toNat (0 : Int)) = false →
 ((-9223372036854775808 : Int) ≤ g.1 + (1 : Int) ∧ g.1 + (1 : Int) ≤ (9223372036854775807 : Int)) ∧
 (((1 : Int) ≤ g.1 + (1 : Int) ∧ g.1 + (1 : Int) ≤ (↑x.1.length : Int)) ∧
 ((↑x.1.length : Int) - (g.1 + (1 : Int))).toNat < ((↑x.1.length : Int) - g.1).toNat) ∧
 (x.1 = x.1 ∧ g.1 + (1 : Int) = g.1 + (1 : Int) ∧ True) ∧ True ∧ True)) ∧
 (decide (g.1 < (↑x.1.length : Int)) = false → x.1 = x.1))

theorem E_compact_eq (x : HL (cCompact : Ctr).as) : vc (fx_compact x) 1 90 Try.f90 (cCompact) x = E_compact x := by kernel_rfl

def E_kplay (x : List (Int × Int × Int) × Unit) : Prop := (decide ((400 : Int) < (↑x.1.length : Int)) = true →
 ([] : List Int) = (kplay x.1).1 ∧
 ([] : List (Int × Int)) = (kplay x.1).2.1 ∧
 (0 : Int) = (kplay x.1).2.2.1 ∧
 (2 : Int) = (kplay x.1).2.2.2.1) ∧
 (decide ((400 : Int) < (↑x.1.length : Int)) = false →
 ((((0 : Int) ≤ (0 : Int) ∧
 (0 : Int) ≤ (↑x.1.length : Int) ∧
 runK (List.take (Int.toNat (0 : Int)) x.1) = (((0 : Int), ([] : List (Int × Int)), ([] : List (Int × Int))), ([] : List Int)) ∧
 kOk ((0 : Int), ([] : List (Int × Int)), ([] : List (Int × Int))) (0 : Int) ∧
 (↑([] : List Int).length : Int) ≤ (0 : Int)) ∧
 True) ∧
 (RR (0 : Int) ∧
 True ∧
 True ∧
 True ∧
 x.1 = x.1 ∧
 RR (↑x.1.length : Int) ∧
 RR (0 : Int) ∧
 True) ∧
 (RR ([] : List (Int × Int)) ∧
 RR ([] : List Int) ∧
 RR ([] : List (Int × Int)) ∧
 True) ∧
 True) ∧
 ∀ (g : Int × List (Int × Int) × List Int × List (Int × Int) × Int × Unit), (0 : Int) ≤ g.2.2.2.2.1 ∧
 g.2.2.2.2.1 ≤ (↑x.1.length : Int) ∧
 runK (List.take g.2.2.2.2.1.toNat x.1) = ((g.1, g.2.1, g.2.2.2.1), g.2.2.1) ∧
 kOk (g.1, g.2.1, g.2.2.2.1) g.2.2.2.2.1 ∧
 (↑g.2.2.1.length : Int) ≤ g.2.2.2.2.1 →
 ((-9223372036854775808 : Int) ≤ g.1 ∧
 g.1 ≤ (9223372036854775807 : Int)) ∧
 (∀ (e : Int × Int), e ∈ g.2.1 →
 ((-9223372036854775808 : Int) ≤ e.1 ∧
 e.1 ≤ (9223372036854775807 : Int)) ∧
 (-9223372036854775808 : Int) ≤ e.2 ∧
 e.2 ≤ (9223372036854775807 : Int)) ∧
 (g.2.2.1.length ≤ (9223372036854775807 : Nat) ∧
 ∀ (x : Int), x ∈ g.2.2.1 →
 (-9223372036854775808 : Int) ≤ x ∧
 x ≤ (9223372036854775807 : Int)) ∧
 (g.2.2.2.1.length ≤ (9223372036854775807 : Nat) ∧
 ∀ (x : Int × Int), x ∈ g.2.2.2.1 →
 ((-9223372036854775808 : Int) ≤ x.1 ∧
 x.1 ≤ (9223372036854775807 : Int)) ∧
 (-9223372036854775808 : Int) ≤ x.2 ∧
 x.2 ≤ (9223372036854775807 : Int)) ∧
 ((-9223372036854775808 : Int) ≤ g.2.2.2.2.1 ∧
 g.2.2.2.2.1 ≤ (9223372036854775807 : Int)) ∧
 True →
 (decide (g.2.2.2.2.1 < (↑x.1.length : Int)) = true →
 ((0 : Int) ≤ g.2.2.2.2.1 ∧
 g.2.2.2.2.1 < (↑x.1.length : Int)) ∧
 ((!decide ((opAt x.1 g.2.2.2.2.1).1 < (1 : Int))) = true →
 (!decide ((opAt x.1 g.2.2.2.2.1).1 < (1 : Int))) = true) ∧
 ((!decide ((opAt x.1 g.2.2.2.2.1).1 < (1 : Int))) = true →
 (!decide ((opAt x.1 g.2.2.2.2.1).1 < (1 : Int))) = true) ∧
 (decide ((opAt x.1 g.2.2.2.2.1).1 < (1 : Int)) = false →
 (!decide ((opAt x.1 g.2.2.2.2.1).1 < (1 : Int))) = true) ∧
 ((decide ((opAt x.1 g.2.2.2.2.1).1 < (1 : Int)) || decide ((3 : Int) < (opAt x.1 g.2.2.2.2.1).1)) = true →
 (g.2.2.1.length + (((0 : Int) :: ([] : List Int)).set (0 : Nat) (5 : Int)).length ≤ (9223372036854775807 : Nat) ∧
 (g.2.2.1.length + (((0 : Int) :: ([] : List Int)).set (0 : Nat) (5 : Int)).length + (g.2.2.1.length + (((0 : Int) :: ([] : List Int)).set (0 : Nat) (5 : Int)).length) / (4 : Nat) + (192 : Nat)) * (8 : Nat) ≤ (281474976710656 : Nat)) ∧
 ((-9223372036854775808 : Int) ≤ g.2.2.2.2.1 + (1 : Int) ∧
 g.2.2.2.2.1 + (1 : Int) ≤ (9223372036854775807 : Int)) ∧
 (((0 : Int) ≤ g.2.2.2.2.1 + (1 : Int) ∧
 g.2.2.2.2.1 + (1 : Int) ≤ (↑x.1.length : Int) ∧
 runK (List.take (g.2.2.2.2.1 + (1 : Int)).toNat x.1) = ((g.1, g.2.1, g.2.2.2.1), g.2.2.1 ++ ((0 : Int) :: ([] : List Int)).set (0 : Nat) (5 : Int)) ∧
 kOk (g.1, g.2.1, g.2.2.2.1) (g.2.2.2.2.1 + (1 : Int)) ∧
 (↑(g.2.2.1 ++ ((0 : Int) :: ([] : List Int)).set (0 : Nat) (5 : Int)).length : Int) ≤ g.2.2.2.2.1 + (1 : Int)) ∧
 ((↑x.1.length : Int) - (g.2.2.2.2.1 + (1 : Int))).toNat < ((↑x.1.length : Int) - g.2.2.2.2.1).toNat) ∧
 (g.1 = g.1 ∧
 True ∧
 True ∧
 True ∧
 x.1 = x.1 ∧
 RR (↑x.1.length : Int) ∧
 g.2.2.2.2.1 + (1 : Int) = g.2.2.2.2.1 + (1 : Int) ∧
 True) ∧
 (g.2.1 = g.2.1 ∧
 g.2.2.1 ++ ((0 : Int) :: ([] : List Int)).set (0 : Nat) (5 : Int) = g.2.2.1 ++ ((0 : Int) :: ([] : List Int)).set (0 : Nat) (5 : Int) ∧
 RR g.2.2.2.1 ∧
 True) ∧
 True) ∧
 ((decide ((opAt x.1 g.2.2.2.2.1).1 < (1 : Int)) || decide ((3 : Int) < (opAt x.1 g.2.2.2.2.1).1)) = false →
 (((opAt x.1 g.2.2.2.2.1).1 == (1 : Int)) = true →
 ((opAt x.1 g.2.2.2.2.1).1 == (1 : Int)) = true) ∧
 (((opAt x.1 g.2.2.2.2.1).1 == (1 : Int)) = true →
 ((opAt x.1 g.2.2.2.2.1).1 == (1 : Int)) = true) ∧
 (((opAt x.1 g.2.2.2.2.1).1 == (1 : Int)) = true →
 ((opAt x.1 g.2.2.2.2.1).1 == (1 : Int)) = true) ∧
 (((opAt x.1 g.2.2.2.2.1).1 == (1 : Int) && !decide ((opAt x.1 g.2.2.2.2.1).2.2 < (1 : Int))) = true →
 ((opAt x.1 g.2.2.2.2.1).1 == (1 : Int) && !decide ((opAt x.1 g.2.2.2.2.1).2.2 < (1 : Int))) = true) ∧
 (((opAt x.1 g.2.2.2.2.1).1 == (1 : Int) && !decide ((opAt x.1 g.2.2.2.2.1).2.2 < (1 : Int))) = true →
 ((opAt x.1 g.2.2.2.2.1).1 == (1 : Int) && !decide ((opAt x.1 g.2.2.2.2.1).2.2 < (1 : Int))) = true) ∧
 (((opAt x.1 g.2.2.2.2.1).1 == (1 : Int)) = true →
 ((opAt x.1 g.2.2.2.2.1).1 == (1 : Int)) = true ∧
 (decide ((opAt x.1 g.2.2.2.2.1).2.2 < (1 : Int)) = false →
 ((opAt x.1 g.2.2.2.2.1).1 == (1 : Int) && !decide ((opAt x.1 g.2.2.2.2.1).2.2 < (1 : Int))) = true)) ∧
 (((opAt x.1 g.2.2.2.2.1).1 == (1 : Int)) = true →
 ((opAt x.1 g.2.2.2.2.1).1 == (1 : Int)) = true) ∧
 (((opAt x.1 g.2.2.2.2.1).1 == (1 : Int) && (decide ((opAt x.1 g.2.2.2.2.1).2.2 < (1 : Int)) || decide ((511 : Int) < (opAt x.1 g.2.2.2.2.1).2.2))) = true →
 (g.2.2.1.length + (((0 : Int) :: ([] : List Int)).set (0 : Nat) (2 : Int)).length ≤ (9223372036854775807 : Nat) ∧
 (g.2.2.1.length + (((0 : Int) :: ([] : List Int)).set (0 : Nat) (2 : Int)).length + (g.2.2.1.length + (((0 : Int) :: ([] : List Int)).set (0 : Nat) (2 : Int)).length) / (4 : Nat) + (192 : Nat)) * (8 : Nat) ≤ (281474976710656 : Nat)) ∧
 ((-9223372036854775808 : Int) ≤ g.2.2.2.2.1 + (1 : Int) ∧
 g.2.2.2.2.1 + (1 : Int) ≤ (9223372036854775807 : Int)) ∧
 (((0 : Int) ≤ g.2.2.2.2.1 + (1 : Int) ∧
 g.2.2.2.2.1 + (1 : Int) ≤ (↑x.1.length : Int) ∧
 runK (List.take (g.2.2.2.2.1 + (1 : Int)).toNat x.1) = ((g.1, g.2.1, g.2.2.2.1), g.2.2.1 ++ ((0 : Int) :: ([] : List Int)).set (0 : Nat) (2 : Int)) ∧
 kOk (g.1, g.2.1, g.2.2.2.1) (g.2.2.2.2.1 + (1 : Int)) ∧
 (↑(g.2.2.1 ++ ((0 : Int) :: ([] : List Int)).set (0 : Nat) (2 : Int)).length : Int) ≤ g.2.2.2.2.1 + (1 : Int)) ∧
 ((↑x.1.length : Int) - (g.2.2.2.2.1 + (1 : Int))).toNat < ((↑x.1.length : Int) - g.2.2.2.2.1).toNat) ∧
 (g.1 = g.1 ∧
 True ∧
 True ∧
 True ∧
 x.1 = x.1 ∧
 RR (↑x.1.length : Int) ∧
 g.2.2.2.2.1 + (1 : Int) = g.2.2.2.2.1 + (1 : Int) ∧
 True) ∧
 (g.2.1 = g.2.1 ∧
 g.2.2.1 ++ ((0 : Int) :: ([] : List Int)).set (0 : Nat) (2 : Int) = g.2.2.1 ++ ((0 : Int) :: ([] : List Int)).set (0 : Nat) (2 : Int) ∧
 RR g.2.2.2.1 ∧
 True) ∧
 True) ∧
 (((opAt x.1 g.2.2.2.2.1).1 == (1 : Int) && (decide ((opAt x.1 g.2.2.2.2.1).2.2 < (1 : Int)) || decide ((511 : Int) < (opAt x.1 g.2.2.2.2.1).2.2))) = false →
 (((opAt x.1 g.2.2.2.2.1).1 == (3 : Int)) = true →
 ((opAt x.1 g.2.2.2.2.1).1 == (3 : Int)) = true) ∧
 (((opAt x.1 g.2.2.2.2.1).1 == (3 : Int)) = true →
 ((opAt x.1 g.2.2.2.2.1).1 == (3 : Int)) = true) ∧
 (((opAt x.1 g.2.2.2.2.1).1 == (3 : Int)) = true →
 ((opAt x.1 g.2.2.2.2.1).1 == (3 : Int)) = true) ∧
 (((opAt x.1 g.2.2.2.2.1).1 == (3 : Int) && !decide ((opAt x.1 g.2.2.2.2.1).2.2 < (0 : Int))) = true →
 ((opAt x.1 g.2.2.2.2.1).1 == (3 : Int) && !decide ((opAt x.1 g.2.2.2.2.1).2.2 < (0 : Int))) = true) ∧
 (((opAt x.1 g.2.2.2.2.1).1 == (3 : Int) && !decide ((opAt x.1 g.2.2.2.2.1).2.2 < (0 : Int))) = true →
 ((opAt x.1 g.2.2.2.2.1).1 == (3 : Int) && !decide ((opAt x.1 g.2.2.2.2.1).2.2 < (0 : Int))) = true) ∧
 (((opAt x.1 g.2.2.2.2.1).1 == (3 : Int)) = true →
 ((opAt x.1 g.2.2.2.2.1).1 == (3 : Int)) = true ∧
 (decide ((opAt x.1 g.2.2.2.2.1).2.2 < (0 : Int)) = false →
 ((opAt x.1 g.2.2.2.2.1).1 == (3 : Int) && !decide ((opAt x.1 g.2.2.2.2.1).2.2 < (0 : Int))) = true)) ∧
 (((opAt x.1 g.2.2.2.2.1).1 == (3 : Int)) = true →
 ((opAt x.1 g.2.2.2.2.1).1 == (3 : Int)) = true) ∧
 (((opAt x.1 g.2.2.2.2.1).1 == (3 : Int) && (decide ((opAt x.1 g.2.2.2.2.1).2.2 < (0 : Int)) || decide ((2000 : Int) < (opAt x.1 g.2.2.2.2.1).2.2))) = true →
 (g.2.2.1.length + (((0 : Int) :: ([] : List Int)).set (0 : Nat) (2 : Int)).length ≤ (9223372036854775807 : Nat) ∧
 (g.2.2.1.length + (((0 : Int) :: ([] : List Int)).set (0 : Nat) (2 : Int)).length + (g.2.2.1.length + (((0 : Int) :: ([] : List Int)).set (0 : Nat) (2 : Int)).length) / (4 : Nat) + (192 : Nat)) * (8 : Nat) ≤ (281474976710656 : Nat)) ∧
 ((-9223372036854775808 : Int) ≤ g.2.2.2.2.1 + (1 : Int) ∧
 g.2.2.2.2.1 + (1 : Int) ≤ (9223372036854775807 : Int)) ∧
 (((0 : Int) ≤ g.2.2.2.2.1 + (1 : Int) ∧
 g.2.2.2.2.1 + (1 : Int) ≤ (↑x.1.length : Int) ∧
 runK (List.take (g.2.2.2.2.1 + (1 : Int)).toNat x.1) = ((g.1, g.2.1, g.2.2.2.1), g.2.2.1 ++ ((0 : Int) :: ([] : List Int)).set (0 : Nat) (2 : Int)) ∧
 kOk (g.1, g.2.1, g.2.2.2.1) (g.2.2.2.2.1 + (1 : Int)) ∧
 (↑(g.2.2.1 ++ ((0 : Int) :: ([] : List Int)).set (0 : Nat) (2 : Int)).length : Int) ≤ g.2.2.2.2.1 + (1 : Int)) ∧
 ((↑x.1.length : Int) - (g.2.2.2.2.1 + (1 : Int))).toNat < ((↑x.1.length : Int) - g.2.2.2.2.1).toNat) ∧
 (g.1 = g.1 ∧
 True ∧
 True ∧
 True ∧
 x.1 = x.1 ∧
 RR (↑x.1.length : Int) ∧
 g.2.2.2.2.1 + (1 : Int) = g.2.2.2.2.1 + (1 : Int) ∧
 True) ∧
 (g.2.1 = g.2.1 ∧
 g.2.2.1 ++ ((0 : Int) :: ([] : List Int)).set (0 : Nat) (2 : Int) = g.2.2.1 ++ ((0 : Int) :: ([] : List Int)).set (0 : Nat) (2 : Int) ∧
 RR g.2.2.2.1 ∧
 True) ∧
 True) ∧
 (((opAt x.1 g.2.2.2.2.1).1 == (3 : Int) && (decide ((opAt x.1 g.2.2.2.2.1).2.2 < (0 : Int)) || decide ((2000 : Int) < (opAt x.1 g.2.2.2.2.1).2.2))) = false →
 (((opAt x.1 g.2.2.2.2.1).1 == (1 : Int)) = true →
 ((opAt x.1 g.2.2.2.2.1).1 == (1 : Int)) = true) ∧
 (((opAt x.1 g.2.2.2.2.1).1 == (1 : Int) && mhas (Ty.int IntKind.i64) g.2.1 (opAt x.1 g.2.2.2.2.1).2.1) = true →
 (g.2.2.1.length + (((0 : Int) :: ([] : List Int)).set (0 : Nat) (6 : Int)).length ≤ (9223372036854775807 : Nat) ∧
 (g.2.2.1.length + (((0 : Int) :: ([] : List Int)).set (0 : Nat) (6 : Int)).length + (g.2.2.1.length + (((0 : Int) :: ([] : List Int)).set (0 : Nat) (6 : Int)).length) / (4 : Nat) + (192 : Nat)) * (8 : Nat) ≤ (281474976710656 : Nat)) ∧
 ((-9223372036854775808 : Int) ≤ g.2.2.2.2.1 + (1 : Int) ∧
 g.2.2.2.2.1 + (1 : Int) ≤ (9223372036854775807 : Int)) ∧
 (((0 : Int) ≤ g.2.2.2.2.1 + (1 : Int) ∧
 g.2.2.2.2.1 + (1 : Int) ≤ (↑x.1.length : Int) ∧
 runK (List.take (g.2.2.2.2.1 + (1 : Int)).toNat x.1) = ((g.1, g.2.1, g.2.2.2.1), g.2.2.1 ++ ((0 : Int) :: ([] : List Int)).set (0 : Nat) (6 : Int)) ∧
 kOk (g.1, g.2.1, g.2.2.2.1) (g.2.2.2.2.1 + (1 : Int)) ∧
 (↑(g.2.2.1 ++ ((0 : Int) :: ([] : List Int)).set (0 : Nat) (6 : Int)).length : Int) ≤ g.2.2.2.2.1 + (1 : Int)) ∧
 ((↑x.1.length : Int) - (g.2.2.2.2.1 + (1 : Int))).toNat < ((↑x.1.length : Int) - g.2.2.2.2.1).toNat) ∧
 (g.1 = g.1 ∧
 True ∧
 True ∧
 True ∧
 x.1 = x.1 ∧
 RR (↑x.1.length : Int) ∧
 g.2.2.2.2.1 + (1 : Int) = g.2.2.2.2.1 + (1 : Int) ∧
 True) ∧
 (g.2.1 = g.2.1 ∧
 g.2.2.1 ++ ((0 : Int) :: ([] : List Int)).set (0 : Nat) (6 : Int) = g.2.2.1 ++ ((0 : Int) :: ([] : List Int)).set (0 : Nat) (6 : Int) ∧
 RR g.2.2.2.1 ∧
 True) ∧
 True) ∧
 (((opAt x.1 g.2.2.2.2.1).1 == (1 : Int) && mhas (Ty.int IntKind.i64) g.2.1 (opAt x.1 g.2.2.2.2.1).2.1) = false →
 (((opAt x.1 g.2.2.2.2.1).1 == (2 : Int)) = true →
 ((opAt x.1 g.2.2.2.2.1).1 == (2 : Int)) = true) ∧
 (((opAt x.1 g.2.2.2.2.1).1 == (2 : Int)) = true →
 ((opAt x.1 g.2.2.2.2.1).1 == (2 : Int)) = true) ∧
 (((opAt x.1 g.2.2.2.2.1).1 == (2 : Int) && !mhas (Ty.int IntKind.i64) g.2.1 (opAt x.1 g.2.2.2.2.1).2.1) = true →
 (g.2.2.1.length + (((0 : Int) :: ([] : List Int)).set (0 : Nat) (3 : Int)).length ≤ (9223372036854775807 : Nat) ∧
 (g.2.2.1.length + (((0 : Int) :: ([] : List Int)).set (0 : Nat) (3 : Int)).length + (g.2.2.1.length + (((0 : Int) :: ([] : List Int)).set (0 : Nat) (3 : Int)).length) / (4 : Nat) + (192 : Nat)) * (8 : Nat) ≤ (281474976710656 : Nat)) ∧
 ((-9223372036854775808 : Int) ≤ g.2.2.2.2.1 + (1 : Int) ∧
 g.2.2.2.2.1 + (1 : Int) ≤ (9223372036854775807 : Int)) ∧
 (((0 : Int) ≤ g.2.2.2.2.1 + (1 : Int) ∧
 g.2.2.2.2.1 + (1 : Int) ≤ (↑x.1.length : Int) ∧
 runK (List.take (g.2.2.2.2.1 + (1 : Int)).toNat x.1) = ((g.1, g.2.1, g.2.2.2.1), g.2.2.1 ++ ((0 : Int) :: ([] : List Int)).set (0 : Nat) (3 : Int)) ∧
 kOk (g.1, g.2.1, g.2.2.2.1) (g.2.2.2.2.1 + (1 : Int)) ∧
 (↑(g.2.2.1 ++ ((0 : Int) :: ([] : List Int)).set (0 : Nat) (3 : Int)).length : Int) ≤ g.2.2.2.2.1 + (1 : Int)) ∧
 ((↑x.1.length : Int) - (g.2.2.2.2.1 + (1 : Int))).toNat < ((↑x.1.length : Int) - g.2.2.2.2.1).toNat) ∧
 (g.1 = g.1 ∧
 True ∧
 True ∧
 True ∧
 x.1 = x.1 ∧
 RR (↑x.1.length : Int) ∧
 g.2.2.2.2.1 + (1 : Int) = g.2.2.2.2.1 + (1 : Int) ∧
 True) ∧
 (g.2.1 = g.2.1 ∧
 g.2.2.1 ++ ((0 : Int) :: ([] : List Int)).set (0 : Nat) (3 : Int) = g.2.2.1 ++ ((0 : Int) :: ([] : List Int)).set (0 : Nat) (3 : Int) ∧
 RR g.2.2.2.1 ∧
 True) ∧
 True) ∧
 (((opAt x.1 g.2.2.2.2.1).1 == (2 : Int) && !mhas (Ty.int IntKind.i64) g.2.1 (opAt x.1 g.2.2.2.2.1).2.1) = false →
 (((opAt x.1 g.2.2.2.2.1).1 == (1 : Int)) = true →
 ((-9223372036854775808 : Int) ≤ g.1 + (opAt x.1 g.2.2.2.2.1).2.2 ∧
 g.1 + (opAt x.1 g.2.2.2.2.1).2.2 ≤ (9223372036854775807 : Int)) ∧
 (g.2.2.1.length + (((0 : Int) :: ([] : List Int)).set (0 : Nat) (0 : Int)).length ≤ (9223372036854775807 : Nat) ∧
 (g.2.2.1.length + (((0 : Int) :: ([] : List Int)).set (0 : Nat) (0 : Int)).length + (g.2.2.1.length + (((0 : Int) :: ([] : List Int)).set (0 : Nat) (0 : Int)).length) / (4 : Nat) + (192 : Nat)) * (8 : Nat) ≤ (281474976710656 : Nat)) ∧
 ((-9223372036854775808 : Int) ≤ g.2.2.2.2.1 + (1 : Int) ∧
 g.2.2.2.2.1 + (1 : Int) ≤ (9223372036854775807 : Int)) ∧
 (((0 : Int) ≤ g.2.2.2.2.1 + (1 : Int) ∧
 g.2.2.2.2.1 + (1 : Int) ≤ (↑x.1.length : Int) ∧
 runK (List.take (g.2.2.2.2.1 + (1 : Int)).toNat x.1) = ((g.1, mput (Ty.int IntKind.i64) g.2.1 (opAt x.1 g.2.2.2.2.1).2.1 (g.1 + (opAt x.1 g.2.2.2.2.1).2.2), g.2.2.2.1), g.2.2.1 ++ ((0 : Int) :: ([] : List Int)).set (0 : Nat) (0 : Int)) ∧
 kOk (g.1, mput (Ty.int IntKind.i64) g.2.1 (opAt x.1 g.2.2.2.2.1).2.1 (g.1 + (opAt x.1 g.2.2.2.2.1).2.2), g.2.2.2.1) (g.2.2.2.2.1 + (1 : Int)) ∧
 (↑(g.2.2.1 ++ ((0 : Int) :: ([] : List Int)).set (0 : Nat) (0 : Int)).length : Int) ≤ g.2.2.2.2.1 + (1 : Int)) ∧
 ((↑x.1.length : Int) - (g.2.2.2.2.1 + (1 : Int))).toNat < ((↑x.1.length : Int) - g.2.2.2.2.1).toNat) ∧
 (g.1 = g.1 ∧
 True ∧
 True ∧
 True ∧
 x.1 = x.1 ∧
 RR (↑x.1.length : Int) ∧
 g.2.2.2.2.1 + (1 : Int) = g.2.2.2.2.1 + (1 : Int) ∧
 True) ∧
 (RR (mput (Ty.int IntKind.i64) g.2.1 (opAt x.1 g.2.2.2.2.1).2.1 (g.1 + (opAt x.1 g.2.2.2.2.1).2.2)) ∧
 g.2.2.1 ++ ((0 : Int) :: ([] : List Int)).set (0 : Nat) (0 : Int) = g.2.2.1 ++ ((0 : Int) :: ([] : List Int)).set (0 : Nat) (0 : Int) ∧
 RR g.2.2.2.1 ∧
 True) ∧
 True) ∧
 (((opAt x.1 g.2.2.2.2.1).1 == (1 : Int)) = false →
 (((opAt x.1 g.2.2.2.2.1).1 == (2 : Int)) = true →
 (g.2.2.1.length + (((0 : Int) :: ([] : List Int)).set (0 : Nat) (0 : Int)).length ≤ (9223372036854775807 : Nat) ∧
 (g.2.2.1.length + (((0 : Int) :: ([] : List Int)).set (0 : Nat) (0 : Int)).length + (g.2.2.1.length + (((0 : Int) :: ([] : List Int)).set (0 : Nat) (0 : Int)).length) / (4 : Nat) + (192 : Nat)) * (8 : Nat) ≤ (281474976710656 : Nat)) ∧
 ((-9223372036854775808 : Int) ≤ g.2.2.2.2.1 + (1 : Int) ∧
 g.2.2.2.2.1 + (1 : Int) ≤ (9223372036854775807 : Int)) ∧
 (((0 : Int) ≤ g.2.2.2.2.1 + (1 : Int) ∧
 g.2.2.2.2.1 + (1 : Int) ≤ (↑x.1.length : Int) ∧
 runK (List.take (g.2.2.2.2.1 + (1 : Int)).toNat x.1) = ((g.1, mdel (Ty.int IntKind.i64) g.2.1 (opAt x.1 g.2.2.2.2.1).2.1, g.2.2.2.1), g.2.2.1 ++ ((0 : Int) :: ([] : List Int)).set (0 : Nat) (0 : Int)) ∧
 kOk (g.1, mdel (Ty.int IntKind.i64) g.2.1 (opAt x.1 g.2.2.2.2.1).2.1, g.2.2.2.1) (g.2.2.2.2.1 + (1 : Int)) ∧
 (↑(g.2.2.1 ++ ((0 : Int) :: ([] : List Int)).set (0 : Nat) (0 : Int)).length : Int) ≤ g.2.2.2.2.1 + (1 : Int)) ∧
 ((↑x.1.length : Int) - (g.2.2.2.2.1 + (1 : Int))).toNat < ((↑x.1.length : Int) - g.2.2.2.2.1).toNat) ∧
 (g.1 = g.1 ∧
 True ∧
 True ∧
 True ∧
 x.1 = x.1 ∧
 RR (↑x.1.length : Int) ∧
 g.2.2.2.2.1 + (1 : Int) = g.2.2.2.2.1 + (1 : Int) ∧
 True) ∧
 (RR (mdel (Ty.int IntKind.i64) g.2.1 (opAt x.1 g.2.2.2.2.1).2.1) ∧
 g.2.2.1 ++ ((0 : Int) :: ([] : List Int)).set (0 : Nat) (0 : Int) = g.2.2.1 ++ ((0 : Int) :: ([] : List Int)).set (0 : Nat) (0 : Int) ∧
 RR g.2.2.2.1 ∧
 True) ∧
 True) ∧
 (((opAt x.1 g.2.2.2.2.1).1 == (2 : Int)) = false →
 ((-9223372036854775808 : Int) ≤ g.1 + (opAt x.1 g.2.2.2.2.1).2.2 ∧
 g.1 + (opAt x.1 g.2.2.2.2.1).2.2 ≤ (9223372036854775807 : Int)) ∧
 ∀ (r : Nat), (((∃ a, (a ++ g.2.1).Perm g.2.1 ∧
 ([] : List (Int × Int)) = List.map (fun e ↦ (e.2, e.1)) (List.filter (fun e ↦ decide (e.2 ≤ g.1 + (opAt x.1 g.2.2.2.2.1).2.2)) a)) ∧
 True) ∧
 (g.1 + (opAt x.1 g.2.2.2.2.1).2.2 = g.1 + (opAt x.1 g.2.2.2.2.1).2.2 ∧
 True ∧
 True ∧
 True ∧
 RR (0 : Int) ∧
 True ∧
 x.1 = x.1 ∧
 RR (↑x.1.length : Int) ∧
 RR g.2.2.2.2.1 ∧
 (True ∧
 r = r) ∧
 True) ∧
 (RR ([] : List (Int × Int)) ∧
 (r = r ∧
 g.2.1 = g.2.1 ∧
 g.2.1 = g.2.1) ∧
 g.2.2.1 = g.2.2.1 ∧
 RR g.2.2.2.1 ∧
 True) ∧
 True) ∧
 ∀ (g_1 : List (Int × Int) × List (Int × Int) × Unit), (∃ a, (a ++ g_1.2.1).Perm g.2.1 ∧
 g_1.1 = List.map (fun e ↦ (e.2, e.1)) (List.filter (fun e ↦ decide (e.2 ≤ g.1 + (opAt x.1 g.2.2.2.2.1).2.2)) a)) →
 (g_1.1.length ≤ (9223372036854775807 : Nat) ∧
 ∀ (x : Int × Int), x ∈ g_1.1 →
 ((-9223372036854775808 : Int) ≤ x.1 ∧
 x.1 ≤ (9223372036854775807 : Int)) ∧
 (-9223372036854775808 : Int) ≤ x.2 ∧
 x.2 ≤ (9223372036854775807 : Int)) ∧
 (∀ (e : Int × Int), e ∈ g_1.2.1 →
 ((-9223372036854775808 : Int) ≤ e.1 ∧
 e.1 ≤ (9223372036854775807 : Int)) ∧
 (-9223372036854775808 : Int) ≤ e.2 ∧
 e.2 ≤ (9223372036854775807 : Int)) ∧
 True →
 r = r ∧
 (g_1.2.1 = ([] : List (Int × Int)) →
 Holds (g_1.1.length ≤ (400 : Nat) ∧
 g_1.1.all okF = true ∧
 g_1.1.Nodup) ∧
 ((True ∧
 Value.func (Fn.func (47 : Nat)) ([] : List Value).toArray ([] : List Value).toArray = Value.func (Fn.func (47 : FuncId)) ([] : List Value).toArray ([] : List Value).toArray ∧
 True) ∧
 g_1.1 = g_1.1 ∧
 True) ∧
 ((((0 : Int) ≤ (0 : Int) ∧
 (0 : Int) ≤ (↑(sortF g_1.1).length : Int) ∧
 g.2.1 = List.foldl (fun a f ↦ mdel (Ty.int IntKind.i64) a f.2) g.2.1 (List.take (Int.toNat (0 : Int)) (sortF g_1.1))) ∧
 True) ∧
 (g.1 + (opAt x.1 g.2.2.2.2.1).2.2 = g.1 + (opAt x.1 g.2.2.2.2.1).2.2 ∧
 True ∧
 True ∧
 True ∧
 RR (0 : Int) ∧
 True ∧
 x.1 = x.1 ∧
 RR (↑x.1.length : Int) ∧
 RR g.2.2.2.2.1 ∧
 True ∧
 RR (↑(sortF g_1.1).length : Int) ∧
 RR (0 : Int) ∧
 True) ∧
 (g.2.1 = g.2.1 ∧
 g.2.2.1 = g.2.2.1 ∧
 RR g.2.2.2.1 ∧
 RR (sortF g_1.1) ∧
 True) ∧
 True) ∧
 ∀ (g_2 : List (Int × Int) × Int × Unit), (0 : Int) ≤ g_2.2.1 ∧
 g_2.2.1 ≤ (↑(sortF g_1.1).length : Int) ∧
 g_2.1 = List.foldl (fun a f ↦ mdel (Ty.int IntKind.i64) a f.2) g.2.1 (List.take g_2.2.1.toNat (sortF g_1.1)) →
 (∀ (e : Int × Int), e ∈ g_2.1 →
 ((-9223372036854775808 : Int) ≤ e.1 ∧
 e.1 ≤ (9223372036854775807 : Int)) ∧
 (-9223372036854775808 : Int) ≤ e.2 ∧
 e.2 ≤ (9223372036854775807 : Int)) ∧
 ((-9223372036854775808 : Int) ≤ g_2.2.1 ∧
 g_2.2.1 ≤ (9223372036854775807 : Int)) ∧
 True →
 (decide (g_2.2.1 < (↑(sortF g_1.1).length : Int)) = true →
 ((0 : Int) ≤ g_2.2.1 ∧
 g_2.2.1 < (↑(sortF g_1.1).length : Int)) ∧
 ((-9223372036854775808 : Int) ≤ g_2.2.1 + (1 : Int) ∧
 g_2.2.1 + (1 : Int) ≤ (9223372036854775807 : Int)) ∧
 (((0 : Int) ≤ g_2.2.1 + (1 : Int) ∧
 g_2.2.1 + (1 : Int) ≤ (↑(sortF g_1.1).length : Int) ∧
 mdel (Ty.int IntKind.i64) g_2.1 ((sortF g_1.1).getD g_2.2.1.toNat ((0 : Int), (0 : Int))).2 = List.foldl (fun a f ↦ mdel (Ty.int IntKind.i64) a f.2) g.2.1 (List.take (g_2.2.1 + (1 : Int)).toNat (sortF g_1.1))) ∧
 ((↑(sortF g_1.1).length : Int) - (g_2.2.1 + (1 : Int))).toNat < ((↑(sortF g_1.1).length : Int) - g_2.2.1).toNat) ∧
 (g.1 + (opAt x.1 g.2.2.2.2.1).2.2 = g.1 + (opAt x.1 g.2.2.2.2.1).2.2 ∧
 True ∧
 True ∧
 True ∧
 RR (0 : Int) ∧
 True ∧
 x.1 = x.1 ∧
 RR (↑x.1.length : Int) ∧
 RR g.2.2.2.2.1 ∧
 True ∧
 RR (↑(sortF g_1.1).length : Int) ∧
 g_2.2.1 + (1 : Int) = g_2.2.1 + (1 : Int) ∧
 True) ∧
 (RR (mdel (Ty.int IntKind.i64) g_2.1 ((sortF g_1.1).getD g_2.2.1.toNat ((0 : Int), (0 : Int))).2) ∧
 g.2.2.1 = g.2.2.1 ∧
 RR g.2.2.2.1 ∧
 RR (sortF g_1.1) ∧
 True) ∧
 True) ∧
 (decide (g_2.2.1 < (↑(sortF g_1.1).length : Int)) = false →
 (g.2.2.2.1.length + (sortF g_1.1).length ≤ (9223372036854775807 : Nat) ∧
 (g.2.2.2.1.length + (sortF g_1.1).length + (g.2.2.2.1.length + (sortF g_1.1).length) / (4 : Nat) + (192 : Nat)) * (16 : Nat) ≤ (281474976710656 : Nat)) ∧
 (g.2.2.1.length + (((0 : Int) :: ([] : List Int)).set (0 : Nat) (0 : Int)).length ≤ (9223372036854775807 : Nat) ∧
 (g.2.2.1.length + (((0 : Int) :: ([] : List Int)).set (0 : Nat) (0 : Int)).length + (g.2.2.1.length + (((0 : Int) :: ([] : List Int)).set (0 : Nat) (0 : Int)).length) / (4 : Nat) + (192 : Nat)) * (8 : Nat) ≤ (281474976710656 : Nat)) ∧
 ((-9223372036854775808 : Int) ≤ g.2.2.2.2.1 + (1 : Int) ∧
 g.2.2.2.2.1 + (1 : Int) ≤ (9223372036854775807 : Int)) ∧
 (((0 : Int) ≤ g.2.2.2.2.1 + (1 : Int) ∧
 g.2.2.2.2.1 + (1 : Int) ≤ (↑x.1.length : Int) ∧
 runK (List.take (g.2.2.2.2.1 + (1 : Int)).toNat x.1) = ((g.1 + (opAt x.1 g.2.2.2.2.1).2.2, g_2.1, g.2.2.2.1 ++ sortF g_1.1), g.2.2.1 ++ ((0 : Int) :: ([] : List Int)).set (0 : Nat) (0 : Int)) ∧
 kOk (g.1 + (opAt x.1 g.2.2.2.2.1).2.2, g_2.1, g.2.2.2.1 ++ sortF g_1.1) (g.2.2.2.2.1 + (1 : Int)) ∧
 (↑(g.2.2.1 ++ ((0 : Int) :: ([] : List Int)).set (0 : Nat) (0 : Int)).length : Int) ≤ g.2.2.2.2.1 + (1 : Int)) ∧
 ((↑x.1.length : Int) - (g.2.2.2.2.1 + (1 : Int))).toNat < ((↑x.1.length : Int) - g.2.2.2.2.1).toNat) ∧
 (g.1 + (opAt x.1 g.2.2.2.2.1).2.2 = g.1 + (opAt x.1 g.2.2.2.2.1).2.2 ∧
 True ∧
 True ∧
 True ∧
 x.1 = x.1 ∧
 RR (↑x.1.length : Int) ∧
 g.2.2.2.2.1 + (1 : Int) = g.2.2.2.2.1 + (1 : Int) ∧
 True) ∧
 (g_2.1 = g_2.1 ∧
 g.2.2.1 ++ ((0 : Int) :: ([] : List Int)).set (0 : Nat) (0 : Int) = g.2.2.1 ++ ((0 : Int) :: ([] : List Int)).set (0 : Nat) (0 : Int) ∧
 g.2.2.2.1 ++ sortF g_1.1 = g.2.2.2.1 ++ sortF g_1.1 ∧
 True) ∧
 True)) ∧
 ∀ (i : Nat) (e : Int × Int), g_1.2.1[i]? = some e →
 r = r ∧
 (decide (e.2 ≤ g.1 + (opAt x.1 g.2.2.2.2.1).2.2) = true →
 (g_1.1.length + ((((0 : Int), (0 : Int)) :: ([] : List (Int × Int))).set (0 : Nat) (e.2, e.1)).length ≤ (9223372036854775807 : Nat) ∧
 (g_1.1.length + ((((0 : Int), (0 : Int)) :: ([] : List (Int × Int))).set (0 : Nat) (e.2, e.1)).length + (g_1.1.length + ((((0 : Int), (0 : Int)) :: ([] : List (Int × Int))).set (0 : Nat) (e.2, e.1)).length) / (4 : Nat) + (192 : Nat)) * (16 : Nat) ≤ (281474976710656 : Nat)) ∧
 ((∃ a, (a ++ g_1.2.1.eraseIdx i).Perm g.2.1 ∧
 g_1.1 ++ (((0 : Int), (0 : Int)) :: ([] : List (Int × Int))).set (0 : Nat) (e.2, e.1) = List.map (fun e ↦ (e.2, e.1)) (List.filter (fun e ↦ decide (e.2 ≤ g.1 + (opAt x.1 g.2.2.2.2.1).2.2)) a)) ∧
 (g_1.2.1.eraseIdx i).length < g_1.2.1.length) ∧
 (g.1 + (opAt x.1 g.2.2.2.2.1).2.2 = g.1 + (opAt x.1 g.2.2.2.2.1).2.2 ∧
 True ∧
 True ∧
 True ∧
 RR (0 : Int) ∧
 True ∧
 x.1 = x.1 ∧
 RR (↑x.1.length : Int) ∧
 RR g.2.2.2.2.1 ∧
 (True ∧
 r = r) ∧
 True) ∧
 (g_1.1 ++ (((0 : Int), (0 : Int)) :: ([] : List (Int × Int))).set (0 : Nat) (e.2, e.1) = g_1.1 ++ (((0 : Int), (0 : Int)) :: ([] : List (Int × Int))).set (0 : Nat) (e.2, e.1) ∧
 (r = r ∧
 g.2.1 = g.2.1 ∧
 g_1.2.1.eraseIdx i = g_1.2.1.eraseIdx i) ∧
 g.2.2.1 = g.2.2.1 ∧
 RR g.2.2.2.1 ∧
 True) ∧
 True) ∧
 (decide (e.2 ≤ g.1 + (opAt x.1 g.2.2.2.2.1).2.2) = false →
 ((∃ a, (a ++ g_1.2.1.eraseIdx i).Perm g.2.1 ∧
 g_1.1 = List.map (fun e ↦ (e.2, e.1)) (List.filter (fun e ↦ decide (e.2 ≤ g.1 + (opAt x.1 g.2.2.2.2.1).2.2)) a)) ∧
 (g_1.2.1.eraseIdx i).length < g_1.2.1.length) ∧
 (g.1 + (opAt x.1 g.2.2.2.2.1).2.2 = g.1 + (opAt x.1 g.2.2.2.2.1).2.2 ∧
 True ∧
 True ∧
 True ∧
 RR (0 : Int) ∧
 True ∧
 x.1 = x.1 ∧
 RR (↑x.1.length : Int) ∧
 RR g.2.2.2.2.1 ∧
 (True ∧
 r = r) ∧
 True) ∧
 (g_1.1 = g_1.1 ∧
 (r = r ∧
 g.2.1 = g.2.1 ∧
 g_1.2.1.eraseIdx i = g_1.2.1.eraseIdx i) ∧
 g.2.2.1 = g.2.2.1 ∧
 RR g.2.2.2.1 ∧
 True) ∧
 True))))))))) ∧
 (decide (g.2.2.2.2.1 < (↑x.1.length : Int)) = false →
 g.2.1.length ≤ (9223372036854775807 : Nat) ∧
 g.2.2.1 = (kplay x.1).1 ∧
 g.2.2.2.1 = (kplay x.1).2.1 ∧
 (↑g.2.1.length : Int) = (kplay x.1).2.2.1 ∧
 (0 : Int) = (kplay x.1).2.2.2.1))

theorem E_kplay_eq (x : HL (cPlay : Ctr).as) : vc (fx_kplay x) 1 20 Try.f20 (cPlay) x = E_kplay x := by kernel_rfl

def E_play (x : List (Int × Int × Int) × Unit) : Prop := (decide ((400 : Int) < (↑x.1.length : Int)) = true →
 ([] : List Int) = (kplay x.1).1 ∧
 ([] : List (Int × Int)) = (kplay x.1).2.1 ∧
 (0 : Int) = (kplay x.1).2.2.1 ∧
 (2 : Int) = (kplay x.1).2.2.2.1) ∧
 (decide ((400 : Int) < (↑x.1.length : Int)) = false →
 (∃ (g : ((Int × List (List (Int × Int)) × List (Int × Int) × List (Int × Int)) × List Int × Int × Unit)), ((((0 : Int) ≤ g.2.2.1 ∧
 g.2.2.1 ≤ (↑x.1.length : Int) ∧
 runK (List.take g.2.2.1.toNat x.1) = ((g.1.1, g.1.2.2.1, g.1.2.2.2), g.2.1) ∧
 okQ g.1 g.2.2.1 ∧
 (↑g.2.1.length : Int) ≤ g.2.2.1) ∧
 (((-9223372036854775808 : Int) ≤ g.1.1 ∧
 g.1.1 ≤ (9223372036854775807 : Int)) ∧
 (g.1.2.1.length = (24 : Nat) ∧
 ∀ (xs : List (Int × Int)), xs ∈ g.1.2.1 →
 xs.length ≤ (9223372036854775807 : Nat) ∧
 ∀ (x : Int × Int), x ∈ xs →
 ((-9223372036854775808 : Int) ≤ x.1 ∧
 x.1 ≤ (9223372036854775807 : Int)) ∧
 (-9223372036854775808 : Int) ≤ x.2 ∧
 x.2 ≤ (9223372036854775807 : Int)) ∧
 (∀ (e : Int × Int), e ∈ g.1.2.2.1 →
 ((-9223372036854775808 : Int) ≤ e.1 ∧
 e.1 ≤ (9223372036854775807 : Int)) ∧
 (-9223372036854775808 : Int) ≤ e.2 ∧
 e.2 ≤ (9223372036854775807 : Int)) ∧
 g.1.2.2.2.length ≤ (9223372036854775807 : Nat) ∧
 ∀ (x : Int × Int), x ∈ g.1.2.2.2 →
 ((-9223372036854775808 : Int) ≤ x.1 ∧
 x.1 ≤ (9223372036854775807 : Int)) ∧
 (-9223372036854775808 : Int) ≤ x.2 ∧
 x.2 ≤ (9223372036854775807 : Int)) ∧
 (g.2.1.length ≤ (9223372036854775807 : Nat) ∧
 ∀ (x : Int), x ∈ g.2.1 →
 (-9223372036854775808 : Int) ≤ x ∧
 x ≤ (9223372036854775807 : Int)) ∧
 ((-9223372036854775808 : Int) ≤ g.2.2.1 ∧
 g.2.2.1 ≤ (9223372036854775807 : Int)) ∧
 True) ∧
 True) ∧
 ((True ∧
 True) ∧
 True ∧
 x.1 = x.1 ∧
 RR (↑x.1.length : Int) ∧
 (0 : Int) = g.2.2.1 ∧
 True) ∧
 (((0 : Int) = g.1.1 ∧
 (True ∧
 True) ∧
 True ∧
 True ∧
 True) ∧
 List.replicate (24 : Nat) ([] : List (Int × Int)) = g.1.2.1 ∧
 ([] : List (Int × Int)) = g.1.2.2.1 ∧
 ([] : List (Int × Int)) = g.1.2.2.2 ∧
 ([] : List Int) = g.2.1 ∧
 True) ∧
 True) ∧
 ∀ (g : (Int × List (List (Int × Int)) × List (Int × Int) × List (Int × Int)) × List Int × Int × Unit), (0 : Int) ≤ g.2.2.1 ∧
 g.2.2.1 ≤ (↑x.1.length : Int) ∧
 runK (List.take g.2.2.1.toNat x.1) = ((g.1.1, g.1.2.2.1, g.1.2.2.2), g.2.1) ∧
 okQ g.1 g.2.2.1 ∧
 (↑g.2.1.length : Int) ≤ g.2.2.1 →
 (((-9223372036854775808 : Int) ≤ g.1.1 ∧
 g.1.1 ≤ (9223372036854775807 : Int)) ∧
 (g.1.2.1.length = (24 : Nat) ∧
 ∀ (xs : List (Int × Int)), xs ∈ g.1.2.1 →
 xs.length ≤ (9223372036854775807 : Nat) ∧
 ∀ (x : Int × Int), x ∈ xs →
 ((-9223372036854775808 : Int) ≤ x.1 ∧
 x.1 ≤ (9223372036854775807 : Int)) ∧
 (-9223372036854775808 : Int) ≤ x.2 ∧
 x.2 ≤ (9223372036854775807 : Int)) ∧
 (∀ (e : Int × Int), e ∈ g.1.2.2.1 →
 ((-9223372036854775808 : Int) ≤ e.1 ∧
 e.1 ≤ (9223372036854775807 : Int)) ∧
 (-9223372036854775808 : Int) ≤ e.2 ∧
 e.2 ≤ (9223372036854775807 : Int)) ∧
 g.1.2.2.2.length ≤ (9223372036854775807 : Nat) ∧
 ∀ (x : Int × Int), x ∈ g.1.2.2.2 →
 ((-9223372036854775808 : Int) ≤ x.1 ∧
 x.1 ≤ (9223372036854775807 : Int)) ∧
 (-9223372036854775808 : Int) ≤ x.2 ∧
 x.2 ≤ (9223372036854775807 : Int)) ∧
 (g.2.1.length ≤ (9223372036854775807 : Nat) ∧
 ∀ (x : Int), x ∈ g.2.1 →
 (-9223372036854775808 : Int) ≤ x ∧
 x ≤ (9223372036854775807 : Int)) ∧
 ((-9223372036854775808 : Int) ≤ g.2.2.1 ∧
 g.2.2.1 ≤ (9223372036854775807 : Int)) ∧
 True →
 (decide (g.2.2.1 < (↑x.1.length : Int)) = true →
 (((0 : Int) ≤ g.2.2.1 ∧
 g.2.2.1 < (↑x.1.length : Int)) ∧
 (((RR ((opAt x.1 g.2.2.1).1, (opAt x.1 g.2.2.1).2.1, (opAt x.1 g.2.2.1).2.2) ∧
 mhas (Ty.int IntKind.i64) g.1.2.2.1 (opAt x.1 g.2.2.1).2.1 = mhas (Ty.int IntKind.i64) g.1.2.2.1 (opAt x.1 g.2.2.1).2.1) ∧
 True) ∧
 ((True ∧
 True) ∧
 (True ∧
 True) ∧
 RR (mhas (Ty.int IntKind.i64) g.1.2.2.1 (opAt x.1 g.2.2.1).2.1) ∧
 True) ∧
 ((RR ((opAt x.1 g.2.2.1).1) ∧
 RR ((opAt x.1 g.2.2.1).2.1) ∧
 RR ((opAt x.1 g.2.2.1).2.2) ∧
 True) ∧
 (g.1.1 = g.1.1 ∧
 (True ∧
 True) ∧
 True ∧
 True ∧
 True) ∧
 g.1.2.1 = g.1.2.1 ∧
 RR g.1.2.2.1 ∧
 RR g.1.2.2.2 ∧
 g.2.1 = g.2.1 ∧
 (RR ((opAt x.1 g.2.2.1).1) ∧
 RR ((opAt x.1 g.2.2.1).2.1) ∧
 RR ((opAt x.1 g.2.2.1).2.2) ∧
 True) ∧
 True) ∧
 True ∧
 True ∧
 True ∧
 True ∧
 True ∧
 True ∧
 (True ∧
 True) ∧
 True ∧
 True ∧
 (True ∧
 True) ∧
 True ∧
 True ∧
 True ∧
 True ∧
 True ∧
 True ∧
 x.1 = x.1 ∧
 RR (↑x.1.length : Int) ∧
 g.2.2.1 = g.2.2.1 ∧
 true = true ∧
 True ∧
 (RR ((opAt x.1 g.2.2.1).1) ∧
 RR ((opAt x.1 g.2.2.1).2.1) ∧
 RR ((opAt x.1 g.2.2.1).2.2) ∧
 True) ∧
 True ∧
 (True ∧
 True) ∧
 (RR ((opAt x.1 g.2.2.1).1) ∧
 RR ((opAt x.1 g.2.2.1).2.1) ∧
 RR ((opAt x.1 g.2.2.1).2.2) ∧
 True) ∧
 R8 (True ∧
 True ∧
 True ∧
 True ∧
 True ∧
 True ∧
 True)) ∧
 ∀ (g_1 : (Int × Int × Int) × Bool × Unit), g_1.1 = ((opAt x.1 g.2.2.1).1, (opAt x.1 g.2.2.1).2.1, (opAt x.1 g.2.2.1).2.2) ∧
 g_1.2.1 = mhas (Ty.int IntKind.i64) g.1.2.2.1 (opAt x.1 g.2.2.1).2.1 →
 (((-9223372036854775808 : Int) ≤ g_1.1.1 ∧
 g_1.1.1 ≤ (9223372036854775807 : Int)) ∧
 ((-9223372036854775808 : Int) ≤ g_1.1.2.1 ∧
 g_1.1.2.1 ≤ (9223372036854775807 : Int)) ∧
 (-9223372036854775808 : Int) ≤ g_1.1.2.2 ∧
 g_1.1.2.2 ≤ (9223372036854775807 : Int)) ∧
 True ∧
 True →
 ((g_1.1.1 == (1 : Int)) = true →
 ((!decide (g_1.1.2.2 < (1 : Int))) = true →
 (!decide (g_1.1.2.2 < (1 : Int))) = true) ∧
 ((!decide (g_1.1.2.2 < (1 : Int))) = true →
 (!decide (g_1.1.2.2 < (1 : Int))) = true) ∧
 (decide (g_1.1.2.2 < (1 : Int)) = false →
 (!decide (g_1.1.2.2 < (1 : Int))) = true) ∧
 ((decide (g_1.1.2.2 < (1 : Int)) || decide ((511 : Int) < g_1.1.2.2)) = true →
 (g.2.1.length + (((0 : Int) :: ([] : List Int)).set (0 : Nat) (2 : Int)).length ≤ (9223372036854775807 : Nat) ∧
 (g.2.1.length + (((0 : Int) :: ([] : List Int)).set (0 : Nat) (2 : Int)).length + (g.2.1.length + (((0 : Int) :: ([] : List Int)).set (0 : Nat) (2 : Int)).length) / (4 : Nat) + (192 : Nat)) * (8 : Nat) ≤ (281474976710656 : Nat)) ∧
 (((g.1.1, g.1.2.1, g.1.2.2.1, g.1.2.2.2) = doW (g.1.1, g.1.2.1, g.1.2.2.1, g.1.2.2.2) (opAt x.1 g.2.2.1) ∧
 g.2.1 ++ ((0 : Int) :: ([] : List Int)).set (0 : Nat) (2 : Int) = g.2.1 ++ errK g.1.2.2.1 (opAt x.1 g.2.2.1) :: ([] : List Int)) ∧
 True) ∧
 ((True ∧
 True) ∧
 True ∧
 x.1 = x.1 ∧
 RR (↑x.1.length : Int) ∧
 g.2.2.1 = g.2.2.1 ∧
 True) ∧
 ((g.1.1 = g.1.1 ∧
 (True ∧
 True) ∧
 True ∧
 True ∧
 True) ∧
 g.1.2.1 = g.1.2.1 ∧
 RR g.1.2.2.1 ∧
 RR g.1.2.2.2 ∧
 g.2.1 ++ ((0 : Int) :: ([] : List Int)).set (0 : Nat) (2 : Int) = g.2.1 ++ ((0 : Int) :: ([] : List Int)).set (0 : Nat) (2 : Int) ∧
 True) ∧
 True) ∧
 ((decide (g_1.1.2.2 < (1 : Int)) || decide ((511 : Int) < g_1.1.2.2)) = false →
 (g_1.2.1 = true →
 (g.2.1.length + (((0 : Int) :: ([] : List Int)).set (0 : Nat) (6 : Int)).length ≤ (9223372036854775807 : Nat) ∧
 (g.2.1.length + (((0 : Int) :: ([] : List Int)).set (0 : Nat) (6 : Int)).length + (g.2.1.length + (((0 : Int) :: ([] : List Int)).set (0 : Nat) (6 : Int)).length) / (4 : Nat) + (192 : Nat)) * (8 : Nat) ≤ (281474976710656 : Nat)) ∧
 (((g.1.1, g.1.2.1, g.1.2.2.1, g.1.2.2.2) = doW (g.1.1, g.1.2.1, g.1.2.2.1, g.1.2.2.2) (opAt x.1 g.2.2.1) ∧
 g.2.1 ++ ((0 : Int) :: ([] : List Int)).set (0 : Nat) (6 : Int) = g.2.1 ++ errK g.1.2.2.1 (opAt x.1 g.2.2.1) :: ([] : List Int)) ∧
 True) ∧
 ((True ∧
 True) ∧
 True ∧
 x.1 = x.1 ∧
 RR (↑x.1.length : Int) ∧
 g.2.2.1 = g.2.2.1 ∧
 True) ∧
 ((g.1.1 = g.1.1 ∧
 (True ∧
 True) ∧
 True ∧
 True ∧
 True) ∧
 g.1.2.1 = g.1.2.1 ∧
 RR g.1.2.2.1 ∧
 RR g.1.2.2.2 ∧
 g.2.1 ++ ((0 : Int) :: ([] : List Int)).set (0 : Nat) (6 : Int) = g.2.1 ++ ((0 : Int) :: ([] : List Int)).set (0 : Nat) (6 : Int) ∧
 True) ∧
 True) ∧
 (g_1.2.1 = false →
 ((-9223372036854775808 : Int) ≤ g.1.1 + g_1.1.2.2 ∧
 g.1.1 + g_1.1.2.2 ≤ (9223372036854775807 : Int)) ∧
 ((-9223372036854775808 : Int) ≤ g.1.1 + g_1.1.2.2 ∧
 g.1.1 + g_1.1.2.2 ≤ (9223372036854775807 : Int)) ∧
 (((RR (0 : Int) ∧
 (1 : Int) = (1 : Int) ∨ (0 : Int) = (1 : Int) ∧
 (1 : Int) = (8 : Int) ∧
 (8 : Int) ≤ g.1.1 + g_1.1.2.2 - g.1.1 ∨ (0 : Int) = (2 : Int) ∧
 (1 : Int) = (64 : Int) ∧
 (8 : Int) ≤ g.1.1 + g_1.1.2.2 - g.1.1 ∧
 (8 : Int) ≤ (g.1.1 + g_1.1.2.2) / (8 : Int) - g.1.1 / (8 : Int)) ∧
 True) ∧
 ((True ∧
 True) ∧
 (True ∧
 True) ∧
 RR (1 : Int) ∧
 RR (0 : Int) ∧
 True) ∧
 ((g.1.1 = g.1.1 ∧
 (True ∧
 True) ∧
 True ∧
 True ∧
 True) ∧
 g.1.2.1 = g.1.2.1 ∧
 RR (mput (Ty.int IntKind.i64) g.1.2.2.1 g_1.1.2.1 (g.1.1 + g_1.1.2.2)) ∧
 RR g.1.2.2.2 ∧
 (g_1.1.1 = g_1.1.1 ∧
 RR g_1.1.2.1 ∧
 RR g_1.1.2.2 ∧
 True) ∧
 g.2.1 = g.2.1 ∧
 (RR ((opAt x.1 g.2.2.1).1) ∧
 RR ((opAt x.1 g.2.2.1).2.1) ∧
 RR ((opAt x.1 g.2.2.1).2.2) ∧
 True) ∧
 (g.1.1 + g_1.1.2.2 = g.1.1 + g_1.1.2.2 ∧
 RR g_1.1.2.1 ∧
 True) ∧
 True) ∧
 (True ∧
 True) ∧
 True ∧
 True ∧
 (True ∧
 True) ∧
 True ∧
 True ∧
 g_1.2.1 = g_1.2.1 ∧
 R8 (True ∧
 True ∧
 (True ∧
 True) ∧
 g_1.1.1 = g_1.1.1 ∧
 true = true ∧
 RR (g_1.1.1 == (1 : Int)) ∧
 (True ∧
 True) ∧
 RR g_1.1.2.2 ∧
 RR (decide (g_1.1.2.2 < (1 : Int))) ∧
 RR (decide (g_1.1.2.2 < (1 : Int))) ∧
 True ∧
 True ∧
 True ∧
 false = false ∧
 false = false ∧
 (True ∧
 True) ∧
 (True ∧
 True) ∧
 (True ∧
 True) ∧
 True ∧
 (True ∧
 True) ∧
 RR g_1.1.2.1 ∧
 (True ∧
 True) ∧
 (True ∧
 True) ∧
 (True ∧
 True) ∧
 g.1.1 = g.1.1 ∧
 (True ∧
 True) ∧
 RR g_1.1.2.2 ∧
 g.1.1 + g_1.1.2.2 = g.1.1 + g_1.1.2.2 ∧
 (True ∧
 True) ∧
 (True ∧
 True) ∧
 (True ∧
 True) ∧
 (True ∧
 True) ∧
 g.1.1 = g.1.1 ∧
 (True ∧
 True) ∧
 RR g_1.1.2.2 ∧
 g.1.1 + g_1.1.2.2 = g.1.1 + g_1.1.2.2 ∧
 (True ∧
 True) ∧
 RR g_1.1.2.1 ∧
 (g.1.1 + g_1.1.2.2 = g.1.1 + g_1.1.2.2 ∧
 RR g_1.1.2.1 ∧
 True) ∧
 R32 (True ∧
 True ∧
 (True ∧
 True) ∧
 True ∧
 True ∧
 (True ∧
 True) ∧
 True ∧
 True ∧
 True ∧
 True ∧
 True ∧
 True ∧
 x.1 = x.1 ∧
 RR (↑x.1.length : Int) ∧
 g.2.2.1 = g.2.2.1 ∧
 true = true ∧
 True ∧
 (RR ((opAt x.1 g.2.2.1).1) ∧
 RR ((opAt x.1 g.2.2.1).2.1) ∧
 RR ((opAt x.1 g.2.2.1).2.2) ∧
 True) ∧
 True ∧
 (True ∧
 True) ∧
 (RR ((opAt x.1 g.2.2.1).1) ∧
 RR ((opAt x.1 g.2.2.1).2.1) ∧
 RR ((opAt x.1 g.2.2.1).2.2) ∧
 True) ∧
 R8 (True ∧
 True ∧
 True ∧
 True ∧
 True ∧
 True ∧
 True)))) ∧
 ∀ (g_2 : Int × Int × Unit), g_2.2.1 = (0 : Int) ∧
 g_2.1 = (1 : Int) ∨ g_2.2.1 = (1 : Int) ∧
 g_2.1 = (8 : Int) ∧
 (8 : Int) ≤ g.1.1 + g_1.1.2.2 - g.1.1 ∨ g_2.2.1 = (2 : Int) ∧
 g_2.1 = (64 : Int) ∧
 (8 : Int) ≤ g.1.1 + g_1.1.2.2 - g.1.1 ∧
 (8 : Int) ≤ (g.1.1 + g_1.1.2.2) / (8 : Int) - g.1.1 / (8 : Int) →
 ((-9223372036854775808 : Int) ≤ g_2.1 ∧
 g_2.1 ≤ (9223372036854775807 : Int)) ∧
 ((-9223372036854775808 : Int) ≤ g_2.2.1 ∧
 g_2.2.1 ≤ (9223372036854775807 : Int)) ∧
 True →
 (decide (g_2.2.1 < (3 : Int)) = true →
 ((0 : Int) ≤ g.1.1 + g_1.1.2.2 ∧
 (0 : Int) < g_2.1) ∧
 ((0 : Int) ≤ g.1.1 ∧
 (0 : Int) < g_2.1) ∧
 ((-9223372036854775808 : Int) ≤ (g.1.1 + g_1.1.2.2) / g_2.1 - g.1.1 / g_2.1 ∧
 (g.1.1 + g_1.1.2.2) / g_2.1 - g.1.1 / g_2.1 ≤ (9223372036854775807 : Int)) ∧
 (decide ((g.1.1 + g_1.1.2.2) / g_2.1 - g.1.1 / g_2.1 < (8 : Int)) = false →
 ((g_2.2.1 == (2 : Int)) = true →
 ((0 : Int) ≤ g.1.1 + g_1.1.2.2 ∧
 (0 : Int) < g_2.1) ∧
 ((0 : Int) ≤ (g.1.1 + g_1.1.2.2) / g_2.1 ∧
 (0 : Int) < (8 : Int)) ∧
 ((0 : Int) ≤ g_2.2.1 ∧
 g_2.2.1 < (↑(3 : Nat) : Int)) ∧
 ((0 : Int) ≤ (g.1.1 + g_1.1.2.2) / g_2.1 % (8 : Int) ∧
 (g.1.1 + g_1.1.2.2) / g_2.1 % (8 : Int) < (↑(8 : Nat) : Int)) ∧
 (g_2.2.1.toNat * nat_lit 8 + (nat_lit 0 + (((g.1.1 + g_1.1.2.2) / g_2.1 % (8 : Int)).toNat * nat_lit 1 + nat_lit 0)) < nat_lit 24 ∧
 ((g.1.2.1.getD (g_2.2.1.toNat * nat_lit 8 + (nat_lit 0 + (((g.1.1 + g_1.1.2.2) / g_2.1 % (8 : Int)).toNat * nat_lit 1 + nat_lit 0))) ([] : List (Int × Int))).length + ((((0 : Int), (0 : Int)) :: ([] : List (Int × Int))).set (0 : Nat) (g.1.1 + g_1.1.2.2, g_1.1.2.1)).length ≤ (9223372036854775807 : Nat) ∧
 ((g.1.2.1.getD (g_2.2.1.toNat * nat_lit 8 + (nat_lit 0 + (((g.1.1 + g_1.1.2.2) / g_2.1 % (8 : Int)).toNat * nat_lit 1 + nat_lit 0))) ([] : List (Int × Int))).length + ((((0 : Int), (0 : Int)) :: ([] : List (Int × Int))).set (0 : Nat) (g.1.1 + g_1.1.2.2, g_1.1.2.1)).length + ((g.1.2.1.getD (g_2.2.1.toNat * nat_lit 8 + (nat_lit 0 + (((g.1.1 + g_1.1.2.2) / g_2.1 % (8 : Int)).toNat * nat_lit 1 + nat_lit 0))) ([] : List (Int × Int))).length + ((((0 : Int), (0 : Int)) :: ([] : List (Int × Int))).set (0 : Nat) (g.1.1 + g_1.1.2.2, g_1.1.2.1)).length) / (4 : Nat) + (192 : Nat)) * (16 : Nat) ≤ (281474976710656 : Nat)) ∧
 g_2.2.1.toNat * nat_lit 8 + (nat_lit 0 + (((g.1.1 + g_1.1.2.2) / g_2.1 % (8 : Int)).toNat * nat_lit 1 + nat_lit 0)) = g_2.2.1.toNat * nat_lit 8 + (nat_lit 0 + (((g.1.1 + g_1.1.2.2) / g_2.1 % (8 : Int)).toNat * nat_lit 1 + nat_lit 0)) ∧
 (g.2.1.length + (((0 : Int) :: ([] : List Int)).set (0 : Nat) (0 : Int)).length ≤ (9223372036854775807 : Nat) ∧
 (g.2.1.length + (((0 : Int) :: ([] : List Int)).set (0 : Nat) (0 : Int)).length + (g.2.1.length + (((0 : Int) :: ([] : List Int)).set (0 : Nat) (0 : Int)).length) / (4 : Nat) + (192 : Nat)) * (8 : Nat) ≤ (281474976710656 : Nat)) ∧
 (((g.1.1, (g.1.2.1.set (g_2.2.1.toNat * nat_lit 8 + (nat_lit 0 + (((g.1.1 + g_1.1.2.2) / g_2.1 % (8 : Int)).toNat * nat_lit 1 + nat_lit 0))) ([] : List (Int × Int))).set (g_2.2.1.toNat * nat_lit 8 + (nat_lit 0 + (((g.1.1 + g_1.1.2.2) / g_2.1 % (8 : Int)).toNat * nat_lit 1 + nat_lit 0))) (g.1.2.1.getD (g_2.2.1.toNat * nat_lit 8 + (nat_lit 0 + (((g.1.1 + g_1.1.2.2) / g_2.1 % (8 : Int)).toNat * nat_lit 1 + nat_lit 0))) ([] : List (Int × Int)) ++ (((0 : Int), (0 : Int)) :: ([] : List (Int × Int))).set (0 : Nat) (g.1.1 + g_1.1.2.2, g_1.1.2.1)), mput (Ty.int IntKind.i64) g.1.2.2.1 g_1.1.2.1 (g.1.1 + g_1.1.2.2), g.1.2.2.2) = doW (g.1.1, g.1.2.1, g.1.2.2.1, g.1.2.2.2) (opAt x.1 g.2.2.1) ∧
 g.2.1 ++ ((0 : Int) :: ([] : List Int)).set (0 : Nat) (0 : Int) = g.2.1 ++ errK g.1.2.2.1 (opAt x.1 g.2.2.1) :: ([] : List Int)) ∧
 True) ∧
 ((True ∧
 True) ∧
 True ∧
 x.1 = x.1 ∧
 RR (↑x.1.length : Int) ∧
 g.2.2.1 = g.2.2.1 ∧
 True) ∧
 ((g.1.1 = g.1.1 ∧
 (True ∧
 True) ∧
 True ∧
 True ∧
 True) ∧
 (g.1.2.1.set (g_2.2.1.toNat * nat_lit 8 + (nat_lit 0 + (((g.1.1 + g_1.1.2.2) / g_2.1 % (8 : Int)).toNat * nat_lit 1 + nat_lit 0))) ([] : List (Int × Int))).set (g_2.2.1.toNat * nat_lit 8 + (nat_lit 0 + (((g.1.1 + g_1.1.2.2) / g_2.1 % (8 : Int)).toNat * nat_lit 1 + nat_lit 0))) (g.1.2.1.getD (g_2.2.1.toNat * nat_lit 8 + (nat_lit 0 + (((g.1.1 + g_1.1.2.2) / g_2.1 % (8 : Int)).toNat * nat_lit 1 + nat_lit 0))) ([] : List (Int × Int)) ++ (((0 : Int), (0 : Int)) :: ([] : List (Int × Int))).set (0 : Nat) (g.1.1 + g_1.1.2.2, g_1.1.2.1)) = (g.1.2.1.set (g_2.2.1.toNat * nat_lit 8 + (nat_lit 0 + (((g.1.1 + g_1.1.2.2) / g_2.1 % (8 : Int)).toNat * nat_lit 1 + nat_lit 0))) ([] : List (Int × Int))).set (g_2.2.1.toNat * nat_lit 8 + (nat_lit 0 + (((g.1.1 + g_1.1.2.2) / g_2.1 % (8 : Int)).toNat * nat_lit 1 + nat_lit 0))) (g.1.2.1.getD (g_2.2.1.toNat * nat_lit 8 + (nat_lit 0 + (((g.1.1 + g_1.1.2.2) / g_2.1 % (8 : Int)).toNat * nat_lit 1 + nat_lit 0))) ([] : List (Int × Int)) ++ (((0 : Int), (0 : Int)) :: ([] : List (Int × Int))).set (0 : Nat) (g.1.1 + g_1.1.2.2, g_1.1.2.1)) ∧
 RR (mput (Ty.int IntKind.i64) g.1.2.2.1 g_1.1.2.1 (g.1.1 + g_1.1.2.2)) ∧
 RR g.1.2.2.2 ∧
 g.2.1 ++ ((0 : Int) :: ([] : List Int)).set (0 : Nat) (0 : Int) = g.2.1 ++ ((0 : Int) :: ([] : List Int)).set (0 : Nat) (0 : Int) ∧
 True) ∧
 True) ∧
 (g_2.2.1.toNat * nat_lit 8 + (nat_lit 0 + (((g.1.1 + g_1.1.2.2) / g_2.1 % (8 : Int)).toNat * nat_lit 1 + nat_lit 0)) < nat_lit 24 ∧
 ((g.1.2.1.getD (g_2.2.1.toNat * nat_lit 8 + (nat_lit 0 + (((g.1.1 + g_1.1.2.2) / g_2.1 % (8 : Int)).toNat * nat_lit 1 + nat_lit 0))) ([] : List (Int × Int))).length + ((((0 : Int), (0 : Int)) :: ([] : List (Int × Int))).set (0 : Nat) (g.1.1 + g_1.1.2.2, g_1.1.2.1)).length ≤ (9223372036854775807 : Nat) ∧
 ((g.1.2.1.getD (g_2.2.1.toNat * nat_lit 8 + (nat_lit 0 + (((g.1.1 + g_1.1.2.2) / g_2.1 % (8 : Int)).toNat * nat_lit 1 + nat_lit 0))) ([] : List (Int × Int))).length + ((((0 : Int), (0 : Int)) :: ([] : List (Int × Int))).set (0 : Nat) (g.1.1 + g_1.1.2.2, g_1.1.2.1)).length + ((g.1.2.1.getD (g_2.2.1.toNat * nat_lit 8 + (nat_lit 0 + (((g.1.1 + g_1.1.2.2) / g_2.1 % (8 : Int)).toNat * nat_lit 1 + nat_lit 0))) ([] : List (Int × Int))).length + ((((0 : Int), (0 : Int)) :: ([] : List (Int × Int))).set (0 : Nat) (g.1.1 + g_1.1.2.2, g_1.1.2.1)).length) / (4 : Nat) + (192 : Nat)) * (16 : Nat) ≤ (281474976710656 : Nat)) ∧
 g_2.2.1.toNat * nat_lit 8 + (nat_lit 0 + (((g.1.1 + g_1.1.2.2) / g_2.1 % (8 : Int)).toNat * nat_lit 1 + nat_lit 0)) = g_2.2.1.toNat * nat_lit 8 + (nat_lit 0 + (((g.1.1 + g_1.1.2.2) / g_2.1 % (8 : Int)).toNat * nat_lit 1 + nat_lit 0)) ∧
 (g.2.1.length + (((0 : Int) :: ([] : List Int)).set (0 : Nat) (0 : Int)).length ≤ (9223372036854775807 : Nat) ∧
 (g.2.1.length + (((0 : Int) :: ([] : List Int)).set (0 : Nat) (0 : Int)).length + (g.2.1.length + (((0 : Int) :: ([] : List Int)).set (0 : Nat) (0 : Int)).length) / (4 : Nat) + (192 : Nat)) * (8 : Nat) ≤ (281474976710656 : Nat)) ∧
 (((g.1.1, (g.1.2.1.set (g_2.2.1.toNat * nat_lit 8 + (nat_lit 0 + (((g.1.1 + g_1.1.2.2) / g_2.1 % (8 : Int)).toNat * nat_lit 1 + nat_lit 0))) ([] : List (Int × Int))).set (g_2.2.1.toNat * nat_lit 8 + (nat_lit 0 + (((g.1.1 + g_1.1.2.2) / g_2.1 % (8 : Int)).toNat * nat_lit 1 + nat_lit 0))) (g.1.2.1.getD (g_2.2.1.toNat * nat_lit 8 + (nat_lit 0 + (((g.1.1 + g_1.1.2.2) / g_2.1 % (8 : Int)).toNat * nat_lit 1 + nat_lit 0))) ([] : List (Int × Int)) ++ (((0 : Int), (0 : Int)) :: ([] : List (Int × Int))).set (0 : Nat) (g.1.1 + g_1.1.2.2, g_1.1.2.1)), mput (Ty.int IntKind.i64) g.1.2.2.1 g_1.1.2.1 (g.1.1 + g_1.1.2.2), g.1.2.2.2) = doW (g.1.1, g.1.2.1, g.1.2.2.1, g.1.2.2.2) (opAt x.1 g.2.2.1) ∧
 g.2.1 ++ ((0 : Int) :: ([] : List Int)).set (0 : Nat) (0 : Int) = g.2.1 ++ errK g.1.2.2.1 (opAt x.1 g.2.2.1) :: ([] : List Int)) ∧
 True) ∧
 ((True ∧
 True) ∧
 True ∧
 x.1 = x.1 ∧
 RR (↑x.1.length : Int) ∧
 g.2.2.1 = g.2.2.1 ∧
 True) ∧
 ((g.1.1 = g.1.1 ∧
 (True ∧
 True) ∧
 True ∧
 True ∧
 True) ∧
 (g.1.2.1.set (g_2.2.1.toNat * nat_lit 8 + (nat_lit 0 + (((g.1.1 + g_1.1.2.2) / g_2.1 % (8 : Int)).toNat * nat_lit 1 + nat_lit 0))) ([] : List (Int × Int))).set (g_2.2.1.toNat * nat_lit 8 + (nat_lit 0 + (((g.1.1 + g_1.1.2.2) / g_2.1 % (8 : Int)).toNat * nat_lit 1 + nat_lit 0))) (g.1.2.1.getD (g_2.2.1.toNat * nat_lit 8 + (nat_lit 0 + (((g.1.1 + g_1.1.2.2) / g_2.1 % (8 : Int)).toNat * nat_lit 1 + nat_lit 0))) ([] : List (Int × Int)) ++ (((0 : Int), (0 : Int)) :: ([] : List (Int × Int))).set (0 : Nat) (g.1.1 + g_1.1.2.2, g_1.1.2.1)) = (g.1.2.1.set (g_2.2.1.toNat * nat_lit 8 + (nat_lit 0 + (((g.1.1 + g_1.1.2.2) / g_2.1 % (8 : Int)).toNat * nat_lit 1 + nat_lit 0))) ([] : List (Int × Int))).set (g_2.2.1.toNat * nat_lit 8 + (nat_lit 0 + (((g.1.1 + g_1.1.2.2) / g_2.1 % (8 : Int)).toNat * nat_lit 1 + nat_lit 0))) (g.1.2.1.getD (g_2.2.1.toNat * nat_lit 8 + (nat_lit 0 + (((g.1.1 + g_1.1.2.2) / g_2.1 % (8 : Int)).toNat * nat_lit 1 + nat_lit 0))) ([] : List (Int × Int)) ++ (((0 : Int), (0 : Int)) :: ([] : List (Int × Int))).set (0 : Nat) (g.1.1 + g_1.1.2.2, g_1.1.2.1)) ∧
 RR (mput (Ty.int IntKind.i64) g.1.2.2.1 g_1.1.2.1 (g.1.1 + g_1.1.2.2)) ∧
 RR g.1.2.2.2 ∧
 g.2.1 ++ ((0 : Int) :: ([] : List Int)).set (0 : Nat) (0 : Int) = g.2.1 ++ ((0 : Int) :: ([] : List Int)).set (0 : Nat) (0 : Int) ∧
 True) ∧
 True) ∧
 (g_2.2.1.toNat * nat_lit 8 + (nat_lit 0 + (((g.1.1 + g_1.1.2.2) / g_2.1 % (8 : Int)).toNat * nat_lit 1 + nat_lit 0)) < nat_lit 24 ∧
 ((g.1.2.1.getD (g_2.2.1.toNat * nat_lit 8 + (nat_lit 0 + (((g.1.1 + g_1.1.2.2) / g_2.1 % (8 : Int)).toNat * nat_lit 1 + nat_lit 0))) ([] : List (Int × Int))).length + ((((0 : Int), (0 : Int)) :: ([] : List (Int × Int))).set (0 : Nat) (g.1.1 + g_1.1.2.2, g_1.1.2.1)).length ≤ (9223372036854775807 : Nat) ∧
 ((g.1.2.1.getD (g_2.2.1.toNat * nat_lit 8 + (nat_lit 0 + (((g.1.1 + g_1.1.2.2) / g_2.1 % (8 : Int)).toNat * nat_lit 1 + nat_lit 0))) ([] : List (Int × Int))).length + ((((0 : Int), (0 : Int)) :: ([] : List (Int × Int))).set (0 : Nat) (g.1.1 + g_1.1.2.2, g_1.1.2.1)).length + ((g.1.2.1.getD (g_2.2.1.toNat * nat_lit 8 + (nat_lit 0 + (((g.1.1 + g_1.1.2.2) / g_2.1 % (8 : Int)).toNat * nat_lit 1 + nat_lit 0))) ([] : List (Int × Int))).length + ((((0 : Int), (0 : Int)) :: ([] : List (Int × Int))).set (0 : Nat) (g.1.1 + g_1.1.2.2, g_1.1.2.1)).length) / (4 : Nat) + (192 : Nat)) * (16 : Nat) ≤ (281474976710656 : Nat)) ∧
 g_2.2.1.toNat * nat_lit 8 + (nat_lit 0 + (((g.1.1 + g_1.1.2.2) / g_2.1 % (8 : Int)).toNat * nat_lit 1 + nat_lit 0)) = g_2.2.1.toNat * nat_lit 8 + (nat_lit 0 + (((g.1.1 + g_1.1.2.2) / g_2.1 % (8 : Int)).toNat * nat_lit 1 + nat_lit 0)) ∧
 (g.2.1.length + (((0 : Int) :: ([] : List Int)).set (0 : Nat) (0 : Int)).length ≤ (9223372036854775807 : Nat) ∧
 (g.2.1.length + (((0 : Int) :: ([] : List Int)).set (0 : Nat) (0 : Int)).length + (g.2.1.length + (((0 : Int) :: ([] : List Int)).set (0 : Nat) (0 : Int)).length) / (4 : Nat) + (192 : Nat)) * (8 : Nat) ≤ (281474976710656 : Nat)) ∧
 (((g.1.1, (g.1.2.1.set (g_2.2.1.toNat * nat_lit 8 + (nat_lit 0 + (((g.1.1 + g_1.1.2.2) / g_2.1 % (8 : Int)).toNat * nat_lit 1 + nat_lit 0))) ([] : List (Int × Int))).set (g_2.2.1.toNat * nat_lit 8 + (nat_lit 0 + (((g.1.1 + g_1.1.2.2) / g_2.1 % (8 : Int)).toNat * nat_lit 1 + nat_lit 0))) (g.1.2.1.getD (g_2.2.1.toNat * nat_lit 8 + (nat_lit 0 + (((g.1.1 + g_1.1.2.2) / g_2.1 % (8 : Int)).toNat * nat_lit 1 + nat_lit 0))) ([] : List (Int × Int)) ++ (((0 : Int), (0 : Int)) :: ([] : List (Int × Int))).set (0 : Nat) (g.1.1 + g_1.1.2.2, g_1.1.2.1)), mput (Ty.int IntKind.i64) g.1.2.2.1 g_1.1.2.1 (g.1.1 + g_1.1.2.2), g.1.2.2.2) = doW (g.1.1, g.1.2.1, g.1.2.2.1, g.1.2.2.2) (opAt x.1 g.2.2.1) ∧
 g.2.1 ++ ((0 : Int) :: ([] : List Int)).set (0 : Nat) (0 : Int) = g.2.1 ++ errK g.1.2.2.1 (opAt x.1 g.2.2.1) :: ([] : List Int)) ∧
 True) ∧
 ((True ∧
 True) ∧
 True ∧
 x.1 = x.1 ∧
 RR (↑x.1.length : Int) ∧
 g.2.2.1 = g.2.2.1 ∧
 True) ∧
 ((g.1.1 = g.1.1 ∧
 (True ∧
 True) ∧
 True ∧
 True ∧
 True) ∧
 (g.1.2.1.set (g_2.2.1.toNat * nat_lit 8 + (nat_lit 0 + (((g.1.1 + g_1.1.2.2) / g_2.1 % (8 : Int)).toNat * nat_lit 1 + nat_lit 0))) ([] : List (Int × Int))).set (g_2.2.1.toNat * nat_lit 8 + (nat_lit 0 + (((g.1.1 + g_1.1.2.2) / g_2.1 % (8 : Int)).toNat * nat_lit 1 + nat_lit 0))) (g.1.2.1.getD (g_2.2.1.toNat * nat_lit 8 + (nat_lit 0 + (((g.1.1 + g_1.1.2.2) / g_2.1 % (8 : Int)).toNat * nat_lit 1 + nat_lit 0))) ([] : List (Int × Int)) ++ (((0 : Int), (0 : Int)) :: ([] : List (Int × Int))).set (0 : Nat) (g.1.1 + g_1.1.2.2, g_1.1.2.1)) = (g.1.2.1.set (g_2.2.1.toNat * nat_lit 8 + (nat_lit 0 + (((g.1.1 + g_1.1.2.2) / g_2.1 % (8 : Int)).toNat * nat_lit 1 + nat_lit 0))) ([] : List (Int × Int))).set (g_2.2.1.toNat * nat_lit 8 + (nat_lit 0 + (((g.1.1 + g_1.1.2.2) / g_2.1 % (8 : Int)).toNat * nat_lit 1 + nat_lit 0))) (g.1.2.1.getD (g_2.2.1.toNat * nat_lit 8 + (nat_lit 0 + (((g.1.1 + g_1.1.2.2) / g_2.1 % (8 : Int)).toNat * nat_lit 1 + nat_lit 0))) ([] : List (Int × Int)) ++ (((0 : Int), (0 : Int)) :: ([] : List (Int × Int))).set (0 : Nat) (g.1.1 + g_1.1.2.2, g_1.1.2.1)) ∧
 RR (mput (Ty.int IntKind.i64) g.1.2.2.1 g_1.1.2.1 (g.1.1 + g_1.1.2.2)) ∧
 RR g.1.2.2.2 ∧
 g.2.1 ++ ((0 : Int) :: ([] : List Int)).set (0 : Nat) (0 : Int) = g.2.1 ++ ((0 : Int) :: ([] : List Int)).set (0 : Nat) (0 : Int) ∧
 True) ∧
 True) ∧
 True) ∧
 ((g_2.2.1 == (2 : Int)) = false →
 ((-9223372036854775808 : Int) ≤ g_2.1 * (8 : Int) ∧
 g_2.1 * (8 : Int) ≤ (9223372036854775807 : Int)) ∧
 ((-9223372036854775808 : Int) ≤ g_2.2.1 + (1 : Int) ∧
 g_2.2.1 + (1 : Int) ≤ (9223372036854775807 : Int)) ∧
 ((g_2.2.1 + (1 : Int) = (0 : Int) ∧
 g_2.1 * (8 : Int) = (1 : Int) ∨ g_2.2.1 + (1 : Int) = (1 : Int) ∧
 g_2.1 * (8 : Int) = (8 : Int) ∧
 (8 : Int) ≤ g.1.1 + g_1.1.2.2 - g.1.1 ∨ g_2.2.1 + (1 : Int) = (2 : Int) ∧
 g_2.1 * (8 : Int) = (64 : Int) ∧
 (8 : Int) ≤ g.1.1 + g_1.1.2.2 - g.1.1 ∧
 (8 : Int) ≤ (g.1.1 + g_1.1.2.2) / (8 : Int) - g.1.1 / (8 : Int)) ∧
 ((3 : Int) - (g_2.2.1 + (1 : Int))).toNat < ((3 : Int) - g_2.2.1).toNat) ∧
 ((True ∧
 True) ∧
 (True ∧
 True) ∧
 g_2.1 * (8 : Int) = g_2.1 * (8 : Int) ∧
 g_2.2.1 + (1 : Int) = g_2.2.1 + (1 : Int) ∧
 True) ∧
 ((g.1.1 = g.1.1 ∧
 (True ∧
 True) ∧
 True ∧
 True ∧
 True) ∧
 g.1.2.1 = g.1.2.1 ∧
 RR (mput (Ty.int IntKind.i64) g.1.2.2.1 g_1.1.2.1 (g.1.1 + g_1.1.2.2)) ∧
 RR g.1.2.2.2 ∧
 (g_1.1.1 = g_1.1.1 ∧
 RR g_1.1.2.1 ∧
 RR g_1.1.2.2 ∧
 True) ∧
 g.2.1 = g.2.1 ∧
 (RR ((opAt x.1 g.2.2.1).1) ∧
 RR ((opAt x.1 g.2.2.1).2.1) ∧
 RR ((opAt x.1 g.2.2.1).2.2) ∧
 True) ∧
 (g.1.1 + g_1.1.2.2 = g.1.1 + g_1.1.2.2 ∧
 RR g_1.1.2.1 ∧
 True) ∧
 True) ∧
 (True ∧
 True) ∧
 True ∧
 True ∧
 (True ∧
 True) ∧
 True ∧
 True ∧
 g_1.2.1 = g_1.2.1 ∧
 R8 (True ∧
 True ∧
 (True ∧
 True) ∧
 g_1.1.1 = g_1.1.1 ∧
 true = true ∧
 RR (g_1.1.1 == (1 : Int)) ∧
 (True ∧
 True) ∧
 RR g_1.1.2.2 ∧
 RR (decide (g_1.1.2.2 < (1 : Int))) ∧
 RR (decide (g_1.1.2.2 < (1 : Int))) ∧
 True ∧
 True ∧
 True ∧
 false = false ∧
 false = false ∧
 (True ∧
 True) ∧
 (True ∧
 True) ∧
 (True ∧
 True) ∧
 True ∧
 (True ∧
 True) ∧
 RR g_1.1.2.1 ∧
 (True ∧
 True) ∧
 (True ∧
 True) ∧
 (True ∧
 True) ∧
 g.1.1 = g.1.1 ∧
 (True ∧
 True) ∧
 RR g_1.1.2.2 ∧
 g.1.1 + g_1.1.2.2 = g.1.1 + g_1.1.2.2 ∧
 (True ∧
 True) ∧
 (True ∧
 True) ∧
 (True ∧
 True) ∧
 (True ∧
 True) ∧
 g.1.1 = g.1.1 ∧
 (True ∧
 True) ∧
 RR g_1.1.2.2 ∧
 g.1.1 + g_1.1.2.2 = g.1.1 + g_1.1.2.2 ∧
 (True ∧
 True) ∧
 RR g_1.1.2.1 ∧
 (g.1.1 + g_1.1.2.2 = g.1.1 + g_1.1.2.2 ∧
 RR g_1.1.2.1 ∧
 True) ∧
 R32 (True ∧
 True ∧
 (True ∧
 True) ∧
 True ∧
 True ∧
 (True ∧
 True) ∧
 True ∧
 True ∧
 True ∧
 True ∧
 True ∧
 True ∧
 x.1 = x.1 ∧
 RR (↑x.1.length : Int) ∧
 g.2.2.1 = g.2.2.1 ∧
 true = true ∧
 True ∧
 (RR ((opAt x.1 g.2.2.1).1) ∧
 RR ((opAt x.1 g.2.2.1).2.1) ∧
 RR ((opAt x.1 g.2.2.1).2.2) ∧
 True) ∧
 True ∧
 (True ∧
 True) ∧
 (RR ((opAt x.1 g.2.2.1).1) ∧
 RR ((opAt x.1 g.2.2.1).2.1) ∧
 RR ((opAt x.1 g.2.2.1).2.2) ∧
 True) ∧
 R8 (True ∧
 True ∧
 True ∧
 True ∧
 True ∧
 True ∧
 True))))) ∧
 (decide ((g.1.1 + g_1.1.2.2) / g_2.1 - g.1.1 / g_2.1 < (8 : Int)) = !false →
 ((0 : Int) ≤ g.1.1 + g_1.1.2.2 ∧
 (0 : Int) < g_2.1) ∧
 ((0 : Int) ≤ (g.1.1 + g_1.1.2.2) / g_2.1 ∧
 (0 : Int) < (8 : Int)) ∧
 ((0 : Int) ≤ g_2.2.1 ∧
 g_2.2.1 < (↑(3 : Nat) : Int)) ∧
 ((0 : Int) ≤ (g.1.1 + g_1.1.2.2) / g_2.1 % (8 : Int) ∧
 (g.1.1 + g_1.1.2.2) / g_2.1 % (8 : Int) < (↑(8 : Nat) : Int)) ∧
 (g_2.2.1.toNat * nat_lit 8 + (nat_lit 0 + (((g.1.1 + g_1.1.2.2) / g_2.1 % (8 : Int)).toNat * nat_lit 1 + nat_lit 0)) < nat_lit 24 ∧
 ((g.1.2.1.getD (g_2.2.1.toNat * nat_lit 8 + (nat_lit 0 + (((g.1.1 + g_1.1.2.2) / g_2.1 % (8 : Int)).toNat * nat_lit 1 + nat_lit 0))) ([] : List (Int × Int))).length + ((((0 : Int), (0 : Int)) :: ([] : List (Int × Int))).set (0 : Nat) (g.1.1 + g_1.1.2.2, g_1.1.2.1)).length ≤ (9223372036854775807 : Nat) ∧
 ((g.1.2.1.getD (g_2.2.1.toNat * nat_lit 8 + (nat_lit 0 + (((g.1.1 + g_1.1.2.2) / g_2.1 % (8 : Int)).toNat * nat_lit 1 + nat_lit 0))) ([] : List (Int × Int))).length + ((((0 : Int), (0 : Int)) :: ([] : List (Int × Int))).set (0 : Nat) (g.1.1 + g_1.1.2.2, g_1.1.2.1)).length + ((g.1.2.1.getD (g_2.2.1.toNat * nat_lit 8 + (nat_lit 0 + (((g.1.1 + g_1.1.2.2) / g_2.1 % (8 : Int)).toNat * nat_lit 1 + nat_lit 0))) ([] : List (Int × Int))).length + ((((0 : Int), (0 : Int)) :: ([] : List (Int × Int))).set (0 : Nat) (g.1.1 + g_1.1.2.2, g_1.1.2.1)).length) / (4 : Nat) + (192 : Nat)) * (16 : Nat) ≤ (281474976710656 : Nat)) ∧
 g_2.2.1.toNat * nat_lit 8 + (nat_lit 0 + (((g.1.1 + g_1.1.2.2) / g_2.1 % (8 : Int)).toNat * nat_lit 1 + nat_lit 0)) = g_2.2.1.toNat * nat_lit 8 + (nat_lit 0 + (((g.1.1 + g_1.1.2.2) / g_2.1 % (8 : Int)).toNat * nat_lit 1 + nat_lit 0)) ∧
 (g.2.1.length + (((0 : Int) :: ([] : List Int)).set (0 : Nat) (0 : Int)).length ≤ (9223372036854775807 : Nat) ∧
 (g.2.1.length + (((0 : Int) :: ([] : List Int)).set (0 : Nat) (0 : Int)).length + (g.2.1.length + (((0 : Int) :: ([] : List Int)).set (0 : Nat) (0 : Int)).length) / (4 : Nat) + (192 : Nat)) * (8 : Nat) ≤ (281474976710656 : Nat)) ∧
 (((g.1.1, (g.1.2.1.set (g_2.2.1.toNat * nat_lit 8 + (nat_lit 0 + (((g.1.1 + g_1.1.2.2) / g_2.1 % (8 : Int)).toNat * nat_lit 1 + nat_lit 0))) ([] : List (Int × Int))).set (g_2.2.1.toNat * nat_lit 8 + (nat_lit 0 + (((g.1.1 + g_1.1.2.2) / g_2.1 % (8 : Int)).toNat * nat_lit 1 + nat_lit 0))) (g.1.2.1.getD (g_2.2.1.toNat * nat_lit 8 + (nat_lit 0 + (((g.1.1 + g_1.1.2.2) / g_2.1 % (8 : Int)).toNat * nat_lit 1 + nat_lit 0))) ([] : List (Int × Int)) ++ (((0 : Int), (0 : Int)) :: ([] : List (Int × Int))).set (0 : Nat) (g.1.1 + g_1.1.2.2, g_1.1.2.1)), mput (Ty.int IntKind.i64) g.1.2.2.1 g_1.1.2.1 (g.1.1 + g_1.1.2.2), g.1.2.2.2) = doW (g.1.1, g.1.2.1, g.1.2.2.1, g.1.2.2.2) (opAt x.1 g.2.2.1) ∧
 g.2.1 ++ ((0 : Int) :: ([] : List Int)).set (0 : Nat) (0 : Int) = g.2.1 ++ errK g.1.2.2.1 (opAt x.1 g.2.2.1) :: ([] : List Int)) ∧
 True) ∧
 ((True ∧
 True) ∧
 True ∧
 x.1 = x.1 ∧
 RR (↑x.1.length : Int) ∧
 g.2.2.1 = g.2.2.1 ∧
 True) ∧
 ((g.1.1 = g.1.1 ∧
 (True ∧
 True) ∧
 True ∧
 True ∧
 True) ∧
 (g.1.2.1.set (g_2.2.1.toNat * nat_lit 8 + (nat_lit 0 + (((g.1.1 + g_1.1.2.2) / g_2.1 % (8 : Int)).toNat * nat_lit 1 + nat_lit 0))) ([] : List (Int × Int))).set (g_2.2.1.toNat * nat_lit 8 + (nat_lit 0 + (((g.1.1 + g_1.1.2.2) / g_2.1 % (8 : Int)).toNat * nat_lit 1 + nat_lit 0))) (g.1.2.1.getD (g_2.2.1.toNat * nat_lit 8 + (nat_lit 0 + (((g.1.1 + g_1.1.2.2) / g_2.1 % (8 : Int)).toNat * nat_lit 1 + nat_lit 0))) ([] : List (Int × Int)) ++ (((0 : Int), (0 : Int)) :: ([] : List (Int × Int))).set (0 : Nat) (g.1.1 + g_1.1.2.2, g_1.1.2.1)) = (g.1.2.1.set (g_2.2.1.toNat * nat_lit 8 + (nat_lit 0 + (((g.1.1 + g_1.1.2.2) / g_2.1 % (8 : Int)).toNat * nat_lit 1 + nat_lit 0))) ([] : List (Int × Int))).set (g_2.2.1.toNat * nat_lit 8 + (nat_lit 0 + (((g.1.1 + g_1.1.2.2) / g_2.1 % (8 : Int)).toNat * nat_lit 1 + nat_lit 0))) (g.1.2.1.getD (g_2.2.1.toNat * nat_lit 8 + (nat_lit 0 + (((g.1.1 + g_1.1.2.2) / g_2.1 % (8 : Int)).toNat * nat_lit 1 + nat_lit 0))) ([] : List (Int × Int)) ++ (((0 : Int), (0 : Int)) :: ([] : List (Int × Int))).set (0 : Nat) (g.1.1 + g_1.1.2.2, g_1.1.2.1)) ∧
 RR (mput (Ty.int IntKind.i64) g.1.2.2.1 g_1.1.2.1 (g.1.1 + g_1.1.2.2)) ∧
 RR g.1.2.2.2 ∧
 g.2.1 ++ ((0 : Int) :: ([] : List Int)).set (0 : Nat) (0 : Int) = g.2.1 ++ ((0 : Int) :: ([] : List Int)).set (0 : Nat) (0 : Int) ∧
 True) ∧
 True) ∧
 (g_2.2.1.toNat * nat_lit 8 + (nat_lit 0 + (((g.1.1 + g_1.1.2.2) / g_2.1 % (8 : Int)).toNat * nat_lit 1 + nat_lit 0)) < nat_lit 24 ∧
 ((g.1.2.1.getD (g_2.2.1.toNat * nat_lit 8 + (nat_lit 0 + (((g.1.1 + g_1.1.2.2) / g_2.1 % (8 : Int)).toNat * nat_lit 1 + nat_lit 0))) ([] : List (Int × Int))).length + ((((0 : Int), (0 : Int)) :: ([] : List (Int × Int))).set (0 : Nat) (g.1.1 + g_1.1.2.2, g_1.1.2.1)).length ≤ (9223372036854775807 : Nat) ∧
 ((g.1.2.1.getD (g_2.2.1.toNat * nat_lit 8 + (nat_lit 0 + (((g.1.1 + g_1.1.2.2) / g_2.1 % (8 : Int)).toNat * nat_lit 1 + nat_lit 0))) ([] : List (Int × Int))).length + ((((0 : Int), (0 : Int)) :: ([] : List (Int × Int))).set (0 : Nat) (g.1.1 + g_1.1.2.2, g_1.1.2.1)).length + ((g.1.2.1.getD (g_2.2.1.toNat * nat_lit 8 + (nat_lit 0 + (((g.1.1 + g_1.1.2.2) / g_2.1 % (8 : Int)).toNat * nat_lit 1 + nat_lit 0))) ([] : List (Int × Int))).length + ((((0 : Int), (0 : Int)) :: ([] : List (Int × Int))).set (0 : Nat) (g.1.1 + g_1.1.2.2, g_1.1.2.1)).length) / (4 : Nat) + (192 : Nat)) * (16 : Nat) ≤ (281474976710656 : Nat)) ∧
 g_2.2.1.toNat * nat_lit 8 + (nat_lit 0 + (((g.1.1 + g_1.1.2.2) / g_2.1 % (8 : Int)).toNat * nat_lit 1 + nat_lit 0)) = g_2.2.1.toNat * nat_lit 8 + (nat_lit 0 + (((g.1.1 + g_1.1.2.2) / g_2.1 % (8 : Int)).toNat * nat_lit 1 + nat_lit 0)) ∧
 (g.2.1.length + (((0 : Int) :: ([] : List Int)).set (0 : Nat) (0 : Int)).length ≤ (9223372036854775807 : Nat) ∧
 (g.2.1.length + (((0 : Int) :: ([] : List Int)).set (0 : Nat) (0 : Int)).length + (g.2.1.length + (((0 : Int) :: ([] : List Int)).set (0 : Nat) (0 : Int)).length) / (4 : Nat) + (192 : Nat)) * (8 : Nat) ≤ (281474976710656 : Nat)) ∧
 (((g.1.1, (g.1.2.1.set (g_2.2.1.toNat * nat_lit 8 + (nat_lit 0 + (((g.1.1 + g_1.1.2.2) / g_2.1 % (8 : Int)).toNat * nat_lit 1 + nat_lit 0))) ([] : List (Int × Int))).set (g_2.2.1.toNat * nat_lit 8 + (nat_lit 0 + (((g.1.1 + g_1.1.2.2) / g_2.1 % (8 : Int)).toNat * nat_lit 1 + nat_lit 0))) (g.1.2.1.getD (g_2.2.1.toNat * nat_lit 8 + (nat_lit 0 + (((g.1.1 + g_1.1.2.2) / g_2.1 % (8 : Int)).toNat * nat_lit 1 + nat_lit 0))) ([] : List (Int × Int)) ++ (((0 : Int), (0 : Int)) :: ([] : List (Int × Int))).set (0 : Nat) (g.1.1 + g_1.1.2.2, g_1.1.2.1)), mput (Ty.int IntKind.i64) g.1.2.2.1 g_1.1.2.1 (g.1.1 + g_1.1.2.2), g.1.2.2.2) = doW (g.1.1, g.1.2.1, g.1.2.2.1, g.1.2.2.2) (opAt x.1 g.2.2.1) ∧
 g.2.1 ++ ((0 : Int) :: ([] : List Int)).set (0 : Nat) (0 : Int) = g.2.1 ++ errK g.1.2.2.1 (opAt x.1 g.2.2.1) :: ([] : List Int)) ∧
 True) ∧
 ((True ∧
 True) ∧
 True ∧
 x.1 = x.1 ∧
 RR (↑x.1.length : Int) ∧
 g.2.2.1 = g.2.2.1 ∧
 True) ∧
 ((g.1.1 = g.1.1 ∧
 (True ∧
 True) ∧
 True ∧
 True ∧
 True) ∧
 (g.1.2.1.set (g_2.2.1.toNat * nat_lit 8 + (nat_lit 0 + (((g.1.1 + g_1.1.2.2) / g_2.1 % (8 : Int)).toNat * nat_lit 1 + nat_lit 0))) ([] : List (Int × Int))).set (g_2.2.1.toNat * nat_lit 8 + (nat_lit 0 + (((g.1.1 + g_1.1.2.2) / g_2.1 % (8 : Int)).toNat * nat_lit 1 + nat_lit 0))) (g.1.2.1.getD (g_2.2.1.toNat * nat_lit 8 + (nat_lit 0 + (((g.1.1 + g_1.1.2.2) / g_2.1 % (8 : Int)).toNat * nat_lit 1 + nat_lit 0))) ([] : List (Int × Int)) ++ (((0 : Int), (0 : Int)) :: ([] : List (Int × Int))).set (0 : Nat) (g.1.1 + g_1.1.2.2, g_1.1.2.1)) = (g.1.2.1.set (g_2.2.1.toNat * nat_lit 8 + (nat_lit 0 + (((g.1.1 + g_1.1.2.2) / g_2.1 % (8 : Int)).toNat * nat_lit 1 + nat_lit 0))) ([] : List (Int × Int))).set (g_2.2.1.toNat * nat_lit 8 + (nat_lit 0 + (((g.1.1 + g_1.1.2.2) / g_2.1 % (8 : Int)).toNat * nat_lit 1 + nat_lit 0))) (g.1.2.1.getD (g_2.2.1.toNat * nat_lit 8 + (nat_lit 0 + (((g.1.1 + g_1.1.2.2) / g_2.1 % (8 : Int)).toNat * nat_lit 1 + nat_lit 0))) ([] : List (Int × Int)) ++ (((0 : Int), (0 : Int)) :: ([] : List (Int × Int))).set (0 : Nat) (g.1.1 + g_1.1.2.2, g_1.1.2.1)) ∧
 RR (mput (Ty.int IntKind.i64) g.1.2.2.1 g_1.1.2.1 (g.1.1 + g_1.1.2.2)) ∧
 RR g.1.2.2.2 ∧
 g.2.1 ++ ((0 : Int) :: ([] : List Int)).set (0 : Nat) (0 : Int) = g.2.1 ++ ((0 : Int) :: ([] : List Int)).set (0 : Nat) (0 : Int) ∧
 True) ∧
 True) ∧
 (g_2.2.1.toNat * nat_lit 8 + (nat_lit 0 + (((g.1.1 + g_1.1.2.2) / g_2.1 % (8 : Int)).toNat * nat_lit 1 + nat_lit 0)) < nat_lit 24 ∧
 ((g.1.2.1.getD (g_2.2.1.toNat * nat_lit 8 + (nat_lit 0 + (((g.1.1 + g_1.1.2.2) / g_2.1 % (8 : Int)).toNat * nat_lit 1 + nat_lit 0))) ([] : List (Int × Int))).length + ((((0 : Int), (0 : Int)) :: ([] : List (Int × Int))).set (0 : Nat) (g.1.1 + g_1.1.2.2, g_1.1.2.1)).length ≤ (9223372036854775807 : Nat) ∧
 ((g.1.2.1.getD (g_2.2.1.toNat * nat_lit 8 + (nat_lit 0 + (((g.1.1 + g_1.1.2.2) / g_2.1 % (8 : Int)).toNat * nat_lit 1 + nat_lit 0))) ([] : List (Int × Int))).length + ((((0 : Int), (0 : Int)) :: ([] : List (Int × Int))).set (0 : Nat) (g.1.1 + g_1.1.2.2, g_1.1.2.1)).length + ((g.1.2.1.getD (g_2.2.1.toNat * nat_lit 8 + (nat_lit 0 + (((g.1.1 + g_1.1.2.2) / g_2.1 % (8 : Int)).toNat * nat_lit 1 + nat_lit 0))) ([] : List (Int × Int))).length + ((((0 : Int), (0 : Int)) :: ([] : List (Int × Int))).set (0 : Nat) (g.1.1 + g_1.1.2.2, g_1.1.2.1)).length) / (4 : Nat) + (192 : Nat)) * (16 : Nat) ≤ (281474976710656 : Nat)) ∧
 g_2.2.1.toNat * nat_lit 8 + (nat_lit 0 + (((g.1.1 + g_1.1.2.2) / g_2.1 % (8 : Int)).toNat * nat_lit 1 + nat_lit 0)) = g_2.2.1.toNat * nat_lit 8 + (nat_lit 0 + (((g.1.1 + g_1.1.2.2) / g_2.1 % (8 : Int)).toNat * nat_lit 1 + nat_lit 0)) ∧
 (g.2.1.length + (((0 : Int) :: ([] : List Int)).set (0 : Nat) (0 : Int)).length ≤ (9223372036854775807 : Nat) ∧
 (g.2.1.length + (((0 : Int) :: ([] : List Int)).set (0 : Nat) (0 : Int)).length + (g.2.1.length + (((0 : Int) :: ([] : List Int)).set (0 : Nat) (0 : Int)).length) / (4 : Nat) + (192 : Nat)) * (8 : Nat) ≤ (281474976710656 : Nat)) ∧
 (((g.1.1, (g.1.2.1.set (g_2.2.1.toNat * nat_lit 8 + (nat_lit 0 + (((g.1.1 + g_1.1.2.2) / g_2.1 % (8 : Int)).toNat * nat_lit 1 + nat_lit 0))) ([] : List (Int × Int))).set (g_2.2.1.toNat * nat_lit 8 + (nat_lit 0 + (((g.1.1 + g_1.1.2.2) / g_2.1 % (8 : Int)).toNat * nat_lit 1 + nat_lit 0))) (g.1.2.1.getD (g_2.2.1.toNat * nat_lit 8 + (nat_lit 0 + (((g.1.1 + g_1.1.2.2) / g_2.1 % (8 : Int)).toNat * nat_lit 1 + nat_lit 0))) ([] : List (Int × Int)) ++ (((0 : Int), (0 : Int)) :: ([] : List (Int × Int))).set (0 : Nat) (g.1.1 + g_1.1.2.2, g_1.1.2.1)), mput (Ty.int IntKind.i64) g.1.2.2.1 g_1.1.2.1 (g.1.1 + g_1.1.2.2), g.1.2.2.2) = doW (g.1.1, g.1.2.1, g.1.2.2.1, g.1.2.2.2) (opAt x.1 g.2.2.1) ∧
 g.2.1 ++ ((0 : Int) :: ([] : List Int)).set (0 : Nat) (0 : Int) = g.2.1 ++ errK g.1.2.2.1 (opAt x.1 g.2.2.1) :: ([] : List Int)) ∧
 True) ∧
 ((True ∧
 True) ∧
 True ∧
 x.1 = x.1 ∧
 RR (↑x.1.length : Int) ∧
 g.2.2.1 = g.2.2.1 ∧
 True) ∧
 ((g.1.1 = g.1.1 ∧
 (True ∧
 True) ∧
 True ∧
 True ∧
 True) ∧
 (g.1.2.1.set (g_2.2.1.toNat * nat_lit 8 + (nat_lit 0 + (((g.1.1 + g_1.1.2.2) / g_2.1 % (8 : Int)).toNat * nat_lit 1 + nat_lit 0))) ([] : List (Int × Int))).set (g_2.2.1.toNat * nat_lit 8 + (nat_lit 0 + (((g.1.1 + g_1.1.2.2) / g_2.1 % (8 : Int)).toNat * nat_lit 1 + nat_lit 0))) (g.1.2.1.getD (g_2.2.1.toNat * nat_lit 8 + (nat_lit 0 + (((g.1.1 + g_1.1.2.2) / g_2.1 % (8 : Int)).toNat * nat_lit 1 + nat_lit 0))) ([] : List (Int × Int)) ++ (((0 : Int), (0 : Int)) :: ([] : List (Int × Int))).set (0 : Nat) (g.1.1 + g_1.1.2.2, g_1.1.2.1)) = (g.1.2.1.set (g_2.2.1.toNat * nat_lit 8 + (nat_lit 0 + (((g.1.1 + g_1.1.2.2) / g_2.1 % (8 : Int)).toNat * nat_lit 1 + nat_lit 0))) ([] : List (Int × Int))).set (g_2.2.1.toNat * nat_lit 8 + (nat_lit 0 + (((g.1.1 + g_1.1.2.2) / g_2.1 % (8 : Int)).toNat * nat_lit 1 + nat_lit 0))) (g.1.2.1.getD (g_2.2.1.toNat * nat_lit 8 + (nat_lit 0 + (((g.1.1 + g_1.1.2.2) / g_2.1 % (8 : Int)).toNat * nat_lit 1 + nat_lit 0))) ([] : List (Int × Int)) ++ (((0 : Int), (0 : Int)) :: ([] : List (Int × Int))).set (0 : Nat) (g.1.1 + g_1.1.2.2, g_1.1.2.1)) ∧
 RR (mput (Ty.int IntKind.i64) g.1.2.2.1 g_1.1.2.1 (g.1.1 + g_1.1.2.2)) ∧
 RR g.1.2.2.2 ∧
 g.2.1 ++ ((0 : Int) :: ([] : List Int)).set (0 : Nat) (0 : Int) = g.2.1 ++ ((0 : Int) :: ([] : List Int)).set (0 : Nat) (0 : Int) ∧
 True) ∧
 True) ∧
 True)) ∧
 (decide (g_2.2.1 < (3 : Int)) = false →
 (g.2.1.length + (((0 : Int) :: ([] : List Int)).set (0 : Nat) (0 : Int)).length ≤ (9223372036854775807 : Nat) ∧
 (g.2.1.length + (((0 : Int) :: ([] : List Int)).set (0 : Nat) (0 : Int)).length + (g.2.1.length + (((0 : Int) :: ([] : List Int)).set (0 : Nat) (0 : Int)).length) / (4 : Nat) + (192 : Nat)) * (8 : Nat) ≤ (281474976710656 : Nat)) ∧
 (((g.1.1, g.1.2.1, mput (Ty.int IntKind.i64) g.1.2.2.1 g_1.1.2.1 (g.1.1 + g_1.1.2.2), g.1.2.2.2) = doW (g.1.1, g.1.2.1, g.1.2.2.1, g.1.2.2.2) (opAt x.1 g.2.2.1) ∧
 g.2.1 ++ ((0 : Int) :: ([] : List Int)).set (0 : Nat) (0 : Int) = g.2.1 ++ errK g.1.2.2.1 (opAt x.1 g.2.2.1) :: ([] : List Int)) ∧
 True) ∧
 ((True ∧
 True) ∧
 True ∧
 x.1 = x.1 ∧
 RR (↑x.1.length : Int) ∧
 g.2.2.1 = g.2.2.1 ∧
 True) ∧
 ((g.1.1 = g.1.1 ∧
 (True ∧
 True) ∧
 True ∧
 True ∧
 True) ∧
 g.1.2.1 = g.1.2.1 ∧
 RR (mput (Ty.int IntKind.i64) g.1.2.2.1 g_1.1.2.1 (g.1.1 + g_1.1.2.2)) ∧
 RR g.1.2.2.2 ∧
 g.2.1 ++ ((0 : Int) :: ([] : List Int)).set (0 : Nat) (0 : Int) = g.2.1 ++ ((0 : Int) :: ([] : List Int)).set (0 : Nat) (0 : Int) ∧
 True) ∧
 True)))) ∧
 ((g_1.1.1 == (1 : Int)) = false →
 ((g_1.1.1 == (2 : Int)) = true →
 ((!g_1.2.1) = true →
 (g.2.1.length + (((0 : Int) :: ([] : List Int)).set (0 : Nat) (3 : Int)).length ≤ (9223372036854775807 : Nat) ∧
 (g.2.1.length + (((0 : Int) :: ([] : List Int)).set (0 : Nat) (3 : Int)).length + (g.2.1.length + (((0 : Int) :: ([] : List Int)).set (0 : Nat) (3 : Int)).length) / (4 : Nat) + (192 : Nat)) * (8 : Nat) ≤ (281474976710656 : Nat)) ∧
 (((g.1.1, g.1.2.1, g.1.2.2.1, g.1.2.2.2) = doW (g.1.1, g.1.2.1, g.1.2.2.1, g.1.2.2.2) (opAt x.1 g.2.2.1) ∧
 g.2.1 ++ ((0 : Int) :: ([] : List Int)).set (0 : Nat) (3 : Int) = g.2.1 ++ errK g.1.2.2.1 (opAt x.1 g.2.2.1) :: ([] : List Int)) ∧
 True) ∧
 ((True ∧
 True) ∧
 True ∧
 x.1 = x.1 ∧
 RR (↑x.1.length : Int) ∧
 g.2.2.1 = g.2.2.1 ∧
 True) ∧
 ((g.1.1 = g.1.1 ∧
 (True ∧
 True) ∧
 True ∧
 True ∧
 True) ∧
 g.1.2.1 = g.1.2.1 ∧
 RR g.1.2.2.1 ∧
 RR g.1.2.2.2 ∧
 g.2.1 ++ ((0 : Int) :: ([] : List Int)).set (0 : Nat) (3 : Int) = g.2.1 ++ ((0 : Int) :: ([] : List Int)).set (0 : Nat) (3 : Int) ∧
 True) ∧
 True) ∧
 ((!g_1.2.1) = false →
 (g.2.1.length + (((0 : Int) :: ([] : List Int)).set (0 : Nat) (0 : Int)).length ≤ (9223372036854775807 : Nat) ∧
 (g.2.1.length + (((0 : Int) :: ([] : List Int)).set (0 : Nat) (0 : Int)).length + (g.2.1.length + (((0 : Int) :: ([] : List Int)).set (0 : Nat) (0 : Int)).length) / (4 : Nat) + (192 : Nat)) * (8 : Nat) ≤ (281474976710656 : Nat)) ∧
 (((g.1.1, g.1.2.1, mdel (Ty.int IntKind.i64) g.1.2.2.1 g_1.1.2.1, g.1.2.2.2) = doW (g.1.1, g.1.2.1, g.1.2.2.1, g.1.2.2.2) (opAt x.1 g.2.2.1) ∧
 g.2.1 ++ ((0 : Int) :: ([] : List Int)).set (0 : Nat) (0 : Int) = g.2.1 ++ errK g.1.2.2.1 (opAt x.1 g.2.2.1) :: ([] : List Int)) ∧
 True) ∧
 ((True ∧
 True) ∧
 True ∧
 x.1 = x.1 ∧
 RR (↑x.1.length : Int) ∧
 g.2.2.1 = g.2.2.1 ∧
 True) ∧
 ((g.1.1 = g.1.1 ∧
 (True ∧
 True) ∧
 True ∧
 True ∧
 True) ∧
 g.1.2.1 = g.1.2.1 ∧
 RR (mdel (Ty.int IntKind.i64) g.1.2.2.1 g_1.1.2.1) ∧
 RR g.1.2.2.2 ∧
 g.2.1 ++ ((0 : Int) :: ([] : List Int)).set (0 : Nat) (0 : Int) = g.2.1 ++ ((0 : Int) :: ([] : List Int)).set (0 : Nat) (0 : Int) ∧
 True) ∧
 True)) ∧
 ((g_1.1.1 == (2 : Int)) = false →
 ((g_1.1.1 == (3 : Int)) = true →
 ((!decide (g_1.1.2.2 < (0 : Int))) = true →
 (!decide (g_1.1.2.2 < (0 : Int))) = true) ∧
 ((!decide (g_1.1.2.2 < (0 : Int))) = true →
 (!decide (g_1.1.2.2 < (0 : Int))) = true) ∧
 (decide (g_1.1.2.2 < (0 : Int)) = false →
 (!decide (g_1.1.2.2 < (0 : Int))) = true) ∧
 ((decide (g_1.1.2.2 < (0 : Int)) || decide ((2000 : Int) < g_1.1.2.2)) = true →
 (g.2.1.length + (((0 : Int) :: ([] : List Int)).set (0 : Nat) (2 : Int)).length ≤ (9223372036854775807 : Nat) ∧
 (g.2.1.length + (((0 : Int) :: ([] : List Int)).set (0 : Nat) (2 : Int)).length + (g.2.1.length + (((0 : Int) :: ([] : List Int)).set (0 : Nat) (2 : Int)).length) / (4 : Nat) + (192 : Nat)) * (8 : Nat) ≤ (281474976710656 : Nat)) ∧
 (((g.1.1, g.1.2.1, g.1.2.2.1, g.1.2.2.2) = doW (g.1.1, g.1.2.1, g.1.2.2.1, g.1.2.2.2) (opAt x.1 g.2.2.1) ∧
 g.2.1 ++ ((0 : Int) :: ([] : List Int)).set (0 : Nat) (2 : Int) = g.2.1 ++ errK g.1.2.2.1 (opAt x.1 g.2.2.1) :: ([] : List Int)) ∧
 True) ∧
 ((True ∧
 True) ∧
 True ∧
 x.1 = x.1 ∧
 RR (↑x.1.length : Int) ∧
 g.2.2.1 = g.2.2.1 ∧
 True) ∧
 ((g.1.1 = g.1.1 ∧
 (True ∧
 True) ∧
 True ∧
 True ∧
 True) ∧
 g.1.2.1 = g.1.2.1 ∧
 RR g.1.2.2.1 ∧
 RR g.1.2.2.2 ∧
 g.2.1 ++ ((0 : Int) :: ([] : List Int)).set (0 : Nat) (2 : Int) = g.2.1 ++ ((0 : Int) :: ([] : List Int)).set (0 : Nat) (2 : Int) ∧
 True) ∧
 True) ∧
 ((decide (g_1.1.2.2 < (0 : Int)) || decide ((2000 : Int) < g_1.1.2.2)) = false →
 ((((0 : Int) ≤ (0 : Int) ∧
 (0 : Int) ≤ g_1.1.2.2 ∧
 (g.1.1, g.1.2.1, g.1.2.2.1, g.1.2.2.2) = ticksW (g.1.1, g.1.2.1, g.1.2.2.1, g.1.2.2.2) (Int.toNat (0 : Int))) ∧
 True) ∧
 ((True ∧
 True) ∧
 RR g_1.1.2.2 ∧
 RR (0 : Int) ∧
 True) ∧
 ((g.1.1 = g.1.1 ∧
 (True ∧
 True) ∧
 True ∧
 True ∧
 True) ∧
 g.1.2.1 = g.1.2.1 ∧
 RR g.1.2.2.1 ∧
 RR g.1.2.2.2 ∧
 g.2.1 = g.2.1 ∧
 (RR ((opAt x.1 g.2.2.1).1) ∧
 RR ((opAt x.1 g.2.2.1).2.1) ∧
 RR ((opAt x.1 g.2.2.1).2.2) ∧
 True) ∧
 True) ∧
 True ∧
 True ∧
 True ∧
 True ∧
 True ∧
 True ∧
 (True ∧
 True) ∧
 True ∧
 True ∧
 (True ∧
 True) ∧
 True ∧
 True ∧
 True ∧
 True ∧
 True ∧
 True ∧
 x.1 = x.1 ∧
 RR (↑x.1.length : Int) ∧
 g.2.2.1 = g.2.2.1 ∧
 true = true ∧
 True ∧
 (RR ((opAt x.1 g.2.2.1).1) ∧
 RR ((opAt x.1 g.2.2.1).2.1) ∧
 RR ((opAt x.1 g.2.2.1).2.2) ∧
 True) ∧
 True ∧
 (True ∧
 True) ∧
 (RR ((opAt x.1 g.2.2.1).1) ∧
 RR ((opAt x.1 g.2.2.1).2.1) ∧
 RR ((opAt x.1 g.2.2.1).2.2) ∧
 True) ∧
 R8 (True ∧
 True ∧
 True ∧
 True ∧
 True ∧
 True ∧
 True)) ∧
 ∀ (g_2 : (Int × List (List (Int × Int)) × List (Int × Int) × List (Int × Int)) × Int × Unit), (0 : Int) ≤ g_2.2.1 ∧
 g_2.2.1 ≤ g_1.1.2.2 ∧
 g_2.1 = ticksW (g.1.1, g.1.2.1, g.1.2.2.1, g.1.2.2.2) g_2.2.1.toNat →
 (((-9223372036854775808 : Int) ≤ g_2.1.1 ∧
 g_2.1.1 ≤ (9223372036854775807 : Int)) ∧
 (g_2.1.2.1.length = (24 : Nat) ∧
 ∀ (xs : List (Int × Int)), xs ∈ g_2.1.2.1 →
 xs.length ≤ (9223372036854775807 : Nat) ∧
 ∀ (x : Int × Int), x ∈ xs →
 ((-9223372036854775808 : Int) ≤ x.1 ∧
 x.1 ≤ (9223372036854775807 : Int)) ∧
 (-9223372036854775808 : Int) ≤ x.2 ∧
 x.2 ≤ (9223372036854775807 : Int)) ∧
 (∀ (e : Int × Int), e ∈ g_2.1.2.2.1 →
 ((-9223372036854775808 : Int) ≤ e.1 ∧
 e.1 ≤ (9223372036854775807 : Int)) ∧
 (-9223372036854775808 : Int) ≤ e.2 ∧
 e.2 ≤ (9223372036854775807 : Int)) ∧
 g_2.1.2.2.2.length ≤ (9223372036854775807 : Nat) ∧
 ∀ (x : Int × Int), x ∈ g_2.1.2.2.2 →
 ((-9223372036854775808 : Int) ≤ x.1 ∧
 x.1 ≤ (9223372036854775807 : Int)) ∧
 (-9223372036854775808 : Int) ≤ x.2 ∧
 x.2 ≤ (9223372036854775807 : Int)) ∧
 ((-9223372036854775808 : Int) ≤ g_2.2.1 ∧
 g_2.2.1 ≤ (9223372036854775807 : Int)) ∧
 True →
 (decide (g_2.2.1 < g_1.1.2.2) = true →
 (((-9223372036854775808 : Int) ≤ g_2.1.1 + (1 : Int) ∧
 g_2.1.1 + (1 : Int) ≤ (9223372036854775807 : Int)) ∧
 (g_2.1.1 + (1 : Int) = g_2.1.1 + (1 : Int) ∧
 True) ∧
 ((True ∧
 True) ∧
 True) ∧
 ((g_2.1.1 + (1 : Int) = g_2.1.1 + (1 : Int) ∧
 (True ∧
 True) ∧
 True ∧
 True ∧
 True) ∧
 g.2.1 = g.2.1 ∧
 (RR ((opAt x.1 g.2.2.1).1) ∧
 RR ((opAt x.1 g.2.2.1).2.1) ∧
 RR ((opAt x.1 g.2.2.1).2.2) ∧
 True) ∧
 RR g_2.1.2.1 ∧
 RR g_2.1.2.2.1 ∧
 RR g_2.1.2.2.2 ∧
 True) ∧
 (True ∧
 True) ∧
 R32 (R32 (R8 (True ∧
 True ∧
 True ∧
 RR g_1.1.2.2 ∧
 g_2.2.1 = g_2.2.1 ∧
 true = true ∧
 (True ∧
 True) ∧
 R8 ((True ∧
 True) ∧
 True ∧
 True ∧
 (True ∧
 True) ∧
 True ∧
 True ∧
 True ∧
 True ∧
 True ∧
 True ∧
 x.1 = x.1 ∧
 RR (↑x.1.length : Int) ∧
 g.2.2.1 = g.2.2.1 ∧
 true = true ∧
 True ∧
 (RR ((opAt x.1 g.2.2.1).1) ∧
 RR ((opAt x.1 g.2.2.1).2.1) ∧
 RR ((opAt x.1 g.2.2.1).2.2) ∧
 True) ∧
 True ∧
 (True ∧
 True) ∧
 (RR ((opAt x.1 g.2.2.1).1) ∧
 RR ((opAt x.1 g.2.2.1).2.1) ∧
 RR ((opAt x.1 g.2.2.1).2.2) ∧
 True) ∧
 R8 (True ∧
 True ∧
 True ∧
 True ∧
 True ∧
 True ∧
 True)))))) ∧
 ∀ (g_3 : (Int × Unit × Unit × Unit) × Unit), g_3.1.1 = g_2.1.1 + (1 : Int) →
 (((-9223372036854775808 : Int) ≤ g_3.1.1 ∧
 g_3.1.1 ≤ (9223372036854775807 : Int)) ∧
 True ∧
 True ∧
 True) ∧
 True →
 (((RR (2 : Int) ∧
 RR (64 : Int) ∧
 g_2.1.2.1 = g_2.1.2.1 ∨ (2 : Int) = (1 : Int) ∧
 (64 : Int) = (8 : Int) ∧
 g_2.1.2.1 = casc g_3.1.1 (64 : Int) (2 : Int) g_2.1.2.1 ∨ (2 : Int) = (0 : Int) ∧
 (64 : Int) = (1 : Int) ∧
 g_2.1.2.1 = tickOn g_3.1.1 g_2.1.2.1) ∧
 True) ∧
 ((True ∧
 True) ∧
 RR (2 : Int) ∧
 RR (64 : Int) ∧
 True) ∧
 ((g_3.1.1 = g_3.1.1 ∧
 (True ∧
 True) ∧
 True ∧
 True ∧
 True) ∧
 RR g_2.1.2.1 ∧
 g.2.1 = g.2.1 ∧
 (RR ((opAt x.1 g.2.2.1).1) ∧
 RR ((opAt x.1 g.2.2.1).2.1) ∧
 RR ((opAt x.1 g.2.2.1).2.2) ∧
 True) ∧
 RR g_2.1.2.2.1 ∧
 RR g_2.1.2.2.2 ∧
 True) ∧
 (True ∧
 True) ∧
 R32 (R32 (R8 (True ∧
 True ∧
 True ∧
 RR g_1.1.2.2 ∧
 g_2.2.1 = g_2.2.1 ∧
 true = true ∧
 (True ∧
 True) ∧
 R8 ((True ∧
 True) ∧
 True ∧
 True ∧
 (True ∧
 True) ∧
 True ∧
 True ∧
 True ∧
 True ∧
 True ∧
 True ∧
 x.1 = x.1 ∧
 RR (↑x.1.length : Int) ∧
 g.2.2.1 = g.2.2.1 ∧
 true = true ∧
 True ∧
 (RR ((opAt x.1 g.2.2.1).1) ∧
 RR ((opAt x.1 g.2.2.1).2.1) ∧
 RR ((opAt x.1 g.2.2.1).2.2) ∧
 True) ∧
 True ∧
 (True ∧
 True) ∧
 (RR ((opAt x.1 g.2.2.1).1) ∧
 RR ((opAt x.1 g.2.2.1).2.1) ∧
 RR ((opAt x.1 g.2.2.1).2.2) ∧
 True) ∧
 R8 (True ∧
 True ∧
 True ∧
 True ∧
 True ∧
 True ∧
 True)))))) ∧
 ∀ (g_4 : (Unit × List (List (Int × Int)) × Unit × Unit) × Int × Int × Unit), g_4.2.1 = (2 : Int) ∧
 g_4.2.2.1 = (64 : Int) ∧
 g_4.1.2.1 = g_2.1.2.1 ∨ g_4.2.1 = (1 : Int) ∧
 g_4.2.2.1 = (8 : Int) ∧
 g_4.1.2.1 = casc g_3.1.1 (64 : Int) (2 : Int) g_2.1.2.1 ∨ g_4.2.1 = (0 : Int) ∧
 g_4.2.2.1 = (1 : Int) ∧
 g_4.1.2.1 = tickOn g_3.1.1 g_2.1.2.1 →
 (True ∧
 (g_4.1.2.1.length = (24 : Nat) ∧
 ∀ (xs : List (Int × Int)), xs ∈ g_4.1.2.1 →
 xs.length ≤ (9223372036854775807 : Nat) ∧
 ∀ (x : Int × Int), x ∈ xs →
 ((-9223372036854775808 : Int) ≤ x.1 ∧
 x.1 ≤ (9223372036854775807 : Int)) ∧
 (-9223372036854775808 : Int) ≤ x.2 ∧
 x.2 ≤ (9223372036854775807 : Int)) ∧
 True ∧
 True) ∧
 ((-9223372036854775808 : Int) ≤ g_4.2.1 ∧
 g_4.2.1 ≤ (9223372036854775807 : Int)) ∧
 ((-9223372036854775808 : Int) ≤ g_4.2.2.1 ∧
 g_4.2.2.1 ≤ (9223372036854775807 : Int)) ∧
 True →
 (decide ((0 : Int) < g_4.2.1) = true →
 ((0 : Int) ≤ g_3.1.1 ∧
 (0 : Int) < g_4.2.2.1) ∧
 ((g_3.1.1 % g_4.2.2.1 == (0 : Int)) = true →
 ((0 : Int) ≤ g_3.1.1 ∧
 (0 : Int) < g_4.2.2.1) ∧
 ((0 : Int) ≤ g_3.1.1 / g_4.2.2.1 ∧
 (0 : Int) < (8 : Int)) ∧
 ((0 : Int) ≤ g_4.2.1 ∧
 g_4.2.1 < (↑(3 : Nat) : Int)) ∧
 ((0 : Int) ≤ g_3.1.1 / g_4.2.2.1 % (8 : Int) ∧
 g_3.1.1 / g_4.2.2.1 % (8 : Int) < (↑(8 : Nat) : Int)) ∧
 g_4.2.1.toNat * nat_lit 8 + (nat_lit 0 + ((g_3.1.1 / g_4.2.2.1 % (8 : Int)).toNat * nat_lit 1 + nat_lit 0)) < nat_lit 24 ∧
 ((0 : Int) ≤ g_4.2.1 ∧
 g_4.2.1 < (↑(3 : Nat) : Int)) ∧
 ((0 : Int) ≤ g_3.1.1 / g_4.2.2.1 % (8 : Int) ∧
 g_3.1.1 / g_4.2.2.1 % (8 : Int) < (↑(8 : Nat) : Int)) ∧
 g_4.2.1.toNat * nat_lit 8 + (nat_lit 0 + ((g_3.1.1 / g_4.2.2.1 % (8 : Int)).toNat * nat_lit 1 + nat_lit 0)) = g_4.2.1.toNat * nat_lit 8 + (nat_lit 0 + ((g_3.1.1 / g_4.2.2.1 % (8 : Int)).toNat * nat_lit 1 + nat_lit 0)) ∧
 ((((0 : Int) ≤ (0 : Int) ∧
 (0 : Int) ≤ (↑(g_4.1.2.1.getD (g_4.2.1.toNat * nat_lit 8 + (nat_lit 0 + ((g_3.1.1 / g_4.2.2.1 % (8 : Int)).toNat * nat_lit 1 + nat_lit 0))) ([] : List (Int × Int))).length : Int) ∧
 (g_4.1.2.1.set (g_4.2.1.toNat * nat_lit 8 + (nat_lit 0 + ((g_3.1.1 / g_4.2.2.1 % (8 : Int)).toNat * nat_lit 1 + nat_lit 0))) ([] : List (Int × Int))).set (g_4.2.1.toNat * nat_lit 8 + (nat_lit 0 + ((g_3.1.1 / g_4.2.2.1 % (8 : Int)).toNat * nat_lit 1 + nat_lit 0))) ([] : List (Int × Int)) = List.foldl (putW g_3.1.1) (List.set (g_4.1.2.1.set (g_4.2.1.toNat * nat_lit 8 + (nat_lit 0 + ((g_3.1.1 / g_4.2.2.1 % (8 : Int)).toNat * nat_lit 1 + nat_lit 0))) ([] : List (Int × Int))) (g_4.2.1.toNat * nat_lit 8 + (nat_lit 0 + ((g_3.1.1 / g_4.2.2.1 % (8 : Int)).toNat * nat_lit 1 + nat_lit 0))) ([] : List (Int × Int))) (List.take (Int.toNat (0 : Int)) (g_4.1.2.1.getD (g_4.2.1.toNat * nat_lit 8 + (nat_lit 0 + ((g_3.1.1 / g_4.2.2.1 % (8 : Int)).toNat * nat_lit 1 + nat_lit 0))) ([] : List (Int × Int))))) ∧
 True) ∧
 ((True ∧
 True) ∧
 g_4.2.1 = g_4.2.1 ∧
 RR g_4.2.2.1 ∧
 True ∧
 (↑(g_4.1.2.1.getD (g_4.2.1.toNat * nat_lit 8 + (nat_lit 0 + ((g_3.1.1 / g_4.2.2.1 % (8 : Int)).toNat * nat_lit 1 + nat_lit 0))) ([] : List (Int × Int))).length : Int) = (↑(g_4.1.2.1.getD (g_4.2.1.toNat * nat_lit 8 + (nat_lit 0 + ((g_3.1.1 / g_4.2.2.1 % (8 : Int)).toNat * nat_lit 1 + nat_lit 0))) ([] : List (Int × Int))).length : Int) ∧
 RR (0 : Int) ∧
 True) ∧
 ((g_3.1.1 = g_3.1.1 ∧
 (True ∧
 True) ∧
 True ∧
 True ∧
 True) ∧
 (g_4.1.2.1.set (g_4.2.1.toNat * nat_lit 8 + (nat_lit 0 + ((g_3.1.1 / g_4.2.2.1 % (8 : Int)).toNat * nat_lit 1 + nat_lit 0))) ([] : List (Int × Int))).set (g_4.2.1.toNat * nat_lit 8 + (nat_lit 0 + ((g_3.1.1 / g_4.2.2.1 % (8 : Int)).toNat * nat_lit 1 + nat_lit 0))) ([] : List (Int × Int)) = (g_4.1.2.1.set (g_4.2.1.toNat * nat_lit 8 + (nat_lit 0 + ((g_3.1.1 / g_4.2.2.1 % (8 : Int)).toNat * nat_lit 1 + nat_lit 0))) ([] : List (Int × Int))).set (g_4.2.1.toNat * nat_lit 8 + (nat_lit 0 + ((g_3.1.1 / g_4.2.2.1 % (8 : Int)).toNat * nat_lit 1 + nat_lit 0))) ([] : List (Int × Int)) ∧
 g.2.1 = g.2.1 ∧
 (RR ((opAt x.1 g.2.2.1).1) ∧
 RR ((opAt x.1 g.2.2.1).2.1) ∧
 RR ((opAt x.1 g.2.2.1).2.2) ∧
 True) ∧
 RR g_2.1.2.2.1 ∧
 RR g_2.1.2.2.2 ∧
 g_4.1.2.1.getD (g_4.2.1.toNat * nat_lit 8 + (nat_lit 0 + ((g_3.1.1 / g_4.2.2.1 % (8 : Int)).toNat * nat_lit 1 + nat_lit 0))) ([] : List (Int × Int)) = g_4.1.2.1.getD (g_4.2.1.toNat * nat_lit 8 + (nat_lit 0 + ((g_3.1.1 / g_4.2.2.1 % (8 : Int)).toNat * nat_lit 1 + nat_lit 0))) ([] : List (Int × Int)) ∧
 True) ∧
 (True ∧
 True) ∧
 R32 (R32 (R8 (True ∧
 True ∧
 True ∧
 RR g_1.1.2.2 ∧
 g_2.2.1 = g_2.2.1 ∧
 true = true ∧
 (True ∧
 True) ∧
 R8 ((True ∧
 True) ∧
 True ∧
 True ∧
 (True ∧
 True) ∧
 True ∧
 True ∧
 True ∧
 True ∧
 True ∧
 True ∧
 x.1 = x.1 ∧
 RR (↑x.1.length : Int) ∧
 g.2.2.1 = g.2.2.1 ∧
 true = true ∧
 True ∧
 (RR ((opAt x.1 g.2.2.1).1) ∧
 RR ((opAt x.1 g.2.2.1).2.1) ∧
 RR ((opAt x.1 g.2.2.1).2.2) ∧
 True) ∧
 True ∧
 (True ∧
 True) ∧
 (RR ((opAt x.1 g.2.2.1).1) ∧
 RR ((opAt x.1 g.2.2.1).2.1) ∧
 RR ((opAt x.1 g.2.2.1).2.2) ∧
 True) ∧
 R8 (True ∧
 True ∧
 True ∧
 True ∧
 True ∧
 True ∧
 True)))))) ∧
 ∀ (g_5 : (Unit × List (List (Int × Int)) × Unit × Unit) × Int × Unit), (0 : Int) ≤ g_5.2.1 ∧
 g_5.2.1 ≤ (↑(g_4.1.2.1.getD (g_4.2.1.toNat * nat_lit 8 + (nat_lit 0 + ((g_3.1.1 / g_4.2.2.1 % (8 : Int)).toNat * nat_lit 1 + nat_lit 0))) ([] : List (Int × Int))).length : Int) ∧
 g_5.1.2.1 = List.foldl (putW g_3.1.1) (List.set (g_4.1.2.1.set (g_4.2.1.toNat * nat_lit 8 + (nat_lit 0 + ((g_3.1.1 / g_4.2.2.1 % (8 : Int)).toNat * nat_lit 1 + nat_lit 0))) ([] : List (Int × Int))) (g_4.2.1.toNat * nat_lit 8 + (nat_lit 0 + ((g_3.1.1 / g_4.2.2.1 % (8 : Int)).toNat * nat_lit 1 + nat_lit 0))) ([] : List (Int × Int))) (List.take g_5.2.1.toNat (g_4.1.2.1.getD (g_4.2.1.toNat * nat_lit 8 + (nat_lit 0 + ((g_3.1.1 / g_4.2.2.1 % (8 : Int)).toNat * nat_lit 1 + nat_lit 0))) ([] : List (Int × Int)))) →
 (True ∧
 (g_5.1.2.1.length = (24 : Nat) ∧
 ∀ (xs : List (Int × Int)), xs ∈ g_5.1.2.1 →
 xs.length ≤ (9223372036854775807 : Nat) ∧
 ∀ (x : Int × Int), x ∈ xs →
 ((-9223372036854775808 : Int) ≤ x.1 ∧
 x.1 ≤ (9223372036854775807 : Int)) ∧
 (-9223372036854775808 : Int) ≤ x.2 ∧
 x.2 ≤ (9223372036854775807 : Int)) ∧
 True ∧
 True) ∧
 ((-9223372036854775808 : Int) ≤ g_5.2.1 ∧
 g_5.2.1 ≤ (9223372036854775807 : Int)) ∧
 True →
 (decide (g_5.2.1 < (↑(g_4.1.2.1.getD (g_4.2.1.toNat * nat_lit 8 + (nat_lit 0 + ((g_3.1.1 / g_4.2.2.1 % (8 : Int)).toNat * nat_lit 1 + nat_lit 0))) ([] : List (Int × Int))).length : Int)) = true →
 ((0 : Int) ≤ g_5.2.1 ∧
 g_5.2.1 < (↑(g_4.1.2.1.getD (g_4.2.1.toNat * nat_lit 8 + (nat_lit 0 + ((g_3.1.1 / g_4.2.2.1 % (8 : Int)).toNat * nat_lit 1 + nat_lit 0))) ([] : List (Int × Int))).length : Int)) ∧
 (((RR (0 : Int) ∧
 (1 : Int) = (1 : Int) ∨ (0 : Int) = (1 : Int) ∧
 (1 : Int) = (8 : Int) ∧
 (8 : Int) ≤ ((g_4.1.2.1.getD (g_4.2.1.toNat * nat_lit 8 + (nat_lit 0 + ((g_3.1.1 / g_4.2.2.1 % (8 : Int)).toNat * nat_lit 1 + nat_lit 0))) ([] : List (Int × Int))).getD g_5.2.1.toNat ((0 : Int), (0 : Int))).1 - g_3.1.1 ∨ (0 : Int) = (2 : Int) ∧
 (1 : Int) = (64 : Int) ∧
 (8 : Int) ≤ ((g_4.1.2.1.getD (g_4.2.1.toNat * nat_lit 8 + (nat_lit 0 + ((g_3.1.1 / g_4.2.2.1 % (8 : Int)).toNat * nat_lit 1 + nat_lit 0))) ([] : List (Int × Int))).getD g_5.2.1.toNat ((0 : Int), (0 : Int))).1 - g_3.1.1 ∧
 (8 : Int) ≤ ((g_4.1.2.1.getD (g_4.2.1.toNat * nat_lit 8 + (nat_lit 0 + ((g_3.1.1 / g_4.2.2.1 % (8 : Int)).toNat * nat_lit 1 + nat_lit 0))) ([] : List (Int × Int))).getD g_5.2.1.toNat ((0 : Int), (0 : Int))).1 / (8 : Int) - g_3.1.1 / (8 : Int)) ∧
 True) ∧
 ((True ∧
 True) ∧
 (True ∧
 True) ∧
 RR (1 : Int) ∧
 RR (0 : Int) ∧
 True) ∧
 ((g_3.1.1 = g_3.1.1 ∧
 (True ∧
 True) ∧
 True ∧
 True ∧
 True) ∧
 RR g_5.1.2.1 ∧
 RR g_2.1.2.2.1 ∧
 RR g_2.1.2.2.2 ∧
 (((g_4.1.2.1.getD (g_4.2.1.toNat * nat_lit 8 + (nat_lit 0 + ((g_3.1.1 / g_4.2.2.1 % (8 : Int)).toNat * nat_lit 1 + nat_lit 0))) ([] : List (Int × Int))).getD g_5.2.1.toNat ((0 : Int), (0 : Int))).1 = ((g_4.1.2.1.getD (g_4.2.1.toNat * nat_lit 8 + (nat_lit 0 + ((g_3.1.1 / g_4.2.2.1 % (8 : Int)).toNat * nat_lit 1 + nat_lit 0))) ([] : List (Int × Int))).getD g_5.2.1.toNat ((0 : Int), (0 : Int))).1 ∧
 ((g_4.1.2.1.getD (g_4.2.1.toNat * nat_lit 8 + (nat_lit 0 + ((g_3.1.1 / g_4.2.2.1 % (8 : Int)).toNat * nat_lit 1 + nat_lit 0))) ([] : List (Int × Int))).getD g_5.2.1.toNat ((0 : Int), (0 : Int))).2 = ((g_4.1.2.1.getD (g_4.2.1.toNat * nat_lit 8 + (nat_lit 0 + ((g_3.1.1 / g_4.2.2.1 % (8 : Int)).toNat * nat_lit 1 + nat_lit 0))) ([] : List (Int × Int))).getD g_5.2.1.toNat ((0 : Int), (0 : Int))).2 ∧
 True) ∧
 g_4.1.2.1.getD (g_4.2.1.toNat * nat_lit 8 + (nat_lit 0 + ((g_3.1.1 / g_4.2.2.1 % (8 : Int)).toNat * nat_lit 1 + nat_lit 0))) ([] : List (Int × Int)) = g_4.1.2.1.getD (g_4.2.1.toNat * nat_lit 8 + (nat_lit 0 + ((g_3.1.1 / g_4.2.2.1 % (8 : Int)).toNat * nat_lit 1 + nat_lit 0))) ([] : List (Int × Int)) ∧
 g.2.1 = g.2.1 ∧
 (RR ((opAt x.1 g.2.2.1).1) ∧
 RR ((opAt x.1 g.2.2.1).2.1) ∧
 RR ((opAt x.1 g.2.2.1).2.2) ∧
 True) ∧
 (((g_4.1.2.1.getD (g_4.2.1.toNat * nat_lit 8 + (nat_lit 0 + ((g_3.1.1 / g_4.2.2.1 % (8 : Int)).toNat * nat_lit 1 + nat_lit 0))) ([] : List (Int × Int))).getD g_5.2.1.toNat ((0 : Int), (0 : Int))).1 = ((g_4.1.2.1.getD (g_4.2.1.toNat * nat_lit 8 + (nat_lit 0 + ((g_3.1.1 / g_4.2.2.1 % (8 : Int)).toNat * nat_lit 1 + nat_lit 0))) ([] : List (Int × Int))).getD g_5.2.1.toNat ((0 : Int), (0 : Int))).1 ∧
 ((g_4.1.2.1.getD (g_4.2.1.toNat * nat_lit 8 + (nat_lit 0 + ((g_3.1.1 / g_4.2.2.1 % (8 : Int)).toNat * nat_lit 1 + nat_lit 0))) ([] : List (Int × Int))).getD g_5.2.1.toNat ((0 : Int), (0 : Int))).2 = ((g_4.1.2.1.getD (g_4.2.1.toNat * nat_lit 8 + (nat_lit 0 + ((g_3.1.1 / g_4.2.2.1 % (8 : Int)).toNat * nat_lit 1 + nat_lit 0))) ([] : List (Int × Int))).getD g_5.2.1.toNat ((0 : Int), (0 : Int))).2 ∧
 True) ∧
 True) ∧
 (True ∧
 True) ∧
 True ∧
 g_4.2.1 = g_4.2.1 ∧
 RR g_4.2.2.1 ∧
 True ∧
 (True ∧
 True) ∧
 R32 (True ∧
 True ∧
 True ∧
 True ∧
 True ∧
 (↑(g_4.1.2.1.getD (g_4.2.1.toNat * nat_lit 8 + (nat_lit 0 + ((g_3.1.1 / g_4.2.2.1 % (8 : Int)).toNat * nat_lit 1 + nat_lit 0))) ([] : List (Int × Int))).length : Int) = (↑(g_4.1.2.1.getD (g_4.2.1.toNat * nat_lit 8 + (nat_lit 0 + ((g_3.1.1 / g_4.2.2.1 % (8 : Int)).toNat * nat_lit 1 + nat_lit 0))) ([] : List (Int × Int))).length : Int) ∧
 g_5.2.1 = g_5.2.1 ∧
 true = true ∧
 ((True ∧
 True ∧
 True) ∧
 g_5.2.1.toNat = g_5.2.1.toNat) ∧
 (((g_4.1.2.1.getD (g_4.2.1.toNat * nat_lit 8 + (nat_lit 0 + ((g_3.1.1 / g_4.2.2.1 % (8 : Int)).toNat * nat_lit 1 + nat_lit 0))) ([] : List (Int × Int))).getD g_5.2.1.toNat ((0 : Int), (0 : Int))).1 = ((g_4.1.2.1.getD (g_4.2.1.toNat * nat_lit 8 + (nat_lit 0 + ((g_3.1.1 / g_4.2.2.1 % (8 : Int)).toNat * nat_lit 1 + nat_lit 0))) ([] : List (Int × Int))).getD g_5.2.1.toNat ((0 : Int), (0 : Int))).1 ∧
 ((g_4.1.2.1.getD (g_4.2.1.toNat * nat_lit 8 + (nat_lit 0 + ((g_3.1.1 / g_4.2.2.1 % (8 : Int)).toNat * nat_lit 1 + nat_lit 0))) ([] : List (Int × Int))).getD g_5.2.1.toNat ((0 : Int), (0 : Int))).2 = ((g_4.1.2.1.getD (g_4.2.1.toNat * nat_lit 8 + (nat_lit 0 + ((g_3.1.1 / g_4.2.2.1 % (8 : Int)).toNat * nat_lit 1 + nat_lit 0))) ([] : List (Int × Int))).getD g_5.2.1.toNat ((0 : Int), (0 : Int))).2 ∧
 True) ∧
 (True ∧
 True) ∧
 (((g_4.1.2.1.getD (g_4.2.1.toNat * nat_lit 8 + (nat_lit 0 + ((g_3.1.1 / g_4.2.2.1 % (8 : Int)).toNat * nat_lit 1 + nat_lit 0))) ([] : List (Int × Int))).getD g_5.2.1.toNat ((0 : Int), (0 : Int))).1 = ((g_4.1.2.1.getD (g_4.2.1.toNat * nat_lit 8 + (nat_lit 0 + ((g_3.1.1 / g_4.2.2.1 % (8 : Int)).toNat * nat_lit 1 + nat_lit 0))) ([] : List (Int × Int))).getD g_5.2.1.toNat ((0 : Int), (0 : Int))).1 ∧
 ((g_4.1.2.1.getD (g_4.2.1.toNat * nat_lit 8 + (nat_lit 0 + ((g_3.1.1 / g_4.2.2.1 % (8 : Int)).toNat * nat_lit 1 + nat_lit 0))) ([] : List (Int × Int))).getD g_5.2.1.toNat ((0 : Int), (0 : Int))).2 = ((g_4.1.2.1.getD (g_4.2.1.toNat * nat_lit 8 + (nat_lit 0 + ((g_3.1.1 / g_4.2.2.1 % (8 : Int)).toNat * nat_lit 1 + nat_lit 0))) ([] : List (Int × Int))).getD g_5.2.1.toNat ((0 : Int), (0 : Int))).2 ∧
 True) ∧
 R32 (R32 (True ∧
 True ∧
 True ∧
 True ∧
 (True ∧
 True) ∧
 R32 (R32 (R8 (True ∧
 True ∧
 True ∧
 RR g_1.1.2.2 ∧
 g_2.2.1 = g_2.2.1 ∧
 true = true ∧
 (True ∧
 True) ∧
 R8 ((True ∧
 True) ∧
 True ∧
 True ∧
 (True ∧
 True) ∧
 True ∧
 True ∧
 True ∧
 True ∧
 True ∧
 True ∧
 x.1 = x.1 ∧
 RR (↑x.1.length : Int) ∧
 g.2.2.1 = g.2.2.1 ∧
 true = true ∧
 True ∧
 (RR ((opAt x.1 g.2.2.1).1) ∧
 RR ((opAt x.1 g.2.2.1).2.1) ∧
 RR ((opAt x.1 g.2.2.1).2.2) ∧
 True) ∧
 True ∧
 (True ∧
 True) ∧
 (RR ((opAt x.1 g.2.2.1).1) ∧
 RR ((opAt x.1 g.2.2.1).2.1) ∧
 RR ((opAt x.1 g.2.2.1).2.2) ∧
 True) ∧
 R8 (True ∧
 True ∧
 True ∧
 True ∧
 True ∧
 True ∧
 True))))))))) ∧
 ∀ (g_6 : Int × Int × Unit), g_6.2.1 = (0 : Int) ∧
 g_6.1 = (1 : Int) ∨ g_6.2.1 = (1 : Int) ∧
 g_6.1 = (8 : Int) ∧
 (8 : Int) ≤ ((g_4.1.2.1.getD (g_4.2.1.toNat * nat_lit 8 + (nat_lit 0 + ((g_3.1.1 / g_4.2.2.1 % (8 : Int)).toNat * nat_lit 1 + nat_lit 0))) ([] : List (Int × Int))).getD g_5.2.1.toNat ((0 : Int), (0 : Int))).1 - g_3.1.1 ∨ g_6.2.1 = (2 : Int) ∧
 g_6.1 = (64 : Int) ∧
 (8 : Int) ≤ ((g_4.1.2.1.getD (g_4.2.1.toNat * nat_lit 8 + (nat_lit 0 + ((g_3.1.1 / g_4.2.2.1 % (8 : Int)).toNat * nat_lit 1 + nat_lit 0))) ([] : List (Int × Int))).getD g_5.2.1.toNat ((0 : Int), (0 : Int))).1 - g_3.1.1 ∧
 (8 : Int) ≤ ((g_4.1.2.1.getD (g_4.2.1.toNat * nat_lit 8 + (nat_lit 0 + ((g_3.1.1 / g_4.2.2.1 % (8 : Int)).toNat * nat_lit 1 + nat_lit 0))) ([] : List (Int × Int))).getD g_5.2.1.toNat ((0 : Int), (0 : Int))).1 / (8 : Int) - g_3.1.1 / (8 : Int) →
 ((-9223372036854775808 : Int) ≤ g_6.1 ∧
 g_6.1 ≤ (9223372036854775807 : Int)) ∧
 ((-9223372036854775808 : Int) ≤ g_6.2.1 ∧
 g_6.2.1 ≤ (9223372036854775807 : Int)) ∧
 True →
 (decide (g_6.2.1 < (3 : Int)) = true →
 ((0 : Int) ≤ ((g_4.1.2.1.getD (g_4.2.1.toNat * nat_lit 8 + (nat_lit 0 + ((g_3.1.1 / g_4.2.2.1 % (8 : Int)).toNat * nat_lit 1 + nat_lit 0))) ([] : List (Int × Int))).getD g_5.2.1.toNat ((0 : Int), (0 : Int))).1 ∧
 (0 : Int) < g_6.1) ∧
 ((0 : Int) ≤ g_3.1.1 ∧
 (0 : Int) < g_6.1) ∧
 ((-9223372036854775808 : Int) ≤ ((g_4.1.2.1.getD (g_4.2.1.toNat * nat_lit 8 + (nat_lit 0 + ((g_3.1.1 / g_4.2.2.1 % (8 : Int)).toNat * nat_lit 1 + nat_lit 0))) ([] : List (Int × Int))).getD g_5.2.1.toNat ((0 : Int), (0 : Int))).1 / g_6.1 - g_3.1.1 / g_6.1 ∧
 ((g_4.1.2.1.getD (g_4.2.1.toNat * nat_lit 8 + (nat_lit 0 + ((g_3.1.1 / g_4.2.2.1 % (8 : Int)).toNat * nat_lit 1 + nat_lit 0))) ([] : List (Int × Int))).getD g_5.2.1.toNat ((0 : Int), (0 : Int))).1 / g_6.1 - g_3.1.1 / g_6.1 ≤ (9223372036854775807 : Int)) ∧
 (decide (((g_4.1.2.1.getD (g_4.2.1.toNat * nat_lit 8 + (nat_lit 0 + ((g_3.1.1 / g_4.2.2.1 % (8 : Int)).toNat * nat_lit 1 + nat_lit 0))) ([] : List (Int × Int))).getD g_5.2.1.toNat ((0 : Int), (0 : Int))).1 / g_6.1 - g_3.1.1 / g_6.1 < (8 : Int)) = false →
 ((g_6.2.1 == (2 : Int)) = true →
 ((0 : Int) ≤ ((g_4.1.2.1.getD (g_4.2.1.toNat * nat_lit 8 + (nat_lit 0 + ((g_3.1.1 / g_4.2.2.1 % (8 : Int)).toNat * nat_lit 1 + nat_lit 0))) ([] : List (Int × Int))).getD g_5.2.1.toNat ((0 : Int), (0 : Int))).1 ∧
 (0 : Int) < g_6.1) ∧
 ((0 : Int) ≤ ((g_4.1.2.1.getD (g_4.2.1.toNat * nat_lit 8 + (nat_lit 0 + ((g_3.1.1 / g_4.2.2.1 % (8 : Int)).toNat * nat_lit 1 + nat_lit 0))) ([] : List (Int × Int))).getD g_5.2.1.toNat ((0 : Int), (0 : Int))).1 / g_6.1 ∧
 (0 : Int) < (8 : Int)) ∧
 ((0 : Int) ≤ g_6.2.1 ∧
 g_6.2.1 < (↑(3 : Nat) : Int)) ∧
 ((0 : Int) ≤ ((g_4.1.2.1.getD (g_4.2.1.toNat * nat_lit 8 + (nat_lit 0 + ((g_3.1.1 / g_4.2.2.1 % (8 : Int)).toNat * nat_lit 1 + nat_lit 0))) ([] : List (Int × Int))).getD g_5.2.1.toNat ((0 : Int), (0 : Int))).1 / g_6.1 % (8 : Int) ∧
 ((g_4.1.2.1.getD (g_4.2.1.toNat * nat_lit 8 + (nat_lit 0 + ((g_3.1.1 / g_4.2.2.1 % (8 : Int)).toNat * nat_lit 1 + nat_lit 0))) ([] : List (Int × Int))).getD g_5.2.1.toNat ((0 : Int), (0 : Int))).1 / g_6.1 % (8 : Int) < (↑(8 : Nat) : Int)) ∧
 (g_6.2.1.toNat * nat_lit 8 + (nat_lit 0 + ((((g_4.1.2.1.getD (g_4.2.1.toNat * nat_lit 8 + (nat_lit 0 + ((g_3.1.1 / g_4.2.2.1 % (8 : Int)).toNat * nat_lit 1 + nat_lit 0))) ([] : List (Int × Int))).getD g_5.2.1.toNat ((0 : Int), (0 : Int))).1 / g_6.1 % (8 : Int)).toNat * nat_lit 1 + nat_lit 0)) < nat_lit 24 ∧
 ((g_5.1.2.1.getD (g_6.2.1.toNat * nat_lit 8 + (nat_lit 0 + ((((g_4.1.2.1.getD (g_4.2.1.toNat * nat_lit 8 + (nat_lit 0 + ((g_3.1.1 / g_4.2.2.1 % (8 : Int)).toNat * nat_lit 1 + nat_lit 0))) ([] : List (Int × Int))).getD g_5.2.1.toNat ((0 : Int), (0 : Int))).1 / g_6.1 % (8 : Int)).toNat * nat_lit 1 + nat_lit 0))) ([] : List (Int × Int))).length + ((((0 : Int), (0 : Int)) :: ([] : List (Int × Int))).set (0 : Nat) (((g_4.1.2.1.getD (g_4.2.1.toNat * nat_lit 8 + (nat_lit 0 + ((g_3.1.1 / g_4.2.2.1 % (8 : Int)).toNat * nat_lit 1 + nat_lit 0))) ([] : List (Int × Int))).getD g_5.2.1.toNat ((0 : Int), (0 : Int))).1, ((g_4.1.2.1.getD (g_4.2.1.toNat * nat_lit 8 + (nat_lit 0 + ((g_3.1.1 / g_4.2.2.1 % (8 : Int)).toNat * nat_lit 1 + nat_lit 0))) ([] : List (Int × Int))).getD g_5.2.1.toNat ((0 : Int), (0 : Int))).2)).length ≤ (9223372036854775807 : Nat) ∧
 ((g_5.1.2.1.getD (g_6.2.1.toNat * nat_lit 8 + (nat_lit 0 + ((((g_4.1.2.1.getD (g_4.2.1.toNat * nat_lit 8 + (nat_lit 0 + ((g_3.1.1 / g_4.2.2.1 % (8 : Int)).toNat * nat_lit 1 + nat_lit 0))) ([] : List (Int × Int))).getD g_5.2.1.toNat ((0 : Int), (0 : Int))).1 / g_6.1 % (8 : Int)).toNat * nat_lit 1 + nat_lit 0))) ([] : List (Int × Int))).length + ((((0 : Int), (0 : Int)) :: ([] : List (Int × Int))).set (0 : Nat) (((g_4.1.2.1.getD (g_4.2.1.toNat * nat_lit 8 + (nat_lit 0 + ((g_3.1.1 / g_4.2.2.1 % (8 : Int)).toNat * nat_lit 1 + nat_lit 0))) ([] : List (Int × Int))).getD g_5.2.1.toNat ((0 : Int), (0 : Int))).1, ((g_4.1.2.1.getD (g_4.2.1.toNat * nat_lit 8 + (nat_lit 0 + ((g_3.1.1 / g_4.2.2.1 % (8 : Int)).toNat * nat_lit 1 + nat_lit 0))) ([] : List (Int × Int))).getD g_5.2.1.toNat ((0 : Int), (0 : Int))).2)).length + ((g_5.1.2.1.getD (g_6.2.1.toNat * nat_lit 8 + (nat_lit 0 + ((((g_4.1.2.1.getD (g_4.2.1.toNat * nat_lit 8 + (nat_lit 0 + ((g_3.1.1 / g_4.2.2.1 % (8 : Int)).toNat * nat_lit 1 + nat_lit 0))) ([] : List (Int × Int))).getD g_5.2.1.toNat ((0 : Int), (0 : Int))).1 / g_6.1 % (8 : Int)).toNat * nat_lit 1 + nat_lit 0))) ([] : List (Int × Int))).length + ((((0 : Int), (0 : Int)) :: ([] : List (Int × Int))).set (0 : Nat) (((g_4.1.2.1.getD (g_4.2.1.toNat * nat_lit 8 + (nat_lit 0 + ((g_3.1.1 / g_4.2.2.1 % (8 : Int)).toNat * nat_lit 1 + nat_lit 0))) ([] : List (Int × Int))).getD g_5.2.1.toNat ((0 : Int), (0 : Int))).1, ((g_4.1.2.1.getD (g_4.2.1.toNat * nat_lit 8 + (nat_lit 0 + ((g_3.1.1 / g_4.2.2.1 % (8 : Int)).toNat * nat_lit 1 + nat_lit 0))) ([] : List (Int × Int))).getD g_5.2.1.toNat ((0 : Int), (0 : Int))).2)).length) / (4 : Nat) + (192 : Nat)) * (16 : Nat) ≤ (281474976710656 : Nat)) ∧
 g_6.2.1.toNat * nat_lit 8 + (nat_lit 0 + ((((g_4.1.2.1.getD (g_4.2.1.toNat * nat_lit 8 + (nat_lit 0 + ((g_3.1.1 / g_4.2.2.1 % (8 : Int)).toNat * nat_lit 1 + nat_lit 0))) ([] : List (Int × Int))).getD g_5.2.1.toNat ((0 : Int), (0 : Int))).1 / g_6.1 % (8 : Int)).toNat * nat_lit 1 + nat_lit 0)) = g_6.2.1.toNat * nat_lit 8 + (nat_lit 0 + ((((g_4.1.2.1.getD (g_4.2.1.toNat * nat_lit 8 + (nat_lit 0 + ((g_3.1.1 / g_4.2.2.1 % (8 : Int)).toNat * nat_lit 1 + nat_lit 0))) ([] : List (Int × Int))).getD g_5.2.1.toNat ((0 : Int), (0 : Int))).1 / g_6.1 % (8 : Int)).toNat * nat_lit 1 + nat_lit 0)) ∧
 ((-9223372036854775808 : Int) ≤ g_5.2.1 + (1 : Int) ∧
 g_5.2.1 + (1 : Int) ≤ (9223372036854775807 : Int)) ∧
 (((0 : Int) ≤ g_5.2.1 + (1 : Int) ∧
 g_5.2.1 + (1 : Int) ≤ (↑(g_4.1.2.1.getD (g_4.2.1.toNat * nat_lit 8 + (nat_lit 0 + ((g_3.1.1 / g_4.2.2.1 % (8 : Int)).toNat * nat_lit 1 + nat_lit 0))) ([] : List (Int × Int))).length : Int) ∧
 (g_5.1.2.1.set (g_6.2.1.toNat * nat_lit 8 + (nat_lit 0 + ((((g_4.1.2.1.getD (g_4.2.1.toNat * nat_lit 8 + (nat_lit 0 + ((g_3.1.1 / g_4.2.2.1 % (8 : Int)).toNat * nat_lit 1 + nat_lit 0))) ([] : List (Int × Int))).getD g_5.2.1.toNat ((0 : Int), (0 : Int))).1 / g_6.1 % (8 : Int)).toNat * nat_lit 1 + nat_lit 0))) ([] : List (Int × Int))).set (g_6.2.1.toNat * nat_lit 8 + (nat_lit 0 + ((((g_4.1.2.1.getD (g_4.2.1.toNat * nat_lit 8 + (nat_lit 0 + ((g_3.1.1 / g_4.2.2.1 % (8 : Int)).toNat * nat_lit 1 + nat_lit 0))) ([] : List (Int × Int))).getD g_5.2.1.toNat ((0 : Int), (0 : Int))).1 / g_6.1 % (8 : Int)).toNat * nat_lit 1 + nat_lit 0))) (g_5.1.2.1.getD (g_6.2.1.toNat * nat_lit 8 + (nat_lit 0 + ((((g_4.1.2.1.getD (g_4.2.1.toNat * nat_lit 8 + (nat_lit 0 + ((g_3.1.1 / g_4.2.2.1 % (8 : Int)).toNat * nat_lit 1 + nat_lit 0))) ([] : List (Int × Int))).getD g_5.2.1.toNat ((0 : Int), (0 : Int))).1 / g_6.1 % (8 : Int)).toNat * nat_lit 1 + nat_lit 0))) ([] : List (Int × Int)) ++ (((0 : Int), (0 : Int)) :: ([] : List (Int × Int))).set (0 : Nat) (((g_4.1.2.1.getD (g_4.2.1.toNat * nat_lit 8 + (nat_lit 0 + ((g_3.1.1 / g_4.2.2.1 % (8 : Int)).toNat * nat_lit 1 + nat_lit 0))) ([] : List (Int × Int))).getD g_5.2.1.toNat ((0 : Int), (0 : Int))).1, ((g_4.1.2.1.getD (g_4.2.1.toNat * nat_lit 8 + (nat_lit 0 + ((g_3.1.1 / g_4.2.2.1 % (8 : Int)).toNat * nat_lit 1 + nat_lit 0))) ([] : List (Int × Int))).getD g_5.2.1.toNat ((0 : Int), (0 : Int))).2)) = List.foldl (putW g_3.1.1) (List.set (g_4.1.2.1.set (g_4.2.1.toNat * nat_lit 8 + (nat_lit 0 + ((g_3.1.1 / g_4.2.2.1 % (8 : Int)).toNat * nat_lit 1 + nat_lit 0))) ([] : List (Int × Int))) (g_4.2.1.toNat * nat_lit 8 + (nat_lit 0 + ((g_3.1.1 / g_4.2.2.1 % (8 : Int)).toNat * nat_lit 1 + nat_lit 0))) ([] : List (Int × Int))) (List.take (g_5.2.1 + (1 : Int)).toNat (g_4.1.2.1.getD (g_4.2.1.toNat * nat_lit 8 + (nat_lit 0 + ((g_3.1.1 / g_4.2.2.1 % (8 : Int)).toNat * nat_lit 1 + nat_lit 0))) ([] : List (Int × Int))))) ∧
 ((↑(g_4.1.2.1.getD (g_4.2.1.toNat * nat_lit 8 + (nat_lit 0 + ((g_3.1.1 / g_4.2.2.1 % (8 : Int)).toNat * nat_lit 1 + nat_lit 0))) ([] : List (Int × Int))).length : Int) - (g_5.2.1 + (1 : Int))).toNat < ((↑(g_4.1.2.1.getD (g_4.2.1.toNat * nat_lit 8 + (nat_lit 0 + ((g_3.1.1 / g_4.2.2.1 % (8 : Int)).toNat * nat_lit 1 + nat_lit 0))) ([] : List (Int × Int))).length : Int) - g_5.2.1).toNat) ∧
 ((True ∧
 True) ∧
 g_4.2.1 = g_4.2.1 ∧
 RR g_4.2.2.1 ∧
 True ∧
 (↑(g_4.1.2.1.getD (g_4.2.1.toNat * nat_lit 8 + (nat_lit 0 + ((g_3.1.1 / g_4.2.2.1 % (8 : Int)).toNat * nat_lit 1 + nat_lit 0))) ([] : List (Int × Int))).length : Int) = (↑(g_4.1.2.1.getD (g_4.2.1.toNat * nat_lit 8 + (nat_lit 0 + ((g_3.1.1 / g_4.2.2.1 % (8 : Int)).toNat * nat_lit 1 + nat_lit 0))) ([] : List (Int × Int))).length : Int) ∧
 g_5.2.1 + (1 : Int) = g_5.2.1 + (1 : Int) ∧
 True) ∧
 ((g_3.1.1 = g_3.1.1 ∧
 (True ∧
 True) ∧
 True ∧
 True ∧
 True) ∧
 (g_5.1.2.1.set (g_6.2.1.toNat * nat_lit 8 + (nat_lit 0 + ((((g_4.1.2.1.getD (g_4.2.1.toNat * nat_lit 8 + (nat_lit 0 + ((g_3.1.1 / g_4.2.2.1 % (8 : Int)).toNat * nat_lit 1 + nat_lit 0))) ([] : List (Int × Int))).getD g_5.2.1.toNat ((0 : Int), (0 : Int))).1 / g_6.1 % (8 : Int)).toNat * nat_lit 1 + nat_lit 0))) ([] : List (Int × Int))).set (g_6.2.1.toNat * nat_lit 8 + (nat_lit 0 + ((((g_4.1.2.1.getD (g_4.2.1.toNat * nat_lit 8 + (nat_lit 0 + ((g_3.1.1 / g_4.2.2.1 % (8 : Int)).toNat * nat_lit 1 + nat_lit 0))) ([] : List (Int × Int))).getD g_5.2.1.toNat ((0 : Int), (0 : Int))).1 / g_6.1 % (8 : Int)).toNat * nat_lit 1 + nat_lit 0))) (g_5.1.2.1.getD (g_6.2.1.toNat * nat_lit 8 + (nat_lit 0 + ((((g_4.1.2.1.getD (g_4.2.1.toNat * nat_lit 8 + (nat_lit 0 + ((g_3.1.1 / g_4.2.2.1 % (8 : Int)).toNat * nat_lit 1 + nat_lit 0))) ([] : List (Int × Int))).getD g_5.2.1.toNat ((0 : Int), (0 : Int))).1 / g_6.1 % (8 : Int)).toNat * nat_lit 1 + nat_lit 0))) ([] : List (Int × Int)) ++ (((0 : Int), (0 : Int)) :: ([] : List (Int × Int))).set (0 : Nat) (((g_4.1.2.1.getD (g_4.2.1.toNat * nat_lit 8 + (nat_lit 0 + ((g_3.1.1 / g_4.2.2.1 % (8 : Int)).toNat * nat_lit 1 + nat_lit 0))) ([] : List (Int × Int))).getD g_5.2.1.toNat ((0 : Int), (0 : Int))).1, ((g_4.1.2.1.getD (g_4.2.1.toNat * nat_lit 8 + (nat_lit 0 + ((g_3.1.1 / g_4.2.2.1 % (8 : Int)).toNat * nat_lit 1 + nat_lit 0))) ([] : List (Int × Int))).getD g_5.2.1.toNat ((0 : Int), (0 : Int))).2)) = (g_5.1.2.1.set (g_6.2.1.toNat * nat_lit 8 + (nat_lit 0 + ((((g_4.1.2.1.getD (g_4.2.1.toNat * nat_lit 8 + (nat_lit 0 + ((g_3.1.1 / g_4.2.2.1 % (8 : Int)).toNat * nat_lit 1 + nat_lit 0))) ([] : List (Int × Int))).getD g_5.2.1.toNat ((0 : Int), (0 : Int))).1 / g_6.1 % (8 : Int)).toNat * nat_lit 1 + nat_lit 0))) ([] : List (Int × Int))).set (g_6.2.1.toNat * nat_lit 8 + (nat_lit 0 + ((((g_4.1.2.1.getD (g_4.2.1.toNat * nat_lit 8 + (nat_lit 0 + ((g_3.1.1 / g_4.2.2.1 % (8 : Int)).toNat * nat_lit 1 + nat_lit 0))) ([] : List (Int × Int))).getD g_5.2.1.toNat ((0 : Int), (0 : Int))).1 / g_6.1 % (8 : Int)).toNat * nat_lit 1 + nat_lit 0))) (g_5.1.2.1.getD (g_6.2.1.toNat * nat_lit 8 + (nat_lit 0 + ((((g_4.1.2.1.getD (g_4.2.1.toNat * nat_lit 8 + (nat_lit 0 + ((g_3.1.1 / g_4.2.2.1 % (8 : Int)).toNat * nat_lit 1 + nat_lit 0))) ([] : List (Int × Int))).getD g_5.2.1.toNat ((0 : Int), (0 : Int))).1 / g_6.1 % (8 : Int)).toNat * nat_lit 1 + nat_lit 0))) ([] : List (Int × Int)) ++ (((0 : Int), (0 : Int)) :: ([] : List (Int × Int))).set (0 : Nat) (((g_4.1.2.1.getD (g_4.2.1.toNat * nat_lit 8 + (nat_lit 0 + ((g_3.1.1 / g_4.2.2.1 % (8 : Int)).toNat * nat_lit 1 + nat_lit 0))) ([] : List (Int × Int))).getD g_5.2.1.toNat ((0 : Int), (0 : Int))).1, ((g_4.1.2.1.getD (g_4.2.1.toNat * nat_lit 8 + (nat_lit 0 + ((g_3.1.1 / g_4.2.2.1 % (8 : Int)).toNat * nat_lit 1 + nat_lit 0))) ([] : List (Int × Int))).getD g_5.2.1.toNat ((0 : Int), (0 : Int))).2)) ∧
 g.2.1 = g.2.1 ∧
 (RR ((opAt x.1 g.2.2.1).1) ∧
 RR ((opAt x.1 g.2.2.1).2.1) ∧
 RR ((opAt x.1 g.2.2.1).2.2) ∧
 True) ∧
 RR g_2.1.2.2.1 ∧
 RR g_2.1.2.2.2 ∧
 g_4.1.2.1.getD (g_4.2.1.toNat * nat_lit 8 + (nat_lit 0 + ((g_3.1.1 / g_4.2.2.1 % (8 : Int)).toNat * nat_lit 1 + nat_lit 0))) ([] : List (Int × Int)) = g_4.1.2.1.getD (g_4.2.1.toNat * nat_lit 8 + (nat_lit 0 + ((g_3.1.1 / g_4.2.2.1 % (8 : Int)).toNat * nat_lit 1 + nat_lit 0))) ([] : List (Int × Int)) ∧
 True) ∧
 (True ∧
 True) ∧
 R32 (R32 (R8 (True ∧
 True ∧
 True ∧
 RR g_1.1.2.2 ∧
 g_2.2.1 = g_2.2.1 ∧
 true = true ∧
 (True ∧
 True) ∧
 R8 ((True ∧
 True) ∧
 True ∧
 True ∧
 (True ∧
 True) ∧
 True ∧
 True ∧
 True ∧
 True ∧
 True ∧
 True ∧
 x.1 = x.1 ∧
 RR (↑x.1.length : Int) ∧
 g.2.2.1 = g.2.2.1 ∧
 true = true ∧
 True ∧
 (RR ((opAt x.1 g.2.2.1).1) ∧
 RR ((opAt x.1 g.2.2.1).2.1) ∧
 RR ((opAt x.1 g.2.2.1).2.2) ∧
 True) ∧
 True ∧
 (True ∧
 True) ∧
 (RR ((opAt x.1 g.2.2.1).1) ∧
 RR ((opAt x.1 g.2.2.1).2.1) ∧
 RR ((opAt x.1 g.2.2.1).2.2) ∧
 True) ∧
 R8 (True ∧
 True ∧
 True ∧
 True ∧
 True ∧
 True ∧
 True)))))) ∧
 (g_6.2.1.toNat * nat_lit 8 + (nat_lit 0 + ((((g_4.1.2.1.getD (g_4.2.1.toNat * nat_lit 8 + (nat_lit 0 + ((g_3.1.1 / g_4.2.2.1 % (8 : Int)).toNat * nat_lit 1 + nat_lit 0))) ([] : List (Int × Int))).getD g_5.2.1.toNat ((0 : Int), (0 : Int))).1 / g_6.1 % (8 : Int)).toNat * nat_lit 1 + nat_lit 0)) < nat_lit 24 ∧
 ((g_5.1.2.1.getD (g_6.2.1.toNat * nat_lit 8 + (nat_lit 0 + ((((g_4.1.2.1.getD (g_4.2.1.toNat * nat_lit 8 + (nat_lit 0 + ((g_3.1.1 / g_4.2.2.1 % (8 : Int)).toNat * nat_lit 1 + nat_lit 0))) ([] : List (Int × Int))).getD g_5.2.1.toNat ((0 : Int), (0 : Int))).1 / g_6.1 % (8 : Int)).toNat * nat_lit 1 + nat_lit 0))) ([] : List (Int × Int))).length + ((((0 : Int), (0 : Int)) :: ([] : List (Int × Int))).set (0 : Nat) (((g_4.1.2.1.getD (g_4.2.1.toNat * nat_lit 8 + (nat_lit 0 + ((g_3.1.1 / g_4.2.2.1 % (8 : Int)).toNat * nat_lit 1 + nat_lit 0))) ([] : List (Int × Int))).getD g_5.2.1.toNat ((0 : Int), (0 : Int))).1, ((g_4.1.2.1.getD (g_4.2.1.toNat * nat_lit 8 + (nat_lit 0 + ((g_3.1.1 / g_4.2.2.1 % (8 : Int)).toNat * nat_lit 1 + nat_lit 0))) ([] : List (Int × Int))).getD g_5.2.1.toNat ((0 : Int), (0 : Int))).2)).length ≤ (9223372036854775807 : Nat) ∧
 ((g_5.1.2.1.getD (g_6.2.1.toNat * nat_lit 8 + (nat_lit 0 + ((((g_4.1.2.1.getD (g_4.2.1.toNat * nat_lit 8 + (nat_lit 0 + ((g_3.1.1 / g_4.2.2.1 % (8 : Int)).toNat * nat_lit 1 + nat_lit 0))) ([] : List (Int × Int))).getD g_5.2.1.toNat ((0 : Int), (0 : Int))).1 / g_6.1 % (8 : Int)).toNat * nat_lit 1 + nat_lit 0))) ([] : List (Int × Int))).length + ((((0 : Int), (0 : Int)) :: ([] : List (Int × Int))).set (0 : Nat) (((g_4.1.2.1.getD (g_4.2.1.toNat * nat_lit 8 + (nat_lit 0 + ((g_3.1.1 / g_4.2.2.1 % (8 : Int)).toNat * nat_lit 1 + nat_lit 0))) ([] : List (Int × Int))).getD g_5.2.1.toNat ((0 : Int), (0 : Int))).1, ((g_4.1.2.1.getD (g_4.2.1.toNat * nat_lit 8 + (nat_lit 0 + ((g_3.1.1 / g_4.2.2.1 % (8 : Int)).toNat * nat_lit 1 + nat_lit 0))) ([] : List (Int × Int))).getD g_5.2.1.toNat ((0 : Int), (0 : Int))).2)).length + ((g_5.1.2.1.getD (g_6.2.1.toNat * nat_lit 8 + (nat_lit 0 + ((((g_4.1.2.1.getD (g_4.2.1.toNat * nat_lit 8 + (nat_lit 0 + ((g_3.1.1 / g_4.2.2.1 % (8 : Int)).toNat * nat_lit 1 + nat_lit 0))) ([] : List (Int × Int))).getD g_5.2.1.toNat ((0 : Int), (0 : Int))).1 / g_6.1 % (8 : Int)).toNat * nat_lit 1 + nat_lit 0))) ([] : List (Int × Int))).length + ((((0 : Int), (0 : Int)) :: ([] : List (Int × Int))).set (0 : Nat) (((g_4.1.2.1.getD (g_4.2.1.toNat * nat_lit 8 + (nat_lit 0 + ((g_3.1.1 / g_4.2.2.1 % (8 : Int)).toNat * nat_lit 1 + nat_lit 0))) ([] : List (Int × Int))).getD g_5.2.1.toNat ((0 : Int), (0 : Int))).1, ((g_4.1.2.1.getD (g_4.2.1.toNat * nat_lit 8 + (nat_lit 0 + ((g_3.1.1 / g_4.2.2.1 % (8 : Int)).toNat * nat_lit 1 + nat_lit 0))) ([] : List (Int × Int))).getD g_5.2.1.toNat ((0 : Int), (0 : Int))).2)).length) / (4 : Nat) + (192 : Nat)) * (16 : Nat) ≤ (281474976710656 : Nat)) ∧
 g_6.2.1.toNat * nat_lit 8 + (nat_lit 0 + ((((g_4.1.2.1.getD (g_4.2.1.toNat * nat_lit 8 + (nat_lit 0 + ((g_3.1.1 / g_4.2.2.1 % (8 : Int)).toNat * nat_lit 1 + nat_lit 0))) ([] : List (Int × Int))).getD g_5.2.1.toNat ((0 : Int), (0 : Int))).1 / g_6.1 % (8 : Int)).toNat * nat_lit 1 + nat_lit 0)) = g_6.2.1.toNat * nat_lit 8 + (nat_lit 0 + ((((g_4.1.2.1.getD (g_4.2.1.toNat * nat_lit 8 + (nat_lit 0 + ((g_3.1.1 / g_4.2.2.1 % (8 : Int)).toNat * nat_lit 1 + nat_lit 0))) ([] : List (Int × Int))).getD g_5.2.1.toNat ((0 : Int), (0 : Int))).1 / g_6.1 % (8 : Int)).toNat * nat_lit 1 + nat_lit 0)) ∧
 ((-9223372036854775808 : Int) ≤ g_5.2.1 + (1 : Int) ∧
 g_5.2.1 + (1 : Int) ≤ (9223372036854775807 : Int)) ∧
 (((0 : Int) ≤ g_5.2.1 + (1 : Int) ∧
 g_5.2.1 + (1 : Int) ≤ (↑(g_4.1.2.1.getD (g_4.2.1.toNat * nat_lit 8 + (nat_lit 0 + ((g_3.1.1 / g_4.2.2.1 % (8 : Int)).toNat * nat_lit 1 + nat_lit 0))) ([] : List (Int × Int))).length : Int) ∧
 (g_5.1.2.1.set (g_6.2.1.toNat * nat_lit 8 + (nat_lit 0 + ((((g_4.1.2.1.getD (g_4.2.1.toNat * nat_lit 8 + (nat_lit 0 + ((g_3.1.1 / g_4.2.2.1 % (8 : Int)).toNat * nat_lit 1 + nat_lit 0))) ([] : List (Int × Int))).getD g_5.2.1.toNat ((0 : Int), (0 : Int))).1 / g_6.1 % (8 : Int)).toNat * nat_lit 1 + nat_lit 0))) ([] : List (Int × Int))).set (g_6.2.1.toNat * nat_lit 8 + (nat_lit 0 + ((((g_4.1.2.1.getD (g_4.2.1.toNat * nat_lit 8 + (nat_lit 0 + ((g_3.1.1 / g_4.2.2.1 % (8 : Int)).toNat * nat_lit 1 + nat_lit 0))) ([] : List (Int × Int))).getD g_5.2.1.toNat ((0 : Int), (0 : Int))).1 / g_6.1 % (8 : Int)).toNat * nat_lit 1 + nat_lit 0))) (g_5.1.2.1.getD (g_6.2.1.toNat * nat_lit 8 + (nat_lit 0 + ((((g_4.1.2.1.getD (g_4.2.1.toNat * nat_lit 8 + (nat_lit 0 + ((g_3.1.1 / g_4.2.2.1 % (8 : Int)).toNat * nat_lit 1 + nat_lit 0))) ([] : List (Int × Int))).getD g_5.2.1.toNat ((0 : Int), (0 : Int))).1 / g_6.1 % (8 : Int)).toNat * nat_lit 1 + nat_lit 0))) ([] : List (Int × Int)) ++ (((0 : Int), (0 : Int)) :: ([] : List (Int × Int))).set (0 : Nat) (((g_4.1.2.1.getD (g_4.2.1.toNat * nat_lit 8 + (nat_lit 0 + ((g_3.1.1 / g_4.2.2.1 % (8 : Int)).toNat * nat_lit 1 + nat_lit 0))) ([] : List (Int × Int))).getD g_5.2.1.toNat ((0 : Int), (0 : Int))).1, ((g_4.1.2.1.getD (g_4.2.1.toNat * nat_lit 8 + (nat_lit 0 + ((g_3.1.1 / g_4.2.2.1 % (8 : Int)).toNat * nat_lit 1 + nat_lit 0))) ([] : List (Int × Int))).getD g_5.2.1.toNat ((0 : Int), (0 : Int))).2)) = List.foldl (putW g_3.1.1) (List.set (g_4.1.2.1.set (g_4.2.1.toNat * nat_lit 8 + (nat_lit 0 + ((g_3.1.1 / g_4.2.2.1 % (8 : Int)).toNat * nat_lit 1 + nat_lit 0))) ([] : List (Int × Int))) (g_4.2.1.toNat * nat_lit 8 + (nat_lit 0 + ((g_3.1.1 / g_4.2.2.1 % (8 : Int)).toNat * nat_lit 1 + nat_lit 0))) ([] : List (Int × Int))) (List.take (g_5.2.1 + (1 : Int)).toNat (g_4.1.2.1.getD (g_4.2.1.toNat * nat_lit 8 + (nat_lit 0 + ((g_3.1.1 / g_4.2.2.1 % (8 : Int)).toNat * nat_lit 1 + nat_lit 0))) ([] : List (Int × Int))))) ∧
 ((↑(g_4.1.2.1.getD (g_4.2.1.toNat * nat_lit 8 + (nat_lit 0 + ((g_3.1.1 / g_4.2.2.1 % (8 : Int)).toNat * nat_lit 1 + nat_lit 0))) ([] : List (Int × Int))).length : Int) - (g_5.2.1 + (1 : Int))).toNat < ((↑(g_4.1.2.1.getD (g_4.2.1.toNat * nat_lit 8 + (nat_lit 0 + ((g_3.1.1 / g_4.2.2.1 % (8 : Int)).toNat * nat_lit 1 + nat_lit 0))) ([] : List (Int × Int))).length : Int) - g_5.2.1).toNat) ∧
 ((True ∧
 True) ∧
 g_4.2.1 = g_4.2.1 ∧
 RR g_4.2.2.1 ∧
 True ∧
 (↑(g_4.1.2.1.getD (g_4.2.1.toNat * nat_lit 8 + (nat_lit 0 + ((g_3.1.1 / g_4.2.2.1 % (8 : Int)).toNat * nat_lit 1 + nat_lit 0))) ([] : List (Int × Int))).length : Int) = (↑(g_4.1.2.1.getD (g_4.2.1.toNat * nat_lit 8 + (nat_lit 0 + ((g_3.1.1 / g_4.2.2.1 % (8 : Int)).toNat * nat_lit 1 + nat_lit 0))) ([] : List (Int × Int))).length : Int) ∧
 g_5.2.1 + (1 : Int) = g_5.2.1 + (1 : Int) ∧
 True) ∧
 ((g_3.1.1 = g_3.1.1 ∧
 (True ∧
 True) ∧
 True ∧
 True ∧
 True) ∧
 (g_5.1.2.1.set (g_6.2.1.toNat * nat_lit 8 + (nat_lit 0 + ((((g_4.1.2.1.getD (g_4.2.1.toNat * nat_lit 8 + (nat_lit 0 + ((g_3.1.1 / g_4.2.2.1 % (8 : Int)).toNat * nat_lit 1 + nat_lit 0))) ([] : List (Int × Int))).getD g_5.2.1.toNat ((0 : Int), (0 : Int))).1 / g_6.1 % (8 : Int)).toNat * nat_lit 1 + nat_lit 0))) ([] : List (Int × Int))).set (g_6.2.1.toNat * nat_lit 8 + (nat_lit 0 + ((((g_4.1.2.1.getD (g_4.2.1.toNat * nat_lit 8 + (nat_lit 0 + ((g_3.1.1 / g_4.2.2.1 % (8 : Int)).toNat * nat_lit 1 + nat_lit 0))) ([] : List (Int × Int))).getD g_5.2.1.toNat ((0 : Int), (0 : Int))).1 / g_6.1 % (8 : Int)).toNat * nat_lit 1 + nat_lit 0))) (g_5.1.2.1.getD (g_6.2.1.toNat * nat_lit 8 + (nat_lit 0 + ((((g_4.1.2.1.getD (g_4.2.1.toNat * nat_lit 8 + (nat_lit 0 + ((g_3.1.1 / g_4.2.2.1 % (8 : Int)).toNat * nat_lit 1 + nat_lit 0))) ([] : List (Int × Int))).getD g_5.2.1.toNat ((0 : Int), (0 : Int))).1 / g_6.1 % (8 : Int)).toNat * nat_lit 1 + nat_lit 0))) ([] : List (Int × Int)) ++ (((0 : Int), (0 : Int)) :: ([] : List (Int × Int))).set (0 : Nat) (((g_4.1.2.1.getD (g_4.2.1.toNat * nat_lit 8 + (nat_lit 0 + ((g_3.1.1 / g_4.2.2.1 % (8 : Int)).toNat * nat_lit 1 + nat_lit 0))) ([] : List (Int × Int))).getD g_5.2.1.toNat ((0 : Int), (0 : Int))).1, ((g_4.1.2.1.getD (g_4.2.1.toNat * nat_lit 8 + (nat_lit 0 + ((g_3.1.1 / g_4.2.2.1 % (8 : Int)).toNat * nat_lit 1 + nat_lit 0))) ([] : List (Int × Int))).getD g_5.2.1.toNat ((0 : Int), (0 : Int))).2)) = (g_5.1.2.1.set (g_6.2.1.toNat * nat_lit 8 + (nat_lit 0 + ((((g_4.1.2.1.getD (g_4.2.1.toNat * nat_lit 8 + (nat_lit 0 + ((g_3.1.1 / g_4.2.2.1 % (8 : Int)).toNat * nat_lit 1 + nat_lit 0))) ([] : List (Int × Int))).getD g_5.2.1.toNat ((0 : Int), (0 : Int))).1 / g_6.1 % (8 : Int)).toNat * nat_lit 1 + nat_lit 0))) ([] : List (Int × Int))).set (g_6.2.1.toNat * nat_lit 8 + (nat_lit 0 + ((((g_4.1.2.1.getD (g_4.2.1.toNat * nat_lit 8 + (nat_lit 0 + ((g_3.1.1 / g_4.2.2.1 % (8 : Int)).toNat * nat_lit 1 + nat_lit 0))) ([] : List (Int × Int))).getD g_5.2.1.toNat ((0 : Int), (0 : Int))).1 / g_6.1 % (8 : Int)).toNat * nat_lit 1 + nat_lit 0))) (g_5.1.2.1.getD (g_6.2.1.toNat * nat_lit 8 + (nat_lit 0 + ((((g_4.1.2.1.getD (g_4.2.1.toNat * nat_lit 8 + (nat_lit 0 + ((g_3.1.1 / g_4.2.2.1 % (8 : Int)).toNat * nat_lit 1 + nat_lit 0))) ([] : List (Int × Int))).getD g_5.2.1.toNat ((0 : Int), (0 : Int))).1 / g_6.1 % (8 : Int)).toNat * nat_lit 1 + nat_lit 0))) ([] : List (Int × Int)) ++ (((0 : Int), (0 : Int)) :: ([] : List (Int × Int))).set (0 : Nat) (((g_4.1.2.1.getD (g_4.2.1.toNat * nat_lit 8 + (nat_lit 0 + ((g_3.1.1 / g_4.2.2.1 % (8 : Int)).toNat * nat_lit 1 + nat_lit 0))) ([] : List (Int × Int))).getD g_5.2.1.toNat ((0 : Int), (0 : Int))).1, ((g_4.1.2.1.getD (g_4.2.1.toNat * nat_lit 8 + (nat_lit 0 + ((g_3.1.1 / g_4.2.2.1 % (8 : Int)).toNat * nat_lit 1 + nat_lit 0))) ([] : List (Int × Int))).getD g_5.2.1.toNat ((0 : Int), (0 : Int))).2)) ∧
 g.2.1 = g.2.1 ∧
 (RR ((opAt x.1 g.2.2.1).1) ∧
 RR ((opAt x.1 g.2.2.1).2.1) ∧
 RR ((opAt x.1 g.2.2.1).2.2) ∧
 True) ∧
 RR g_2.1.2.2.1 ∧
 RR g_2.1.2.2.2 ∧
 g_4.1.2.1.getD (g_4.2.1.toNat * nat_lit 8 + (nat_lit 0 + ((g_3.1.1 / g_4.2.2.1 % (8 : Int)).toNat * nat_lit 1 + nat_lit 0))) ([] : List (Int × Int)) = g_4.1.2.1.getD (g_4.2.1.toNat * nat_lit 8 + (nat_lit 0 + ((g_3.1.1 / g_4.2.2.1 % (8 : Int)).toNat * nat_lit 1 + nat_lit 0))) ([] : List (Int × Int)) ∧
 True) ∧
 (True ∧
 True) ∧
 R32 (R32 (R8 (True ∧
 True ∧
 True ∧
 RR g_1.1.2.2 ∧
 g_2.2.1 = g_2.2.1 ∧
 true = true ∧
 (True ∧
 True) ∧
 R8 ((True ∧
 True) ∧
 True ∧
 True ∧
 (True ∧
 True) ∧
 True ∧
 True ∧
 True ∧
 True ∧
 True ∧
 True ∧
 x.1 = x.1 ∧
 RR (↑x.1.length : Int) ∧
 g.2.2.1 = g.2.2.1 ∧
 true = true ∧
 True ∧
 (RR ((opAt x.1 g.2.2.1).1) ∧
 RR ((opAt x.1 g.2.2.1).2.1) ∧
 RR ((opAt x.1 g.2.2.1).2.2) ∧
 True) ∧
 True ∧
 (True ∧
 True) ∧
 (RR ((opAt x.1 g.2.2.1).1) ∧
 RR ((opAt x.1 g.2.2.1).2.1) ∧
 RR ((opAt x.1 g.2.2.1).2.2) ∧
 True) ∧
 R8 (True ∧
 True ∧
 True ∧
 True ∧
 True ∧
 True ∧
 True)))))) ∧
 (g_6.2.1.toNat * nat_lit 8 + (nat_lit 0 + ((((g_4.1.2.1.getD (g_4.2.1.toNat * nat_lit 8 + (nat_lit 0 + ((g_3.1.1 / g_4.2.2.1 % (8 : Int)).toNat * nat_lit 1 + nat_lit 0))) ([] : List (Int × Int))).getD g_5.2.1.toNat ((0 : Int), (0 : Int))).1 / g_6.1 % (8 : Int)).toNat * nat_lit 1 + nat_lit 0)) < nat_lit 24 ∧
 ((g_5.1.2.1.getD (g_6.2.1.toNat * nat_lit 8 + (nat_lit 0 + ((((g_4.1.2.1.getD (g_4.2.1.toNat * nat_lit 8 + (nat_lit 0 + ((g_3.1.1 / g_4.2.2.1 % (8 : Int)).toNat * nat_lit 1 + nat_lit 0))) ([] : List (Int × Int))).getD g_5.2.1.toNat ((0 : Int), (0 : Int))).1 / g_6.1 % (8 : Int)).toNat * nat_lit 1 + nat_lit 0))) ([] : List (Int × Int))).length + ((((0 : Int), (0 : Int)) :: ([] : List (Int × Int))).set (0 : Nat) (((g_4.1.2.1.getD (g_4.2.1.toNat * nat_lit 8 + (nat_lit 0 + ((g_3.1.1 / g_4.2.2.1 % (8 : Int)).toNat * nat_lit 1 + nat_lit 0))) ([] : List (Int × Int))).getD g_5.2.1.toNat ((0 : Int), (0 : Int))).1, ((g_4.1.2.1.getD (g_4.2.1.toNat * nat_lit 8 + (nat_lit 0 + ((g_3.1.1 / g_4.2.2.1 % (8 : Int)).toNat * nat_lit 1 + nat_lit 0))) ([] : List (Int × Int))).getD g_5.2.1.toNat ((0 : Int), (0 : Int))).2)).length ≤ (9223372036854775807 : Nat) ∧
 ((g_5.1.2.1.getD (g_6.2.1.toNat * nat_lit 8 + (nat_lit 0 + ((((g_4.1.2.1.getD (g_4.2.1.toNat * nat_lit 8 + (nat_lit 0 + ((g_3.1.1 / g_4.2.2.1 % (8 : Int)).toNat * nat_lit 1 + nat_lit 0))) ([] : List (Int × Int))).getD g_5.2.1.toNat ((0 : Int), (0 : Int))).1 / g_6.1 % (8 : Int)).toNat * nat_lit 1 + nat_lit 0))) ([] : List (Int × Int))).length + ((((0 : Int), (0 : Int)) :: ([] : List (Int × Int))).set (0 : Nat) (((g_4.1.2.1.getD (g_4.2.1.toNat * nat_lit 8 + (nat_lit 0 + ((g_3.1.1 / g_4.2.2.1 % (8 : Int)).toNat * nat_lit 1 + nat_lit 0))) ([] : List (Int × Int))).getD g_5.2.1.toNat ((0 : Int), (0 : Int))).1, ((g_4.1.2.1.getD (g_4.2.1.toNat * nat_lit 8 + (nat_lit 0 + ((g_3.1.1 / g_4.2.2.1 % (8 : Int)).toNat * nat_lit 1 + nat_lit 0))) ([] : List (Int × Int))).getD g_5.2.1.toNat ((0 : Int), (0 : Int))).2)).length + ((g_5.1.2.1.getD (g_6.2.1.toNat * nat_lit 8 + (nat_lit 0 + ((((g_4.1.2.1.getD (g_4.2.1.toNat * nat_lit 8 + (nat_lit 0 + ((g_3.1.1 / g_4.2.2.1 % (8 : Int)).toNat * nat_lit 1 + nat_lit 0))) ([] : List (Int × Int))).getD g_5.2.1.toNat ((0 : Int), (0 : Int))).1 / g_6.1 % (8 : Int)).toNat * nat_lit 1 + nat_lit 0))) ([] : List (Int × Int))).length + ((((0 : Int), (0 : Int)) :: ([] : List (Int × Int))).set (0 : Nat) (((g_4.1.2.1.getD (g_4.2.1.toNat * nat_lit 8 + (nat_lit 0 + ((g_3.1.1 / g_4.2.2.1 % (8 : Int)).toNat * nat_lit 1 + nat_lit 0))) ([] : List (Int × Int))).getD g_5.2.1.toNat ((0 : Int), (0 : Int))).1, ((g_4.1.2.1.getD (g_4.2.1.toNat * nat_lit 8 + (nat_lit 0 + ((g_3.1.1 / g_4.2.2.1 % (8 : Int)).toNat * nat_lit 1 + nat_lit 0))) ([] : List (Int × Int))).getD g_5.2.1.toNat ((0 : Int), (0 : Int))).2)).length) / (4 : Nat) + (192 : Nat)) * (16 : Nat) ≤ (281474976710656 : Nat)) ∧
 g_6.2.1.toNat * nat_lit 8 + (nat_lit 0 + ((((g_4.1.2.1.getD (g_4.2.1.toNat * nat_lit 8 + (nat_lit 0 + ((g_3.1.1 / g_4.2.2.1 % (8 : Int)).toNat * nat_lit 1 + nat_lit 0))) ([] : List (Int × Int))).getD g_5.2.1.toNat ((0 : Int), (0 : Int))).1 / g_6.1 % (8 : Int)).toNat * nat_lit 1 + nat_lit 0)) = g_6.2.1.toNat * nat_lit 8 + (nat_lit 0 + ((((g_4.1.2.1.getD (g_4.2.1.toNat * nat_lit 8 + (nat_lit 0 + ((g_3.1.1 / g_4.2.2.1 % (8 : Int)).toNat * nat_lit 1 + nat_lit 0))) ([] : List (Int × Int))).getD g_5.2.1.toNat ((0 : Int), (0 : Int))).1 / g_6.1 % (8 : Int)).toNat * nat_lit 1 + nat_lit 0)) ∧
 ((-9223372036854775808 : Int) ≤ g_5.2.1 + (1 : Int) ∧
 g_5.2.1 + (1 : Int) ≤ (9223372036854775807 : Int)) ∧
 (((0 : Int) ≤ g_5.2.1 + (1 : Int) ∧
 g_5.2.1 + (1 : Int) ≤ (↑(g_4.1.2.1.getD (g_4.2.1.toNat * nat_lit 8 + (nat_lit 0 + ((g_3.1.1 / g_4.2.2.1 % (8 : Int)).toNat * nat_lit 1 + nat_lit 0))) ([] : List (Int × Int))).length : Int) ∧
 (g_5.1.2.1.set (g_6.2.1.toNat * nat_lit 8 + (nat_lit 0 + ((((g_4.1.2.1.getD (g_4.2.1.toNat * nat_lit 8 + (nat_lit 0 + ((g_3.1.1 / g_4.2.2.1 % (8 : Int)).toNat * nat_lit 1 + nat_lit 0))) ([] : List (Int × Int))).getD g_5.2.1.toNat ((0 : Int), (0 : Int))).1 / g_6.1 % (8 : Int)).toNat * nat_lit 1 + nat_lit 0))) ([] : List (Int × Int))).set (g_6.2.1.toNat * nat_lit 8 + (nat_lit 0 + ((((g_4.1.2.1.getD (g_4.2.1.toNat * nat_lit 8 + (nat_lit 0 + ((g_3.1.1 / g_4.2.2.1 % (8 : Int)).toNat * nat_lit 1 + nat_lit 0))) ([] : List (Int × Int))).getD g_5.2.1.toNat ((0 : Int), (0 : Int))).1 / g_6.1 % (8 : Int)).toNat * nat_lit 1 + nat_lit 0))) (g_5.1.2.1.getD (g_6.2.1.toNat * nat_lit 8 + (nat_lit 0 + ((((g_4.1.2.1.getD (g_4.2.1.toNat * nat_lit 8 + (nat_lit 0 + ((g_3.1.1 / g_4.2.2.1 % (8 : Int)).toNat * nat_lit 1 + nat_lit 0))) ([] : List (Int × Int))).getD g_5.2.1.toNat ((0 : Int), (0 : Int))).1 / g_6.1 % (8 : Int)).toNat * nat_lit 1 + nat_lit 0))) ([] : List (Int × Int)) ++ (((0 : Int), (0 : Int)) :: ([] : List (Int × Int))).set (0 : Nat) (((g_4.1.2.1.getD (g_4.2.1.toNat * nat_lit 8 + (nat_lit 0 + ((g_3.1.1 / g_4.2.2.1 % (8 : Int)).toNat * nat_lit 1 + nat_lit 0))) ([] : List (Int × Int))).getD g_5.2.1.toNat ((0 : Int), (0 : Int))).1, ((g_4.1.2.1.getD (g_4.2.1.toNat * nat_lit 8 + (nat_lit 0 + ((g_3.1.1 / g_4.2.2.1 % (8 : Int)).toNat * nat_lit 1 + nat_lit 0))) ([] : List (Int × Int))).getD g_5.2.1.toNat ((0 : Int), (0 : Int))).2)) = List.foldl (putW g_3.1.1) (List.set (g_4.1.2.1.set (g_4.2.1.toNat * nat_lit 8 + (nat_lit 0 + ((g_3.1.1 / g_4.2.2.1 % (8 : Int)).toNat * nat_lit 1 + nat_lit 0))) ([] : List (Int × Int))) (g_4.2.1.toNat * nat_lit 8 + (nat_lit 0 + ((g_3.1.1 / g_4.2.2.1 % (8 : Int)).toNat * nat_lit 1 + nat_lit 0))) ([] : List (Int × Int))) (List.take (g_5.2.1 + (1 : Int)).toNat (g_4.1.2.1.getD (g_4.2.1.toNat * nat_lit 8 + (nat_lit 0 + ((g_3.1.1 / g_4.2.2.1 % (8 : Int)).toNat * nat_lit 1 + nat_lit 0))) ([] : List (Int × Int))))) ∧
 ((↑(g_4.1.2.1.getD (g_4.2.1.toNat * nat_lit 8 + (nat_lit 0 + ((g_3.1.1 / g_4.2.2.1 % (8 : Int)).toNat * nat_lit 1 + nat_lit 0))) ([] : List (Int × Int))).length : Int) - (g_5.2.1 + (1 : Int))).toNat < ((↑(g_4.1.2.1.getD (g_4.2.1.toNat * nat_lit 8 + (nat_lit 0 + ((g_3.1.1 / g_4.2.2.1 % (8 : Int)).toNat * nat_lit 1 + nat_lit 0))) ([] : List (Int × Int))).length : Int) - g_5.2.1).toNat) ∧
 ((True ∧
 True) ∧
 g_4.2.1 = g_4.2.1 ∧
 RR g_4.2.2.1 ∧
 True ∧
 (↑(g_4.1.2.1.getD (g_4.2.1.toNat * nat_lit 8 + (nat_lit 0 + ((g_3.1.1 / g_4.2.2.1 % (8 : Int)).toNat * nat_lit 1 + nat_lit 0))) ([] : List (Int × Int))).length : Int) = (↑(g_4.1.2.1.getD (g_4.2.1.toNat * nat_lit 8 + (nat_lit 0 + ((g_3.1.1 / g_4.2.2.1 % (8 : Int)).toNat * nat_lit 1 + nat_lit 0))) ([] : List (Int × Int))).length : Int) ∧
 g_5.2.1 + (1 : Int) = g_5.2.1 + (1 : Int) ∧
 True) ∧
 ((g_3.1.1 = g_3.1.1 ∧
 (True ∧
 True) ∧
 True ∧
 True ∧
 True) ∧
 (g_5.1.2.1.set (g_6.2.1.toNat * nat_lit 8 + (nat_lit 0 + ((((g_4.1.2.1.getD (g_4.2.1.toNat * nat_lit 8 + (nat_lit 0 + ((g_3.1.1 / g_4.2.2.1 % (8 : Int)).toNat * nat_lit 1 + nat_lit 0))) ([] : List (Int × Int))).getD g_5.2.1.toNat ((0 : Int), (0 : Int))).1 / g_6.1 % (8 : Int)).toNat * nat_lit 1 + nat_lit 0))) ([] : List (Int × Int))).set (g_6.2.1.toNat * nat_lit 8 + (nat_lit 0 + ((((g_4.1.2.1.getD (g_4.2.1.toNat * nat_lit 8 + (nat_lit 0 + ((g_3.1.1 / g_4.2.2.1 % (8 : Int)).toNat * nat_lit 1 + nat_lit 0))) ([] : List (Int × Int))).getD g_5.2.1.toNat ((0 : Int), (0 : Int))).1 / g_6.1 % (8 : Int)).toNat * nat_lit 1 + nat_lit 0))) (g_5.1.2.1.getD (g_6.2.1.toNat * nat_lit 8 + (nat_lit 0 + ((((g_4.1.2.1.getD (g_4.2.1.toNat * nat_lit 8 + (nat_lit 0 + ((g_3.1.1 / g_4.2.2.1 % (8 : Int)).toNat * nat_lit 1 + nat_lit 0))) ([] : List (Int × Int))).getD g_5.2.1.toNat ((0 : Int), (0 : Int))).1 / g_6.1 % (8 : Int)).toNat * nat_lit 1 + nat_lit 0))) ([] : List (Int × Int)) ++ (((0 : Int), (0 : Int)) :: ([] : List (Int × Int))).set (0 : Nat) (((g_4.1.2.1.getD (g_4.2.1.toNat * nat_lit 8 + (nat_lit 0 + ((g_3.1.1 / g_4.2.2.1 % (8 : Int)).toNat * nat_lit 1 + nat_lit 0))) ([] : List (Int × Int))).getD g_5.2.1.toNat ((0 : Int), (0 : Int))).1, ((g_4.1.2.1.getD (g_4.2.1.toNat * nat_lit 8 + (nat_lit 0 + ((g_3.1.1 / g_4.2.2.1 % (8 : Int)).toNat * nat_lit 1 + nat_lit 0))) ([] : List (Int × Int))).getD g_5.2.1.toNat ((0 : Int), (0 : Int))).2)) = (g_5.1.2.1.set (g_6.2.1.toNat * nat_lit 8 + (nat_lit 0 + ((((g_4.1.2.1.getD (g_4.2.1.toNat * nat_lit 8 + (nat_lit 0 + ((g_3.1.1 / g_4.2.2.1 % (8 : Int)).toNat * nat_lit 1 + nat_lit 0))) ([] : List (Int × Int))).getD g_5.2.1.toNat ((0 : Int), (0 : Int))).1 / g_6.1 % (8 : Int)).toNat * nat_lit 1 + nat_lit 0))) ([] : List (Int × Int))).set (g_6.2.1.toNat * nat_lit 8 + (nat_lit 0 + ((((g_4.1.2.1.getD (g_4.2.1.toNat * nat_lit 8 + (nat_lit 0 + ((g_3.1.1 / g_4.2.2.1 % (8 : Int)).toNat * nat_lit 1 + nat_lit 0))) ([] : List (Int × Int))).getD g_5.2.1.toNat ((0 : Int), (0 : Int))).1 / g_6.1 % (8 : Int)).toNat * nat_lit 1 + nat_lit 0))) (g_5.1.2.1.getD (g_6.2.1.toNat * nat_lit 8 + (nat_lit 0 + ((((g_4.1.2.1.getD (g_4.2.1.toNat * nat_lit 8 + (nat_lit 0 + ((g_3.1.1 / g_4.2.2.1 % (8 : Int)).toNat * nat_lit 1 + nat_lit 0))) ([] : List (Int × Int))).getD g_5.2.1.toNat ((0 : Int), (0 : Int))).1 / g_6.1 % (8 : Int)).toNat * nat_lit 1 + nat_lit 0))) ([] : List (Int × Int)) ++ (((0 : Int), (0 : Int)) :: ([] : List (Int × Int))).set (0 : Nat) (((g_4.1.2.1.getD (g_4.2.1.toNat * nat_lit 8 + (nat_lit 0 + ((g_3.1.1 / g_4.2.2.1 % (8 : Int)).toNat * nat_lit 1 + nat_lit 0))) ([] : List (Int × Int))).getD g_5.2.1.toNat ((0 : Int), (0 : Int))).1, ((g_4.1.2.1.getD (g_4.2.1.toNat * nat_lit 8 + (nat_lit 0 + ((g_3.1.1 / g_4.2.2.1 % (8 : Int)).toNat * nat_lit 1 + nat_lit 0))) ([] : List (Int × Int))).getD g_5.2.1.toNat ((0 : Int), (0 : Int))).2)) ∧
 g.2.1 = g.2.1 ∧
 (RR ((opAt x.1 g.2.2.1).1) ∧
 RR ((opAt x.1 g.2.2.1).2.1) ∧
 RR ((opAt x.1 g.2.2.1).2.2) ∧
 True) ∧
 RR g_2.1.2.2.1 ∧
 RR g_2.1.2.2.2 ∧
 g_4.1.2.1.getD (g_4.2.1.toNat * nat_lit 8 + (nat_lit 0 + ((g_3.1.1 / g_4.2.2.1 % (8 : Int)).toNat * nat_lit 1 + nat_lit 0))) ([] : List (Int × Int)) = g_4.1.2.1.getD (g_4.2.1.toNat * nat_lit 8 + (nat_lit 0 + ((g_3.1.1 / g_4.2.2.1 % (8 : Int)).toNat * nat_lit 1 + nat_lit 0))) ([] : List (Int × Int)) ∧
 True) ∧
 (True ∧
 True) ∧
 R32 (R32 (R8 (True ∧
 True ∧
 True ∧
 RR g_1.1.2.2 ∧
 g_2.2.1 = g_2.2.1 ∧
 true = true ∧
 (True ∧
 True) ∧
 R8 ((True ∧
 True) ∧
 True ∧
 True ∧
 (True ∧
 True) ∧
 True ∧
 True ∧
 True ∧
 True ∧
 True ∧
 True ∧
 x.1 = x.1 ∧
 RR (↑x.1.length : Int) ∧
 g.2.2.1 = g.2.2.1 ∧
 true = true ∧
 True ∧
 (RR ((opAt x.1 g.2.2.1).1) ∧
 RR ((opAt x.1 g.2.2.1).2.1) ∧
 RR ((opAt x.1 g.2.2.1).2.2) ∧
 True) ∧
 True ∧
 (True ∧
 True) ∧
 (RR ((opAt x.1 g.2.2.1).1) ∧
 RR ((opAt x.1 g.2.2.1).2.1) ∧
 RR ((opAt x.1 g.2.2.1).2.2) ∧
 True) ∧
 R8 (True ∧
 True ∧
 True ∧
 True ∧
 True ∧
 True ∧
 True)))))) ∧
 True) ∧
 ((g_6.2.1 == (2 : Int)) = false →
 ((-9223372036854775808 : Int) ≤ g_6.1 * (8 : Int) ∧
 g_6.1 * (8 : Int) ≤ (9223372036854775807 : Int)) ∧
 ((-9223372036854775808 : Int) ≤ g_6.2.1 + (1 : Int) ∧
 g_6.2.1 + (1 : Int) ≤ (9223372036854775807 : Int)) ∧
 ((g_6.2.1 + (1 : Int) = (0 : Int) ∧
 g_6.1 * (8 : Int) = (1 : Int) ∨ g_6.2.1 + (1 : Int) = (1 : Int) ∧
 g_6.1 * (8 : Int) = (8 : Int) ∧
 (8 : Int) ≤ ((g_4.1.2.1.getD (g_4.2.1.toNat * nat_lit 8 + (nat_lit 0 + ((g_3.1.1 / g_4.2.2.1 % (8 : Int)).toNat * nat_lit 1 + nat_lit 0))) ([] : List (Int × Int))).getD g_5.2.1.toNat ((0 : Int), (0 : Int))).1 - g_3.1.1 ∨ g_6.2.1 + (1 : Int) = (2 : Int) ∧
 g_6.1 * (8 : Int) = (64 : Int) ∧
 (8 : Int) ≤ ((g_4.1.2.1.getD (g_4.2.1.toNat * nat_lit 8 + (nat_lit 0 + ((g_3.1.1 / g_4.2.2.1 % (8 : Int)).toNat * nat_lit 1 + nat_lit 0))) ([] : List (Int × Int))).getD g_5.2.1.toNat ((0 : Int), (0 : Int))).1 - g_3.1.1 ∧
 (8 : Int) ≤ ((g_4.1.2.1.getD (g_4.2.1.toNat * nat_lit 8 + (nat_lit 0 + ((g_3.1.1 / g_4.2.2.1 % (8 : Int)).toNat * nat_lit 1 + nat_lit 0))) ([] : List (Int × Int))).getD g_5.2.1.toNat ((0 : Int), (0 : Int))).1 / (8 : Int) - g_3.1.1 / (8 : Int)) ∧
 ((3 : Int) - (g_6.2.1 + (1 : Int))).toNat < ((3 : Int) - g_6.2.1).toNat) ∧
 ((True ∧
 True) ∧
 (True ∧
 True) ∧
 g_6.1 * (8 : Int) = g_6.1 * (8 : Int) ∧
 g_6.2.1 + (1 : Int) = g_6.2.1 + (1 : Int) ∧
 True) ∧
 ((g_3.1.1 = g_3.1.1 ∧
 (True ∧
 True) ∧
 True ∧
 True ∧
 True) ∧
 RR g_5.1.2.1 ∧
 RR g_2.1.2.2.1 ∧
 RR g_2.1.2.2.2 ∧
 (((g_4.1.2.1.getD (g_4.2.1.toNat * nat_lit 8 + (nat_lit 0 + ((g_3.1.1 / g_4.2.2.1 % (8 : Int)).toNat * nat_lit 1 + nat_lit 0))) ([] : List (Int × Int))).getD g_5.2.1.toNat ((0 : Int), (0 : Int))).1 = ((g_4.1.2.1.getD (g_4.2.1.toNat * nat_lit 8 + (nat_lit 0 + ((g_3.1.1 / g_4.2.2.1 % (8 : Int)).toNat * nat_lit 1 + nat_lit 0))) ([] : List (Int × Int))).getD g_5.2.1.toNat ((0 : Int), (0 : Int))).1 ∧
 ((g_4.1.2.1.getD (g_4.2.1.toNat * nat_lit 8 + (nat_lit 0 + ((g_3.1.1 / g_4.2.2.1 % (8 : Int)).toNat * nat_lit 1 + nat_lit 0))) ([] : List (Int × Int))).getD g_5.2.1.toNat ((0 : Int), (0 : Int))).2 = ((g_4.1.2.1.getD (g_4.2.1.toNat * nat_lit 8 + (nat_lit 0 + ((g_3.1.1 / g_4.2.2.1 % (8 : Int)).toNat * nat_lit 1 + nat_lit 0))) ([] : List (Int × Int))).getD g_5.2.1.toNat ((0 : Int), (0 : Int))).2 ∧
 True) ∧
 g_4.1.2.1.getD (g_4.2.1.toNat * nat_lit 8 + (nat_lit 0 + ((g_3.1.1 / g_4.2.2.1 % (8 : Int)).toNat * nat_lit 1 + nat_lit 0))) ([] : List (Int × Int)) = g_4.1.2.1.getD (g_4.2.1.toNat * nat_lit 8 + (nat_lit 0 + ((g_3.1.1 / g_4.2.2.1 % (8 : Int)).toNat * nat_lit 1 + nat_lit 0))) ([] : List (Int × Int)) ∧
 g.2.1 = g.2.1 ∧
 (RR ((opAt x.1 g.2.2.1).1) ∧
 RR ((opAt x.1 g.2.2.1).2.1) ∧
 RR ((opAt x.1 g.2.2.1).2.2) ∧
 True) ∧
 (((g_4.1.2.1.getD (g_4.2.1.toNat * nat_lit 8 + (nat_lit 0 + ((g_3.1.1 / g_4.2.2.1 % (8 : Int)).toNat * nat_lit 1 + nat_lit 0))) ([] : List (Int × Int))).getD g_5.2.1.toNat ((0 : Int), (0 : Int))).1 = ((g_4.1.2.1.getD (g_4.2.1.toNat * nat_lit 8 + (nat_lit 0 + ((g_3.1.1 / g_4.2.2.1 % (8 : Int)).toNat * nat_lit 1 + nat_lit 0))) ([] : List (Int × Int))).getD g_5.2.1.toNat ((0 : Int), (0 : Int))).1 ∧
 ((g_4.1.2.1.getD (g_4.2.1.toNat * nat_lit 8 + (nat_lit 0 + ((g_3.1.1 / g_4.2.2.1 % (8 : Int)).toNat * nat_lit 1 + nat_lit 0))) ([] : List (Int × Int))).getD g_5.2.1.toNat ((0 : Int), (0 : Int))).2 = ((g_4.1.2.1.getD (g_4.2.1.toNat * nat_lit 8 + (nat_lit 0 + ((g_3.1.1 / g_4.2.2.1 % (8 : Int)).toNat * nat_lit 1 + nat_lit 0))) ([] : List (Int × Int))).getD g_5.2.1.toNat ((0 : Int), (0 : Int))).2 ∧
 True) ∧
 True) ∧
 (True ∧
 True) ∧
 True ∧
 g_4.2.1 = g_4.2.1 ∧
 RR g_4.2.2.1 ∧
 True ∧
 (True ∧
 True) ∧
 R32 (True ∧
 True ∧
 True ∧
 True ∧
 True ∧
 (↑(g_4.1.2.1.getD (g_4.2.1.toNat * nat_lit 8 + (nat_lit 0 + ((g_3.1.1 / g_4.2.2.1 % (8 : Int)).toNat * nat_lit 1 + nat_lit 0))) ([] : List (Int × Int))).length : Int) = (↑(g_4.1.2.1.getD (g_4.2.1.toNat * nat_lit 8 + (nat_lit 0 + ((g_3.1.1 / g_4.2.2.1 % (8 : Int)).toNat * nat_lit 1 + nat_lit 0))) ([] : List (Int × Int))).length : Int) ∧
 g_5.2.1 = g_5.2.1 ∧
 true = true ∧
 ((True ∧
 True ∧
 True) ∧
 g_5.2.1.toNat = g_5.2.1.toNat) ∧
 (((g_4.1.2.1.getD (g_4.2.1.toNat * nat_lit 8 + (nat_lit 0 + ((g_3.1.1 / g_4.2.2.1 % (8 : Int)).toNat * nat_lit 1 + nat_lit 0))) ([] : List (Int × Int))).getD g_5.2.1.toNat ((0 : Int), (0 : Int))).1 = ((g_4.1.2.1.getD (g_4.2.1.toNat * nat_lit 8 + (nat_lit 0 + ((g_3.1.1 / g_4.2.2.1 % (8 : Int)).toNat * nat_lit 1 + nat_lit 0))) ([] : List (Int × Int))).getD g_5.2.1.toNat ((0 : Int), (0 : Int))).1 ∧
 ((g_4.1.2.1.getD (g_4.2.1.toNat * nat_lit 8 + (nat_lit 0 + ((g_3.1.1 / g_4.2.2.1 % (8 : Int)).toNat * nat_lit 1 + nat_lit 0))) ([] : List (Int × Int))).getD g_5.2.1.toNat ((0 : Int), (0 : Int))).2 = ((g_4.1.2.1.getD (g_4.2.1.toNat * nat_lit 8 + (nat_lit 0 + ((g_3.1.1 / g_4.2.2.1 % (8 : Int)).toNat * nat_lit 1 + nat_lit 0))) ([] : List (Int × Int))).getD g_5.2.1.toNat ((0 : Int), (0 : Int))).2 ∧
 True) ∧
 (True ∧
 True) ∧
 (((g_4.1.2.1.getD (g_4.2.1.toNat * nat_lit 8 + (nat_lit 0 + ((g_3.1.1 / g_4.2.2.1 % (8 : Int)).toNat * nat_lit 1 + nat_lit 0))) ([] : List (Int × Int))).getD g_5.2.1.toNat ((0 : Int), (0 : Int))).1 = ((g_4.1.2.1.getD (g_4.2.1.toNat * nat_lit 8 + (nat_lit 0 + ((g_3.1.1 / g_4.2.2.1 % (8 : Int)).toNat * nat_lit 1 + nat_lit 0))) ([] : List (Int × Int))).getD g_5.2.1.toNat ((0 : Int), (0 : Int))).1 ∧
 ((g_4.1.2.1.getD (g_4.2.1.toNat * nat_lit 8 + (nat_lit 0 + ((g_3.1.1 / g_4.2.2.1 % (8 : Int)).toNat * nat_lit 1 + nat_lit 0))) ([] : List (Int × Int))).getD g_5.2.1.toNat ((0 : Int), (0 : Int))).2 = ((g_4.1.2.1.getD (g_4.2.1.toNat * nat_lit 8 + (nat_lit 0 + ((g_3.1.1 / g_4.2.2.1 % (8 : Int)).toNat * nat_lit 1 + nat_lit 0))) ([] : List (Int × Int))).getD g_5.2.1.toNat ((0 : Int), (0 : Int))).2 ∧
 True) ∧
 R32 (R32 (True ∧
 True ∧
 True ∧
 True ∧
 (True ∧
 True) ∧
 R32 (R32 (R8 (True ∧
 True ∧
 True ∧
 RR g_1.1.2.2 ∧
 g_2.2.1 = g_2.2.1 ∧
 true = true ∧
 (True ∧
 True) ∧
 R8 ((True ∧
 True) ∧
 True ∧
 True ∧
 (True ∧
 True) ∧
 True ∧
 True ∧
 True ∧
 True ∧
 True ∧
 True ∧
 x.1 = x.1 ∧
 RR (↑x.1.length : Int) ∧
 g.2.2.1 = g.2.2.1 ∧
 true = true ∧
 True ∧
 (RR ((opAt x.1 g.2.2.1).1) ∧
 RR ((opAt x.1 g.2.2.1).2.1) ∧
 RR ((opAt x.1 g.2.2.1).2.2) ∧
 True) ∧
 True ∧
 (True ∧
 True) ∧
 (RR ((opAt x.1 g.2.2.1).1) ∧
 RR ((opAt x.1 g.2.2.1).2.1) ∧
 RR ((opAt x.1 g.2.2.1).2.2) ∧
 True) ∧
 R8 (True ∧
 True ∧
 True ∧
 True ∧
 True ∧
 True ∧
 True)))))))))) ∧
 (decide (((g_4.1.2.1.getD (g_4.2.1.toNat * nat_lit 8 + (nat_lit 0 + ((g_3.1.1 / g_4.2.2.1 % (8 : Int)).toNat * nat_lit 1 + nat_lit 0))) ([] : List (Int × Int))).getD g_5.2.1.toNat ((0 : Int), (0 : Int))).1 / g_6.1 - g_3.1.1 / g_6.1 < (8 : Int)) = !false →
 ((0 : Int) ≤ ((g_4.1.2.1.getD (g_4.2.1.toNat * nat_lit 8 + (nat_lit 0 + ((g_3.1.1 / g_4.2.2.1 % (8 : Int)).toNat * nat_lit 1 + nat_lit 0))) ([] : List (Int × Int))).getD g_5.2.1.toNat ((0 : Int), (0 : Int))).1 ∧
 (0 : Int) < g_6.1) ∧
 ((0 : Int) ≤ ((g_4.1.2.1.getD (g_4.2.1.toNat * nat_lit 8 + (nat_lit 0 + ((g_3.1.1 / g_4.2.2.1 % (8 : Int)).toNat * nat_lit 1 + nat_lit 0))) ([] : List (Int × Int))).getD g_5.2.1.toNat ((0 : Int), (0 : Int))).1 / g_6.1 ∧
 (0 : Int) < (8 : Int)) ∧
 ((0 : Int) ≤ g_6.2.1 ∧
 g_6.2.1 < (↑(3 : Nat) : Int)) ∧
 ((0 : Int) ≤ ((g_4.1.2.1.getD (g_4.2.1.toNat * nat_lit 8 + (nat_lit 0 + ((g_3.1.1 / g_4.2.2.1 % (8 : Int)).toNat * nat_lit 1 + nat_lit 0))) ([] : List (Int × Int))).getD g_5.2.1.toNat ((0 : Int), (0 : Int))).1 / g_6.1 % (8 : Int) ∧
 ((g_4.1.2.1.getD (g_4.2.1.toNat * nat_lit 8 + (nat_lit 0 + ((g_3.1.1 / g_4.2.2.1 % (8 : Int)).toNat * nat_lit 1 + nat_lit 0))) ([] : List (Int × Int))).getD g_5.2.1.toNat ((0 : Int), (0 : Int))).1 / g_6.1 % (8 : Int) < (↑(8 : Nat) : Int)) ∧
 (g_6.2.1.toNat * nat_lit 8 + (nat_lit 0 + ((((g_4.1.2.1.getD (g_4.2.1.toNat * nat_lit 8 + (nat_lit 0 + ((g_3.1.1 / g_4.2.2.1 % (8 : Int)).toNat * nat_lit 1 + nat_lit 0))) ([] : List (Int × Int))).getD g_5.2.1.toNat ((0 : Int), (0 : Int))).1 / g_6.1 % (8 : Int)).toNat * nat_lit 1 + nat_lit 0)) < nat_lit 24 ∧
 ((g_5.1.2.1.getD (g_6.2.1.toNat * nat_lit 8 + (nat_lit 0 + ((((g_4.1.2.1.getD (g_4.2.1.toNat * nat_lit 8 + (nat_lit 0 + ((g_3.1.1 / g_4.2.2.1 % (8 : Int)).toNat * nat_lit 1 + nat_lit 0))) ([] : List (Int × Int))).getD g_5.2.1.toNat ((0 : Int), (0 : Int))).1 / g_6.1 % (8 : Int)).toNat * nat_lit 1 + nat_lit 0))) ([] : List (Int × Int))).length + ((((0 : Int), (0 : Int)) :: ([] : List (Int × Int))).set (0 : Nat) (((g_4.1.2.1.getD (g_4.2.1.toNat * nat_lit 8 + (nat_lit 0 + ((g_3.1.1 / g_4.2.2.1 % (8 : Int)).toNat * nat_lit 1 + nat_lit 0))) ([] : List (Int × Int))).getD g_5.2.1.toNat ((0 : Int), (0 : Int))).1, ((g_4.1.2.1.getD (g_4.2.1.toNat * nat_lit 8 + (nat_lit 0 + ((g_3.1.1 / g_4.2.2.1 % (8 : Int)).toNat * nat_lit 1 + nat_lit 0))) ([] : List (Int × Int))).getD g_5.2.1.toNat ((0 : Int), (0 : Int))).2)).length ≤ (9223372036854775807 : Nat) ∧
 ((g_5.1.2.1.getD (g_6.2.1.toNat * nat_lit 8 + (nat_lit 0 + ((((g_4.1.2.1.getD (g_4.2.1.toNat * nat_lit 8 + (nat_lit 0 + ((g_3.1.1 / g_4.2.2.1 % (8 : Int)).toNat * nat_lit 1 + nat_lit 0))) ([] : List (Int × Int))).getD g_5.2.1.toNat ((0 : Int), (0 : Int))).1 / g_6.1 % (8 : Int)).toNat * nat_lit 1 + nat_lit 0))) ([] : List (Int × Int))).length + ((((0 : Int), (0 : Int)) :: ([] : List (Int × Int))).set (0 : Nat) (((g_4.1.2.1.getD (g_4.2.1.toNat * nat_lit 8 + (nat_lit 0 + ((g_3.1.1 / g_4.2.2.1 % (8 : Int)).toNat * nat_lit 1 + nat_lit 0))) ([] : List (Int × Int))).getD g_5.2.1.toNat ((0 : Int), (0 : Int))).1, ((g_4.1.2.1.getD (g_4.2.1.toNat * nat_lit 8 + (nat_lit 0 + ((g_3.1.1 / g_4.2.2.1 % (8 : Int)).toNat * nat_lit 1 + nat_lit 0))) ([] : List (Int × Int))).getD g_5.2.1.toNat ((0 : Int), (0 : Int))).2)).length + ((g_5.1.2.1.getD (g_6.2.1.toNat * nat_lit 8 + (nat_lit 0 + ((((g_4.1.2.1.getD (g_4.2.1.toNat * nat_lit 8 + (nat_lit 0 + ((g_3.1.1 / g_4.2.2.1 % (8 : Int)).toNat * nat_lit 1 + nat_lit 0))) ([] : List (Int × Int))).getD g_5.2.1.toNat ((0 : Int), (0 : Int))).1 / g_6.1 % (8 : Int)).toNat * nat_lit 1 + nat_lit 0))) ([] : List (Int × Int))).length + ((((0 : Int), (0 : Int)) :: ([] : List (Int × Int))).set (0 : Nat) (((g_4.1.2.1.getD (g_4.2.1.toNat * nat_lit 8 + (nat_lit 0 + ((g_3.1.1 / g_4.2.2.1 % (8 : Int)).toNat * nat_lit 1 + nat_lit 0))) ([] : List (Int × Int))).getD g_5.2.1.toNat ((0 : Int), (0 : Int))).1, ((g_4.1.2.1.getD (g_4.2.1.toNat * nat_lit 8 + (nat_lit 0 + ((g_3.1.1 / g_4.2.2.1 % (8 : Int)).toNat * nat_lit 1 + nat_lit 0))) ([] : List (Int × Int))).getD g_5.2.1.toNat ((0 : Int), (0 : Int))).2)).length) / (4 : Nat) + (192 : Nat)) * (16 : Nat) ≤ (281474976710656 : Nat)) ∧
 g_6.2.1.toNat * nat_lit 8 + (nat_lit 0 + ((((g_4.1.2.1.getD (g_4.2.1.toNat * nat_lit 8 + (nat_lit 0 + ((g_3.1.1 / g_4.2.2.1 % (8 : Int)).toNat * nat_lit 1 + nat_lit 0))) ([] : List (Int × Int))).getD g_5.2.1.toNat ((0 : Int), (0 : Int))).1 / g_6.1 % (8 : Int)).toNat * nat_lit 1 + nat_lit 0)) = g_6.2.1.toNat * nat_lit 8 + (nat_lit 0 + ((((g_4.1.2.1.getD (g_4.2.1.toNat * nat_lit 8 + (nat_lit 0 + ((g_3.1.1 / g_4.2.2.1 % (8 : Int)).toNat * nat_lit 1 + nat_lit 0))) ([] : List (Int × Int))).getD g_5.2.1.toNat ((0 : Int), (0 : Int))).1 / g_6.1 % (8 : Int)).toNat * nat_lit 1 + nat_lit 0)) ∧
 ((-9223372036854775808 : Int) ≤ g_5.2.1 + (1 : Int) ∧
 g_5.2.1 + (1 : Int) ≤ (9223372036854775807 : Int)) ∧
 (((0 : Int) ≤ g_5.2.1 + (1 : Int) ∧
 g_5.2.1 + (1 : Int) ≤ (↑(g_4.1.2.1.getD (g_4.2.1.toNat * nat_lit 8 + (nat_lit 0 + ((g_3.1.1 / g_4.2.2.1 % (8 : Int)).toNat * nat_lit 1 + nat_lit 0))) ([] : List (Int × Int))).length : Int) ∧
 (g_5.1.2.1.set (g_6.2.1.toNat * nat_lit 8 + (nat_lit 0 + ((((g_4.1.2.1.getD (g_4.2.1.toNat * nat_lit 8 + (nat_lit 0 + ((g_3.1.1 / g_4.2.2.1 % (8 : Int)).toNat * nat_lit 1 + nat_lit 0))) ([] : List (Int × Int))).getD g_5.2.1.toNat ((0 : Int), (0 : Int))).1 / g_6.1 % (8 : Int)).toNat * nat_lit 1 + nat_lit 0))) ([] : List (Int × Int))).set (g_6.2.1.toNat * nat_lit 8 + (nat_lit 0 + ((((g_4.1.2.1.getD (g_4.2.1.toNat * nat_lit 8 + (nat_lit 0 + ((g_3.1.1 / g_4.2.2.1 % (8 : Int)).toNat * nat_lit 1 + nat_lit 0))) ([] : List (Int × Int))).getD g_5.2.1.toNat ((0 : Int), (0 : Int))).1 / g_6.1 % (8 : Int)).toNat * nat_lit 1 + nat_lit 0))) (g_5.1.2.1.getD (g_6.2.1.toNat * nat_lit 8 + (nat_lit 0 + ((((g_4.1.2.1.getD (g_4.2.1.toNat * nat_lit 8 + (nat_lit 0 + ((g_3.1.1 / g_4.2.2.1 % (8 : Int)).toNat * nat_lit 1 + nat_lit 0))) ([] : List (Int × Int))).getD g_5.2.1.toNat ((0 : Int), (0 : Int))).1 / g_6.1 % (8 : Int)).toNat * nat_lit 1 + nat_lit 0))) ([] : List (Int × Int)) ++ (((0 : Int), (0 : Int)) :: ([] : List (Int × Int))).set (0 : Nat) (((g_4.1.2.1.getD (g_4.2.1.toNat * nat_lit 8 + (nat_lit 0 + ((g_3.1.1 / g_4.2.2.1 % (8 : Int)).toNat * nat_lit 1 + nat_lit 0))) ([] : List (Int × Int))).getD g_5.2.1.toNat ((0 : Int), (0 : Int))).1, ((g_4.1.2.1.getD (g_4.2.1.toNat * nat_lit 8 + (nat_lit 0 + ((g_3.1.1 / g_4.2.2.1 % (8 : Int)).toNat * nat_lit 1 + nat_lit 0))) ([] : List (Int × Int))).getD g_5.2.1.toNat ((0 : Int), (0 : Int))).2)) = List.foldl (putW g_3.1.1) (List.set (g_4.1.2.1.set (g_4.2.1.toNat * nat_lit 8 + (nat_lit 0 + ((g_3.1.1 / g_4.2.2.1 % (8 : Int)).toNat * nat_lit 1 + nat_lit 0))) ([] : List (Int × Int))) (g_4.2.1.toNat * nat_lit 8 + (nat_lit 0 + ((g_3.1.1 / g_4.2.2.1 % (8 : Int)).toNat * nat_lit 1 + nat_lit 0))) ([] : List (Int × Int))) (List.take (g_5.2.1 + (1 : Int)).toNat (g_4.1.2.1.getD (g_4.2.1.toNat * nat_lit 8 + (nat_lit 0 + ((g_3.1.1 / g_4.2.2.1 % (8 : Int)).toNat * nat_lit 1 + nat_lit 0))) ([] : List (Int × Int))))) ∧
 ((↑(g_4.1.2.1.getD (g_4.2.1.toNat * nat_lit 8 + (nat_lit 0 + ((g_3.1.1 / g_4.2.2.1 % (8 : Int)).toNat * nat_lit 1 + nat_lit 0))) ([] : List (Int × Int))).length : Int) - (g_5.2.1 + (1 : Int))).toNat < ((↑(g_4.1.2.1.getD (g_4.2.1.toNat * nat_lit 8 + (nat_lit 0 + ((g_3.1.1 / g_4.2.2.1 % (8 : Int)).toNat * nat_lit 1 + nat_lit 0))) ([] : List (Int × Int))).length : Int) - g_5.2.1).toNat) ∧
 ((True ∧
 True) ∧
 g_4.2.1 = g_4.2.1 ∧
 RR g_4.2.2.1 ∧
 True ∧
 (↑(g_4.1.2.1.getD (g_4.2.1.toNat * nat_lit 8 + (nat_lit 0 + ((g_3.1.1 / g_4.2.2.1 % (8 : Int)).toNat * nat_lit 1 + nat_lit 0))) ([] : List (Int × Int))).length : Int) = (↑(g_4.1.2.1.getD (g_4.2.1.toNat * nat_lit 8 + (nat_lit 0 + ((g_3.1.1 / g_4.2.2.1 % (8 : Int)).toNat * nat_lit 1 + nat_lit 0))) ([] : List (Int × Int))).length : Int) ∧
 g_5.2.1 + (1 : Int) = g_5.2.1 + (1 : Int) ∧
 True) ∧
 ((g_3.1.1 = g_3.1.1 ∧
 (True ∧
 True) ∧
 True ∧
 True ∧
 True) ∧
 (g_5.1.2.1.set (g_6.2.1.toNat * nat_lit 8 + (nat_lit 0 + ((((g_4.1.2.1.getD (g_4.2.1.toNat * nat_lit 8 + (nat_lit 0 + ((g_3.1.1 / g_4.2.2.1 % (8 : Int)).toNat * nat_lit 1 + nat_lit 0))) ([] : List (Int × Int))).getD g_5.2.1.toNat ((0 : Int), (0 : Int))).1 / g_6.1 % (8 : Int)).toNat * nat_lit 1 + nat_lit 0))) ([] : List (Int × Int))).set (g_6.2.1.toNat * nat_lit 8 + (nat_lit 0 + ((((g_4.1.2.1.getD (g_4.2.1.toNat * nat_lit 8 + (nat_lit 0 + ((g_3.1.1 / g_4.2.2.1 % (8 : Int)).toNat * nat_lit 1 + nat_lit 0))) ([] : List (Int × Int))).getD g_5.2.1.toNat ((0 : Int), (0 : Int))).1 / g_6.1 % (8 : Int)).toNat * nat_lit 1 + nat_lit 0))) (g_5.1.2.1.getD (g_6.2.1.toNat * nat_lit 8 + (nat_lit 0 + ((((g_4.1.2.1.getD (g_4.2.1.toNat * nat_lit 8 + (nat_lit 0 + ((g_3.1.1 / g_4.2.2.1 % (8 : Int)).toNat * nat_lit 1 + nat_lit 0))) ([] : List (Int × Int))).getD g_5.2.1.toNat ((0 : Int), (0 : Int))).1 / g_6.1 % (8 : Int)).toNat * nat_lit 1 + nat_lit 0))) ([] : List (Int × Int)) ++ (((0 : Int), (0 : Int)) :: ([] : List (Int × Int))).set (0 : Nat) (((g_4.1.2.1.getD (g_4.2.1.toNat * nat_lit 8 + (nat_lit 0 + ((g_3.1.1 / g_4.2.2.1 % (8 : Int)).toNat * nat_lit 1 + nat_lit 0))) ([] : List (Int × Int))).getD g_5.2.1.toNat ((0 : Int), (0 : Int))).1, ((g_4.1.2.1.getD (g_4.2.1.toNat * nat_lit 8 + (nat_lit 0 + ((g_3.1.1 / g_4.2.2.1 % (8 : Int)).toNat * nat_lit 1 + nat_lit 0))) ([] : List (Int × Int))).getD g_5.2.1.toNat ((0 : Int), (0 : Int))).2)) = (g_5.1.2.1.set (g_6.2.1.toNat * nat_lit 8 + (nat_lit 0 + ((((g_4.1.2.1.getD (g_4.2.1.toNat * nat_lit 8 + (nat_lit 0 + ((g_3.1.1 / g_4.2.2.1 % (8 : Int)).toNat * nat_lit 1 + nat_lit 0))) ([] : List (Int × Int))).getD g_5.2.1.toNat ((0 : Int), (0 : Int))).1 / g_6.1 % (8 : Int)).toNat * nat_lit 1 + nat_lit 0))) ([] : List (Int × Int))).set (g_6.2.1.toNat * nat_lit 8 + (nat_lit 0 + ((((g_4.1.2.1.getD (g_4.2.1.toNat * nat_lit 8 + (nat_lit 0 + ((g_3.1.1 / g_4.2.2.1 % (8 : Int)).toNat * nat_lit 1 + nat_lit 0))) ([] : List (Int × Int))).getD g_5.2.1.toNat ((0 : Int), (0 : Int))).1 / g_6.1 % (8 : Int)).toNat * nat_lit 1 + nat_lit 0))) (g_5.1.2.1.getD (g_6.2.1.toNat * nat_lit 8 + (nat_lit 0 + ((((g_4.1.2.1.getD (g_4.2.1.toNat * nat_lit 8 + (nat_lit 0 + ((g_3.1.1 / g_4.2.2.1 % (8 : Int)).toNat * nat_lit 1 + nat_lit 0))) ([] : List (Int × Int))).getD g_5.2.1.toNat ((0 : Int), (0 : Int))).1 / g_6.1 % (8 : Int)).toNat * nat_lit 1 + nat_lit 0))) ([] : List (Int × Int)) ++ (((0 : Int), (0 : Int)) :: ([] : List (Int × Int))).set (0 : Nat) (((g_4.1.2.1.getD (g_4.2.1.toNat * nat_lit 8 + (nat_lit 0 + ((g_3.1.1 / g_4.2.2.1 % (8 : Int)).toNat * nat_lit 1 + nat_lit 0))) ([] : List (Int × Int))).getD g_5.2.1.toNat ((0 : Int), (0 : Int))).1, ((g_4.1.2.1.getD (g_4.2.1.toNat * nat_lit 8 + (nat_lit 0 + ((g_3.1.1 / g_4.2.2.1 % (8 : Int)).toNat * nat_lit 1 + nat_lit 0))) ([] : List (Int × Int))).getD g_5.2.1.toNat ((0 : Int), (0 : Int))).2)) ∧
 g.2.1 = g.2.1 ∧
 (RR ((opAt x.1 g.2.2.1).1) ∧
 RR ((opAt x.1 g.2.2.1).2.1) ∧
 RR ((opAt x.1 g.2.2.1).2.2) ∧
 True) ∧
 RR g_2.1.2.2.1 ∧
 RR g_2.1.2.2.2 ∧
 g_4.1.2.1.getD (g_4.2.1.toNat * nat_lit 8 + (nat_lit 0 + ((g_3.1.1 / g_4.2.2.1 % (8 : Int)).toNat * nat_lit 1 + nat_lit 0))) ([] : List (Int × Int)) = g_4.1.2.1.getD (g_4.2.1.toNat * nat_lit 8 + (nat_lit 0 + ((g_3.1.1 / g_4.2.2.1 % (8 : Int)).toNat * nat_lit 1 + nat_lit 0))) ([] : List (Int × Int)) ∧
 True) ∧
 (True ∧
 True) ∧
 R32 (R32 (R8 (True ∧
 True ∧
 True ∧
 RR g_1.1.2.2 ∧
 g_2.2.1 = g_2.2.1 ∧
 true = true ∧
 (True ∧
 True) ∧
 R8 ((True ∧
 True) ∧
 True ∧
 True ∧
 (True ∧
 True) ∧
 True ∧
 True ∧
 True ∧
 True ∧
 True ∧
 True ∧
 x.1 = x.1 ∧
 RR (↑x.1.length : Int) ∧
 g.2.2.1 = g.2.2.1 ∧
 true = true ∧
 True ∧
 (RR ((opAt x.1 g.2.2.1).1) ∧
 RR ((opAt x.1 g.2.2.1).2.1) ∧
 RR ((opAt x.1 g.2.2.1).2.2) ∧
 True) ∧
 True ∧
 (True ∧
 True) ∧
 (RR ((opAt x.1 g.2.2.1).1) ∧
 RR ((opAt x.1 g.2.2.1).2.1) ∧
 RR ((opAt x.1 g.2.2.1).2.2) ∧
 True) ∧
 R8 (True ∧
 True ∧
 True ∧
 True ∧
 True ∧
 True ∧
 True)))))) ∧
 (g_6.2.1.toNat * nat_lit 8 + (nat_lit 0 + ((((g_4.1.2.1.getD (g_4.2.1.toNat * nat_lit 8 + (nat_lit 0 + ((g_3.1.1 / g_4.2.2.1 % (8 : Int)).toNat * nat_lit 1 + nat_lit 0))) ([] : List (Int × Int))).getD g_5.2.1.toNat ((0 : Int), (0 : Int))).1 / g_6.1 % (8 : Int)).toNat * nat_lit 1 + nat_lit 0)) < nat_lit 24 ∧
 ((g_5.1.2.1.getD (g_6.2.1.toNat * nat_lit 8 + (nat_lit 0 + ((((g_4.1.2.1.getD (g_4.2.1.toNat * nat_lit 8 + (nat_lit 0 + ((g_3.1.1 / g_4.2.2.1 % (8 : Int)).toNat * nat_lit 1 + nat_lit 0))) ([] : List (Int × Int))).getD g_5.2.1.toNat ((0 : Int), (0 : Int))).1 / g_6.1 % (8 : Int)).toNat * nat_lit 1 + nat_lit 0))) ([] : List (Int × Int))).length + ((((0 : Int), (0 : Int)) :: ([] : List (Int × Int))).set (0 : Nat) (((g_4.1.2.1.getD (g_4.2.1.toNat * nat_lit 8 + (nat_lit 0 + ((g_3.1.1 / g_4.2.2.1 % (8 : Int)).toNat * nat_lit 1 + nat_lit 0))) ([] : List (Int × Int))).getD g_5.2.1.toNat ((0 : Int), (0 : Int))).1, ((g_4.1.2.1.getD (g_4.2.1.toNat * nat_lit 8 + (nat_lit 0 + ((g_3.1.1 / g_4.2.2.1 % (8 : Int)).toNat * nat_lit 1 + nat_lit 0))) ([] : List (Int × Int))).getD g_5.2.1.toNat ((0 : Int), (0 : Int))).2)).length ≤ (9223372036854775807 : Nat) ∧
 ((g_5.1.2.1.getD (g_6.2.1.toNat * nat_lit 8 + (nat_lit 0 + ((((g_4.1.2.1.getD (g_4.2.1.toNat * nat_lit 8 + (nat_lit 0 + ((g_3.1.1 / g_4.2.2.1 % (8 : Int)).toNat * nat_lit 1 + nat_lit 0))) ([] : List (Int × Int))).getD g_5.2.1.toNat ((0 : Int), (0 : Int))).1 / g_6.1 % (8 : Int)).toNat * nat_lit 1 + nat_lit 0))) ([] : List (Int × Int))).length + ((((0 : Int), (0 : Int)) :: ([] : List (Int × Int))).set (0 : Nat) (((g_4.1.2.1.getD (g_4.2.1.toNat * nat_lit 8 + (nat_lit 0 + ((g_3.1.1 / g_4.2.2.1 % (8 : Int)).toNat * nat_lit 1 + nat_lit 0))) ([] : List (Int × Int))).getD g_5.2.1.toNat ((0 : Int), (0 : Int))).1, ((g_4.1.2.1.getD (g_4.2.1.toNat * nat_lit 8 + (nat_lit 0 + ((g_3.1.1 / g_4.2.2.1 % (8 : Int)).toNat * nat_lit 1 + nat_lit 0))) ([] : List (Int × Int))).getD g_5.2.1.toNat ((0 : Int), (0 : Int))).2)).length + ((g_5.1.2.1.getD (g_6.2.1.toNat * nat_lit 8 + (nat_lit 0 + ((((g_4.1.2.1.getD (g_4.2.1.toNat * nat_lit 8 + (nat_lit 0 + ((g_3.1.1 / g_4.2.2.1 % (8 : Int)).toNat * nat_lit 1 + nat_lit 0))) ([] : List (Int × Int))).getD g_5.2.1.toNat ((0 : Int), (0 : Int))).1 / g_6.1 % (8 : Int)).toNat * nat_lit 1 + nat_lit 0))) ([] : List (Int × Int))).length + ((((0 : Int), (0 : Int)) :: ([] : List (Int × Int))).set (0 : Nat) (((g_4.1.2.1.getD (g_4.2.1.toNat * nat_lit 8 + (nat_lit 0 + ((g_3.1.1 / g_4.2.2.1 % (8 : Int)).toNat * nat_lit 1 + nat_lit 0))) ([] : List (Int × Int))).getD g_5.2.1.toNat ((0 : Int), (0 : Int))).1, ((g_4.1.2.1.getD (g_4.2.1.toNat * nat_lit 8 + (nat_lit 0 + ((g_3.1.1 / g_4.2.2.1 % (8 : Int)).toNat * nat_lit 1 + nat_lit 0))) ([] : List (Int × Int))).getD g_5.2.1.toNat ((0 : Int), (0 : Int))).2)).length) / (4 : Nat) + (192 : Nat)) * (16 : Nat) ≤ (281474976710656 : Nat)) ∧
 g_6.2.1.toNat * nat_lit 8 + (nat_lit 0 + ((((g_4.1.2.1.getD (g_4.2.1.toNat * nat_lit 8 + (nat_lit 0 + ((g_3.1.1 / g_4.2.2.1 % (8 : Int)).toNat * nat_lit 1 + nat_lit 0))) ([] : List (Int × Int))).getD g_5.2.1.toNat ((0 : Int), (0 : Int))).1 / g_6.1 % (8 : Int)).toNat * nat_lit 1 + nat_lit 0)) = g_6.2.1.toNat * nat_lit 8 + (nat_lit 0 + ((((g_4.1.2.1.getD (g_4.2.1.toNat * nat_lit 8 + (nat_lit 0 + ((g_3.1.1 / g_4.2.2.1 % (8 : Int)).toNat * nat_lit 1 + nat_lit 0))) ([] : List (Int × Int))).getD g_5.2.1.toNat ((0 : Int), (0 : Int))).1 / g_6.1 % (8 : Int)).toNat * nat_lit 1 + nat_lit 0)) ∧
 ((-9223372036854775808 : Int) ≤ g_5.2.1 + (1 : Int) ∧
 g_5.2.1 + (1 : Int) ≤ (9223372036854775807 : Int)) ∧
 (((0 : Int) ≤ g_5.2.1 + (1 : Int) ∧
 g_5.2.1 + (1 : Int) ≤ (↑(g_4.1.2.1.getD (g_4.2.1.toNat * nat_lit 8 + (nat_lit 0 + ((g_3.1.1 / g_4.2.2.1 % (8 : Int)).toNat * nat_lit 1 + nat_lit 0))) ([] : List (Int × Int))).length : Int) ∧
 (g_5.1.2.1.set (g_6.2.1.toNat * nat_lit 8 + (nat_lit 0 + ((((g_4.1.2.1.getD (g_4.2.1.toNat * nat_lit 8 + (nat_lit 0 + ((g_3.1.1 / g_4.2.2.1 % (8 : Int)).toNat * nat_lit 1 + nat_lit 0))) ([] : List (Int × Int))).getD g_5.2.1.toNat ((0 : Int), (0 : Int))).1 / g_6.1 % (8 : Int)).toNat * nat_lit 1 + nat_lit 0))) ([] : List (Int × Int))).set (g_6.2.1.toNat * nat_lit 8 + (nat_lit 0 + ((((g_4.1.2.1.getD (g_4.2.1.toNat * nat_lit 8 + (nat_lit 0 + ((g_3.1.1 / g_4.2.2.1 % (8 : Int)).toNat * nat_lit 1 + nat_lit 0))) ([] : List (Int × Int))).getD g_5.2.1.toNat ((0 : Int), (0 : Int))).1 / g_6.1 % (8 : Int)).toNat * nat_lit 1 + nat_lit 0))) (g_5.1.2.1.getD (g_6.2.1.toNat * nat_lit 8 + (nat_lit 0 + ((((g_4.1.2.1.getD (g_4.2.1.toNat * nat_lit 8 + (nat_lit 0 + ((g_3.1.1 / g_4.2.2.1 % (8 : Int)).toNat * nat_lit 1 + nat_lit 0))) ([] : List (Int × Int))).getD g_5.2.1.toNat ((0 : Int), (0 : Int))).1 / g_6.1 % (8 : Int)).toNat * nat_lit 1 + nat_lit 0))) ([] : List (Int × Int)) ++ (((0 : Int), (0 : Int)) :: ([] : List (Int × Int))).set (0 : Nat) (((g_4.1.2.1.getD (g_4.2.1.toNat * nat_lit 8 + (nat_lit 0 + ((g_3.1.1 / g_4.2.2.1 % (8 : Int)).toNat * nat_lit 1 + nat_lit 0))) ([] : List (Int × Int))).getD g_5.2.1.toNat ((0 : Int), (0 : Int))).1, ((g_4.1.2.1.getD (g_4.2.1.toNat * nat_lit 8 + (nat_lit 0 + ((g_3.1.1 / g_4.2.2.1 % (8 : Int)).toNat * nat_lit 1 + nat_lit 0))) ([] : List (Int × Int))).getD g_5.2.1.toNat ((0 : Int), (0 : Int))).2)) = List.foldl (putW g_3.1.1) (List.set (g_4.1.2.1.set (g_4.2.1.toNat * nat_lit 8 + (nat_lit 0 + ((g_3.1.1 / g_4.2.2.1 % (8 : Int)).toNat * nat_lit 1 + nat_lit 0))) ([] : List (Int × Int))) (g_4.2.1.toNat * nat_lit 8 + (nat_lit 0 + ((g_3.1.1 / g_4.2.2.1 % (8 : Int)).toNat * nat_lit 1 + nat_lit 0))) ([] : List (Int × Int))) (List.take (g_5.2.1 + (1 : Int)).toNat (g_4.1.2.1.getD (g_4.2.1.toNat * nat_lit 8 + (nat_lit 0 + ((g_3.1.1 / g_4.2.2.1 % (8 : Int)).toNat * nat_lit 1 + nat_lit 0))) ([] : List (Int × Int))))) ∧
 ((↑(g_4.1.2.1.getD (g_4.2.1.toNat * nat_lit 8 + (nat_lit 0 + ((g_3.1.1 / g_4.2.2.1 % (8 : Int)).toNat * nat_lit 1 + nat_lit 0))) ([] : List (Int × Int))).length : Int) - (g_5.2.1 + (1 : Int))).toNat < ((↑(g_4.1.2.1.getD (g_4.2.1.toNat * nat_lit 8 + (nat_lit 0 + ((g_3.1.1 / g_4.2.2.1 % (8 : Int)).toNat * nat_lit 1 + nat_lit 0))) ([] : List (Int × Int))).length : Int) - g_5.2.1).toNat) ∧
 ((True ∧
 True) ∧
 g_4.2.1 = g_4.2.1 ∧
 RR g_4.2.2.1 ∧
 True ∧
 (↑(g_4.1.2.1.getD (g_4.2.1.toNat * nat_lit 8 + (nat_lit 0 + ((g_3.1.1 / g_4.2.2.1 % (8 : Int)).toNat * nat_lit 1 + nat_lit 0))) ([] : List (Int × Int))).length : Int) = (↑(g_4.1.2.1.getD (g_4.2.1.toNat * nat_lit 8 + (nat_lit 0 + ((g_3.1.1 / g_4.2.2.1 % (8 : Int)).toNat * nat_lit 1 + nat_lit 0))) ([] : List (Int × Int))).length : Int) ∧
 g_5.2.1 + (1 : Int) = g_5.2.1 + (1 : Int) ∧
 True) ∧
 ((g_3.1.1 = g_3.1.1 ∧
 (True ∧
 True) ∧
 True ∧
 True ∧
 True) ∧
 (g_5.1.2.1.set (g_6.2.1.toNat * nat_lit 8 + (nat_lit 0 + ((((g_4.1.2.1.getD (g_4.2.1.toNat * nat_lit 8 + (nat_lit 0 + ((g_3.1.1 / g_4.2.2.1 % (8 : Int)).toNat * nat_lit 1 + nat_lit 0))) ([] : List (Int × Int))).getD g_5.2.1.toNat ((0 : Int), (0 : Int))).1 / g_6.1 % (8 : Int)).toNat * nat_lit 1 + nat_lit 0))) ([] : List (Int × Int))).set (g_6.2.1.toNat * nat_lit 8 + (nat_lit 0 + ((((g_4.1.2.1.getD (g_4.2.1.toNat * nat_lit 8 + (nat_lit 0 + ((g_3.1.1 / g_4.2.2.1 % (8 : Int)).toNat * nat_lit 1 + nat_lit 0))) ([] : List (Int × Int))).getD g_5.2.1.toNat ((0 : Int), (0 : Int))).1 / g_6.1 % (8 : Int)).toNat * nat_lit 1 + nat_lit 0))) (g_5.1.2.1.getD (g_6.2.1.toNat * nat_lit 8 + (nat_lit 0 + ((((g_4.1.2.1.getD (g_4.2.1.toNat * nat_lit 8 + (nat_lit 0 + ((g_3.1.1 / g_4.2.2.1 % (8 : Int)).toNat * nat_lit 1 + nat_lit 0))) ([] : List (Int × Int))).getD g_5.2.1.toNat ((0 : Int), (0 : Int))).1 / g_6.1 % (8 : Int)).toNat * nat_lit 1 + nat_lit 0))) ([] : List (Int × Int)) ++ (((0 : Int), (0 : Int)) :: ([] : List (Int × Int))).set (0 : Nat) (((g_4.1.2.1.getD (g_4.2.1.toNat * nat_lit 8 + (nat_lit 0 + ((g_3.1.1 / g_4.2.2.1 % (8 : Int)).toNat * nat_lit 1 + nat_lit 0))) ([] : List (Int × Int))).getD g_5.2.1.toNat ((0 : Int), (0 : Int))).1, ((g_4.1.2.1.getD (g_4.2.1.toNat * nat_lit 8 + (nat_lit 0 + ((g_3.1.1 / g_4.2.2.1 % (8 : Int)).toNat * nat_lit 1 + nat_lit 0))) ([] : List (Int × Int))).getD g_5.2.1.toNat ((0 : Int), (0 : Int))).2)) = (g_5.1.2.1.set (g_6.2.1.toNat * nat_lit 8 + (nat_lit 0 + ((((g_4.1.2.1.getD (g_4.2.1.toNat * nat_lit 8 + (nat_lit 0 + ((g_3.1.1 / g_4.2.2.1 % (8 : Int)).toNat * nat_lit 1 + nat_lit 0))) ([] : List (Int × Int))).getD g_5.2.1.toNat ((0 : Int), (0 : Int))).1 / g_6.1 % (8 : Int)).toNat * nat_lit 1 + nat_lit 0))) ([] : List (Int × Int))).set (g_6.2.1.toNat * nat_lit 8 + (nat_lit 0 + ((((g_4.1.2.1.getD (g_4.2.1.toNat * nat_lit 8 + (nat_lit 0 + ((g_3.1.1 / g_4.2.2.1 % (8 : Int)).toNat * nat_lit 1 + nat_lit 0))) ([] : List (Int × Int))).getD g_5.2.1.toNat ((0 : Int), (0 : Int))).1 / g_6.1 % (8 : Int)).toNat * nat_lit 1 + nat_lit 0))) (g_5.1.2.1.getD (g_6.2.1.toNat * nat_lit 8 + (nat_lit 0 + ((((g_4.1.2.1.getD (g_4.2.1.toNat * nat_lit 8 + (nat_lit 0 + ((g_3.1.1 / g_4.2.2.1 % (8 : Int)).toNat * nat_lit 1 + nat_lit 0))) ([] : List (Int × Int))).getD g_5.2.1.toNat ((0 : Int), (0 : Int))).1 / g_6.1 % (8 : Int)).toNat * nat_lit 1 + nat_lit 0))) ([] : List (Int × Int)) ++ (((0 : Int), (0 : Int)) :: ([] : List (Int × Int))).set (0 : Nat) (((g_4.1.2.1.getD (g_4.2.1.toNat * nat_lit 8 + (nat_lit 0 + ((g_3.1.1 / g_4.2.2.1 % (8 : Int)).toNat * nat_lit 1 + nat_lit 0))) ([] : List (Int × Int))).getD g_5.2.1.toNat ((0 : Int), (0 : Int))).1, ((g_4.1.2.1.getD (g_4.2.1.toNat * nat_lit 8 + (nat_lit 0 + ((g_3.1.1 / g_4.2.2.1 % (8 : Int)).toNat * nat_lit 1 + nat_lit 0))) ([] : List (Int × Int))).getD g_5.2.1.toNat ((0 : Int), (0 : Int))).2)) ∧
 g.2.1 = g.2.1 ∧
 (RR ((opAt x.1 g.2.2.1).1) ∧
 RR ((opAt x.1 g.2.2.1).2.1) ∧
 RR ((opAt x.1 g.2.2.1).2.2) ∧
 True) ∧
 RR g_2.1.2.2.1 ∧
 RR g_2.1.2.2.2 ∧
 g_4.1.2.1.getD (g_4.2.1.toNat * nat_lit 8 + (nat_lit 0 + ((g_3.1.1 / g_4.2.2.1 % (8 : Int)).toNat * nat_lit 1 + nat_lit 0))) ([] : List (Int × Int)) = g_4.1.2.1.getD (g_4.2.1.toNat * nat_lit 8 + (nat_lit 0 + ((g_3.1.1 / g_4.2.2.1 % (8 : Int)).toNat * nat_lit 1 + nat_lit 0))) ([] : List (Int × Int)) ∧
 True) ∧
 (True ∧
 True) ∧
 R32 (R32 (R8 (True ∧
 True ∧
 True ∧
 RR g_1.1.2.2 ∧
 g_2.2.1 = g_2.2.1 ∧
 true = true ∧
 (True ∧
 True) ∧
 R8 ((True ∧
 True) ∧
 True ∧
 True ∧
 (True ∧
 True) ∧
 True ∧
 True ∧
 True ∧
 True ∧
 True ∧
 True ∧
 x.1 = x.1 ∧
 RR (↑x.1.length : Int) ∧
 g.2.2.1 = g.2.2.1 ∧
 true = true ∧
 True ∧
 (RR ((opAt x.1 g.2.2.1).1) ∧
 RR ((opAt x.1 g.2.2.1).2.1) ∧
 RR ((opAt x.1 g.2.2.1).2.2) ∧
 True) ∧
 True ∧
 (True ∧
 True) ∧
 (RR ((opAt x.1 g.2.2.1).1) ∧
 RR ((opAt x.1 g.2.2.1).2.1) ∧
 RR ((opAt x.1 g.2.2.1).2.2) ∧
 True) ∧
 R8 (True ∧
 True ∧
 True ∧
 True ∧
 True ∧
 True ∧
 True)))))) ∧
 (g_6.2.1.toNat * nat_lit 8 + (nat_lit 0 + ((((g_4.1.2.1.getD (g_4.2.1.toNat * nat_lit 8 + (nat_lit 0 + ((g_3.1.1 / g_4.2.2.1 % (8 : Int)).toNat * nat_lit 1 + nat_lit 0))) ([] : List (Int × Int))).getD g_5.2.1.toNat ((0 : Int), (0 : Int))).1 / g_6.1 % (8 : Int)).toNat * nat_lit 1 + nat_lit 0)) < nat_lit 24 ∧
 ((g_5.1.2.1.getD (g_6.2.1.toNat * nat_lit 8 + (nat_lit 0 + ((((g_4.1.2.1.getD (g_4.2.1.toNat * nat_lit 8 + (nat_lit 0 + ((g_3.1.1 / g_4.2.2.1 % (8 : Int)).toNat * nat_lit 1 + nat_lit 0))) ([] : List (Int × Int))).getD g_5.2.1.toNat ((0 : Int), (0 : Int))).1 / g_6.1 % (8 : Int)).toNat * nat_lit 1 + nat_lit 0))) ([] : List (Int × Int))).length + ((((0 : Int), (0 : Int)) :: ([] : List (Int × Int))).set (0 : Nat) (((g_4.1.2.1.getD (g_4.2.1.toNat * nat_lit 8 + (nat_lit 0 + ((g_3.1.1 / g_4.2.2.1 % (8 : Int)).toNat * nat_lit 1 + nat_lit 0))) ([] : List (Int × Int))).getD g_5.2.1.toNat ((0 : Int), (0 : Int))).1, ((g_4.1.2.1.getD (g_4.2.1.toNat * nat_lit 8 + (nat_lit 0 + ((g_3.1.1 / g_4.2.2.1 % (8 : Int)).toNat * nat_lit 1 + nat_lit 0))) ([] : List (Int × Int))).getD g_5.2.1.toNat ((0 : Int), (0 : Int))).2)).length ≤ (9223372036854775807 : Nat) ∧
 ((g_5.1.2.1.getD (g_6.2.1.toNat * nat_lit 8 + (nat_lit 0 + ((((g_4.1.2.1.getD (g_4.2.1.toNat * nat_lit 8 + (nat_lit 0 + ((g_3.1.1 / g_4.2.2.1 % (8 : Int)).toNat * nat_lit 1 + nat_lit 0))) ([] : List (Int × Int))).getD g_5.2.1.toNat ((0 : Int), (0 : Int))).1 / g_6.1 % (8 : Int)).toNat * nat_lit 1 + nat_lit 0))) ([] : List (Int × Int))).length + ((((0 : Int), (0 : Int)) :: ([] : List (Int × Int))).set (0 : Nat) (((g_4.1.2.1.getD (g_4.2.1.toNat * nat_lit 8 + (nat_lit 0 + ((g_3.1.1 / g_4.2.2.1 % (8 : Int)).toNat * nat_lit 1 + nat_lit 0))) ([] : List (Int × Int))).getD g_5.2.1.toNat ((0 : Int), (0 : Int))).1, ((g_4.1.2.1.getD (g_4.2.1.toNat * nat_lit 8 + (nat_lit 0 + ((g_3.1.1 / g_4.2.2.1 % (8 : Int)).toNat * nat_lit 1 + nat_lit 0))) ([] : List (Int × Int))).getD g_5.2.1.toNat ((0 : Int), (0 : Int))).2)).length + ((g_5.1.2.1.getD (g_6.2.1.toNat * nat_lit 8 + (nat_lit 0 + ((((g_4.1.2.1.getD (g_4.2.1.toNat * nat_lit 8 + (nat_lit 0 + ((g_3.1.1 / g_4.2.2.1 % (8 : Int)).toNat * nat_lit 1 + nat_lit 0))) ([] : List (Int × Int))).getD g_5.2.1.toNat ((0 : Int), (0 : Int))).1 / g_6.1 % (8 : Int)).toNat * nat_lit 1 + nat_lit 0))) ([] : List (Int × Int))).length + ((((0 : Int), (0 : Int)) :: ([] : List (Int × Int))).set (0 : Nat) (((g_4.1.2.1.getD (g_4.2.1.toNat * nat_lit 8 + (nat_lit 0 + ((g_3.1.1 / g_4.2.2.1 % (8 : Int)).toNat * nat_lit 1 + nat_lit 0))) ([] : List (Int × Int))).getD g_5.2.1.toNat ((0 : Int), (0 : Int))).1, ((g_4.1.2.1.getD (g_4.2.1.toNat * nat_lit 8 + (nat_lit 0 + ((g_3.1.1 / g_4.2.2.1 % (8 : Int)).toNat * nat_lit 1 + nat_lit 0))) ([] : List (Int × Int))).getD g_5.2.1.toNat ((0 : Int), (0 : Int))).2)).length) / (4 : Nat) + (192 : Nat)) * (16 : Nat) ≤ (281474976710656 : Nat)) ∧
 g_6.2.1.toNat * nat_lit 8 + (nat_lit 0 + ((((g_4.1.2.1.getD (g_4.2.1.toNat * nat_lit 8 + (nat_lit 0 + ((g_3.1.1 / g_4.2.2.1 % (8 : Int)).toNat * nat_lit 1 + nat_lit 0))) ([] : List (Int × Int))).getD g_5.2.1.toNat ((0 : Int), (0 : Int))).1 / g_6.1 % (8 : Int)).toNat * nat_lit 1 + nat_lit 0)) = g_6.2.1.toNat * nat_lit 8 + (nat_lit 0 + ((((g_4.1.2.1.getD (g_4.2.1.toNat * nat_lit 8 + (nat_lit 0 + ((g_3.1.1 / g_4.2.2.1 % (8 : Int)).toNat * nat_lit 1 + nat_lit 0))) ([] : List (Int × Int))).getD g_5.2.1.toNat ((0 : Int), (0 : Int))).1 / g_6.1 % (8 : Int)).toNat * nat_lit 1 + nat_lit 0)) ∧
 ((-9223372036854775808 : Int) ≤ g_5.2.1 + (1 : Int) ∧
 g_5.2.1 + (1 : Int) ≤ (9223372036854775807 : Int)) ∧
 (((0 : Int) ≤ g_5.2.1 + (1 : Int) ∧
 g_5.2.1 + (1 : Int) ≤ (↑(g_4.1.2.1.getD (g_4.2.1.toNat * nat_lit 8 + (nat_lit 0 + ((g_3.1.1 / g_4.2.2.1 % (8 : Int)).toNat * nat_lit 1 + nat_lit 0))) ([] : List (Int × Int))).length : Int) ∧
 (g_5.1.2.1.set (g_6.2.1.toNat * nat_lit 8 + (nat_lit 0 + ((((g_4.1.2.1.getD (g_4.2.1.toNat * nat_lit 8 + (nat_lit 0 + ((g_3.1.1 / g_4.2.2.1 % (8 : Int)).toNat * nat_lit 1 + nat_lit 0))) ([] : List (Int × Int))).getD g_5.2.1.toNat ((0 : Int), (0 : Int))).1 / g_6.1 % (8 : Int)).toNat * nat_lit 1 + nat_lit 0))) ([] : List (Int × Int))).set (g_6.2.1.toNat * nat_lit 8 + (nat_lit 0 + ((((g_4.1.2.1.getD (g_4.2.1.toNat * nat_lit 8 + (nat_lit 0 + ((g_3.1.1 / g_4.2.2.1 % (8 : Int)).toNat * nat_lit 1 + nat_lit 0))) ([] : List (Int × Int))).getD g_5.2.1.toNat ((0 : Int), (0 : Int))).1 / g_6.1 % (8 : Int)).toNat * nat_lit 1 + nat_lit 0))) (g_5.1.2.1.getD (g_6.2.1.toNat * nat_lit 8 + (nat_lit 0 + ((((g_4.1.2.1.getD (g_4.2.1.toNat * nat_lit 8 + (nat_lit 0 + ((g_3.1.1 / g_4.2.2.1 % (8 : Int)).toNat * nat_lit 1 + nat_lit 0))) ([] : List (Int × Int))).getD g_5.2.1.toNat ((0 : Int), (0 : Int))).1 / g_6.1 % (8 : Int)).toNat * nat_lit 1 + nat_lit 0))) ([] : List (Int × Int)) ++ (((0 : Int), (0 : Int)) :: ([] : List (Int × Int))).set (0 : Nat) (((g_4.1.2.1.getD (g_4.2.1.toNat * nat_lit 8 + (nat_lit 0 + ((g_3.1.1 / g_4.2.2.1 % (8 : Int)).toNat * nat_lit 1 + nat_lit 0))) ([] : List (Int × Int))).getD g_5.2.1.toNat ((0 : Int), (0 : Int))).1, ((g_4.1.2.1.getD (g_4.2.1.toNat * nat_lit 8 + (nat_lit 0 + ((g_3.1.1 / g_4.2.2.1 % (8 : Int)).toNat * nat_lit 1 + nat_lit 0))) ([] : List (Int × Int))).getD g_5.2.1.toNat ((0 : Int), (0 : Int))).2)) = List.foldl (putW g_3.1.1) (List.set (g_4.1.2.1.set (g_4.2.1.toNat * nat_lit 8 + (nat_lit 0 + ((g_3.1.1 / g_4.2.2.1 % (8 : Int)).toNat * nat_lit 1 + nat_lit 0))) ([] : List (Int × Int))) (g_4.2.1.toNat * nat_lit 8 + (nat_lit 0 + ((g_3.1.1 / g_4.2.2.1 % (8 : Int)).toNat * nat_lit 1 + nat_lit 0))) ([] : List (Int × Int))) (List.take (g_5.2.1 + (1 : Int)).toNat (g_4.1.2.1.getD (g_4.2.1.toNat * nat_lit 8 + (nat_lit 0 + ((g_3.1.1 / g_4.2.2.1 % (8 : Int)).toNat * nat_lit 1 + nat_lit 0))) ([] : List (Int × Int))))) ∧
 ((↑(g_4.1.2.1.getD (g_4.2.1.toNat * nat_lit 8 + (nat_lit 0 + ((g_3.1.1 / g_4.2.2.1 % (8 : Int)).toNat * nat_lit 1 + nat_lit 0))) ([] : List (Int × Int))).length : Int) - (g_5.2.1 + (1 : Int))).toNat < ((↑(g_4.1.2.1.getD (g_4.2.1.toNat * nat_lit 8 + (nat_lit 0 + ((g_3.1.1 / g_4.2.2.1 % (8 : Int)).toNat * nat_lit 1 + nat_lit 0))) ([] : List (Int × Int))).length : Int) - g_5.2.1).toNat) ∧
 ((True ∧
 True) ∧
 g_4.2.1 = g_4.2.1 ∧
 RR g_4.2.2.1 ∧
 True ∧
 (↑(g_4.1.2.1.getD (g_4.2.1.toNat * nat_lit 8 + (nat_lit 0 + ((g_3.1.1 / g_4.2.2.1 % (8 : Int)).toNat * nat_lit 1 + nat_lit 0))) ([] : List (Int × Int))).length : Int) = (↑(g_4.1.2.1.getD (g_4.2.1.toNat * nat_lit 8 + (nat_lit 0 + ((g_3.1.1 / g_4.2.2.1 % (8 : Int)).toNat * nat_lit 1 + nat_lit 0))) ([] : List (Int × Int))).length : Int) ∧
 g_5.2.1 + (1 : Int) = g_5.2.1 + (1 : Int) ∧
 True) ∧
 ((g_3.1.1 = g_3.1.1 ∧
 (True ∧
 True) ∧
 True ∧
 True ∧
 True) ∧
 (g_5.1.2.1.set (g_6.2.1.toNat * nat_lit 8 + (nat_lit 0 + ((((g_4.1.2.1.getD (g_4.2.1.toNat * nat_lit 8 + (nat_lit 0 + ((g_3.1.1 / g_4.2.2.1 % (8 : Int)).toNat * nat_lit 1 + nat_lit 0))) ([] : List (Int × Int))).getD g_5.2.1.toNat ((0 : Int), (0 : Int))).1 / g_6.1 % (8 : Int)).toNat * nat_lit 1 + nat_lit 0))) ([] : List (Int × Int))).set (g_6.2.1.toNat * nat_lit 8 + (nat_lit 0 + ((((g_4.1.2.1.getD (g_4.2.1.toNat * nat_lit 8 + (nat_lit 0 + ((g_3.1.1 / g_4.2.2.1 % (8 : Int)).toNat * nat_lit 1 + nat_lit 0))) ([] : List (Int × Int))).getD g_5.2.1.toNat ((0 : Int), (0 : Int))).1 / g_6.1 % (8 : Int)).toNat * nat_lit 1 + nat_lit 0))) (g_5.1.2.1.getD (g_6.2.1.toNat * nat_lit 8 + (nat_lit 0 + ((((g_4.1.2.1.getD (g_4.2.1.toNat * nat_lit 8 + (nat_lit 0 + ((g_3.1.1 / g_4.2.2.1 % (8 : Int)).toNat * nat_lit 1 + nat_lit 0))) ([] : List (Int × Int))).getD g_5.2.1.toNat ((0 : Int), (0 : Int))).1 / g_6.1 % (8 : Int)).toNat * nat_lit 1 + nat_lit 0))) ([] : List (Int × Int)) ++ (((0 : Int), (0 : Int)) :: ([] : List (Int × Int))).set (0 : Nat) (((g_4.1.2.1.getD (g_4.2.1.toNat * nat_lit 8 + (nat_lit 0 + ((g_3.1.1 / g_4.2.2.1 % (8 : Int)).toNat * nat_lit 1 + nat_lit 0))) ([] : List (Int × Int))).getD g_5.2.1.toNat ((0 : Int), (0 : Int))).1, ((g_4.1.2.1.getD (g_4.2.1.toNat * nat_lit 8 + (nat_lit 0 + ((g_3.1.1 / g_4.2.2.1 % (8 : Int)).toNat * nat_lit 1 + nat_lit 0))) ([] : List (Int × Int))).getD g_5.2.1.toNat ((0 : Int), (0 : Int))).2)) = (g_5.1.2.1.set (g_6.2.1.toNat * nat_lit 8 + (nat_lit 0 + ((((g_4.1.2.1.getD (g_4.2.1.toNat * nat_lit 8 + (nat_lit 0 + ((g_3.1.1 / g_4.2.2.1 % (8 : Int)).toNat * nat_lit 1 + nat_lit 0))) ([] : List (Int × Int))).getD g_5.2.1.toNat ((0 : Int), (0 : Int))).1 / g_6.1 % (8 : Int)).toNat * nat_lit 1 + nat_lit 0))) ([] : List (Int × Int))).set (g_6.2.1.toNat * nat_lit 8 + (nat_lit 0 + ((((g_4.1.2.1.getD (g_4.2.1.toNat * nat_lit 8 + (nat_lit 0 + ((g_3.1.1 / g_4.2.2.1 % (8 : Int)).toNat * nat_lit 1 + nat_lit 0))) ([] : List (Int × Int))).getD g_5.2.1.toNat ((0 : Int), (0 : Int))).1 / g_6.1 % (8 : Int)).toNat * nat_lit 1 + nat_lit 0))) (g_5.1.2.1.getD (g_6.2.1.toNat * nat_lit 8 + (nat_lit 0 + ((((g_4.1.2.1.getD (g_4.2.1.toNat * nat_lit 8 + (nat_lit 0 + ((g_3.1.1 / g_4.2.2.1 % (8 : Int)).toNat * nat_lit 1 + nat_lit 0))) ([] : List (Int × Int))).getD g_5.2.1.toNat ((0 : Int), (0 : Int))).1 / g_6.1 % (8 : Int)).toNat * nat_lit 1 + nat_lit 0))) ([] : List (Int × Int)) ++ (((0 : Int), (0 : Int)) :: ([] : List (Int × Int))).set (0 : Nat) (((g_4.1.2.1.getD (g_4.2.1.toNat * nat_lit 8 + (nat_lit 0 + ((g_3.1.1 / g_4.2.2.1 % (8 : Int)).toNat * nat_lit 1 + nat_lit 0))) ([] : List (Int × Int))).getD g_5.2.1.toNat ((0 : Int), (0 : Int))).1, ((g_4.1.2.1.getD (g_4.2.1.toNat * nat_lit 8 + (nat_lit 0 + ((g_3.1.1 / g_4.2.2.1 % (8 : Int)).toNat * nat_lit 1 + nat_lit 0))) ([] : List (Int × Int))).getD g_5.2.1.toNat ((0 : Int), (0 : Int))).2)) ∧
 g.2.1 = g.2.1 ∧
 (RR ((opAt x.1 g.2.2.1).1) ∧
 RR ((opAt x.1 g.2.2.1).2.1) ∧
 RR ((opAt x.1 g.2.2.1).2.2) ∧
 True) ∧
 RR g_2.1.2.2.1 ∧
 RR g_2.1.2.2.2 ∧
 g_4.1.2.1.getD (g_4.2.1.toNat * nat_lit 8 + (nat_lit 0 + ((g_3.1.1 / g_4.2.2.1 % (8 : Int)).toNat * nat_lit 1 + nat_lit 0))) ([] : List (Int × Int)) = g_4.1.2.1.getD (g_4.2.1.toNat * nat_lit 8 + (nat_lit 0 + ((g_3.1.1 / g_4.2.2.1 % (8 : Int)).toNat * nat_lit 1 + nat_lit 0))) ([] : List (Int × Int)) ∧
 True) ∧
 (True ∧
 True) ∧
 R32 (R32 (R8 (True ∧
 True ∧
 True ∧
 RR g_1.1.2.2 ∧
 g_2.2.1 = g_2.2.1 ∧
 true = true ∧
 (True ∧
 True) ∧
 R8 ((True ∧
 True) ∧
 True ∧
 True ∧
 (True ∧
 True) ∧
 True ∧
 True ∧
 True ∧
 True ∧
 True ∧
 True ∧
 x.1 = x.1 ∧
 RR (↑x.1.length : Int) ∧
 g.2.2.1 = g.2.2.1 ∧
 true = true ∧
 True ∧
 (RR ((opAt x.1 g.2.2.1).1) ∧
 RR ((opAt x.1 g.2.2.1).2.1) ∧
 RR ((opAt x.1 g.2.2.1).2.2) ∧
 True) ∧
 True ∧
 (True ∧
 True) ∧
 (RR ((opAt x.1 g.2.2.1).1) ∧
 RR ((opAt x.1 g.2.2.1).2.1) ∧
 RR ((opAt x.1 g.2.2.1).2.2) ∧
 True) ∧
 R8 (True ∧
 True ∧
 True ∧
 True ∧
 True ∧
 True ∧
 True)))))) ∧
 True)) ∧
 (decide (g_6.2.1 < (3 : Int)) = false →
 ((-9223372036854775808 : Int) ≤ g_5.2.1 + (1 : Int) ∧
 g_5.2.1 + (1 : Int) ≤ (9223372036854775807 : Int)) ∧
 (((0 : Int) ≤ g_5.2.1 + (1 : Int) ∧
 g_5.2.1 + (1 : Int) ≤ (↑(g_4.1.2.1.getD (g_4.2.1.toNat * nat_lit 8 + (nat_lit 0 + ((g_3.1.1 / g_4.2.2.1 % (8 : Int)).toNat * nat_lit 1 + nat_lit 0))) ([] : List (Int × Int))).length : Int) ∧
 g_5.1.2.1 = List.foldl (putW g_3.1.1) (List.set (g_4.1.2.1.set (g_4.2.1.toNat * nat_lit 8 + (nat_lit 0 + ((g_3.1.1 / g_4.2.2.1 % (8 : Int)).toNat * nat_lit 1 + nat_lit 0))) ([] : List (Int × Int))) (g_4.2.1.toNat * nat_lit 8 + (nat_lit 0 + ((g_3.1.1 / g_4.2.2.1 % (8 : Int)).toNat * nat_lit 1 + nat_lit 0))) ([] : List (Int × Int))) (List.take (g_5.2.1 + (1 : Int)).toNat (g_4.1.2.1.getD (g_4.2.1.toNat * nat_lit 8 + (nat_lit 0 + ((g_3.1.1 / g_4.2.2.1 % (8 : Int)).toNat * nat_lit 1 + nat_lit 0))) ([] : List (Int × Int))))) ∧
 ((↑(g_4.1.2.1.getD (g_4.2.1.toNat * nat_lit 8 + (nat_lit 0 + ((g_3.1.1 / g_4.2.2.1 % (8 : Int)).toNat * nat_lit 1 + nat_lit 0))) ([] : List (Int × Int))).length : Int) - (g_5.2.1 + (1 : Int))).toNat < ((↑(g_4.1.2.1.getD (g_4.2.1.toNat * nat_lit 8 + (nat_lit 0 + ((g_3.1.1 / g_4.2.2.1 % (8 : Int)).toNat * nat_lit 1 + nat_lit 0))) ([] : List (Int × Int))).length : Int) - g_5.2.1).toNat) ∧
 ((True ∧
 True) ∧
 g_4.2.1 = g_4.2.1 ∧
 RR g_4.2.2.1 ∧
 True ∧
 (↑(g_4.1.2.1.getD (g_4.2.1.toNat * nat_lit 8 + (nat_lit 0 + ((g_3.1.1 / g_4.2.2.1 % (8 : Int)).toNat * nat_lit 1 + nat_lit 0))) ([] : List (Int × Int))).length : Int) = (↑(g_4.1.2.1.getD (g_4.2.1.toNat * nat_lit 8 + (nat_lit 0 + ((g_3.1.1 / g_4.2.2.1 % (8 : Int)).toNat * nat_lit 1 + nat_lit 0))) ([] : List (Int × Int))).length : Int) ∧
 g_5.2.1 + (1 : Int) = g_5.2.1 + (1 : Int) ∧
 True) ∧
 ((g_3.1.1 = g_3.1.1 ∧
 (True ∧
 True) ∧
 True ∧
 True ∧
 True) ∧
 RR g_5.1.2.1 ∧
 g.2.1 = g.2.1 ∧
 (RR ((opAt x.1 g.2.2.1).1) ∧
 RR ((opAt x.1 g.2.2.1).2.1) ∧
 RR ((opAt x.1 g.2.2.1).2.2) ∧
 True) ∧
 RR g_2.1.2.2.1 ∧
 RR g_2.1.2.2.2 ∧
 g_4.1.2.1.getD (g_4.2.1.toNat * nat_lit 8 + (nat_lit 0 + ((g_3.1.1 / g_4.2.2.1 % (8 : Int)).toNat * nat_lit 1 + nat_lit 0))) ([] : List (Int × Int)) = g_4.1.2.1.getD (g_4.2.1.toNat * nat_lit 8 + (nat_lit 0 + ((g_3.1.1 / g_4.2.2.1 % (8 : Int)).toNat * nat_lit 1 + nat_lit 0))) ([] : List (Int × Int)) ∧
 True) ∧
 (True ∧
 True) ∧
 R32 (R32 (R8 (True ∧
 True ∧
 True ∧
 RR g_1.1.2.2 ∧
 g_2.2.1 = g_2.2.1 ∧
 true = true ∧
 (True ∧
 True) ∧
 R8 ((True ∧
 True) ∧
 True ∧
 True ∧
 (True ∧
 True) ∧
 True ∧
 True ∧
 True ∧
 True ∧
 True ∧
 True ∧
 x.1 = x.1 ∧
 RR (↑x.1.length : Int) ∧
 g.2.2.1 = g.2.2.1 ∧
 true = true ∧
 True ∧
 (RR ((opAt x.1 g.2.2.1).1) ∧
 RR ((opAt x.1 g.2.2.1).2.1) ∧
 RR ((opAt x.1 g.2.2.1).2.2) ∧
 True) ∧
 True ∧
 (True ∧
 True) ∧
 (RR ((opAt x.1 g.2.2.1).1) ∧
 RR ((opAt x.1 g.2.2.1).2.1) ∧
 RR ((opAt x.1 g.2.2.1).2.2) ∧
 True) ∧
 R8 (True ∧
 True ∧
 True ∧
 True ∧
 True ∧
 True ∧
 True))))))) ∧
 (decide (g_5.2.1 < (↑(g_4.1.2.1.getD (g_4.2.1.toNat * nat_lit 8 + (nat_lit 0 + ((g_3.1.1 / g_4.2.2.1 % (8 : Int)).toNat * nat_lit 1 + nat_lit 0))) ([] : List (Int × Int))).length : Int)) = false →
 ((-9223372036854775808 : Int) ≤ g_4.2.1 - (1 : Int) ∧
 g_4.2.1 - (1 : Int) ≤ (9223372036854775807 : Int)) ∧
 ((0 : Int) ≤ g_4.2.2.1 ∧
 (0 : Int) < (8 : Int)) ∧
 ((g_4.2.1 - (1 : Int) = (2 : Int) ∧
 g_4.2.2.1 / (8 : Int) = (64 : Int) ∧
 g_5.1.2.1 = g_2.1.2.1 ∨ g_4.2.1 - (1 : Int) = (1 : Int) ∧
 g_4.2.2.1 / (8 : Int) = (8 : Int) ∧
 g_5.1.2.1 = casc g_3.1.1 (64 : Int) (2 : Int) g_2.1.2.1 ∨ g_4.2.1 - (1 : Int) = (0 : Int) ∧
 g_4.2.2.1 / (8 : Int) = (1 : Int) ∧
 g_5.1.2.1 = tickOn g_3.1.1 g_2.1.2.1) ∧
 (g_4.2.1 - (1 : Int)).toNat < g_4.2.1.toNat) ∧
 ((True ∧
 True) ∧
 g_4.2.1 - (1 : Int) = g_4.2.1 - (1 : Int) ∧
 g_4.2.2.1 / (8 : Int) = g_4.2.2.1 / (8 : Int) ∧
 True) ∧
 ((g_3.1.1 = g_3.1.1 ∧
 (True ∧
 True) ∧
 True ∧
 True ∧
 True) ∧
 RR g_5.1.2.1 ∧
 g.2.1 = g.2.1 ∧
 (RR ((opAt x.1 g.2.2.1).1) ∧
 RR ((opAt x.1 g.2.2.1).2.1) ∧
 RR ((opAt x.1 g.2.2.1).2.2) ∧
 True) ∧
 RR g_2.1.2.2.1 ∧
 RR g_2.1.2.2.2 ∧
 True) ∧
 (True ∧
 True) ∧
 R32 (R32 (R8 (True ∧
 True ∧
 True ∧
 RR g_1.1.2.2 ∧
 g_2.2.1 = g_2.2.1 ∧
 true = true ∧
 (True ∧
 True) ∧
 R8 ((True ∧
 True) ∧
 True ∧
 True ∧
 (True ∧
 True) ∧
 True ∧
 True ∧
 True ∧
 True ∧
 True ∧
 True ∧
 x.1 = x.1 ∧
 RR (↑x.1.length : Int) ∧
 g.2.2.1 = g.2.2.1 ∧
 true = true ∧
 True ∧
 (RR ((opAt x.1 g.2.2.1).1) ∧
 RR ((opAt x.1 g.2.2.1).2.1) ∧
 RR ((opAt x.1 g.2.2.1).2.2) ∧
 True) ∧
 True ∧
 (True ∧
 True) ∧
 (RR ((opAt x.1 g.2.2.1).1) ∧
 RR ((opAt x.1 g.2.2.1).2.1) ∧
 RR ((opAt x.1 g.2.2.1).2.2) ∧
 True) ∧
 R8 (True ∧
 True ∧
 True ∧
 True ∧
 True ∧
 True ∧
 True))))))) ∧
 ((g_3.1.1 % g_4.2.2.1 == (0 : Int)) = false →
 ((-9223372036854775808 : Int) ≤ g_4.2.1 - (1 : Int) ∧
 g_4.2.1 - (1 : Int) ≤ (9223372036854775807 : Int)) ∧
 ((0 : Int) ≤ g_4.2.2.1 ∧
 (0 : Int) < (8 : Int)) ∧
 ((g_4.2.1 - (1 : Int) = (2 : Int) ∧
 g_4.2.2.1 / (8 : Int) = (64 : Int) ∧
 g_4.1.2.1 = g_2.1.2.1 ∨ g_4.2.1 - (1 : Int) = (1 : Int) ∧
 g_4.2.2.1 / (8 : Int) = (8 : Int) ∧
 g_4.1.2.1 = casc g_3.1.1 (64 : Int) (2 : Int) g_2.1.2.1 ∨ g_4.2.1 - (1 : Int) = (0 : Int) ∧
 g_4.2.2.1 / (8 : Int) = (1 : Int) ∧
 g_4.1.2.1 = tickOn g_3.1.1 g_2.1.2.1) ∧
 (g_4.2.1 - (1 : Int)).toNat < g_4.2.1.toNat) ∧
 ((True ∧
 True) ∧
 g_4.2.1 - (1 : Int) = g_4.2.1 - (1 : Int) ∧
 g_4.2.2.1 / (8 : Int) = g_4.2.2.1 / (8 : Int) ∧
 True) ∧
 ((g_3.1.1 = g_3.1.1 ∧
 (True ∧
 True) ∧
 True ∧
 True ∧
 True) ∧
 RR g_4.1.2.1 ∧
 g.2.1 = g.2.1 ∧
 (RR ((opAt x.1 g.2.2.1).1) ∧
 RR ((opAt x.1 g.2.2.1).2.1) ∧
 RR ((opAt x.1 g.2.2.1).2.2) ∧
 True) ∧
 RR g_2.1.2.2.1 ∧
 RR g_2.1.2.2.2 ∧
 True) ∧
 (True ∧
 True) ∧
 R32 (R32 (R8 (True ∧
 True ∧
 True ∧
 RR g_1.1.2.2 ∧
 g_2.2.1 = g_2.2.1 ∧
 true = true ∧
 (True ∧
 True) ∧
 R8 ((True ∧
 True) ∧
 True ∧
 True ∧
 (True ∧
 True) ∧
 True ∧
 True ∧
 True ∧
 True ∧
 True ∧
 True ∧
 x.1 = x.1 ∧
 RR (↑x.1.length : Int) ∧
 g.2.2.1 = g.2.2.1 ∧
 true = true ∧
 True ∧
 (RR ((opAt x.1 g.2.2.1).1) ∧
 RR ((opAt x.1 g.2.2.1).2.1) ∧
 RR ((opAt x.1 g.2.2.1).2.2) ∧
 True) ∧
 True ∧
 (True ∧
 True) ∧
 (RR ((opAt x.1 g.2.2.1).1) ∧
 RR ((opAt x.1 g.2.2.1).2.1) ∧
 RR ((opAt x.1 g.2.2.1).2.2) ∧
 True) ∧
 R8 (True ∧
 True ∧
 True ∧
 True ∧
 True ∧
 True ∧
 True))))))) ∧
 (decide ((0 : Int) < g_4.2.1) = false →
 ((0 : Int) ≤ g_3.1.1 ∧
 (0 : Int) < (8 : Int)) ∧
 ((0 : Int) ≤ (0 : Int) ∧
 (0 : Int) < (↑(3 : Nat) : Int)) ∧
 ((0 : Int) ≤ g_3.1.1 % (8 : Int) ∧
 g_3.1.1 % (8 : Int) < (↑(8 : Nat) : Int)) ∧
 nat_lit 0 * nat_lit 8 + (nat_lit 0 + ((g_3.1.1 % (8 : Int)).toNat * nat_lit 1 + nat_lit 0)) < nat_lit 24 ∧
 ((0 : Int) ≤ (0 : Int) ∧
 (0 : Int) < (↑(3 : Nat) : Int)) ∧
 ((0 : Int) ≤ g_3.1.1 % (8 : Int) ∧
 g_3.1.1 % (8 : Int) < (↑(8 : Nat) : Int)) ∧
 nat_lit 0 * nat_lit 8 + (nat_lit 0 + ((g_3.1.1 % (8 : Int)).toNat * nat_lit 1 + nat_lit 0)) = nat_lit 0 * nat_lit 8 + (nat_lit 0 + ((g_3.1.1 % (8 : Int)).toNat * nat_lit 1 + nat_lit 0)) ∧
 ((((0 : Int) ≤ (0 : Int) ∧
 (0 : Int) ≤ (↑(g_4.1.2.1.getD (nat_lit 0 * nat_lit 8 + (nat_lit 0 + ((g_3.1.1 % (8 : Int)).toNat * nat_lit 1 + nat_lit 0))) ([] : List (Int × Int))).length : Int) ∧
 (g_2.1.2.2.1, ([] : List Int)) = List.foldl fireW (g_2.1.2.2.1, ([] : List Int)) (List.take (Int.toNat (0 : Int)) (g_4.1.2.1.getD (nat_lit 0 * nat_lit 8 + (nat_lit 0 + ((g_3.1.1 % (8 : Int)).toNat * nat_lit 1 + nat_lit 0))) ([] : List (Int × Int))))) ∧
 True) ∧
 ((True ∧
 True) ∧
 True ∧
 True ∧
 (↑(g_4.1.2.1.getD (nat_lit 0 * nat_lit 8 + (nat_lit 0 + ((g_3.1.1 % (8 : Int)).toNat * nat_lit 1 + nat_lit 0))) ([] : List (Int × Int))).length : Int) = (↑(g_4.1.2.1.getD (nat_lit 0 * nat_lit 8 + (nat_lit 0 + ((g_3.1.1 % (8 : Int)).toNat * nat_lit 1 + nat_lit 0))) ([] : List (Int × Int))).length : Int) ∧
 RR (0 : Int) ∧
 True) ∧
 ((g_3.1.1 = g_3.1.1 ∧
 (True ∧
 True) ∧
 True ∧
 True ∧
 True) ∧
 RR g_2.1.2.2.1 ∧
 RR ([] : List Int) ∧
 g.2.1 = g.2.1 ∧
 (RR ((opAt x.1 g.2.2.1).1) ∧
 RR ((opAt x.1 g.2.2.1).2.1) ∧
 RR ((opAt x.1 g.2.2.1).2.2) ∧
 True) ∧
 (g_4.1.2.1.set (nat_lit 0 * nat_lit 8 + (nat_lit 0 + ((g_3.1.1 % (8 : Int)).toNat * nat_lit 1 + nat_lit 0))) ([] : List (Int × Int))).set (nat_lit 0 * nat_lit 8 + (nat_lit 0 + ((g_3.1.1 % (8 : Int)).toNat * nat_lit 1 + nat_lit 0))) ([] : List (Int × Int)) = (g_4.1.2.1.set (nat_lit 0 * nat_lit 8 + (nat_lit 0 + ((g_3.1.1 % (8 : Int)).toNat * nat_lit 1 + nat_lit 0))) ([] : List (Int × Int))).set (nat_lit 0 * nat_lit 8 + (nat_lit 0 + ((g_3.1.1 % (8 : Int)).toNat * nat_lit 1 + nat_lit 0))) ([] : List (Int × Int)) ∧
 RR g_2.1.2.2.2 ∧
 g_4.1.2.1.getD (nat_lit 0 * nat_lit 8 + (nat_lit 0 + ((g_3.1.1 % (8 : Int)).toNat * nat_lit 1 + nat_lit 0))) ([] : List (Int × Int)) = g_4.1.2.1.getD (nat_lit 0 * nat_lit 8 + (nat_lit 0 + ((g_3.1.1 % (8 : Int)).toNat * nat_lit 1 + nat_lit 0))) ([] : List (Int × Int)) ∧
 True) ∧
 (True ∧
 True) ∧
 R32 (R32 (R8 (True ∧
 True ∧
 True ∧
 RR g_1.1.2.2 ∧
 g_2.2.1 = g_2.2.1 ∧
 true = true ∧
 (True ∧
 True) ∧
 R8 ((True ∧
 True) ∧
 True ∧
 True ∧
 (True ∧
 True) ∧
 True ∧
 True ∧
 True ∧
 True ∧
 True ∧
 True ∧
 x.1 = x.1 ∧
 RR (↑x.1.length : Int) ∧
 g.2.2.1 = g.2.2.1 ∧
 true = true ∧
 True ∧
 (RR ((opAt x.1 g.2.2.1).1) ∧
 RR ((opAt x.1 g.2.2.1).2.1) ∧
 RR ((opAt x.1 g.2.2.1).2.2) ∧
 True) ∧
 True ∧
 (True ∧
 True) ∧
 (RR ((opAt x.1 g.2.2.1).1) ∧
 RR ((opAt x.1 g.2.2.1).2.1) ∧
 RR ((opAt x.1 g.2.2.1).2.2) ∧
 True) ∧
 R8 (True ∧
 True ∧
 True ∧
 True ∧
 True ∧
 True ∧
 True)))))) ∧
 ∀ (g_5 : (Unit × Unit × List (Int × Int) × Unit) × List Int × Int × Unit), (0 : Int) ≤ g_5.2.2.1 ∧
 g_5.2.2.1 ≤ (↑(g_4.1.2.1.getD (nat_lit 0 * nat_lit 8 + (nat_lit 0 + ((g_3.1.1 % (8 : Int)).toNat * nat_lit 1 + nat_lit 0))) ([] : List (Int × Int))).length : Int) ∧
 (g_5.1.2.2.1, g_5.2.1) = List.foldl fireW (g_2.1.2.2.1, ([] : List Int)) (List.take g_5.2.2.1.toNat (g_4.1.2.1.getD (nat_lit 0 * nat_lit 8 + (nat_lit 0 + ((g_3.1.1 % (8 : Int)).toNat * nat_lit 1 + nat_lit 0))) ([] : List (Int × Int)))) →
 (True ∧
 True ∧
 (∀ (e : Int × Int), e ∈ g_5.1.2.2.1 →
 ((-9223372036854775808 : Int) ≤ e.1 ∧
 e.1 ≤ (9223372036854775807 : Int)) ∧
 (-9223372036854775808 : Int) ≤ e.2 ∧
 e.2 ≤ (9223372036854775807 : Int)) ∧
 True) ∧
 (g_5.2.1.length ≤ (9223372036854775807 : Nat) ∧
 ∀ (x : Int), x ∈ g_5.2.1 →
 (-9223372036854775808 : Int) ≤ x ∧
 x ≤ (9223372036854775807 : Int)) ∧
 ((-9223372036854775808 : Int) ≤ g_5.2.2.1 ∧
 g_5.2.2.1 ≤ (9223372036854775807 : Int)) ∧
 True →
 (decide (g_5.2.2.1 < (↑(g_4.1.2.1.getD (nat_lit 0 * nat_lit 8 + (nat_lit 0 + ((g_3.1.1 % (8 : Int)).toNat * nat_lit 1 + nat_lit 0))) ([] : List (Int × Int))).length : Int)) = true →
 ((0 : Int) ≤ g_5.2.2.1 ∧
 g_5.2.2.1 < (↑(g_4.1.2.1.getD (nat_lit 0 * nat_lit 8 + (nat_lit 0 + ((g_3.1.1 % (8 : Int)).toNat * nat_lit 1 + nat_lit 0))) ([] : List (Int × Int))).length : Int)) ∧
 (mhas (Ty.int IntKind.i64) g_5.1.2.2.1 ((g_4.1.2.1.getD (nat_lit 0 * nat_lit 8 + (nat_lit 0 + ((g_3.1.1 % (8 : Int)).toNat * nat_lit 1 + nat_lit 0))) ([] : List (Int × Int))).getD g_5.2.2.1.toNat ((0 : Int), (0 : Int))).2 = true →
 mhas (Ty.int IntKind.i64) g_5.1.2.2.1 ((g_4.1.2.1.getD (nat_lit 0 * nat_lit 8 + (nat_lit 0 + ((g_3.1.1 % (8 : Int)).toNat * nat_lit 1 + nat_lit 0))) ([] : List (Int × Int))).getD g_5.2.2.1.toNat ((0 : Int), (0 : Int))).2 = true) ∧
 (mhas (Ty.int IntKind.i64) g_5.1.2.2.1 ((g_4.1.2.1.getD (nat_lit 0 * nat_lit 8 + (nat_lit 0 + ((g_3.1.1 % (8 : Int)).toNat * nat_lit 1 + nat_lit 0))) ([] : List (Int × Int))).getD g_5.2.2.1.toNat ((0 : Int), (0 : Int))).2 = true →
 mhas (Ty.int IntKind.i64) g_5.1.2.2.1 ((g_4.1.2.1.getD (nat_lit 0 * nat_lit 8 + (nat_lit 0 + ((g_3.1.1 % (8 : Int)).toNat * nat_lit 1 + nat_lit 0))) ([] : List (Int × Int))).getD g_5.2.2.1.toNat ((0 : Int), (0 : Int))).2 = true ∧
 mhas (Ty.int IntKind.i64) g_5.1.2.2.1 ((g_4.1.2.1.getD (nat_lit 0 * nat_lit 8 + (nat_lit 0 + ((g_3.1.1 % (8 : Int)).toNat * nat_lit 1 + nat_lit 0))) ([] : List (Int × Int))).getD g_5.2.2.1.toNat ((0 : Int), (0 : Int))).2 = true) ∧
 (mhas (Ty.int IntKind.i64) g_5.1.2.2.1 ((g_4.1.2.1.getD (nat_lit 0 * nat_lit 8 + (nat_lit 0 + ((g_3.1.1 % (8 : Int)).toNat * nat_lit 1 + nat_lit 0))) ([] : List (Int × Int))).getD g_5.2.2.1.toNat ((0 : Int), (0 : Int))).2 = true →
 mhas (Ty.int IntKind.i64) g_5.1.2.2.1 ((g_4.1.2.1.getD (nat_lit 0 * nat_lit 8 + (nat_lit 0 + ((g_3.1.1 % (8 : Int)).toNat * nat_lit 1 + nat_lit 0))) ([] : List (Int × Int))).getD g_5.2.2.1.toNat ((0 : Int), (0 : Int))).2 = true) ∧
 ((mhas (Ty.int IntKind.i64) g_5.1.2.2.1 ((g_4.1.2.1.getD (nat_lit 0 * nat_lit 8 + (nat_lit 0 + ((g_3.1.1 % (8 : Int)).toNat * nat_lit 1 + nat_lit 0))) ([] : List (Int × Int))).getD g_5.2.2.1.toNat ((0 : Int), (0 : Int))).2 && mval (Ty.int IntKind.i64) g_5.1.2.2.1 ((g_4.1.2.1.getD (nat_lit 0 * nat_lit 8 + (nat_lit 0 + ((g_3.1.1 % (8 : Int)).toNat * nat_lit 1 + nat_lit 0))) ([] : List (Int × Int))).getD g_5.2.2.1.toNat ((0 : Int), (0 : Int))).2 == ((g_4.1.2.1.getD (nat_lit 0 * nat_lit 8 + (nat_lit 0 + ((g_3.1.1 % (8 : Int)).toNat * nat_lit 1 + nat_lit 0))) ([] : List (Int × Int))).getD g_5.2.2.1.toNat ((0 : Int), (0 : Int))).1) = true →
 (g_5.2.1.length + (((0 : Int) :: ([] : List Int)).set (0 : Nat) ((g_4.1.2.1.getD (nat_lit 0 * nat_lit 8 + (nat_lit 0 + ((g_3.1.1 % (8 : Int)).toNat * nat_lit 1 + nat_lit 0))) ([] : List (Int × Int))).getD g_5.2.2.1.toNat ((0 : Int), (0 : Int))).2).length ≤ (9223372036854775807 : Nat) ∧
 (g_5.2.1.length + (((0 : Int) :: ([] : List Int)).set (0 : Nat) ((g_4.1.2.1.getD (nat_lit 0 * nat_lit 8 + (nat_lit 0 + ((g_3.1.1 % (8 : Int)).toNat * nat_lit 1 + nat_lit 0))) ([] : List (Int × Int))).getD g_5.2.2.1.toNat ((0 : Int), (0 : Int))).2).length + (g_5.2.1.length + (((0 : Int) :: ([] : List Int)).set (0 : Nat) ((g_4.1.2.1.getD (nat_lit 0 * nat_lit 8 + (nat_lit 0 + ((g_3.1.1 % (8 : Int)).toNat * nat_lit 1 + nat_lit 0))) ([] : List (Int × Int))).getD g_5.2.2.1.toNat ((0 : Int), (0 : Int))).2).length) / (4 : Nat) + (192 : Nat)) * (8 : Nat) ≤ (281474976710656 : Nat)) ∧
 ((-9223372036854775808 : Int) ≤ g_5.2.2.1 + (1 : Int) ∧
 g_5.2.2.1 + (1 : Int) ≤ (9223372036854775807 : Int)) ∧
 (((0 : Int) ≤ g_5.2.2.1 + (1 : Int) ∧
 g_5.2.2.1 + (1 : Int) ≤ (↑(g_4.1.2.1.getD (nat_lit 0 * nat_lit 8 + (nat_lit 0 + ((g_3.1.1 % (8 : Int)).toNat * nat_lit 1 + nat_lit 0))) ([] : List (Int × Int))).length : Int) ∧
 (mdel (Ty.int IntKind.i64) g_5.1.2.2.1 ((g_4.1.2.1.getD (nat_lit 0 * nat_lit 8 + (nat_lit 0 + ((g_3.1.1 % (8 : Int)).toNat * nat_lit 1 + nat_lit 0))) ([] : List (Int × Int))).getD g_5.2.2.1.toNat ((0 : Int), (0 : Int))).2, g_5.2.1 ++ ((0 : Int) :: ([] : List Int)).set (0 : Nat) ((g_4.1.2.1.getD (nat_lit 0 * nat_lit 8 + (nat_lit 0 + ((g_3.1.1 % (8 : Int)).toNat * nat_lit 1 + nat_lit 0))) ([] : List (Int × Int))).getD g_5.2.2.1.toNat ((0 : Int), (0 : Int))).2) = List.foldl fireW (g_2.1.2.2.1, ([] : List Int)) (List.take (g_5.2.2.1 + (1 : Int)).toNat (g_4.1.2.1.getD (nat_lit 0 * nat_lit 8 + (nat_lit 0 + ((g_3.1.1 % (8 : Int)).toNat * nat_lit 1 + nat_lit 0))) ([] : List (Int × Int))))) ∧
 ((↑(g_4.1.2.1.getD (nat_lit 0 * nat_lit 8 + (nat_lit 0 + ((g_3.1.1 % (8 : Int)).toNat * nat_lit 1 + nat_lit 0))) ([] : List (Int × Int))).length : Int) - (g_5.2.2.1 + (1 : Int))).toNat < ((↑(g_4.1.2.1.getD (nat_lit 0 * nat_lit 8 + (nat_lit 0 + ((g_3.1.1 % (8 : Int)).toNat * nat_lit 1 + nat_lit 0))) ([] : List (Int × Int))).length : Int) - g_5.2.2.1).toNat) ∧
 ((True ∧
 True) ∧
 True ∧
 True ∧
 (↑(g_4.1.2.1.getD (nat_lit 0 * nat_lit 8 + (nat_lit 0 + ((g_3.1.1 % (8 : Int)).toNat * nat_lit 1 + nat_lit 0))) ([] : List (Int × Int))).length : Int) = (↑(g_4.1.2.1.getD (nat_lit 0 * nat_lit 8 + (nat_lit 0 + ((g_3.1.1 % (8 : Int)).toNat * nat_lit 1 + nat_lit 0))) ([] : List (Int × Int))).length : Int) ∧
 g_5.2.2.1 + (1 : Int) = g_5.2.2.1 + (1 : Int) ∧
 True) ∧
 ((g_3.1.1 = g_3.1.1 ∧
 (True ∧
 True) ∧
 True ∧
 True ∧
 True) ∧
 mdel (Ty.int IntKind.i64) g_5.1.2.2.1 ((g_4.1.2.1.getD (nat_lit 0 * nat_lit 8 + (nat_lit 0 + ((g_3.1.1 % (8 : Int)).toNat * nat_lit 1 + nat_lit 0))) ([] : List (Int × Int))).getD g_5.2.2.1.toNat ((0 : Int), (0 : Int))).2 = mdel (Ty.int IntKind.i64) g_5.1.2.2.1 ((g_4.1.2.1.getD (nat_lit 0 * nat_lit 8 + (nat_lit 0 + ((g_3.1.1 % (8 : Int)).toNat * nat_lit 1 + nat_lit 0))) ([] : List (Int × Int))).getD g_5.2.2.1.toNat ((0 : Int), (0 : Int))).2 ∧
 g_5.2.1 ++ ((0 : Int) :: ([] : List Int)).set (0 : Nat) ((g_4.1.2.1.getD (nat_lit 0 * nat_lit 8 + (nat_lit 0 + ((g_3.1.1 % (8 : Int)).toNat * nat_lit 1 + nat_lit 0))) ([] : List (Int × Int))).getD g_5.2.2.1.toNat ((0 : Int), (0 : Int))).2 = g_5.2.1 ++ ((0 : Int) :: ([] : List Int)).set (0 : Nat) ((g_4.1.2.1.getD (nat_lit 0 * nat_lit 8 + (nat_lit 0 + ((g_3.1.1 % (8 : Int)).toNat * nat_lit 1 + nat_lit 0))) ([] : List (Int × Int))).getD g_5.2.2.1.toNat ((0 : Int), (0 : Int))).2 ∧
 g.2.1 = g.2.1 ∧
 (RR ((opAt x.1 g.2.2.1).1) ∧
 RR ((opAt x.1 g.2.2.1).2.1) ∧
 RR ((opAt x.1 g.2.2.1).2.2) ∧
 True) ∧
 (g_4.1.2.1.set (nat_lit 0 * nat_lit 8 + (nat_lit 0 + ((g_3.1.1 % (8 : Int)).toNat * nat_lit 1 + nat_lit 0))) ([] : List (Int × Int))).set (nat_lit 0 * nat_lit 8 + (nat_lit 0 + ((g_3.1.1 % (8 : Int)).toNat * nat_lit 1 + nat_lit 0))) ([] : List (Int × Int)) = (g_4.1.2.1.set (nat_lit 0 * nat_lit 8 + (nat_lit 0 + ((g_3.1.1 % (8 : Int)).toNat * nat_lit 1 + nat_lit 0))) ([] : List (Int × Int))).set (nat_lit 0 * nat_lit 8 + (nat_lit 0 + ((g_3.1.1 % (8 : Int)).toNat * nat_lit 1 + nat_lit 0))) ([] : List (Int × Int)) ∧
 RR g_2.1.2.2.2 ∧
 g_4.1.2.1.getD (nat_lit 0 * nat_lit 8 + (nat_lit 0 + ((g_3.1.1 % (8 : Int)).toNat * nat_lit 1 + nat_lit 0))) ([] : List (Int × Int)) = g_4.1.2.1.getD (nat_lit 0 * nat_lit 8 + (nat_lit 0 + ((g_3.1.1 % (8 : Int)).toNat * nat_lit 1 + nat_lit 0))) ([] : List (Int × Int)) ∧
 True) ∧
 (True ∧
 True) ∧
 R32 (R32 (R8 (True ∧
 True ∧
 True ∧
 RR g_1.1.2.2 ∧
 g_2.2.1 = g_2.2.1 ∧
 true = true ∧
 (True ∧
 True) ∧
 R8 ((True ∧
 True) ∧
 True ∧
 True ∧
 (True ∧
 True) ∧
 True ∧
 True ∧
 True ∧
 True ∧
 True ∧
 True ∧
 x.1 = x.1 ∧
 RR (↑x.1.length : Int) ∧
 g.2.2.1 = g.2.2.1 ∧
 true = true ∧
 True ∧
 (RR ((opAt x.1 g.2.2.1).1) ∧
 RR ((opAt x.1 g.2.2.1).2.1) ∧
 RR ((opAt x.1 g.2.2.1).2.2) ∧
 True) ∧
 True ∧
 (True ∧
 True) ∧
 (RR ((opAt x.1 g.2.2.1).1) ∧
 RR ((opAt x.1 g.2.2.1).2.1) ∧
 RR ((opAt x.1 g.2.2.1).2.2) ∧
 True) ∧
 R8 (True ∧
 True ∧
 True ∧
 True ∧
 True ∧
 True ∧
 True)))))) ∧
 ((mhas (Ty.int IntKind.i64) g_5.1.2.2.1 ((g_4.1.2.1.getD (nat_lit 0 * nat_lit 8 + (nat_lit 0 + ((g_3.1.1 % (8 : Int)).toNat * nat_lit 1 + nat_lit 0))) ([] : List (Int × Int))).getD g_5.2.2.1.toNat ((0 : Int), (0 : Int))).2 && mval (Ty.int IntKind.i64) g_5.1.2.2.1 ((g_4.1.2.1.getD (nat_lit 0 * nat_lit 8 + (nat_lit 0 + ((g_3.1.1 % (8 : Int)).toNat * nat_lit 1 + nat_lit 0))) ([] : List (Int × Int))).getD g_5.2.2.1.toNat ((0 : Int), (0 : Int))).2 == ((g_4.1.2.1.getD (nat_lit 0 * nat_lit 8 + (nat_lit 0 + ((g_3.1.1 % (8 : Int)).toNat * nat_lit 1 + nat_lit 0))) ([] : List (Int × Int))).getD g_5.2.2.1.toNat ((0 : Int), (0 : Int))).1) = false →
 ((-9223372036854775808 : Int) ≤ g_5.2.2.1 + (1 : Int) ∧
 g_5.2.2.1 + (1 : Int) ≤ (9223372036854775807 : Int)) ∧
 (((0 : Int) ≤ g_5.2.2.1 + (1 : Int) ∧
 g_5.2.2.1 + (1 : Int) ≤ (↑(g_4.1.2.1.getD (nat_lit 0 * nat_lit 8 + (nat_lit 0 + ((g_3.1.1 % (8 : Int)).toNat * nat_lit 1 + nat_lit 0))) ([] : List (Int × Int))).length : Int) ∧
 (g_5.1.2.2.1, g_5.2.1) = List.foldl fireW (g_2.1.2.2.1, ([] : List Int)) (List.take (g_5.2.2.1 + (1 : Int)).toNat (g_4.1.2.1.getD (nat_lit 0 * nat_lit 8 + (nat_lit 0 + ((g_3.1.1 % (8 : Int)).toNat * nat_lit 1 + nat_lit 0))) ([] : List (Int × Int))))) ∧
 ((↑(g_4.1.2.1.getD (nat_lit 0 * nat_lit 8 + (nat_lit 0 + ((g_3.1.1 % (8 : Int)).toNat * nat_lit 1 + nat_lit 0))) ([] : List (Int × Int))).length : Int) - (g_5.2.2.1 + (1 : Int))).toNat < ((↑(g_4.1.2.1.getD (nat_lit 0 * nat_lit 8 + (nat_lit 0 + ((g_3.1.1 % (8 : Int)).toNat * nat_lit 1 + nat_lit 0))) ([] : List (Int × Int))).length : Int) - g_5.2.2.1).toNat) ∧
 ((True ∧
 True) ∧
 True ∧
 True ∧
 (↑(g_4.1.2.1.getD (nat_lit 0 * nat_lit 8 + (nat_lit 0 + ((g_3.1.1 % (8 : Int)).toNat * nat_lit 1 + nat_lit 0))) ([] : List (Int × Int))).length : Int) = (↑(g_4.1.2.1.getD (nat_lit 0 * nat_lit 8 + (nat_lit 0 + ((g_3.1.1 % (8 : Int)).toNat * nat_lit 1 + nat_lit 0))) ([] : List (Int × Int))).length : Int) ∧
 g_5.2.2.1 + (1 : Int) = g_5.2.2.1 + (1 : Int) ∧
 True) ∧
 ((g_3.1.1 = g_3.1.1 ∧
 (True ∧
 True) ∧
 True ∧
 True ∧
 True) ∧
 RR g_5.1.2.2.1 ∧
 g_5.2.1 = g_5.2.1 ∧
 g.2.1 = g.2.1 ∧
 (RR ((opAt x.1 g.2.2.1).1) ∧
 RR ((opAt x.1 g.2.2.1).2.1) ∧
 RR ((opAt x.1 g.2.2.1).2.2) ∧
 True) ∧
 (g_4.1.2.1.set (nat_lit 0 * nat_lit 8 + (nat_lit 0 + ((g_3.1.1 % (8 : Int)).toNat * nat_lit 1 + nat_lit 0))) ([] : List (Int × Int))).set (nat_lit 0 * nat_lit 8 + (nat_lit 0 + ((g_3.1.1 % (8 : Int)).toNat * nat_lit 1 + nat_lit 0))) ([] : List (Int × Int)) = (g_4.1.2.1.set (nat_lit 0 * nat_lit 8 + (nat_lit 0 + ((g_3.1.1 % (8 : Int)).toNat * nat_lit 1 + nat_lit 0))) ([] : List (Int × Int))).set (nat_lit 0 * nat_lit 8 + (nat_lit 0 + ((g_3.1.1 % (8 : Int)).toNat * nat_lit 1 + nat_lit 0))) ([] : List (Int × Int)) ∧
 RR g_2.1.2.2.2 ∧
 g_4.1.2.1.getD (nat_lit 0 * nat_lit 8 + (nat_lit 0 + ((g_3.1.1 % (8 : Int)).toNat * nat_lit 1 + nat_lit 0))) ([] : List (Int × Int)) = g_4.1.2.1.getD (nat_lit 0 * nat_lit 8 + (nat_lit 0 + ((g_3.1.1 % (8 : Int)).toNat * nat_lit 1 + nat_lit 0))) ([] : List (Int × Int)) ∧
 True) ∧
 (True ∧
 True) ∧
 R32 (R32 (R8 (True ∧
 True ∧
 True ∧
 RR g_1.1.2.2 ∧
 g_2.2.1 = g_2.2.1 ∧
 true = true ∧
 (True ∧
 True) ∧
 R8 ((True ∧
 True) ∧
 True ∧
 True ∧
 (True ∧
 True) ∧
 True ∧
 True ∧
 True ∧
 True ∧
 True ∧
 True ∧
 x.1 = x.1 ∧
 RR (↑x.1.length : Int) ∧
 g.2.2.1 = g.2.2.1 ∧
 true = true ∧
 True ∧
 (RR ((opAt x.1 g.2.2.1).1) ∧
 RR ((opAt x.1 g.2.2.1).2.1) ∧
 RR ((opAt x.1 g.2.2.1).2.2) ∧
 True) ∧
 True ∧
 (True ∧
 True) ∧
 (RR ((opAt x.1 g.2.2.1).1) ∧
 RR ((opAt x.1 g.2.2.1).2.1) ∧
 RR ((opAt x.1 g.2.2.1).2.2) ∧
 True) ∧
 R8 (True ∧
 True ∧
 True ∧
 True ∧
 True ∧
 True ∧
 True))))))) ∧
 (decide (g_5.2.2.1 < (↑(g_4.1.2.1.getD (nat_lit 0 * nat_lit 8 + (nat_lit 0 + ((g_3.1.1 % (8 : Int)).toNat * nat_lit 1 + nat_lit 0))) ([] : List (Int × Int))).length : Int)) = false →
 Holds (g_5.2.1.length.le (400 : Nat)) ∧
 ((True ∧
 True) ∧
 g_5.2.1 = g_5.2.1 ∧
 True) ∧
 Holds (List.Pairwise (fun x1 x2 ↦ x1 < x2) (sortI g_5.2.1)) ∧
 ((((0 : Int) ≤ (0 : Int) ∧
 (0 : Int) ≤ (↑(sortI g_5.2.1).length : Int) ∧
 g_2.1.2.2.2 = g_2.1.2.2.2 ++ List.map (fun i ↦ (g_3.1.1, i)) (List.take (Int.toNat (0 : Int)) (sortI g_5.2.1))) ∧
 True) ∧
 ((True ∧
 True) ∧
 RR (sortI g_5.2.1) ∧
 RR (↑(sortI g_5.2.1).length : Int) ∧
 RR (0 : Int) ∧
 True) ∧
 ((g_3.1.1 = g_3.1.1 ∧
 (True ∧
 True) ∧
 True ∧
 True ∧
 True) ∧
 RR g_2.1.2.2.2 ∧
 g.2.1 = g.2.1 ∧
 (RR ((opAt x.1 g.2.2.1).1) ∧
 RR ((opAt x.1 g.2.2.1).2.1) ∧
 RR ((opAt x.1 g.2.2.1).2.2) ∧
 True) ∧
 (g_4.1.2.1.set (nat_lit 0 * nat_lit 8 + (nat_lit 0 + ((g_3.1.1 % (8 : Int)).toNat * nat_lit 1 + nat_lit 0))) ([] : List (Int × Int))).set (nat_lit 0 * nat_lit 8 + (nat_lit 0 + ((g_3.1.1 % (8 : Int)).toNat * nat_lit 1 + nat_lit 0))) ([] : List (Int × Int)) = (g_4.1.2.1.set (nat_lit 0 * nat_lit 8 + (nat_lit 0 + ((g_3.1.1 % (8 : Int)).toNat * nat_lit 1 + nat_lit 0))) ([] : List (Int × Int))).set (nat_lit 0 * nat_lit 8 + (nat_lit 0 + ((g_3.1.1 % (8 : Int)).toNat * nat_lit 1 + nat_lit 0))) ([] : List (Int × Int)) ∧
 RR g_5.1.2.2.1 ∧
 True) ∧
 (True ∧
 True) ∧
 R32 (R32 (R8 (True ∧
 True ∧
 True ∧
 RR g_1.1.2.2 ∧
 g_2.2.1 = g_2.2.1 ∧
 true = true ∧
 (True ∧
 True) ∧
 R8 ((True ∧
 True) ∧
 True ∧
 True ∧
 (True ∧
 True) ∧
 True ∧
 True ∧
 True ∧
 True ∧
 True ∧
 True ∧
 x.1 = x.1 ∧
 RR (↑x.1.length : Int) ∧
 g.2.2.1 = g.2.2.1 ∧
 true = true ∧
 True ∧
 (RR ((opAt x.1 g.2.2.1).1) ∧
 RR ((opAt x.1 g.2.2.1).2.1) ∧
 RR ((opAt x.1 g.2.2.1).2.2) ∧
 True) ∧
 True ∧
 (True ∧
 True) ∧
 (RR ((opAt x.1 g.2.2.1).1) ∧
 RR ((opAt x.1 g.2.2.1).2.1) ∧
 RR ((opAt x.1 g.2.2.1).2.2) ∧
 True) ∧
 R8 (True ∧
 True ∧
 True ∧
 True ∧
 True ∧
 True ∧
 True)))))) ∧
 ∀ (g_6 : (Unit × Unit × Unit × List (Int × Int)) × Int × Unit), (0 : Int) ≤ g_6.2.1 ∧
 g_6.2.1 ≤ (↑(sortI g_5.2.1).length : Int) ∧
 g_6.1.2.2.2 = g_2.1.2.2.2 ++ List.map (fun i ↦ (g_3.1.1, i)) (List.take g_6.2.1.toNat (sortI g_5.2.1)) →
 (True ∧
 True ∧
 True ∧
 g_6.1.2.2.2.length ≤ (9223372036854775807 : Nat) ∧
 ∀ (x : Int × Int), x ∈ g_6.1.2.2.2 →
 ((-9223372036854775808 : Int) ≤ x.1 ∧
 x.1 ≤ (9223372036854775807 : Int)) ∧
 (-9223372036854775808 : Int) ≤ x.2 ∧
 x.2 ≤ (9223372036854775807 : Int)) ∧
 ((-9223372036854775808 : Int) ≤ g_6.2.1 ∧
 g_6.2.1 ≤ (9223372036854775807 : Int)) ∧
 True →
 (decide (g_6.2.1 < (↑(sortI g_5.2.1).length : Int)) = true →
 ((0 : Int) ≤ g_6.2.1 ∧
 g_6.2.1 < (↑(sortI g_5.2.1).length : Int)) ∧
 (g_6.1.2.2.2.length + ((((0 : Int), (0 : Int)) :: ([] : List (Int × Int))).set (0 : Nat) (g_3.1.1, (sortI g_5.2.1).getD g_6.2.1.toNat (0 : Int))).length ≤ (9223372036854775807 : Nat) ∧
 (g_6.1.2.2.2.length + ((((0 : Int), (0 : Int)) :: ([] : List (Int × Int))).set (0 : Nat) (g_3.1.1, (sortI g_5.2.1).getD g_6.2.1.toNat (0 : Int))).length + (g_6.1.2.2.2.length + ((((0 : Int), (0 : Int)) :: ([] : List (Int × Int))).set (0 : Nat) (g_3.1.1, (sortI g_5.2.1).getD g_6.2.1.toNat (0 : Int))).length) / (4 : Nat) + (192 : Nat)) * (16 : Nat) ≤ (281474976710656 : Nat)) ∧
 ((-9223372036854775808 : Int) ≤ g_6.2.1 + (1 : Int) ∧
 g_6.2.1 + (1 : Int) ≤ (9223372036854775807 : Int)) ∧
 (((0 : Int) ≤ g_6.2.1 + (1 : Int) ∧
 g_6.2.1 + (1 : Int) ≤ (↑(sortI g_5.2.1).length : Int) ∧
 g_6.1.2.2.2 ++ (((0 : Int), (0 : Int)) :: ([] : List (Int × Int))).set (0 : Nat) (g_3.1.1, (sortI g_5.2.1).getD g_6.2.1.toNat (0 : Int)) = g_2.1.2.2.2 ++ List.map (fun i ↦ (g_3.1.1, i)) (List.take (g_6.2.1 + (1 : Int)).toNat (sortI g_5.2.1))) ∧
 ((↑(sortI g_5.2.1).length : Int) - (g_6.2.1 + (1 : Int))).toNat < ((↑(sortI g_5.2.1).length : Int) - g_6.2.1).toNat) ∧
 ((True ∧
 True) ∧
 RR (sortI g_5.2.1) ∧
 RR (↑(sortI g_5.2.1).length : Int) ∧
 g_6.2.1 + (1 : Int) = g_6.2.1 + (1 : Int) ∧
 True) ∧
 ((g_3.1.1 = g_3.1.1 ∧
 (True ∧
 True) ∧
 True ∧
 True ∧
 True) ∧
 g_6.1.2.2.2 ++ (((0 : Int), (0 : Int)) :: ([] : List (Int × Int))).set (0 : Nat) (g_3.1.1, (sortI g_5.2.1).getD g_6.2.1.toNat (0 : Int)) = g_6.1.2.2.2 ++ (((0 : Int), (0 : Int)) :: ([] : List (Int × Int))).set (0 : Nat) (g_3.1.1, (sortI g_5.2.1).getD g_6.2.1.toNat (0 : Int)) ∧
 g.2.1 = g.2.1 ∧
 (RR ((opAt x.1 g.2.2.1).1) ∧
 RR ((opAt x.1 g.2.2.1).2.1) ∧
 RR ((opAt x.1 g.2.2.1).2.2) ∧
 True) ∧
 (g_4.1.2.1.set (nat_lit 0 * nat_lit 8 + (nat_lit 0 + ((g_3.1.1 % (8 : Int)).toNat * nat_lit 1 + nat_lit 0))) ([] : List (Int × Int))).set (nat_lit 0 * nat_lit 8 + (nat_lit 0 + ((g_3.1.1 % (8 : Int)).toNat * nat_lit 1 + nat_lit 0))) ([] : List (Int × Int)) = (g_4.1.2.1.set (nat_lit 0 * nat_lit 8 + (nat_lit 0 + ((g_3.1.1 % (8 : Int)).toNat * nat_lit 1 + nat_lit 0))) ([] : List (Int × Int))).set (nat_lit 0 * nat_lit 8 + (nat_lit 0 + ((g_3.1.1 % (8 : Int)).toNat * nat_lit 1 + nat_lit 0))) ([] : List (Int × Int)) ∧
 RR g_5.1.2.2.1 ∧
 True) ∧
 (True ∧
 True) ∧
 R32 (R32 (R8 (True ∧
 True ∧
 True ∧
 RR g_1.1.2.2 ∧
 g_2.2.1 = g_2.2.1 ∧
 true = true ∧
 (True ∧
 True) ∧
 R8 ((True ∧
 True) ∧
 True ∧
 True ∧
 (True ∧
 True) ∧
 True ∧
 True ∧
 True ∧
 True ∧
 True ∧
 True ∧
 x.1 = x.1 ∧
 RR (↑x.1.length : Int) ∧
 g.2.2.1 = g.2.2.1 ∧
 true = true ∧
 True ∧
 (RR ((opAt x.1 g.2.2.1).1) ∧
 RR ((opAt x.1 g.2.2.1).2.1) ∧
 RR ((opAt x.1 g.2.2.1).2.2) ∧
 True) ∧
 True ∧
 (True ∧
 True) ∧
 (RR ((opAt x.1 g.2.2.1).1) ∧
 RR ((opAt x.1 g.2.2.1).2.1) ∧
 RR ((opAt x.1 g.2.2.1).2.2) ∧
 True) ∧
 R8 (True ∧
 True ∧
 True ∧
 True ∧
 True ∧
 True ∧
 True)))))) ∧
 (decide (g_6.2.1 < (↑(sortI g_5.2.1).length : Int)) = false →
 ((-9223372036854775808 : Int) ≤ g_2.2.1 + (1 : Int) ∧
 g_2.2.1 + (1 : Int) ≤ (9223372036854775807 : Int)) ∧
 (((0 : Int) ≤ g_2.2.1 + (1 : Int) ∧
 g_2.2.1 + (1 : Int) ≤ g_1.1.2.2 ∧
 (g_3.1.1, (g_4.1.2.1.set (nat_lit 0 * nat_lit 8 + (nat_lit 0 + ((g_3.1.1 % (8 : Int)).toNat * nat_lit 1 + nat_lit 0))) ([] : List (Int × Int))).set (nat_lit 0 * nat_lit 8 + (nat_lit 0 + ((g_3.1.1 % (8 : Int)).toNat * nat_lit 1 + nat_lit 0))) ([] : List (Int × Int)), g_5.1.2.2.1, g_6.1.2.2.2) = ticksW (g.1.1, g.1.2.1, g.1.2.2.1, g.1.2.2.2) (g_2.2.1 + (1 : Int)).toNat) ∧
 (g_1.1.2.2 - (g_2.2.1 + (1 : Int))).toNat < (g_1.1.2.2 - g_2.2.1).toNat) ∧
 ((True ∧
 True) ∧
 RR g_1.1.2.2 ∧
 g_2.2.1 + (1 : Int) = g_2.2.1 + (1 : Int) ∧
 True) ∧
 ((g_3.1.1 = g_3.1.1 ∧
 (True ∧
 True) ∧
 True ∧
 True ∧
 True) ∧
 (g_4.1.2.1.set (nat_lit 0 * nat_lit 8 + (nat_lit 0 + ((g_3.1.1 % (8 : Int)).toNat * nat_lit 1 + nat_lit 0))) ([] : List (Int × Int))).set (nat_lit 0 * nat_lit 8 + (nat_lit 0 + ((g_3.1.1 % (8 : Int)).toNat * nat_lit 1 + nat_lit 0))) ([] : List (Int × Int)) = (g_4.1.2.1.set (nat_lit 0 * nat_lit 8 + (nat_lit 0 + ((g_3.1.1 % (8 : Int)).toNat * nat_lit 1 + nat_lit 0))) ([] : List (Int × Int))).set (nat_lit 0 * nat_lit 8 + (nat_lit 0 + ((g_3.1.1 % (8 : Int)).toNat * nat_lit 1 + nat_lit 0))) ([] : List (Int × Int)) ∧
 RR g_5.1.2.2.1 ∧
 RR g_6.1.2.2.2 ∧
 g.2.1 = g.2.1 ∧
 (RR ((opAt x.1 g.2.2.1).1) ∧
 RR ((opAt x.1 g.2.2.1).2.1) ∧
 RR ((opAt x.1 g.2.2.1).2.2) ∧
 True) ∧
 True) ∧
 True ∧
 True ∧
 True ∧
 True ∧
 True ∧
 True ∧
 (True ∧
 True) ∧
 True ∧
 True ∧
 (True ∧
 True) ∧
 True ∧
 True ∧
 True ∧
 True ∧
 True ∧
 True ∧
 x.1 = x.1 ∧
 RR (↑x.1.length : Int) ∧
 g.2.2.1 = g.2.2.1 ∧
 true = true ∧
 True ∧
 (RR ((opAt x.1 g.2.2.1).1) ∧
 RR ((opAt x.1 g.2.2.1).2.1) ∧
 RR ((opAt x.1 g.2.2.1).2.2) ∧
 True) ∧
 True ∧
 (True ∧
 True) ∧
 (RR ((opAt x.1 g.2.2.1).1) ∧
 RR ((opAt x.1 g.2.2.1).2.1) ∧
 RR ((opAt x.1 g.2.2.1).2.2) ∧
 True) ∧
 R8 (True ∧
 True ∧
 True ∧
 True ∧
 True ∧
 True ∧
 True))))) ∧
 (decide (g_2.2.1 < g_1.1.2.2) = false →
 (g.2.1.length + (((0 : Int) :: ([] : List Int)).set (0 : Nat) (0 : Int)).length ≤ (9223372036854775807 : Nat) ∧
 (g.2.1.length + (((0 : Int) :: ([] : List Int)).set (0 : Nat) (0 : Int)).length + (g.2.1.length + (((0 : Int) :: ([] : List Int)).set (0 : Nat) (0 : Int)).length) / (4 : Nat) + (192 : Nat)) * (8 : Nat) ≤ (281474976710656 : Nat)) ∧
 (((g_2.1.1, g_2.1.2.1, g_2.1.2.2.1, g_2.1.2.2.2) = doW (g.1.1, g.1.2.1, g.1.2.2.1, g.1.2.2.2) (opAt x.1 g.2.2.1) ∧
 g.2.1 ++ ((0 : Int) :: ([] : List Int)).set (0 : Nat) (0 : Int) = g.2.1 ++ errK g.1.2.2.1 (opAt x.1 g.2.2.1) :: ([] : List Int)) ∧
 True) ∧
 ((True ∧
 True) ∧
 True ∧
 x.1 = x.1 ∧
 RR (↑x.1.length : Int) ∧
 g.2.2.1 = g.2.2.1 ∧
 True) ∧
 ((g_2.1.1 = g_2.1.1 ∧
 (True ∧
 True) ∧
 True ∧
 True ∧
 True) ∧
 RR g_2.1.2.1 ∧
 RR g_2.1.2.2.1 ∧
 RR g_2.1.2.2.2 ∧
 g.2.1 ++ ((0 : Int) :: ([] : List Int)).set (0 : Nat) (0 : Int) = g.2.1 ++ ((0 : Int) :: ([] : List Int)).set (0 : Nat) (0 : Int) ∧
 True) ∧
 True))) ∧
 ((g_1.1.1 == (3 : Int)) = false →
 (g.2.1.length + (((0 : Int) :: ([] : List Int)).set (0 : Nat) (5 : Int)).length ≤ (9223372036854775807 : Nat) ∧
 (g.2.1.length + (((0 : Int) :: ([] : List Int)).set (0 : Nat) (5 : Int)).length + (g.2.1.length + (((0 : Int) :: ([] : List Int)).set (0 : Nat) (5 : Int)).length) / (4 : Nat) + (192 : Nat)) * (8 : Nat) ≤ (281474976710656 : Nat)) ∧
 (((g.1.1, g.1.2.1, g.1.2.2.1, g.1.2.2.2) = doW (g.1.1, g.1.2.1, g.1.2.2.1, g.1.2.2.2) (opAt x.1 g.2.2.1) ∧
 g.2.1 ++ ((0 : Int) :: ([] : List Int)).set (0 : Nat) (5 : Int) = g.2.1 ++ errK g.1.2.2.1 (opAt x.1 g.2.2.1) :: ([] : List Int)) ∧
 True) ∧
 ((True ∧
 True) ∧
 True ∧
 x.1 = x.1 ∧
 RR (↑x.1.length : Int) ∧
 g.2.2.1 = g.2.2.1 ∧
 True) ∧
 ((g.1.1 = g.1.1 ∧
 (True ∧
 True) ∧
 True ∧
 True ∧
 True) ∧
 g.1.2.1 = g.1.2.1 ∧
 RR g.1.2.2.1 ∧
 RR g.1.2.2.2 ∧
 g.2.1 ++ ((0 : Int) :: ([] : List Int)).set (0 : Nat) (5 : Int) = g.2.1 ++ ((0 : Int) :: ([] : List Int)).set (0 : Nat) (5 : Int) ∧
 True) ∧
 True)))) ∧
 ∀ (g_1 : (Int × List (List (Int × Int)) × List (Int × Int) × List (Int × Int)) × List Int × Unit), g_1.1 = doW (g.1.1, g.1.2.1, g.1.2.2.1, g.1.2.2.2) (opAt x.1 g.2.2.1) ∧
 g_1.2.1 = g.2.1 ++ errK g.1.2.2.1 (opAt x.1 g.2.2.1) :: ([] : List Int) →
 (((-9223372036854775808 : Int) ≤ g_1.1.1 ∧
 g_1.1.1 ≤ (9223372036854775807 : Int)) ∧
 (g_1.1.2.1.length = (24 : Nat) ∧
 ∀ (xs : List (Int × Int)), xs ∈ g_1.1.2.1 →
 xs.length ≤ (9223372036854775807 : Nat) ∧
 ∀ (x : Int × Int), x ∈ xs →
 ((-9223372036854775808 : Int) ≤ x.1 ∧
 x.1 ≤ (9223372036854775807 : Int)) ∧
 (-9223372036854775808 : Int) ≤ x.2 ∧
 x.2 ≤ (9223372036854775807 : Int)) ∧
 (∀ (e : Int × Int), e ∈ g_1.1.2.2.1 →
 ((-9223372036854775808 : Int) ≤ e.1 ∧
 e.1 ≤ (9223372036854775807 : Int)) ∧
 (-9223372036854775808 : Int) ≤ e.2 ∧
 e.2 ≤ (9223372036854775807 : Int)) ∧
 g_1.1.2.2.2.length ≤ (9223372036854775807 : Nat) ∧
 ∀ (x : Int × Int), x ∈ g_1.1.2.2.2 →
 ((-9223372036854775808 : Int) ≤ x.1 ∧
 x.1 ≤ (9223372036854775807 : Int)) ∧
 (-9223372036854775808 : Int) ≤ x.2 ∧
 x.2 ≤ (9223372036854775807 : Int)) ∧
 (g_1.2.1.length ≤ (9223372036854775807 : Nat) ∧
 ∀ (x : Int), x ∈ g_1.2.1 →
 (-9223372036854775808 : Int) ≤ x ∧
 x ≤ (9223372036854775807 : Int)) ∧
 True →
 ((-9223372036854775808 : Int) ≤ g.2.2.1 + (1 : Int) ∧
 g.2.2.1 + (1 : Int) ≤ (9223372036854775807 : Int)) ∧
 (((0 : Int) ≤ g.2.2.1 + (1 : Int) ∧
 g.2.2.1 + (1 : Int) ≤ (↑x.1.length : Int) ∧
 runK (List.take (g.2.2.1 + (1 : Int)).toNat x.1) = ((g_1.1.1, g_1.1.2.2.1, g_1.1.2.2.2), g_1.2.1) ∧
 okQ (g_1.1.1, g_1.1.2.1, g_1.1.2.2.1, g_1.1.2.2.2) (g.2.2.1 + (1 : Int)) ∧
 (↑g_1.2.1.length : Int) ≤ g.2.2.1 + (1 : Int)) ∧
 ((↑x.1.length : Int) - (g.2.2.1 + (1 : Int))).toNat < ((↑x.1.length : Int) - g.2.2.1).toNat) ∧
 ((True ∧
 True) ∧
 True ∧
 x.1 = x.1 ∧
 RR (↑x.1.length : Int) ∧
 g.2.2.1 + (1 : Int) = g.2.2.1 + (1 : Int) ∧
 True) ∧
 ((g_1.1.1 = g_1.1.1 ∧
 (True ∧
 True) ∧
 True ∧
 True ∧
 True) ∧
 RR g_1.1.2.1 ∧
 RR g_1.1.2.2.1 ∧
 RR g_1.1.2.2.2 ∧
 g_1.2.1 = g_1.2.1 ∧
 True) ∧
 True) ∧
 (decide (g.2.2.1 < (↑x.1.length : Int)) = false →
 g.1.2.2.1.length ≤ (9223372036854775807 : Nat) ∧
 g.2.1 = (kplay x.1).1 ∧
 g.1.2.2.2 = (kplay x.1).2.1 ∧
 (↑g.1.2.2.1.length : Int) = (kplay x.1).2.2.1 ∧
 (0 : Int) = (kplay x.1).2.2.2.1))

theorem E_play_eq (x : HL (cPlay : Ctr).as) : vc (fx_play x) 4 19 Try.f19 (cPlay) x = E_play x := by kernel_rfl

def E_law (x : List (Int × Int × Int) × Unit) : Prop :=
 Holds True ∧
 Holds True ∧
 (((kplay x.1).2.2.2.1 == (kplay x.1).2.2.2.1) = true →
 ((kplay x.1).2.2.2.1 == (kplay x.1).2.2.2.1) = true ∧
 ((kplay x.1).2.2.2.1 == (kplay x.1).2.2.2.1) = true) ∧
 (((kplay x.1).2.2.2.1 == (kplay x.1).2.2.2.1) = true →
 ((kplay x.1).2.2.2.1 == (kplay x.1).2.2.2.1) = true) ∧
 (((kplay x.1).2.2.2.1 == (kplay x.1).2.2.2.1 && (kplay x.1).2.2.1 == (kplay x.1).2.2.1) = true →
 (((kplay x.1).2.2.2.1 == (kplay x.1).2.2.2.1 && (kplay x.1).2.2.1 == (kplay x.1).2.2.1) = true ∧
 ((kplay x.1).2.2.2.1 == (kplay x.1).2.2.2.1 && (kplay x.1).2.2.1 == (kplay x.1).2.2.1) = true) ∧
 Holds True) ∧
 (((kplay x.1).2.2.2.1 == (kplay x.1).2.2.2.1 && (kplay x.1).2.2.1 == (kplay x.1).2.2.1) = true →
 ((kplay x.1).2.2.2.1 == (kplay x.1).2.2.2.1 && (kplay x.1).2.2.1 == (kplay x.1).2.2.1) = true) ∧
 (((kplay x.1).2.2.2.1 == (kplay x.1).2.2.2.1 && (kplay x.1).2.2.1 == (kplay x.1).2.2.1 &&
 decide ((kplay x.1).1 = (kplay x.1).1)) =
 true →
 (((kplay x.1).2.2.2.1 == (kplay x.1).2.2.2.1 && (kplay x.1).2.2.1 == (kplay x.1).2.2.1 &&
 decide ((kplay x.1).1 = (kplay x.1).1)) =
 true ∧
 ((kplay x.1).2.2.2.1 == (kplay x.1).2.2.2.1 && (kplay x.1).2.2.1 == (kplay x.1).2.2.1 &&
 decide ((kplay x.1).1 = (kplay x.1).1)) =
 true) ∧
 Holds True) ∧
 (((kplay x.1).2.2.2.1 == (kplay x.1).2.2.2.1 && (kplay x.1).2.2.1 == (kplay x.1).2.2.1 &&
 decide ((kplay x.1).1 = (kplay x.1).1)) =
 true →
 ((kplay x.1).2.2.2.1 == (kplay x.1).2.2.2.1 && (kplay x.1).2.2.1 == (kplay x.1).2.2.1 &&
 decide ((kplay x.1).1 = (kplay x.1).1)) =
 true) ∧
 ((kplay x.1).2.2.2.1 == (kplay x.1).2.2.2.1 && (kplay x.1).2.2.1 == (kplay x.1).2.2.1 &&
 decide ((kplay x.1).1 = (kplay x.1).1) &&
 decide ((kplay x.1).2.1 = (kplay x.1).2.1)) =
 true

theorem E_law_eq (x : HL (cLaw : Ctr).as) : vc (fx_law x) 1 5 Try.f5 (cLaw) x = E_law x := by kernel_rfl

end Go.Proofs.Ytpnmfoojmodnlaa.Wheel
