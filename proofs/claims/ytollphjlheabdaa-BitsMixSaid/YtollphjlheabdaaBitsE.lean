/-
  The conditions that the executor comes to, written out (by a tool of ours), and that they are the conditions (by the kernel).
-/
import Derived.Test.YtollphjlheabdaaBitsC
namespace Go.Proofs.Ytollphjlheabdaa.Bits
open Go.Sx
set_option maxRecDepth 100000

def E_row (x : List Int × Unit) : Prop :=
 ((((0 : Int) ≤ (0 : Int) ∧ (0 : Int) ≤ (4 : Int) ∧ List.replicate (256 : Nat) false = rowTo x.fst ((64 : Nat) * Int.toNat (0 : Int))) ∧ True) ∧
 ((True ∧ True) ∧ (True ∧ True) ∧ (x.fst = x.fst ∧ True) ∧ (0 : Int) = (0 : Int) ∧ True) ∧
 ((List.replicate (256 : Nat) false = List.replicate (256 : Nat) false ∧ True) ∧
 (List.replicate (256 : Nat) false = List.replicate (256 : Nat) false ∧ True) ∧ True) ∧
 True) ∧
 ∀ (g : List Bool × Int × Unit),
 (0 : Int) ≤ g.snd.fst ∧ g.snd.fst ≤ (4 : Int) ∧ g.fst = rowTo x.fst ((64 : Nat) * g.snd.fst.toNat) →
 (g.fst.length = (256 : Nat) ∧ ∀ (x : Bool), x ∈ g.fst → True) ∧
 ((-9223372036854775808 : Int) ≤ g.snd.fst ∧ g.snd.fst ≤ (9223372036854775807 : Int)) ∧ True →
 (decide (g.snd.fst < (4 : Int)) = true →
 ((0 : Int) ≤ g.snd.fst ∧ g.snd.fst < (↑(4 : Nat) : Int)) ∧
 ((((0 : Int) ≤ (0 : Int) ∧
 (0 : Int) ≤ (64 : Int) ∧
 g.fst = rowTo x.fst ((64 : Nat) * g.snd.1.toNat + Int.toNat (0 : Int)) ∧
 x.fst.getD g.snd.fst.toNat (0 : Int) = x.fst.getD g.snd.1.toNat (0 : Int) / (2 : Int) ^ Int.toNat (0 : Int)) ∧
 True) ∧
 ((True ∧ True) ∧
 (True ∧ True) ∧
 g.snd.fst = g.snd.fst ∧
 x.fst.getD g.snd.fst.toNat (0 : Int) = x.fst.getD g.snd.fst.toNat (0 : Int) ∧
 (x.fst = x.fst ∧ True) ∧ g.snd.fst = g.snd.fst ∧ (0 : Int) = (0 : Int) ∧ True) ∧
 ((g.fst = g.fst ∧ True) ∧ (List.replicate (256 : Nat) false = List.replicate (256 : Nat) false ∧ True) ∧ True) ∧ True) ∧
 ∀ (g_1 : List Bool × Int × Int × Unit),
 (0 : Int) ≤ g_1.snd.snd.fst ∧
 g_1.snd.snd.fst ≤ (64 : Int) ∧
 g_1.fst = rowTo x.fst ((64 : Nat) * g.snd.1.toNat + g_1.snd.snd.fst.toNat) ∧
 g_1.snd.fst = x.fst.getD g.snd.1.toNat (0 : Int) / (2 : Int) ^ g_1.snd.snd.fst.toNat →
 (g_1.fst.length = (256 : Nat) ∧ ∀ (x : Bool), x ∈ g_1.fst → True) ∧
 ((0 : Int) ≤ g_1.snd.fst ∧ g_1.snd.fst ≤ (18446744073709551615 : Int)) ∧
 ((-9223372036854775808 : Int) ≤ g_1.snd.snd.fst ∧ g_1.snd.snd.fst ≤ (9223372036854775807 : Int)) ∧ True →
 (decide (g_1.snd.snd.fst < (64 : Int)) = true →
 ((-9223372036854775808 : Int) ≤ (64 : Int) * g.snd.fst ∧ (64 : Int) * g.snd.fst ≤ (9223372036854775807 : Int)) ∧
 ((-9223372036854775808 : Int) ≤ (64 : Int) * g.snd.fst + g_1.snd.snd.fst ∧
 (64 : Int) * g.snd.fst + g_1.snd.snd.fst ≤ (9223372036854775807 : Int)) ∧
 ((0 : Int) ≤ g_1.snd.fst ∧ (0 : Int) < (2 : Int)) ∧
 ((0 : Int) ≤ (64 : Int) * g.snd.fst + g_1.snd.snd.fst ∧
 (64 : Int) * g.snd.fst + g_1.snd.snd.fst < (↑(256 : Nat) : Int)) ∧
 ((0 : Int) ≤ g_1.snd.fst ∧ (0 : Int) < (2 : Int)) ∧
 ((-9223372036854775808 : Int) ≤ g_1.snd.snd.fst + (1 : Int) ∧
 g_1.snd.snd.fst + (1 : Int) ≤ (9223372036854775807 : Int)) ∧
 (((0 : Int) ≤ g_1.snd.snd.fst + (1 : Int) ∧
 g_1.snd.snd.fst + (1 : Int) ≤ (64 : Int) ∧
 g_1.fst.set ((64 : Int) * g.snd.fst + g_1.snd.snd.fst).toNat (g_1.snd.fst % (2 : Int) == (1 : Int)) =
 rowTo x.fst ((64 : Nat) * g.snd.1.toNat + (g_1.snd.snd.fst + (1 : Int)).toNat) ∧
 g_1.snd.fst / (2 : Int) =
 x.fst.getD g.snd.1.toNat (0 : Int) / (2 : Int) ^ (g_1.snd.snd.fst + (1 : Int)).toNat) ∧
 ((64 : Int) - (g_1.snd.snd.fst + (1 : Int))).toNat < ((64 : Int) - g_1.snd.snd.fst).toNat) ∧
 ((True ∧ True) ∧
 (True ∧ True) ∧
 g.snd.fst = g.snd.fst ∧
 g_1.snd.fst / (2 : Int) = g_1.snd.fst / (2 : Int) ∧
 (x.fst = x.fst ∧ True) ∧
 g.snd.fst = g.snd.fst ∧ g_1.snd.snd.fst + (1 : Int) = g_1.snd.snd.fst + (1 : Int) ∧ True) ∧
 ((g_1.fst.set ((64 : Int) * g.snd.fst + g_1.snd.snd.fst).toNat (g_1.snd.fst % (2 : Int) == (1 : Int)) =
 g_1.fst.set ((64 : Int) * g.snd.fst + g_1.snd.snd.fst).toNat
 (g_1.snd.fst % (2 : Int) == (1 : Int)) ∧
 True) ∧
 (List.replicate (256 : Nat) false = List.replicate (256 : Nat) false ∧ True) ∧ True) ∧
 True) ∧
 (decide (g_1.snd.snd.fst < (64 : Int)) = false →
 ((-9223372036854775808 : Int) ≤ g.snd.fst + (1 : Int) ∧ g.snd.fst + (1 : Int) ≤ (9223372036854775807 : Int)) ∧
 (((0 : Int) ≤ g.snd.fst + (1 : Int) ∧
 g.snd.fst + (1 : Int) ≤ (4 : Int) ∧ g_1.fst = rowTo x.fst ((64 : Nat) * (g.snd.fst + (1 : Int)).toNat)) ∧
 ((4 : Int) - (g.snd.fst + (1 : Int))).toNat < ((4 : Int) - g.snd.fst).toNat) ∧
 ((True ∧ True) ∧ (True ∧ True) ∧ (x.fst = x.fst ∧ True) ∧ g.snd.fst + (1 : Int) = g.snd.fst + (1 : Int) ∧ True) ∧
 ((g_1.fst = g_1.fst ∧ True) ∧ (List.replicate (256 : Nat) false = List.replicate (256 : Nat) false ∧ True) ∧ True) ∧
 True)) ∧
 (decide (g.snd.fst < (4 : Int)) = false → g.fst = rowTo x.fst (256 : Nat))

theorem E_row_eq (x : HL (cRow : Ctr).as) : vc (fx_row x) 1 66 Try.f66 (cRow) x = E_row x := by kernel_rfl

def E_bits (x : List Bool × Unit) : Prop :=
 ((((-1 : Int) ≤ (255 : Int) ∧
 (255 : Int) ≤ (255 : Int) ∧
 (0 : Int) :: (0 : Int) :: (0 : Int) :: (0 : Int) :: ([] : List Int) = bitsTo (rf x.fst) ((255 : Int) + (1 : Int)).toNat) ∧
 True) ∧
 ((True ∧ True) ∧ (True ∧ True) ∧ (True ∧ True) ∧ (255 : Int) = (255 : Int) ∧ True) ∧
 (((0 : Int) :: (0 : Int) :: (0 : Int) :: (0 : Int) :: ([] : List Int) = (0 : Int) :: (0 : Int) :: (0 : Int) :: (0 : Int) :: ([] : List Int) ∧
 True) ∧
 (x.fst = x.fst ∧ True) ∧
 ((0 : Int) :: (0 : Int) :: (0 : Int) :: (0 : Int) :: ([] : List Int) =
 (0 : Int) :: (0 : Int) :: (0 : Int) :: (0 : Int) :: ([] : List Int) ∧
 True) ∧
 True) ∧
 True) ∧
 ∀ (g : List Int × Int × Unit),
 (-1 : Int) ≤ g.snd.fst ∧ g.snd.fst ≤ (255 : Int) ∧ g.fst = bitsTo (rf x.fst) (g.snd.fst + (1 : Int)).toNat →
 (g.fst.length = (4 : Nat) ∧ ∀ (x : Int), x ∈ g.fst → (0 : Int) ≤ x ∧ x ≤ (18446744073709551615 : Int)) ∧
 ((-9223372036854775808 : Int) ≤ g.snd.fst ∧ g.snd.fst ≤ (9223372036854775807 : Int)) ∧ True →
 (decide ((0 : Int) ≤ g.snd.fst) = true →
 ((0 : Int) ≤ g.snd.fst ∧ (0 : Int) < (64 : Int)) ∧
 ((0 : Int) ≤ g.snd.fst / (64 : Int) ∧ g.snd.fst / (64 : Int) < (↑(4 : Nat) : Int)) ∧
 ((0 : Int) ≤ g.fst.getD (g.snd.fst / (64 : Int)).toNat (0 : Int) * (2 : Int) ∧
 g.fst.getD (g.snd.fst / (64 : Int)).toNat (0 : Int) * (2 : Int) ≤ (18446744073709551615 : Int)) ∧
 ((0 : Int) ≤ g.snd.fst / (64 : Int) ∧ g.snd.fst / (64 : Int) < (↑(4 : Nat) : Int)) ∧
 ((0 : Int) ≤ g.snd.fst ∧ g.snd.fst < (↑(256 : Nat) : Int)) ∧
 (x.fst.getD g.snd.fst.toNat false = true →
 ((0 : Int) ≤ g.snd.fst ∧ (0 : Int) < (64 : Int)) ∧
 ((0 : Int) ≤ g.snd.fst / (64 : Int) ∧ g.snd.fst / (64 : Int) < (↑(4 : Nat) : Int)) ∧
 ((0 : Int) ≤
 (g.fst.set (g.snd.fst / (64 : Int)).toNat (g.fst.getD (g.snd.fst / (64 : Int)).toNat (0 : Int) * (2 : Int))).getD
 (g.snd.fst / (64 : Int)).toNat (0 : Int) +
 (1 : Int) ∧
 (g.fst.set (g.snd.fst / (64 : Int)).toNat (g.fst.getD (g.snd.fst / (64 : Int)).toNat (0 : Int) * (2 : Int))).getD
 (g.snd.fst / (64 : Int)).toNat (0 : Int) +
 (1 : Int) ≤
 (18446744073709551615 : Int)) ∧
 ((0 : Int) ≤ g.snd.fst / (64 : Int) ∧ g.snd.fst / (64 : Int) < (↑(4 : Nat) : Int)) ∧
 ((-9223372036854775808 : Int) ≤ g.snd.fst - (1 : Int) ∧ g.snd.fst - (1 : Int) ≤ (9223372036854775807 : Int)) ∧
 (((-1 : Int) ≤ g.snd.fst - (1 : Int) ∧
 g.snd.fst - (1 : Int) ≤ (255 : Int) ∧
 (g.fst.set (g.snd.fst / (64 : Int)).toNat
 (g.fst.getD (g.snd.fst / (64 : Int)).toNat (0 : Int) * (2 : Int))).set
 (g.snd.fst / (64 : Int)).toNat
 ((g.fst.set (g.snd.fst / (64 : Int)).toNat
 (g.fst.getD (g.snd.fst / (64 : Int)).toNat (0 : Int) * (2 : Int))).getD
 (g.snd.fst / (64 : Int)).toNat (0 : Int) +
 (1 : Int)) =
 bitsTo (rf x.fst) (g.snd.fst - (1 : Int) + (1 : Int)).toNat) ∧
 (g.snd.fst - (1 : Int) + (1 : Int)).toNat < (g.snd.fst + (1 : Int)).toNat) ∧
 ((True ∧ True) ∧ (True ∧ True) ∧ (True ∧ True) ∧ g.snd.fst - (1 : Int) = g.snd.fst - (1 : Int) ∧ True) ∧
 (((g.fst.set (g.snd.fst / (64 : Int)).toNat
 (g.fst.getD (g.snd.fst / (64 : Int)).toNat (0 : Int) * (2 : Int))).set
 (g.snd.fst / (64 : Int)).toNat
 ((g.fst.set (g.snd.fst / (64 : Int)).toNat
 (g.fst.getD (g.snd.fst / (64 : Int)).toNat (0 : Int) * (2 : Int))).getD
 (g.snd.fst / (64 : Int)).toNat (0 : Int) +
 (1 : Int)) =
 (g.fst.set (g.snd.fst / (64 : Int)).toNat
 (g.fst.getD (g.snd.fst / (64 : Int)).toNat (0 : Int) * (2 : Int))).set
 (g.snd.fst / (64 : Int)).toNat
 ((g.fst.set (g.snd.fst / (64 : Int)).toNat
 (g.fst.getD (g.snd.fst / (64 : Int)).toNat (0 : Int) * (2 : Int))).getD
 (g.snd.fst / (64 : Int)).toNat (0 : Int) +
 (1 : Int)) ∧
 True) ∧
 (x.fst = x.fst ∧ True) ∧
 ((0 : Int) :: (0 : Int) :: (0 : Int) :: (0 : Int) :: ([] : List Int) =
 (0 : Int) :: (0 : Int) :: (0 : Int) :: (0 : Int) :: ([] : List Int) ∧
 True) ∧
 True) ∧
 True) ∧
 (x.fst.getD g.snd.fst.toNat false = false →
 ((-9223372036854775808 : Int) ≤ g.snd.fst - (1 : Int) ∧ g.snd.fst - (1 : Int) ≤ (9223372036854775807 : Int)) ∧
 (((-1 : Int) ≤ g.snd.fst - (1 : Int) ∧
 g.snd.fst - (1 : Int) ≤ (255 : Int) ∧
 g.fst.set (g.snd.fst / (64 : Int)).toNat (g.fst.getD (g.snd.fst / (64 : Int)).toNat (0 : Int) * (2 : Int)) =
 bitsTo (rf x.fst) (g.snd.fst - (1 : Int) + (1 : Int)).toNat) ∧
 (g.snd.fst - (1 : Int) + (1 : Int)).toNat < (g.snd.fst + (1 : Int)).toNat) ∧
 ((True ∧ True) ∧ (True ∧ True) ∧ (True ∧ True) ∧ g.snd.fst - (1 : Int) = g.snd.fst - (1 : Int) ∧ True) ∧
 ((g.fst.set (g.snd.fst / (64 : Int)).toNat (g.fst.getD (g.snd.fst / (64 : Int)).toNat (0 : Int) * (2 : Int)) =
 g.fst.set (g.snd.fst / (64 : Int)).toNat (g.fst.getD (g.snd.fst / (64 : Int)).toNat (0 : Int) * (2 : Int)) ∧
 True) ∧
 (x.fst = x.fst ∧ True) ∧
 ((0 : Int) :: (0 : Int) :: (0 : Int) :: (0 : Int) :: ([] : List Int) =
 (0 : Int) :: (0 : Int) :: (0 : Int) :: (0 : Int) :: ([] : List Int) ∧
 True) ∧
 True) ∧
 True)) ∧
 (decide ((0 : Int) ≤ g.snd.fst) = false → g.fst = bitsTo (rf x.fst) (0 : Nat))

theorem E_bits_eq (x : HL (cBits : Ctr).as) : vc (fx_bits x) 1 67 Try.f67 (cBits) x = E_bits x := by kernel_rfl

def E_and (x : Bool × Bool × Unit) : Prop :=
 (x.fst = true → x.fst = true) ∧ (x.fst && x.snd.fst) = (x.fst && x.snd.fst)

theorem E_and_eq (x : HL (cAnd : Ctr).as) : vc (fx_and x) 1 17 Try.f17 (cAnd) x = E_and x := by kernel_rfl

def E_or (x : Bool × Bool × Unit) : Prop :=
 (x.fst = false → (!x.fst) = true) ∧ (x.fst || x.snd.fst) = (x.fst || x.snd.fst)

theorem E_or_eq (x : HL (cOr : Ctr).as) : vc (fx_or x) 1 19 Try.f19 (cOr) x = E_or x := by kernel_rfl

def E_both (x : List Int × List Int × Unit) : Prop :=
 ((((0 : Int) ≤ (0 : Int) ∧
 (0 : Int) ≤ (4 : Int) ∧ x.fst = List.take (Int.toNat (0 : Int)) (mixA x.fst x.snd.fst) ++ List.drop (Int.toNat (0 : Int)) x.fst) ∧
 True) ∧
 ((True ∧ True) ∧ (True ∧ True) ∧ (True ∧ True) ∧ (0 : Int) = (0 : Int) ∧ True) ∧
 ((x.fst = x.fst ∧ True) ∧
 (x.snd.fst = x.snd.fst ∧ True) ∧
 ((0 : Int) :: (0 : Int) :: (0 : Int) :: (0 : Int) :: ([] : List Int) =
 (0 : Int) :: (0 : Int) :: (0 : Int) :: (0 : Int) :: ([] : List Int) ∧
 True) ∧
 True) ∧
 True) ∧
 ∀ (g : List Int × Int × Unit),
 (0 : Int) ≤ g.snd.fst ∧ g.snd.fst ≤ (4 : Int) ∧ g.fst = List.take g.snd.fst.toNat (mixA x.fst x.snd.fst) ++ List.drop g.snd.fst.toNat x.fst →
 (g.fst.length = (4 : Nat) ∧ ∀ (x : Int), x ∈ g.fst → (0 : Int) ≤ x ∧ x ≤ (18446744073709551615 : Int)) ∧
 ((-9223372036854775808 : Int) ≤ g.snd.fst ∧ g.snd.fst ≤ (9223372036854775807 : Int)) ∧ True →
 (decide (g.snd.fst < (4 : Int)) = true →
 ((0 : Int) ≤ g.snd.fst ∧ g.snd.fst < (↑(4 : Nat) : Int)) ∧
 ((0 : Int) ≤ g.snd.fst ∧ g.snd.fst < (↑(4 : Nat) : Int)) ∧
 ((0 : Int) ≤ g.snd.fst ∧ g.snd.fst < (↑(4 : Nat) : Int)) ∧
 ((-9223372036854775808 : Int) ≤ g.snd.fst + (1 : Int) ∧ g.snd.fst + (1 : Int) ≤ (9223372036854775807 : Int)) ∧
 (((0 : Int) ≤ g.snd.fst + (1 : Int) ∧
 g.snd.fst + (1 : Int) ≤ (4 : Int) ∧
 g.fst.set g.snd.fst.toNat
 (bits BinOp.and IntKind.u64 (g.fst.getD g.snd.fst.toNat (0 : Int)) (x.snd.fst.getD g.snd.fst.toNat (0 : Int))) =
 List.take (g.snd.fst + (1 : Int)).toNat (mixA x.fst x.snd.fst) ++ List.drop (g.snd.fst + (1 : Int)).toNat x.fst) ∧
 ((4 : Int) - (g.snd.fst + (1 : Int))).toNat < ((4 : Int) - g.snd.fst).toNat) ∧
 ((True ∧ True) ∧ (True ∧ True) ∧ (True ∧ True) ∧ g.snd.fst + (1 : Int) = g.snd.fst + (1 : Int) ∧ True) ∧
 ((g.fst.set g.snd.fst.toNat
 (bits BinOp.and IntKind.u64 (g.fst.getD g.snd.fst.toNat (0 : Int)) (x.snd.fst.getD g.snd.fst.toNat (0 : Int))) =
 g.fst.set g.snd.fst.toNat
 (bits BinOp.and IntKind.u64 (g.fst.getD g.snd.fst.toNat (0 : Int)) (x.snd.fst.getD g.snd.fst.toNat (0 : Int))) ∧
 True) ∧
 (x.snd.fst = x.snd.fst ∧ True) ∧
 ((0 : Int) :: (0 : Int) :: (0 : Int) :: (0 : Int) :: ([] : List Int) =
 (0 : Int) :: (0 : Int) :: (0 : Int) :: (0 : Int) :: ([] : List Int) ∧
 True) ∧
 True) ∧
 True) ∧
 (decide (g.snd.fst < (4 : Int)) = false → g.fst = mixA x.fst x.snd.fst)

theorem E_both_eq (x : HL (cMixA : Ctr).as) : vc (fx_both x) 1 15 Try.f15 (cMixA) x = E_both x := by kernel_rfl

def E_either (x : List Int × List Int × Unit) : Prop :=
 ((((0 : Int) ≤ (0 : Int) ∧
 (0 : Int) ≤ (4 : Int) ∧ x.fst = List.take (Int.toNat (0 : Int)) (mixO x.fst x.snd.fst) ++ List.drop (Int.toNat (0 : Int)) x.fst) ∧
 True) ∧
 ((True ∧ True) ∧ (True ∧ True) ∧ (True ∧ True) ∧ (0 : Int) = (0 : Int) ∧ True) ∧
 ((x.fst = x.fst ∧ True) ∧
 (x.snd.fst = x.snd.fst ∧ True) ∧
 ((0 : Int) :: (0 : Int) :: (0 : Int) :: (0 : Int) :: ([] : List Int) =
 (0 : Int) :: (0 : Int) :: (0 : Int) :: (0 : Int) :: ([] : List Int) ∧
 True) ∧
 True) ∧
 True) ∧
 ∀ (g : List Int × Int × Unit),
 (0 : Int) ≤ g.snd.fst ∧ g.snd.fst ≤ (4 : Int) ∧ g.fst = List.take g.snd.fst.toNat (mixO x.fst x.snd.fst) ++ List.drop g.snd.fst.toNat x.fst →
 (g.fst.length = (4 : Nat) ∧ ∀ (x : Int), x ∈ g.fst → (0 : Int) ≤ x ∧ x ≤ (18446744073709551615 : Int)) ∧
 ((-9223372036854775808 : Int) ≤ g.snd.fst ∧ g.snd.fst ≤ (9223372036854775807 : Int)) ∧ True →
 (decide (g.snd.fst < (4 : Int)) = true →
 ((0 : Int) ≤ g.snd.fst ∧ g.snd.fst < (↑(4 : Nat) : Int)) ∧
 ((0 : Int) ≤ g.snd.fst ∧ g.snd.fst < (↑(4 : Nat) : Int)) ∧
 ((0 : Int) ≤ g.snd.fst ∧ g.snd.fst < (↑(4 : Nat) : Int)) ∧
 ((-9223372036854775808 : Int) ≤ g.snd.fst + (1 : Int) ∧ g.snd.fst + (1 : Int) ≤ (9223372036854775807 : Int)) ∧
 (((0 : Int) ≤ g.snd.fst + (1 : Int) ∧
 g.snd.fst + (1 : Int) ≤ (4 : Int) ∧
 g.fst.set g.snd.fst.toNat
 (bits BinOp.or IntKind.u64 (g.fst.getD g.snd.fst.toNat (0 : Int)) (x.snd.fst.getD g.snd.fst.toNat (0 : Int))) =
 List.take (g.snd.fst + (1 : Int)).toNat (mixO x.fst x.snd.fst) ++ List.drop (g.snd.fst + (1 : Int)).toNat x.fst) ∧
 ((4 : Int) - (g.snd.fst + (1 : Int))).toNat < ((4 : Int) - g.snd.fst).toNat) ∧
 ((True ∧ True) ∧ (True ∧ True) ∧ (True ∧ True) ∧ g.snd.fst + (1 : Int) = g.snd.fst + (1 : Int) ∧ True) ∧
 ((g.fst.set g.snd.fst.toNat
 (bits BinOp.or IntKind.u64 (g.fst.getD g.snd.fst.toNat (0 : Int)) (x.snd.fst.getD g.snd.fst.toNat (0 : Int))) =
 g.fst.set g.snd.fst.toNat
 (bits BinOp.or IntKind.u64 (g.fst.getD g.snd.fst.toNat (0 : Int)) (x.snd.fst.getD g.snd.fst.toNat (0 : Int))) ∧
 True) ∧
 (x.snd.fst = x.snd.fst ∧ True) ∧
 ((0 : Int) :: (0 : Int) :: (0 : Int) :: (0 : Int) :: ([] : List Int) =
 (0 : Int) :: (0 : Int) :: (0 : Int) :: (0 : Int) :: ([] : List Int) ∧
 True) ∧
 True) ∧
 True) ∧
 (decide (g.snd.fst < (4 : Int)) = false → g.fst = mixO x.fst x.snd.fst)

theorem E_either_eq (x : HL (cMixO : Ctr).as) : vc (fx_either x) 1 18 Try.f18 (cMixO) x = E_either x := by kernel_rfl

def E_mixa (x : List Int × List Int × Unit) : Prop :=
 Holds True ∧
 Holds True ∧
 ((((0 : Int) ≤ (0 : Int) ∧ (0 : Int) ≤ (256 : Int) ∧ List.replicate (256 : Nat) false = mixRA x.fst x.snd.fst (Int.toNat (0 : Int))) ∧ True) ∧
 (Value.func (Fn.func (17 : Nat)) ([] : List Value).toArray ([] : List Value).toArray =
 Value.func (Fn.func (17 : Nat)) ([] : List Value).toArray ([] : List Value).toArray ∧
 (True ∧ True) ∧ (True ∧ True) ∧ (True ∧ True) ∧ (True ∧ True) ∧ (0 : Int) = (0 : Int) ∧ True) ∧
 ((List.replicate (256 : Nat) false = List.replicate (256 : Nat) false ∧ True) ∧
 ((0 : Int) :: (0 : Int) :: (0 : Int) :: (0 : Int) :: ([] : List Int) =
 (0 : Int) :: (0 : Int) :: (0 : Int) :: (0 : Int) :: ([] : List Int) ∧
 True) ∧
 (rowTo x.fst (256 : Nat) = rowTo x.fst (256 : Nat) ∧ True) ∧
 (rowTo x.snd.fst (256 : Nat) = rowTo x.snd.fst (256 : Nat) ∧ True) ∧ True) ∧
 True) ∧
 ∀ (g : List Bool × Int × Unit),
 (0 : Int) ≤ g.snd.fst ∧ g.snd.fst ≤ (256 : Int) ∧ g.fst = mixRA x.fst x.snd.fst g.snd.fst.toNat →
 (g.fst.length = (256 : Nat) ∧ ∀ (x : Bool), x ∈ g.fst → True) ∧
 ((-9223372036854775808 : Int) ≤ g.snd.fst ∧ g.snd.fst ≤ (9223372036854775807 : Int)) ∧ True →
 (decide (g.snd.fst < (256 : Int)) = true →
 ((0 : Int) ≤ g.snd.fst ∧ g.snd.fst < (↑(256 : Nat) : Int)) ∧
 ((0 : Int) ≤ g.snd.fst ∧ g.snd.fst < (↑(256 : Nat) : Int)) ∧
 Holds True ∧
 ((0 : Int) ≤ g.snd.fst ∧ g.snd.fst < (↑(256 : Nat) : Int)) ∧
 ((-9223372036854775808 : Int) ≤ g.snd.fst + (1 : Int) ∧ g.snd.fst + (1 : Int) ≤ (9223372036854775807 : Int)) ∧
 (((0 : Int) ≤ g.snd.fst + (1 : Int) ∧
 g.snd.fst + (1 : Int) ≤ (256 : Int) ∧
 g.fst.set g.snd.fst.toNat
 ((rowTo x.fst (256 : Nat)).getD g.snd.fst.toNat false &&
 (rowTo x.snd.fst (256 : Nat)).getD g.snd.fst.toNat false) =
 mixRA x.fst x.snd.fst (g.snd.fst + (1 : Int)).toNat) ∧
 ((256 : Int) - (g.snd.fst + (1 : Int))).toNat < ((256 : Int) - g.snd.fst).toNat) ∧
 (Value.func (Fn.func (17 : Nat)) ([] : List Value).toArray ([] : List Value).toArray =
 Value.func (Fn.func (17 : Nat)) ([] : List Value).toArray ([] : List Value).toArray ∧
 (True ∧ True) ∧
 (True ∧ True) ∧ (True ∧ True) ∧ (True ∧ True) ∧ g.snd.fst + (1 : Int) = g.snd.fst + (1 : Int) ∧ True) ∧
 ((g.fst.set g.snd.fst.toNat
 ((rowTo x.fst (256 : Nat)).getD g.snd.fst.toNat false &&
 (rowTo x.snd.fst (256 : Nat)).getD g.snd.fst.toNat false) =
 g.fst.set g.snd.fst.toNat
 ((rowTo x.fst (256 : Nat)).getD g.snd.fst.toNat false &&
 (rowTo x.snd.fst (256 : Nat)).getD g.snd.fst.toNat false) ∧
 True) ∧
 ((0 : Int) :: (0 : Int) :: (0 : Int) :: (0 : Int) :: ([] : List Int) =
 (0 : Int) :: (0 : Int) :: (0 : Int) :: (0 : Int) :: ([] : List Int) ∧
 True) ∧
 (rowTo x.fst (256 : Nat) = rowTo x.fst (256 : Nat) ∧ True) ∧
 (rowTo x.snd.fst (256 : Nat) = rowTo x.snd.fst (256 : Nat) ∧ True) ∧ True) ∧
 True) ∧
 (decide (g.snd.fst < (256 : Int)) = false → Holds True ∧ bitsTo (rf g.fst) (0 : Nat) = mixA x.fst x.snd.fst)

theorem E_mixa_eq (x : HL (cMixA : Ctr).as) : vcF (fx_mixa x) 1 16 17 Try.f16 (cMixA) x = E_mixa x := by kernel_rfl

def E_mixo (x : List Int × List Int × Unit) : Prop :=
 Holds True ∧
 Holds True ∧
 ((((0 : Int) ≤ (0 : Int) ∧ (0 : Int) ≤ (256 : Int) ∧ List.replicate (256 : Nat) false = mixRO x.fst x.snd.fst (Int.toNat (0 : Int))) ∧ True) ∧
 (Value.func (Fn.func (19 : Nat)) ([] : List Value).toArray ([] : List Value).toArray =
 Value.func (Fn.func (19 : Nat)) ([] : List Value).toArray ([] : List Value).toArray ∧
 (True ∧ True) ∧ (True ∧ True) ∧ (True ∧ True) ∧ (True ∧ True) ∧ (0 : Int) = (0 : Int) ∧ True) ∧
 ((List.replicate (256 : Nat) false = List.replicate (256 : Nat) false ∧ True) ∧
 ((0 : Int) :: (0 : Int) :: (0 : Int) :: (0 : Int) :: ([] : List Int) =
 (0 : Int) :: (0 : Int) :: (0 : Int) :: (0 : Int) :: ([] : List Int) ∧
 True) ∧
 (rowTo x.fst (256 : Nat) = rowTo x.fst (256 : Nat) ∧ True) ∧
 (rowTo x.snd.fst (256 : Nat) = rowTo x.snd.fst (256 : Nat) ∧ True) ∧ True) ∧
 True) ∧
 ∀ (g : List Bool × Int × Unit),
 (0 : Int) ≤ g.snd.fst ∧ g.snd.fst ≤ (256 : Int) ∧ g.fst = mixRO x.fst x.snd.fst g.snd.fst.toNat →
 (g.fst.length = (256 : Nat) ∧ ∀ (x : Bool), x ∈ g.fst → True) ∧
 ((-9223372036854775808 : Int) ≤ g.snd.fst ∧ g.snd.fst ≤ (9223372036854775807 : Int)) ∧ True →
 (decide (g.snd.fst < (256 : Int)) = true →
 ((0 : Int) ≤ g.snd.fst ∧ g.snd.fst < (↑(256 : Nat) : Int)) ∧
 ((0 : Int) ≤ g.snd.fst ∧ g.snd.fst < (↑(256 : Nat) : Int)) ∧
 Holds True ∧
 ((0 : Int) ≤ g.snd.fst ∧ g.snd.fst < (↑(256 : Nat) : Int)) ∧
 ((-9223372036854775808 : Int) ≤ g.snd.fst + (1 : Int) ∧ g.snd.fst + (1 : Int) ≤ (9223372036854775807 : Int)) ∧
 (((0 : Int) ≤ g.snd.fst + (1 : Int) ∧
 g.snd.fst + (1 : Int) ≤ (256 : Int) ∧
 g.fst.set g.snd.fst.toNat
 ((rowTo x.fst (256 : Nat)).getD g.snd.fst.toNat false ||
 (rowTo x.snd.fst (256 : Nat)).getD g.snd.fst.toNat false) =
 mixRO x.fst x.snd.fst (g.snd.fst + (1 : Int)).toNat) ∧
 ((256 : Int) - (g.snd.fst + (1 : Int))).toNat < ((256 : Int) - g.snd.fst).toNat) ∧
 (Value.func (Fn.func (19 : Nat)) ([] : List Value).toArray ([] : List Value).toArray =
 Value.func (Fn.func (19 : Nat)) ([] : List Value).toArray ([] : List Value).toArray ∧
 (True ∧ True) ∧
 (True ∧ True) ∧ (True ∧ True) ∧ (True ∧ True) ∧ g.snd.fst + (1 : Int) = g.snd.fst + (1 : Int) ∧ True) ∧
 ((g.fst.set g.snd.fst.toNat
 ((rowTo x.fst (256 : Nat)).getD g.snd.fst.toNat false ||
 (rowTo x.snd.fst (256 : Nat)).getD g.snd.fst.toNat false) =
 g.fst.set g.snd.fst.toNat
 ((rowTo x.fst (256 : Nat)).getD g.snd.fst.toNat false ||
 (rowTo x.snd.fst (256 : Nat)).getD g.snd.fst.toNat false) ∧
 True) ∧
 ((0 : Int) :: (0 : Int) :: (0 : Int) :: (0 : Int) :: ([] : List Int) =
 (0 : Int) :: (0 : Int) :: (0 : Int) :: (0 : Int) :: ([] : List Int) ∧
 True) ∧
 (rowTo x.fst (256 : Nat) = rowTo x.fst (256 : Nat) ∧ True) ∧
 (rowTo x.snd.fst (256 : Nat) = rowTo x.snd.fst (256 : Nat) ∧ True) ∧ True) ∧
 True) ∧
 (decide (g.snd.fst < (256 : Int)) = false → Holds True ∧ bitsTo (rf g.fst) (0 : Nat) = mixO x.fst x.snd.fst)

theorem E_mixo_eq (x : HL (cMixO : Ctr).as) : vcF (fx_mixo x) 1 16 19 Try.f16 (cMixO) x = E_mixo x := by kernel_rfl

def E_mixes (x : List Int × List Int × Unit) : Prop :=
 Holds True ∧
 Holds True ∧
 (deq (Ty.arr (4 : Nat) (Ty.int IntKind.u64)) (mixA x.fst x.snd.fst) (mixA x.fst x.snd.fst) = true →
 Holds True ∧ Holds True ∧ deq (Ty.arr (4 : Nat) (Ty.int IntKind.u64)) (mixO x.fst x.snd.fst) (mixO x.fst x.snd.fst) = true) ∧
 (deq (Ty.arr (4 : Nat) (Ty.int IntKind.u64)) (mixA x.fst x.snd.fst) (mixA x.fst x.snd.fst) = !true → false = true)

theorem E_mixes_eq (x : HL (cLaw : Ctr).as) : vc (fx_mixes x) 1 3 Try.f3 (cLaw) x = E_mixes x := by kernel_rfl

end Go.Proofs.Ytollphjlheabdaa.Bits
