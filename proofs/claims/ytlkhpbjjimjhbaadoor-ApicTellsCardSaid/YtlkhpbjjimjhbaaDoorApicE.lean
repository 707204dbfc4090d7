/-
  The conditions that the executor comes to, written out (by a tool of ours), and that they are the conditions (by the kernel).
-/
import Derived.Test.YtlkhpbjjimjhbaaDoorApicC
namespace Go.Proofs.YtlkhpbjjimjhbaaDoor.Apic
open Go.Sx
set_option maxRecDepth 100000

def E_row (x : List Int × Unit) : Prop :=
 ((((0 : Int) ≤ (0 : Int) ∧ (0 : Int) ≤ (4 : Int) ∧ List.replicate (256 : Nat) false = rowTo x.fst ((64 : Nat) * Int.toNat (0 : Int))) ∧ True) ∧
 ((True ∧ True) ∧ (True ∧ True) ∧ (x.fst = x.fst ∧ True) ∧ (0 : Int) = (0 : Int) ∧ True) ∧
 ((List.replicate (256 : Nat) false = List.replicate (256 : Nat) false ∧ True) ∧
 (List.replicate (256 : Nat) false = List.replicate (256 : Nat) false ∧ True) ∧ True) ∧
 True) ∧
 ∀ (g : List Bool × Int × Unit),
 (0 : Int) ≤ g.snd.fst ∧ g.snd.fst ≤ (4 : Int) ∧ g.fst = rowTo x.fst ((64 : Nat) * g.snd.fst.toNat) →
 (g.fst.length = (256 : Nat) ∧ ∀ (x : Bool), x ∈ g.fst → True) ∧
 ((-9223372036854775808 : Int) ≤ g.snd.fst ∧ g.snd.fst ≤ (9223372036854775807 : Int)) ∧ True →
 (decide (g.snd.fst < (4 : Int)) = true →
 ((0 : Int) ≤ g.snd.fst ∧ g.snd.fst < (↑(4 : Nat) : Int)) ∧
 ((((0 : Int) ≤ (0 : Int) ∧
 (0 : Int) ≤ (64 : Int) ∧
 g.fst = rowTo x.fst ((64 : Nat) * g.snd.fst.toNat + Int.toNat (0 : Int)) ∧
 x.fst.getD g.snd.fst.toNat (0 : Int) = x.fst.getD g.snd.fst.toNat (0 : Int) / (2 : Int) ^ Int.toNat (0 : Int)) ∧
 True) ∧
 ((True ∧ True) ∧
 (True ∧ True) ∧
 g.snd.fst = g.snd.fst ∧
 x.fst.getD g.snd.fst.toNat (0 : Int) = x.fst.getD g.snd.fst.toNat (0 : Int) ∧
 (x.fst = x.fst ∧ True) ∧ g.snd.fst = g.snd.fst ∧ (0 : Int) = (0 : Int) ∧ True) ∧
 ((g.fst = g.fst ∧ True) ∧ (List.replicate (256 : Nat) false = List.replicate (256 : Nat) false ∧ True) ∧ True) ∧ True) ∧
 ∀ (g_1 : List Bool × Int × Int × Unit),
 (0 : Int) ≤ g_1.snd.snd.fst ∧
 g_1.snd.snd.fst ≤ (64 : Int) ∧
 g_1.fst = rowTo x.fst ((64 : Nat) * g.snd.fst.toNat + g_1.snd.snd.fst.toNat) ∧
 g_1.snd.fst = x.fst.getD g.snd.fst.toNat (0 : Int) / (2 : Int) ^ g_1.snd.snd.fst.toNat →
 (g_1.fst.length = (256 : Nat) ∧ ∀ (x : Bool), x ∈ g_1.fst → True) ∧
 ((0 : Int) ≤ g_1.snd.fst ∧ g_1.snd.fst ≤ (18446744073709551615 : Int)) ∧
 ((-9223372036854775808 : Int) ≤ g_1.snd.snd.fst ∧ g_1.snd.snd.fst ≤ (9223372036854775807 : Int)) ∧ True →
 (decide (g_1.snd.snd.fst < (64 : Int)) = true →
 ((-9223372036854775808 : Int) ≤ (64 : Int) * g.snd.fst ∧ (64 : Int) * g.snd.fst ≤ (9223372036854775807 : Int)) ∧
 ((-9223372036854775808 : Int) ≤ (64 : Int) * g.snd.fst + g_1.snd.snd.fst ∧
 (64 : Int) * g.snd.fst + g_1.snd.snd.fst ≤ (9223372036854775807 : Int)) ∧
 ((0 : Int) ≤ g_1.snd.fst ∧ (0 : Int) < (2 : Int)) ∧
 ((0 : Int) ≤ (64 : Int) * g.snd.fst + g_1.snd.snd.fst ∧
 (64 : Int) * g.snd.fst + g_1.snd.snd.fst < (↑(256 : Nat) : Int)) ∧
 ((0 : Int) ≤ g_1.snd.fst ∧ (0 : Int) < (2 : Int)) ∧
 ((-9223372036854775808 : Int) ≤ g_1.snd.snd.fst + (1 : Int) ∧
 g_1.snd.snd.fst + (1 : Int) ≤ (9223372036854775807 : Int)) ∧
 (((0 : Int) ≤ g_1.snd.snd.fst + (1 : Int) ∧
 g_1.snd.snd.fst + (1 : Int) ≤ (64 : Int) ∧
 g_1.fst.set ((64 : Int) * g.snd.fst + g_1.snd.snd.fst).toNat (g_1.snd.fst % (2 : Int) == (1 : Int)) =
 rowTo x.fst ((64 : Nat) * g.snd.fst.toNat + (g_1.snd.snd.fst + (1 : Int)).toNat) ∧
 g_1.snd.fst / (2 : Int) =
 x.fst.getD g.snd.fst.toNat (0 : Int) / (2 : Int) ^ (g_1.snd.snd.fst + (1 : Int)).toNat) ∧
 ((64 : Int) - (g_1.snd.snd.fst + (1 : Int))).toNat < ((64 : Int) - g_1.snd.snd.fst).toNat) ∧
 ((True ∧ True) ∧
 (True ∧ True) ∧
 g.snd.fst = g.snd.fst ∧
 g_1.snd.fst / (2 : Int) = g_1.snd.fst / (2 : Int) ∧
 (x.fst = x.fst ∧ True) ∧
 g.snd.fst = g.snd.fst ∧ g_1.snd.snd.fst + (1 : Int) = g_1.snd.snd.fst + (1 : Int) ∧ True) ∧
 ((g_1.fst.set ((64 : Int) * g.snd.fst + g_1.snd.snd.fst).toNat (g_1.snd.fst % (2 : Int) == (1 : Int)) =
 g_1.fst.set ((64 : Int) * g.snd.fst + g_1.snd.snd.fst).toNat
 (g_1.snd.fst % (2 : Int) == (1 : Int)) ∧
 True) ∧
 (List.replicate (256 : Nat) false = List.replicate (256 : Nat) false ∧ True) ∧ True) ∧
 True) ∧
 (decide (g_1.snd.snd.fst < (64 : Int)) = false →
 ((-9223372036854775808 : Int) ≤ g.snd.fst + (1 : Int) ∧ g.snd.fst + (1 : Int) ≤ (9223372036854775807 : Int)) ∧
 (((0 : Int) ≤ g.snd.fst + (1 : Int) ∧
 g.snd.fst + (1 : Int) ≤ (4 : Int) ∧ g_1.fst = rowTo x.fst ((64 : Nat) * (g.snd.fst + (1 : Int)).toNat)) ∧
 ((4 : Int) - (g.snd.fst + (1 : Int))).toNat < ((4 : Int) - g.snd.fst).toNat) ∧
 ((True ∧ True) ∧ (True ∧ True) ∧ (x.fst = x.fst ∧ True) ∧ g.snd.fst + (1 : Int) = g.snd.fst + (1 : Int) ∧ True) ∧
 ((g_1.fst = g_1.fst ∧ True) ∧ (List.replicate (256 : Nat) false = List.replicate (256 : Nat) false ∧ True) ∧ True) ∧
 True)) ∧
 (decide (g.snd.fst < (4 : Int)) = false → g.fst = rowTo x.fst (256 : Nat))

theorem E_row_eq (x : HL (cRow : Ctr).as) : vc (fx_row x) 1 30 Tryd.f30 (cRow) x = E_row x := by kernel_rfl

def E_bits (x : List Bool × Unit) : Prop :=
 ((((-1 : Int) ≤ (255 : Int) ∧
 (255 : Int) ≤ (255 : Int) ∧
 (0 : Int) :: (0 : Int) :: (0 : Int) :: (0 : Int) :: ([] : List Int) = bitsTo (rf x.fst) ((255 : Int) + (1 : Int)).toNat) ∧
 True) ∧
 ((True ∧ True) ∧ (True ∧ True) ∧ (True ∧ True) ∧ (255 : Int) = (255 : Int) ∧ True) ∧
 (((0 : Int) :: (0 : Int) :: (0 : Int) :: (0 : Int) :: ([] : List Int) = (0 : Int) :: (0 : Int) :: (0 : Int) :: (0 : Int) :: ([] : List Int) ∧
 True) ∧
 (x.fst = x.fst ∧ True) ∧
 ((0 : Int) :: (0 : Int) :: (0 : Int) :: (0 : Int) :: ([] : List Int) =
 (0 : Int) :: (0 : Int) :: (0 : Int) :: (0 : Int) :: ([] : List Int) ∧
 True) ∧
 True) ∧
 True) ∧
 ∀ (g : List Int × Int × Unit),
 (-1 : Int) ≤ g.snd.fst ∧ g.snd.fst ≤ (255 : Int) ∧ g.fst = bitsTo (rf x.fst) (g.snd.fst + (1 : Int)).toNat →
 (g.fst.length = (4 : Nat) ∧ ∀ (x : Int), x ∈ g.fst → (0 : Int) ≤ x ∧ x ≤ (18446744073709551615 : Int)) ∧
 ((-9223372036854775808 : Int) ≤ g.snd.fst ∧ g.snd.fst ≤ (9223372036854775807 : Int)) ∧ True →
 (decide ((0 : Int) ≤ g.snd.fst) = true →
 ((0 : Int) ≤ g.snd.fst ∧ (0 : Int) < (64 : Int)) ∧
 ((0 : Int) ≤ g.snd.fst / (64 : Int) ∧ g.snd.fst / (64 : Int) < (↑(4 : Nat) : Int)) ∧
 ((0 : Int) ≤ g.fst.getD (g.snd.fst / (64 : Int)).toNat (0 : Int) * (2 : Int) ∧
 g.fst.getD (g.snd.fst / (64 : Int)).toNat (0 : Int) * (2 : Int) ≤ (18446744073709551615 : Int)) ∧
 ((0 : Int) ≤ g.snd.fst / (64 : Int) ∧ g.snd.fst / (64 : Int) < (↑(4 : Nat) : Int)) ∧
 ((0 : Int) ≤ g.snd.fst ∧ g.snd.fst < (↑(256 : Nat) : Int)) ∧
 (x.fst.getD g.snd.fst.toNat false = true →
 ((0 : Int) ≤ g.snd.fst ∧ (0 : Int) < (64 : Int)) ∧
 ((0 : Int) ≤ g.snd.fst / (64 : Int) ∧ g.snd.fst / (64 : Int) < (↑(4 : Nat) : Int)) ∧
 ((0 : Int) ≤
 (g.fst.set (g.snd.fst / (64 : Int)).toNat (g.fst.getD (g.snd.fst / (64 : Int)).toNat (0 : Int) * (2 : Int))).getD
 (g.snd.fst / (64 : Int)).toNat (0 : Int) +
 (1 : Int) ∧
 (g.fst.set (g.snd.fst / (64 : Int)).toNat (g.fst.getD (g.snd.fst / (64 : Int)).toNat (0 : Int) * (2 : Int))).getD
 (g.snd.fst / (64 : Int)).toNat (0 : Int) +
 (1 : Int) ≤
 (18446744073709551615 : Int)) ∧
 ((0 : Int) ≤ g.snd.fst / (64 : Int) ∧ g.snd.fst / (64 : Int) < (↑(4 : Nat) : Int)) ∧
 ((-9223372036854775808 : Int) ≤ g.snd.fst - (1 : Int) ∧ g.snd.fst - (1 : Int) ≤ (9223372036854775807 : Int)) ∧
 (((-1 : Int) ≤ g.snd.fst - (1 : Int) ∧
 g.snd.fst - (1 : Int) ≤ (255 : Int) ∧
 (g.fst.set (g.snd.fst / (64 : Int)).toNat
 (g.fst.getD (g.snd.fst / (64 : Int)).toNat (0 : Int) * (2 : Int))).set
 (g.snd.fst / (64 : Int)).toNat
 ((g.fst.set (g.snd.fst / (64 : Int)).toNat
 (g.fst.getD (g.snd.fst / (64 : Int)).toNat (0 : Int) * (2 : Int))).getD
 (g.snd.fst / (64 : Int)).toNat (0 : Int) +
 (1 : Int)) =
 bitsTo (rf x.fst) (g.snd.fst - (1 : Int) + (1 : Int)).toNat) ∧
 (g.snd.fst - (1 : Int) + (1 : Int)).toNat < (g.snd.fst + (1 : Int)).toNat) ∧
 ((True ∧ True) ∧ (True ∧ True) ∧ (True ∧ True) ∧ g.snd.fst - (1 : Int) = g.snd.fst - (1 : Int) ∧ True) ∧
 (((g.fst.set (g.snd.fst / (64 : Int)).toNat
 (g.fst.getD (g.snd.fst / (64 : Int)).toNat (0 : Int) * (2 : Int))).set
 (g.snd.fst / (64 : Int)).toNat
 ((g.fst.set (g.snd.fst / (64 : Int)).toNat
 (g.fst.getD (g.snd.fst / (64 : Int)).toNat (0 : Int) * (2 : Int))).getD
 (g.snd.fst / (64 : Int)).toNat (0 : Int) +
 (1 : Int)) =
 (g.fst.set (g.snd.fst / (64 : Int)).toNat
 (g.fst.getD (g.snd.fst / (64 : Int)).toNat (0 : Int) * (2 : Int))).set
 (g.snd.fst / (64 : Int)).toNat
 ((g.fst.set (g.snd.fst / (64 : Int)).toNat
 (g.fst.getD (g.snd.fst / (64 : Int)).toNat (0 : Int) * (2 : Int))).getD
 (g.snd.fst / (64 : Int)).toNat (0 : Int) +
 (1 : Int)) ∧
 True) ∧
 (x.fst = x.fst ∧ True) ∧
 ((0 : Int) :: (0 : Int) :: (0 : Int) :: (0 : Int) :: ([] : List Int) =
 (0 : Int) :: (0 : Int) :: (0 : Int) :: (0 : Int) :: ([] : List Int) ∧
 True) ∧
 True) ∧
 True) ∧
 (x.fst.getD g.snd.fst.toNat false = false →
 ((-9223372036854775808 : Int) ≤ g.snd.fst - (1 : Int) ∧ g.snd.fst - (1 : Int) ≤ (9223372036854775807 : Int)) ∧
 (((-1 : Int) ≤ g.snd.fst - (1 : Int) ∧
 g.snd.fst - (1 : Int) ≤ (255 : Int) ∧
 g.fst.set (g.snd.fst / (64 : Int)).toNat (g.fst.getD (g.snd.fst / (64 : Int)).toNat (0 : Int) * (2 : Int)) =
 bitsTo (rf x.fst) (g.snd.fst - (1 : Int) + (1 : Int)).toNat) ∧
 (g.snd.fst - (1 : Int) + (1 : Int)).toNat < (g.snd.fst + (1 : Int)).toNat) ∧
 ((True ∧ True) ∧ (True ∧ True) ∧ (True ∧ True) ∧ g.snd.fst - (1 : Int) = g.snd.fst - (1 : Int) ∧ True) ∧
 ((g.fst.set (g.snd.fst / (64 : Int)).toNat (g.fst.getD (g.snd.fst / (64 : Int)).toNat (0 : Int) * (2 : Int)) =
 g.fst.set (g.snd.fst / (64 : Int)).toNat (g.fst.getD (g.snd.fst / (64 : Int)).toNat (0 : Int) * (2 : Int)) ∧
 True) ∧
 (x.fst = x.fst ∧ True) ∧
 ((0 : Int) :: (0 : Int) :: (0 : Int) :: (0 : Int) :: ([] : List Int) =
 (0 : Int) :: (0 : Int) :: (0 : Int) :: (0 : Int) :: ([] : List Int) ∧
 True) ∧
 True) ∧
 True)) ∧
 (decide ((0 : Int) ≤ g.snd.fst) = false → g.fst = bitsTo (rf x.fst) (0 : Nat))

theorem E_bits_eq (x : HL (cBits : Ctr).as) : vc (fx_bits x) 1 31 Tryd.f31 (cBits) x = E_bits x := by kernel_rfl

def E_lead (x : Int × Unit) : Prop :=
 Holds True ∧
 ((-9223372036854775808 : Int) ≤ (64 : Int) - (↑(Lib.bitLen x.fst.toNat) : Int) ∧
 (64 : Int) - (↑(Lib.bitLen x.fst.toNat) : Int) ≤ (9223372036854775807 : Int)) ∧
 (64 : Int) - (↑(Lib.bitLen x.fst.toNat) : Int) = (64 : Int) - (↑(Lib.bitLen x.fst.toNat) : Int)

theorem E_lead_eq (x : HL (cLead : Ctr).as) : vc (fx_lead x) 1 29 Tryd.f29 (cLead) x = E_lead x := by kernel_rfl

def E_fits (x : Int × Unit) : Prop :=
 (decide ((0 : Int) ≤ x.fst) = true → decide ((0 : Int) ≤ x.fst) = true) ∧
 (decide ((0 : Int) ≤ x.fst) = true → decide ((0 : Int) ≤ x.fst) = true) ∧ (decide ((0 : Int) ≤ x.fst) && decide (x.fst < (256 : Int))) = fits x.fst

theorem E_fits_eq (x : HL (cFits : Ctr).as) : vc (fx_fits x) 1 28 Tryd.f28 (cFits) x = E_fits x := by kernel_rfl

def E_has (x : List Int × Int × Unit) : Prop :=
 Holds True ∧
 (fits x.snd.fst = true → fits x.snd.fst = true ∧ (0 : Int) ≤ x.snd.fst ∧ (0 : Int) < (64 : Int)) ∧
 (fits x.snd.fst = true → fits x.snd.fst = true ∧ (0 : Int) ≤ x.snd.fst / (64 : Int) ∧ x.snd.fst / (64 : Int) < (↑(4 : Nat) : Int)) ∧
 (fits x.snd.fst = true → fits x.snd.fst = true) ∧
 (fits x.snd.fst = true → fits x.snd.fst = true ∧ (0 : Int) ≤ x.snd.fst ∧ (0 : Int) < (64 : Int)) ∧
 (fits x.snd.fst = true → (fits x.snd.fst = true ∧ fits x.snd.fst = true) ∧ (0 : Int) ≤ x.snd.fst % (64 : Int)) ∧
 (fits x.snd.fst = true → fits x.snd.fst = true) ∧
 (fits x.snd.fst = true → fits x.snd.fst = true) ∧
 (fits x.snd.fst = true → fits x.snd.fst = true) ∧
 (fits x.snd.fst &&
 bits BinOp.and IntKind.u64
 (x.fst.getD (x.snd.fst / (64 : Int)).toNat (0 : Int) / (2 : Int) ^ min (x.snd.fst % (64 : Int)).toNat IntKind.u64.bits)
 (1 : Int) ==
 (1 : Int)) =
 hasB x.fst x.snd.fst

theorem E_has_eq (x : HL (cHas : Ctr).as) : vc (fx_has x) 1 40 Tryd.f40 (cHas) x = E_has x := by kernel_rfl

def E_with (x : List Int × Int × Unit) : Prop :=
 Holds True ∧
 (fits x.snd.fst = true →
 ((0 : Int) ≤ x.snd.fst ∧ (0 : Int) < (64 : Int)) ∧
 ((0 : Int) ≤ x.snd.fst / (64 : Int) ∧ x.snd.fst / (64 : Int) < (↑(4 : Nat) : Int)) ∧
 ((0 : Int) ≤ x.snd.fst ∧ (0 : Int) < (64 : Int)) ∧
 (0 : Int) ≤ x.snd.fst % (64 : Int) ∧
 ((0 : Int) ≤ x.snd.fst / (64 : Int) ∧ x.snd.fst / (64 : Int) < (↑(4 : Nat) : Int)) ∧
 x.fst.set (x.snd.fst / (64 : Int)).toNat
 (bits BinOp.or IntKind.u64 (x.fst.getD (x.snd.fst / (64 : Int)).toNat (0 : Int))
 (IntKind.u64.wrap ((1 : Int) * (2 : Int) ^ min (x.snd.fst % (64 : Int)).toNat IntKind.u64.bits))) =
 putB x.fst x.snd.fst true) ∧
 (fits x.snd.fst = false → x.fst = putB x.fst x.snd.fst true)

theorem E_with_eq (x : HL (cWith : Ctr).as) : vc (fx_with x) 1 16 Tryd.f16 (cWith) x = E_with x := by kernel_rfl

def E_without (x : List Int × Int × Unit) : Prop :=
 Holds True ∧
 (fits x.snd.fst = true →
 ((0 : Int) ≤ x.snd.fst ∧ (0 : Int) < (64 : Int)) ∧
 ((0 : Int) ≤ x.snd.fst / (64 : Int) ∧ x.snd.fst / (64 : Int) < (↑(4 : Nat) : Int)) ∧
 ((0 : Int) ≤ x.snd.fst ∧ (0 : Int) < (64 : Int)) ∧
 (0 : Int) ≤ x.snd.fst % (64 : Int) ∧
 ((0 : Int) ≤ x.snd.fst / (64 : Int) ∧ x.snd.fst / (64 : Int) < (↑(4 : Nat) : Int)) ∧
 x.fst.set (x.snd.fst / (64 : Int)).toNat
 (bits BinOp.andNot IntKind.u64 (x.fst.getD (x.snd.fst / (64 : Int)).toNat (0 : Int))
 (IntKind.u64.wrap ((1 : Int) * (2 : Int) ^ min (x.snd.fst % (64 : Int)).toNat IntKind.u64.bits))) =
 putB x.fst x.snd.fst false) ∧
 (fits x.snd.fst = false → x.fst = putB x.fst x.snd.fst false)

theorem E_without_eq (x : HL (cWithout : Ctr).as) : vc (fx_without x) 1 17 Tryd.f17 (cWithout) x = E_without x := by kernel_rfl

def E_top (x : List Int × Unit) : Prop :=
 ((((-1 : Int) ≤ (3 : Int) ∧ (3 : Int) ≤ (3 : Int) ∧ x.fst = x.fst ∧ topOf x.fst = topB (bitN x.fst) ((64 : Nat) * ((3 : Int) + (1 : Int)).toNat)) ∧
 True) ∧
 ((True ∧ True) ∧ (3 : Int) = (3 : Int) ∧ True) ∧ ((x.fst = x.fst ∧ True) ∧ True) ∧ True) ∧
 ∀ (g : List Int × Int × Unit),
 (-1 : Int) ≤ g.snd.fst ∧ g.snd.fst ≤ (3 : Int) ∧ g.fst = x.fst ∧ topOf x.fst = topB (bitN x.fst) ((64 : Nat) * (g.snd.fst + (1 : Int)).toNat) →
 (g.fst.length = (4 : Nat) ∧ ∀ (x : Int), x ∈ g.fst → (0 : Int) ≤ x ∧ x ≤ (18446744073709551615 : Int)) ∧
 ((-9223372036854775808 : Int) ≤ g.snd.fst ∧ g.snd.fst ≤ (9223372036854775807 : Int)) ∧ True →
 (decide ((0 : Int) ≤ g.snd.fst) = true →
 ((0 : Int) ≤ g.snd.fst ∧ g.snd.fst < (↑(4 : Nat) : Int)) ∧
 ((g.fst.getD g.snd.fst.toNat (0 : Int) != (0 : Int)) = true →
 ((-9223372036854775808 : Int) ≤ (64 : Int) * g.snd.fst ∧ (64 : Int) * g.snd.fst ≤ (9223372036854775807 : Int)) ∧
 ((-9223372036854775808 : Int) ≤ (64 : Int) * g.snd.fst + (63 : Int) ∧
 (64 : Int) * g.snd.fst + (63 : Int) ≤ (9223372036854775807 : Int)) ∧
 ((0 : Int) ≤ g.snd.fst ∧ g.snd.fst < (↑(4 : Nat) : Int)) ∧
 Holds True ∧
 ((-9223372036854775808 : Int) ≤
 (64 : Int) * g.snd.fst + (63 : Int) -
 ((64 : Int) - (↑(Lib.bitLen (g.fst.getD g.snd.fst.toNat (0 : Int)).toNat) : Int)) ∧
 (64 : Int) * g.snd.fst + (63 : Int) -
 ((64 : Int) - (↑(Lib.bitLen (g.fst.getD g.snd.fst.toNat (0 : Int)).toNat) : Int)) ≤
 (9223372036854775807 : Int)) ∧
 (64 : Int) * g.snd.fst + (63 : Int) - ((64 : Int) - (↑(Lib.bitLen (g.fst.getD g.snd.fst.toNat (0 : Int)).toNat) : Int)) =
 topOf x.fst) ∧
 ((g.fst.getD g.snd.fst.toNat (0 : Int) != (0 : Int)) = false →
 ((-9223372036854775808 : Int) ≤ g.snd.fst - (1 : Int) ∧ g.snd.fst - (1 : Int) ≤ (9223372036854775807 : Int)) ∧
 (((-1 : Int) ≤ g.snd.fst - (1 : Int) ∧
 g.snd.fst - (1 : Int) ≤ (3 : Int) ∧
 g.fst = x.fst ∧ topOf x.fst = topB (bitN x.fst) ((64 : Nat) * (g.snd.fst - (1 : Int) + (1 : Int)).toNat)) ∧
 (g.snd.fst - (1 : Int) + (1 : Int)).toNat < (g.snd.fst + (1 : Int)).toNat) ∧
 ((True ∧ True) ∧ g.snd.fst - (1 : Int) = g.snd.fst - (1 : Int) ∧ True) ∧ ((g.fst = g.fst ∧ True) ∧ True) ∧ True)) ∧
 (decide ((0 : Int) ≤ g.snd.fst) = false → (-1 : Int) = topOf x.fst)

theorem E_top_eq (x : HL (cTop : Ctr).as) : vc (fx_top x) 1 18 Tryd.f18 (cTop) x = E_top x := by kernel_rfl

def E_next (x : List Int × Int × Unit) : Prop :=
 Holds True ∧
 ((!fits (max x.snd.fst (0 : Int))) = true → (-1 : Int) = nextOf x.fst x.snd.fst) ∧
 ((!fits (max x.snd.fst (0 : Int))) = false →
 ((0 : Int) ≤ max x.snd.fst (0 : Int) ∧ (0 : Int) < (64 : Int)) ∧
 ((0 : Int) ≤ max x.snd.fst (0 : Int) / (64 : Int) ∧ max x.snd.fst (0 : Int) / (64 : Int) < (↑(4 : Nat) : Int)) ∧
 ((0 : Int) ≤ max x.snd.fst (0 : Int) ∧ (0 : Int) < (64 : Int)) ∧
 (0 : Int) ≤ max x.snd.fst (0 : Int) % (64 : Int) ∧
 ((0 : Int) ≤ IntKind.u64.wrap ((1 : Int) * (2 : Int) ^ min (max x.snd.fst (0 : Int) % (64 : Int)).toNat IntKind.u64.bits) - (1 : Int) ∧
 IntKind.u64.wrap ((1 : Int) * (2 : Int) ^ min (max x.snd.fst (0 : Int) % (64 : Int)).toNat IntKind.u64.bits) - (1 : Int) ≤
 (18446744073709551615 : Int)) ∧
 ((0 : Int) ≤ max x.snd.fst (0 : Int) / (64 : Int) ∧ max x.snd.fst (0 : Int) / (64 : Int) < (↑(4 : Nat) : Int)) ∧
 ((0 : Int) ≤ max x.snd.fst (0 : Int) ∧ (0 : Int) < (64 : Int)) ∧
 ((((0 : Int) ≤ max x.snd.fst (0 : Int) / (64 : Int) ∧
 max x.snd.fst (0 : Int) / (64 : Int) ≤ (4 : Int) ∧
 nextOf x.fst x.snd.fst =
 nextB
 (bitN
 (x.fst.set (max x.snd.fst (0 : Int) / (64 : Int)).toNat
 (bits BinOp.andNot IntKind.u64 (x.fst.getD (max x.snd.fst (0 : Int) / (64 : Int)).toNat (0 : Int))
 (IntKind.u64.wrap
 ((1 : Int) * (2 : Int) ^ min (max x.snd.fst (0 : Int) % (64 : Int)).toNat IntKind.u64.bits) -
 (1 : Int)))))
 ((64 : Nat) * (max x.snd.fst (0 : Int) / (64 : Int)).toNat)
 ((64 : Nat) * ((4 : Int) - max x.snd.fst (0 : Int) / (64 : Int)).toNat)) ∧
 True) ∧
 ((True ∧ True) ∧ max x.snd.fst (0 : Int) / (64 : Int) = max x.snd.fst (0 : Int) / (64 : Int) ∧ True) ∧
 ((x.fst.set (max x.snd.fst (0 : Int) / (64 : Int)).toNat
 (bits BinOp.andNot IntKind.u64 (x.fst.getD (max x.snd.fst (0 : Int) / (64 : Int)).toNat (0 : Int))
 (IntKind.u64.wrap ((1 : Int) * (2 : Int) ^ min (max x.snd.fst (0 : Int) % (64 : Int)).toNat IntKind.u64.bits) -
 (1 : Int))) =
 x.fst.set (max x.snd.fst (0 : Int) / (64 : Int)).toNat
 (bits BinOp.andNot IntKind.u64 (x.fst.getD (max x.snd.fst (0 : Int) / (64 : Int)).toNat (0 : Int))
 (IntKind.u64.wrap ((1 : Int) * (2 : Int) ^ min (max x.snd.fst (0 : Int) % (64 : Int)).toNat IntKind.u64.bits) -
 (1 : Int))) ∧
 True) ∧
 True) ∧
 True) ∧
 ∀ (g : List Int × Int × Unit),
 (0 : Int) ≤ g.snd.fst ∧
 g.snd.fst ≤ (4 : Int) ∧
 nextOf x.fst x.snd.fst =
 nextB (bitN g.fst) ((64 : Nat) * g.snd.fst.toNat) ((64 : Nat) * ((4 : Int) - g.snd.fst).toNat) →
 (g.fst.length = (4 : Nat) ∧ ∀ (x : Int), x ∈ g.fst → (0 : Int) ≤ x ∧ x ≤ (18446744073709551615 : Int)) ∧
 ((-9223372036854775808 : Int) ≤ g.snd.fst ∧ g.snd.fst ≤ (9223372036854775807 : Int)) ∧ True →
 (decide (g.snd.fst < (4 : Int)) = true →
 ((0 : Int) ≤ g.snd.fst ∧ g.snd.fst < (↑(4 : Nat) : Int)) ∧
 ((g.fst.getD g.snd.fst.toNat (0 : Int) != (0 : Int)) = true →
 ((-9223372036854775808 : Int) ≤ (64 : Int) * g.snd.fst ∧ (64 : Int) * g.snd.fst ≤ (9223372036854775807 : Int)) ∧
 ((0 : Int) ≤ g.snd.fst ∧ g.snd.fst < (↑(4 : Nat) : Int)) ∧
 Holds True ∧
 ((-9223372036854775808 : Int) ≤
 (64 : Int) * g.snd.fst +
 (↑(Lib.ctz (64 : Nat) (g.fst.getD g.snd.fst.toNat (0 : Int)).toNat) : Int) ∧
 (64 : Int) * g.snd.fst + (↑(Lib.ctz (64 : Nat) (g.fst.getD g.snd.fst.toNat (0 : Int)).toNat) : Int) ≤
 (9223372036854775807 : Int)) ∧
 (64 : Int) * g.snd.fst + (↑(Lib.ctz (64 : Nat) (g.fst.getD g.snd.fst.toNat (0 : Int)).toNat) : Int) =
 nextOf x.fst x.snd.fst) ∧
 ((g.fst.getD g.snd.fst.toNat (0 : Int) != (0 : Int)) = false →
 ((-9223372036854775808 : Int) ≤ g.snd.fst + (1 : Int) ∧ g.snd.fst + (1 : Int) ≤ (9223372036854775807 : Int)) ∧
 (((0 : Int) ≤ g.snd.fst + (1 : Int) ∧
 g.snd.fst + (1 : Int) ≤ (4 : Int) ∧
 nextOf x.fst x.snd.fst =
 nextB (bitN g.fst) ((64 : Nat) * (g.snd.fst + (1 : Int)).toNat)
 ((64 : Nat) * ((4 : Int) - (g.snd.fst + (1 : Int))).toNat)) ∧
 ((4 : Int) - (g.snd.fst + (1 : Int))).toNat < ((4 : Int) - g.snd.fst).toNat) ∧
 ((True ∧ True) ∧ g.snd.fst + (1 : Int) = g.snd.fst + (1 : Int) ∧ True) ∧
 ((g.fst = g.fst ∧ True) ∧ True) ∧ True)) ∧
 (decide (g.snd.fst < (4 : Int)) = false → (-1 : Int) = nextOf x.fst x.snd.fst))

theorem E_next_eq (x : HL (cNext : Ctr).as) : vc (fx_next x) 1 21 Tryd.f21 (cNext) x = E_next x := by kernel_rfl

def E_all (x : List Int × Unit) : Prop :=
 Holds True ∧
 (((x.fst = x.fst ∧
 (-1 : Int) ≤ nextOf x.fst (0 : Int) ∧
 nextOf x.fst (0 : Int) ≤ (255 : Int) ∧
 (↑([] : List Int).length : Int) ≤ (256 : Int) ∧
 (nextOf x.fst (0 : Int) = (-1 : Int) ∧ ([] : List Int) = allOf x.fst ∨
 (0 : Int) ≤ nextOf x.fst (0 : Int) ∧
 bitN x.fst (nextOf x.fst (0 : Int)).toNat = true ∧ ([] : List Int) = allB (bitN x.fst) (nextOf x.fst (0 : Int)).toNat)) ∧
 True) ∧
 ((True ∧ True) ∧ True ∧ nextOf x.fst (0 : Int) = nextOf x.fst (0 : Int) ∧ True) ∧
 ((x.fst = x.fst ∧ True) ∧ ([] : List Int) = ([] : List Int) ∧ True) ∧ True) ∧
 ∀ (g : List Int × List Int × Int × Unit),
 g.fst = x.fst ∧
 (-1 : Int) ≤ g.snd.snd.fst ∧
 g.snd.snd.fst ≤ (255 : Int) ∧
 (↑g.snd.fst.length : Int) ≤ (256 : Int) ∧
 (g.snd.snd.fst = (-1 : Int) ∧ g.snd.fst = allOf x.fst ∨
 (0 : Int) ≤ g.snd.snd.fst ∧ bitN x.fst g.snd.snd.fst.toNat = true ∧ g.snd.fst = allB (bitN x.fst) g.snd.snd.fst.toNat) →
 (g.fst.length = (4 : Nat) ∧ ∀ (x : Int), x ∈ g.fst → (0 : Int) ≤ x ∧ x ≤ (18446744073709551615 : Int)) ∧
 (g.snd.fst.length ≤ (9223372036854775807 : Nat) ∧
 ∀ (x : Int), x ∈ g.snd.fst → (-9223372036854775808 : Int) ≤ x ∧ x ≤ (9223372036854775807 : Int)) ∧
 ((-9223372036854775808 : Int) ≤ g.snd.snd.fst ∧ g.snd.snd.fst ≤ (9223372036854775807 : Int)) ∧ True →
 (decide ((0 : Int) ≤ g.snd.snd.fst) = true →
 (g.snd.fst.length + (((0 : Int) :: ([] : List Int)).set (0 : Nat) g.snd.snd.fst).length ≤ (9223372036854775807 : Nat) ∧
 (g.snd.fst.length + (((0 : Int) :: ([] : List Int)).set (0 : Nat) g.snd.snd.fst).length +
 (g.snd.fst.length + (((0 : Int) :: ([] : List Int)).set (0 : Nat) g.snd.snd.fst).length) / (4 : Nat) +
 (192 : Nat)) *
 (8 : Nat) ≤
 (281474976710656 : Nat)) ∧
 ((-9223372036854775808 : Int) ≤ g.snd.snd.fst + (1 : Int) ∧ g.snd.snd.fst + (1 : Int) ≤ (9223372036854775807 : Int)) ∧
 Holds True ∧
 ((g.fst = x.fst ∧
 (-1 : Int) ≤ nextOf g.fst (g.snd.snd.fst + (1 : Int)) ∧
 nextOf g.fst (g.snd.snd.fst + (1 : Int)) ≤ (255 : Int) ∧
 (↑(g.snd.fst ++ ((0 : Int) :: ([] : List Int)).set (0 : Nat) g.snd.snd.fst).length : Int) ≤ (256 : Int) ∧
 (nextOf g.fst (g.snd.snd.fst + (1 : Int)) = (-1 : Int) ∧
 g.snd.fst ++ ((0 : Int) :: ([] : List Int)).set (0 : Nat) g.snd.snd.fst = allOf x.fst ∨
 (0 : Int) ≤ nextOf g.fst (g.snd.snd.fst + (1 : Int)) ∧
 bitN x.fst (nextOf g.fst (g.snd.snd.fst + (1 : Int))).toNat = true ∧
 g.snd.fst ++ ((0 : Int) :: ([] : List Int)).set (0 : Nat) g.snd.snd.fst =
 allB (bitN x.fst) (nextOf g.fst (g.snd.snd.fst + (1 : Int))).toNat)) ∧
 ((256 : Int) -
 if nextOf g.fst (g.snd.snd.fst + (1 : Int)) = (-1 : Int) then (256 : Int)
 else nextOf g.fst (g.snd.snd.fst + (1 : Int))).toNat <
 ((256 : Int) - if g.snd.snd.fst = (-1 : Int) then (256 : Int) else g.snd.snd.fst).toNat) ∧
 ((True ∧ True) ∧ True ∧ nextOf g.fst (g.snd.snd.fst + (1 : Int)) = nextOf g.fst (g.snd.snd.fst + (1 : Int)) ∧ True) ∧
 ((g.fst = g.fst ∧ True) ∧
 g.snd.fst ++ ((0 : Int) :: ([] : List Int)).set (0 : Nat) g.snd.snd.fst =
 g.snd.fst ++ ((0 : Int) :: ([] : List Int)).set (0 : Nat) g.snd.snd.fst ∧
 True) ∧
 True) ∧
 (decide ((0 : Int) ≤ g.snd.snd.fst) = false → g.snd.fst = allOf x.fst)

theorem E_all_eq (x : HL (cAll : Ctr).as) : vc (fx_all x) 1 39 Tryd.f39 (cAll) x = E_all x := by kernel_rfl

def E_aall (x : List Int × Unit) : Prop :=
 Holds True ∧
 ((((0 : Int) ≤ (0 : Int) ∧ (0 : Int) ≤ (256 : Int) ∧ ([] : List Int) = allB (bitN x.fst) (Int.toNat (0 : Int))) ∧ True) ∧
 (True ∧ rowTo x.fst (256 : Nat) = rowTo x.fst (256 : Nat) ∧ (0 : Int) = (0 : Int) ∧ True) ∧ (([] : List Int) = ([] : List Int) ∧ True) ∧ True) ∧
 ∀ (g : List Int × Int × Unit),
 (0 : Int) ≤ g.snd.fst ∧ g.snd.fst ≤ (256 : Int) ∧ g.fst = allB (bitN x.fst) g.snd.fst.toNat →
 (g.fst.length ≤ (9223372036854775807 : Nat) ∧ ∀ (x : Int), x ∈ g.fst → (-9223372036854775808 : Int) ≤ x ∧ x ≤ (9223372036854775807 : Int)) ∧
 ((-9223372036854775808 : Int) ≤ g.snd.fst ∧ g.snd.fst ≤ (9223372036854775807 : Int)) ∧ True →
 (decide (g.snd.fst < (256 : Int)) = true →
 ((0 : Int) ≤ g.snd.fst ∧ g.snd.fst < (↑(256 : Nat) : Int)) ∧
 ((rowTo x.fst (256 : Nat)).getD g.snd.fst.toNat false = true →
 (g.fst.length + (((0 : Int) :: ([] : List Int)).set (0 : Nat) g.snd.fst).length ≤ (9223372036854775807 : Nat) ∧
 (g.fst.length + (((0 : Int) :: ([] : List Int)).set (0 : Nat) g.snd.fst).length +
 (g.fst.length + (((0 : Int) :: ([] : List Int)).set (0 : Nat) g.snd.fst).length) / (4 : Nat) +
 (192 : Nat)) *
 (8 : Nat) ≤
 (281474976710656 : Nat)) ∧
 ((-9223372036854775808 : Int) ≤ g.snd.fst + (1 : Int) ∧ g.snd.fst + (1 : Int) ≤ (9223372036854775807 : Int)) ∧
 (((0 : Int) ≤ g.snd.fst + (1 : Int) ∧
 g.snd.fst + (1 : Int) ≤ (256 : Int) ∧
 g.fst ++ ((0 : Int) :: ([] : List Int)).set (0 : Nat) g.snd.fst = allB (bitN x.fst) (g.snd.fst + (1 : Int)).toNat) ∧
 ((256 : Int) - (g.snd.fst + (1 : Int))).toNat < ((256 : Int) - g.snd.fst).toNat) ∧
 (True ∧ rowTo x.fst (256 : Nat) = rowTo x.fst (256 : Nat) ∧ g.snd.fst + (1 : Int) = g.snd.fst + (1 : Int) ∧ True) ∧
 (g.fst ++ ((0 : Int) :: ([] : List Int)).set (0 : Nat) g.snd.fst =
 g.fst ++ ((0 : Int) :: ([] : List Int)).set (0 : Nat) g.snd.fst ∧
 True) ∧
 True) ∧
 ((rowTo x.fst (256 : Nat)).getD g.snd.fst.toNat false = false →
 ((-9223372036854775808 : Int) ≤ g.snd.fst + (1 : Int) ∧ g.snd.fst + (1 : Int) ≤ (9223372036854775807 : Int)) ∧
 (((0 : Int) ≤ g.snd.fst + (1 : Int) ∧
 g.snd.fst + (1 : Int) ≤ (256 : Int) ∧ g.fst = allB (bitN x.fst) (g.snd.fst + (1 : Int)).toNat) ∧
 ((256 : Int) - (g.snd.fst + (1 : Int))).toNat < ((256 : Int) - g.snd.fst).toNat) ∧
 (True ∧ rowTo x.fst (256 : Nat) = rowTo x.fst (256 : Nat) ∧ g.snd.fst + (1 : Int) = g.snd.fst + (1 : Int) ∧ True) ∧
 (g.fst = g.fst ∧ True) ∧ True)) ∧
 (decide (g.snd.fst < (256 : Int)) = false → g.fst = allOf x.fst)

theorem E_aall_eq (x : HL (cAll : Ctr).as) : vc (fx_aall x) 1 23 Tryd.f23 (cAll) x = E_aall x := by kernel_rfl

def E_atop (x : List Int × Unit) : Prop :=
 Holds True ∧
 ((((0 : Int) ≤ (0 : Int) ∧
 (0 : Int) ≤ (↑(allOf x.fst).length : Int) ∧
 (-1 : Int) = if (0 : Int) = (0 : Int) then (-1 : Int) else (allOf x.fst).getD ((0 : Int) - (1 : Int)).toNat (0 : Int)) ∧
 True) ∧
 ((-1 : Int) = (-1 : Int) ∧
 allOf x.fst = allOf x.fst ∧ (↑(allOf x.fst).length : Int) = (↑(allOf x.fst).length : Int) ∧ (0 : Int) = (0 : Int) ∧ True) ∧
 True ∧ True) ∧
 ∀ (g : Int × Int × Unit),
 ((0 : Int) ≤ g.snd.fst ∧
 g.snd.fst ≤ (↑(allOf x.fst).length : Int) ∧
 g.fst = if g.snd.fst = (0 : Int) then (-1 : Int) else (allOf x.fst).getD (g.snd.fst - (1 : Int)).toNat (0 : Int)) →
 ((-9223372036854775808 : Int) ≤ g.fst ∧ g.fst ≤ (9223372036854775807 : Int)) ∧
 ((-9223372036854775808 : Int) ≤ g.snd.fst ∧ g.snd.fst ≤ (9223372036854775807 : Int)) ∧ True →
 (decide (g.snd.fst < (↑(allOf x.fst).length : Int)) = true →
 ((0 : Int) ≤ g.snd.fst ∧ g.snd.fst < (↑(allOf x.fst).length : Int)) ∧
 ((-9223372036854775808 : Int) ≤ g.snd.fst + (1 : Int) ∧ g.snd.fst + (1 : Int) ≤ (9223372036854775807 : Int)) ∧
 (((0 : Int) ≤ g.snd.fst + (1 : Int) ∧
 g.snd.fst + (1 : Int) ≤ (↑(allOf x.fst).length : Int) ∧
 (allOf x.fst).getD g.snd.fst.toNat (0 : Int) =
 if g.snd.fst + (1 : Int) = (0 : Int) then (-1 : Int)
 else (allOf x.fst).getD (g.snd.fst + (1 : Int) - (1 : Int)).toNat (0 : Int)) ∧
 ((↑(allOf x.fst).length : Int) - (g.snd.fst + (1 : Int))).toNat < ((↑(allOf x.fst).length : Int) - g.snd.fst).toNat) ∧
 ((allOf x.fst).getD g.snd.fst.toNat (0 : Int) = (allOf x.fst).getD g.snd.fst.toNat (0 : Int) ∧
 allOf x.fst = allOf x.fst ∧
 (↑(allOf x.fst).length : Int) = (↑(allOf x.fst).length : Int) ∧ g.snd.fst + (1 : Int) = g.snd.fst + (1 : Int) ∧ True) ∧
 True ∧ True) ∧
 (decide (g.snd.fst < (↑(allOf x.fst).length : Int)) = false → g.fst = topOf x.fst)

theorem E_atop_eq (x : HL (cTop : Ctr).as) : vc (fx_atop x) 1 20 Tryd.f20 (cTop) x = E_atop x := by kernel_rfl

def E_aset (x : List Int × Int × Bool × Unit) : Prop :=
 Holds True ∧
 (decide ((0 : Int) ≤ x.snd.fst) = true → decide ((0 : Int) ≤ x.snd.fst) = true) ∧
 (decide ((0 : Int) ≤ x.snd.fst) = true → decide ((0 : Int) ≤ x.snd.fst) = true) ∧
 ((decide ((0 : Int) ≤ x.snd.fst) && decide (x.snd.fst < (256 : Int))) = true →
 ((0 : Int) ≤ x.snd.fst ∧ x.snd.fst < (↑(256 : Nat) : Int)) ∧
 Holds True ∧ bitsTo (rf ((rowTo x.fst (256 : Nat)).set x.snd.fst.toNat x.snd.snd.fst)) (0 : Nat) = putB x.fst x.snd.fst x.snd.snd.fst) ∧
 ((decide ((0 : Int) ≤ x.snd.fst) && decide (x.snd.fst < (256 : Int))) = false →
 Holds True ∧ bitsTo (rf (rowTo x.fst (256 : Nat))) (0 : Nat) = putB x.fst x.snd.fst x.snd.snd.fst)

theorem E_aset_eq (x : HL (cASet : Ctr).as) : vc (fx_aset x) 1 19 Tryd.f19 (cASet) x = E_aset x := by kernel_rfl

def E_class (x : Int × Unit) : Prop :=
 ((0 : Int) ≤ x.fst ∧ (0 : Int) < (16 : Int)) ∧ x.fst / (16 : Int) = x.fst / (16 : Int)

theorem E_class_eq (x : HL (cClass : Ctr).as) : vc (fx_class x) 1 22 Tryd.f22 (cClass) x = E_class x := by kernel_rfl

def E_right (x : (List Int × List Int × Int) × Unit) : Prop :=
 Holds True ∧
 ((((x.fst.fst, x.fst.snd.fst, x.fst.snd.snd) = x.fst ∧
 (-1 : Int) ≤ nextOf x.fst.snd.fst (0 : Int) ∧
 nextOf x.fst.snd.fst (0 : Int) ≤ (255 : Int) ∧
 (nextOf x.fst.snd.fst (0 : Int) = (-1 : Int) ∨ bitN x.fst.snd.fst (nextOf x.fst.snd.fst (0 : Int)).toNat = true) ∧
 okS (-1 : Int) (allOf x.fst.snd.fst) =
 okS (-1 : Int) (List.drop (posOf x.fst.snd.fst (nextOf x.fst.snd.fst (0 : Int))) (allOf x.fst.snd.fst))) ∧
 True) ∧
 ((True ∧ True) ∧ (-1 : Int) = (-1 : Int) ∧ nextOf x.fst.snd.fst (0 : Int) = nextOf x.fst.snd.fst (0 : Int) ∧ True) ∧
 ((x.fst.fst = x.fst.fst ∧ x.fst.snd.fst = x.fst.snd.fst ∧ x.fst.snd.snd = x.fst.snd.snd ∧ True) ∧ True) ∧ True) ∧
 ∀ (g : (List Int × List Int × Int) × Int × Int × Unit),
 g.fst = x.fst ∧
 (-1 : Int) ≤ g.snd.snd.fst ∧
 g.snd.snd.fst ≤ (255 : Int) ∧
 (g.snd.snd.fst = (-1 : Int) ∨ bitN x.fst.snd.fst g.snd.snd.fst.toNat = true) ∧
 okS (-1 : Int) (allOf x.fst.snd.fst) = okS g.snd.fst (List.drop (posOf x.fst.snd.fst g.snd.snd.fst) (allOf x.fst.snd.fst)) →
 ((g.fst.fst.length = (4 : Nat) ∧ ∀ (x : Int), x ∈ g.fst.fst → (0 : Int) ≤ x ∧ x ≤ (18446744073709551615 : Int)) ∧
 (g.fst.snd.fst.length = (4 : Nat) ∧ ∀ (x : Int), x ∈ g.fst.snd.fst → (0 : Int) ≤ x ∧ x ≤ (18446744073709551615 : Int)) ∧
 (-9223372036854775808 : Int) ≤ g.fst.snd.snd ∧ g.fst.snd.snd ≤ (9223372036854775807 : Int)) ∧
 ((-9223372036854775808 : Int) ≤ g.snd.fst ∧ g.snd.fst ≤ (9223372036854775807 : Int)) ∧
 ((-9223372036854775808 : Int) ≤ g.snd.snd.fst ∧ g.snd.snd.fst ≤ (9223372036854775807 : Int)) ∧ True →
 (decide ((0 : Int) ≤ g.snd.snd.fst) = true →
 Holds ((0 : Int) ≤ g.snd.snd.fst) ∧
 ((!g.snd.snd.fst / (16 : Int) == g.snd.fst) = true → (!g.snd.snd.fst / (16 : Int) == g.snd.fst) = true) ∧
 ((g.snd.snd.fst / (16 : Int) == g.snd.fst) = false → (!g.snd.snd.fst / (16 : Int) == g.snd.fst) = true) ∧
 ((g.snd.snd.fst / (16 : Int) == g.snd.fst || decide (g.snd.snd.fst < (32 : Int))) = true → false = rightL x.fst) ∧
 ((g.snd.snd.fst / (16 : Int) == g.snd.fst || decide (g.snd.snd.fst < (32 : Int))) = false →
 Holds ((0 : Int) ≤ g.snd.snd.fst) ∧
 ((-9223372036854775808 : Int) ≤ g.snd.snd.fst + (1 : Int) ∧ g.snd.snd.fst + (1 : Int) ≤ (9223372036854775807 : Int)) ∧
 Holds True ∧
 (((g.fst.fst, g.fst.snd.fst, g.fst.snd.snd) = x.fst ∧
 (-1 : Int) ≤ nextOf g.fst.snd.fst (g.snd.snd.fst + (1 : Int)) ∧
 nextOf g.fst.snd.fst (g.snd.snd.fst + (1 : Int)) ≤ (255 : Int) ∧
 (nextOf g.fst.snd.fst (g.snd.snd.fst + (1 : Int)) = (-1 : Int) ∨
 bitN x.fst.snd.fst (nextOf g.fst.snd.fst (g.snd.snd.fst + (1 : Int))).toNat = true) ∧
 okS (-1 : Int) (allOf x.fst.snd.fst) =
 okS (g.snd.snd.fst / (16 : Int))
 (List.drop (posOf x.fst.snd.fst (nextOf g.fst.snd.fst (g.snd.snd.fst + (1 : Int))))
 (allOf x.fst.snd.fst))) ∧
 ((256 : Int) -
 if nextOf g.fst.snd.fst (g.snd.snd.fst + (1 : Int)) = (-1 : Int) then (256 : Int)
 else nextOf g.fst.snd.fst (g.snd.snd.fst + (1 : Int))).toNat <
 ((256 : Int) - if g.snd.snd.fst = (-1 : Int) then (256 : Int) else g.snd.snd.fst).toNat) ∧
 ((True ∧ True) ∧
 g.snd.snd.fst / (16 : Int) = g.snd.snd.fst / (16 : Int) ∧
 nextOf g.fst.snd.fst (g.snd.snd.fst + (1 : Int)) = nextOf g.fst.snd.fst (g.snd.snd.fst + (1 : Int)) ∧ True) ∧
 ((g.fst.fst = g.fst.fst ∧ g.fst.snd.fst = g.fst.snd.fst ∧ g.fst.snd.snd = g.fst.snd.snd ∧ True) ∧ True) ∧ True)) ∧
 (decide ((0 : Int) ≤ g.snd.snd.fst) = false →
 (decide ((0 : Int) ≤ g.fst.snd.snd) = true → decide ((0 : Int) ≤ g.fst.snd.snd) = true) ∧
 (decide ((0 : Int) ≤ g.fst.snd.snd) = true → decide ((0 : Int) ≤ g.fst.snd.snd) = true) ∧
 (decide ((0 : Int) ≤ g.fst.snd.snd) = true → decide ((0 : Int) ≤ g.fst.snd.snd) = true) ∧
 ((decide ((0 : Int) ≤ g.fst.snd.snd) && decide (g.fst.snd.snd ≤ (15 : Int))) = true →
 (decide ((0 : Int) ≤ g.fst.snd.snd) && decide (g.fst.snd.snd ≤ (15 : Int))) = true ∧
 Holds True ∧
 (decide (nextOf g.fst.fst (0 : Int) < (0 : Int)) = false →
 (!decide (nextOf g.fst.fst (0 : Int) < (0 : Int))) = true ∧
 Holds True ∧ decide ((32 : Int) ≤ nextOf g.fst.fst (0 : Int)) = rightL x.fst) ∧
 (decide (nextOf g.fst.fst (0 : Int) < (0 : Int)) = !false → true = rightL x.fst)) ∧
 ((decide ((0 : Int) ≤ g.fst.snd.snd) && decide (g.fst.snd.snd ≤ (15 : Int))) = !true → false = rightL x.fst))

theorem E_right_eq (x : HL (cRightL : Ctr).as) : vc (fx_right x) 1 7 Tryd.f7 (cRightL) x = E_right x := by kernel_rfl

def E_bright (x : (List Int × List Int × Int) × Unit) : Prop :=
 Holds True ∧
 ((((x.fst.fst, x.fst.snd.fst, x.fst.snd.snd) = x.fst ∧
 (0 : Int) ≤ (0 : Int) ∧
 (0 : Int) ≤ (↑(allOf x.fst.snd.fst).length : Int) ∧
 (0 : Int) ::
 (0 : Int) ::
 (0 : Int) ::
 (0 : Int) ::
 (0 : Int) ::
 (0 : Int) ::
 (0 : Int) ::
 (0 : Int) ::
 (0 : Int) ::
 (0 : Int) :: (0 : Int) :: (0 : Int) :: (0 : Int) :: (0 : Int) :: (0 : Int) :: (0 : Int) :: ([] : List Int) =
 cnts (List.take (Int.toNat (0 : Int)) (allOf x.fst.snd.fst))) ∧
 True) ∧
 ((True ∧ True) ∧
 (True ∧ True) ∧
 allOf x.fst.snd.fst = allOf x.fst.snd.fst ∧
 (↑(allOf x.fst.snd.fst).length : Int) = (↑(allOf x.fst.snd.fst).length : Int) ∧ (0 : Int) = (0 : Int) ∧ True) ∧
 ((x.fst.fst = x.fst.fst ∧ x.fst.snd.fst = x.fst.snd.fst ∧ x.fst.snd.snd = x.fst.snd.snd ∧ True) ∧
 ((0 : Int) ::
 (0 : Int) ::
 (0 : Int) ::
 (0 : Int) ::
 (0 : Int) ::
 (0 : Int) ::
 (0 : Int) ::
 (0 : Int) ::
 (0 : Int) ::
 (0 : Int) :: (0 : Int) :: (0 : Int) :: (0 : Int) :: (0 : Int) :: (0 : Int) :: (0 : Int) :: ([] : List Int) =
 (0 : Int) ::
 (0 : Int) ::
 (0 : Int) ::
 (0 : Int) ::
 (0 : Int) ::
 (0 : Int) ::
 (0 : Int) ::
 (0 : Int) ::
 (0 : Int) ::
 (0 : Int) :: (0 : Int) :: (0 : Int) :: (0 : Int) :: (0 : Int) :: (0 : Int) :: (0 : Int) :: ([] : List Int) ∧
 True) ∧
 True) ∧
 True) ∧
 ∀ (g : (List Int × List Int × Int) × List Int × Int × Unit),
 g.fst = x.fst ∧
 (0 : Int) ≤ g.snd.snd.fst ∧
 g.snd.snd.fst ≤ (↑(allOf x.fst.snd.fst).length : Int) ∧ g.snd.fst = cnts (List.take g.snd.snd.fst.toNat (allOf x.fst.snd.fst)) →
 ((g.fst.fst.length = (4 : Nat) ∧ ∀ (x : Int), x ∈ g.fst.fst → (0 : Int) ≤ x ∧ x ≤ (18446744073709551615 : Int)) ∧
 (g.fst.snd.fst.length = (4 : Nat) ∧ ∀ (x : Int), x ∈ g.fst.snd.fst → (0 : Int) ≤ x ∧ x ≤ (18446744073709551615 : Int)) ∧
 (-9223372036854775808 : Int) ≤ g.fst.snd.snd ∧ g.fst.snd.snd ≤ (9223372036854775807 : Int)) ∧
 (g.snd.fst.length = (16 : Nat) ∧ ∀ (x : Int), x ∈ g.snd.fst → (-9223372036854775808 : Int) ≤ x ∧ x ≤ (9223372036854775807 : Int)) ∧
 ((-9223372036854775808 : Int) ≤ g.snd.snd.fst ∧ g.snd.snd.fst ≤ (9223372036854775807 : Int)) ∧ True →
 (decide (g.snd.snd.fst < (↑(allOf x.fst.snd.fst).length : Int)) = true →
 ((0 : Int) ≤ g.snd.snd.fst ∧ g.snd.snd.fst < (↑(allOf x.fst.snd.fst).length : Int)) ∧
 ((0 : Int) ≤ (allOf x.fst.snd.fst).getD g.snd.snd.fst.toNat (0 : Int) ∧ (0 : Int) < (16 : Int)) ∧
 ((0 : Int) ≤ (allOf x.fst.snd.fst).getD g.snd.snd.fst.toNat (0 : Int) / (16 : Int) ∧
 (allOf x.fst.snd.fst).getD g.snd.snd.fst.toNat (0 : Int) / (16 : Int) < (↑(16 : Nat) : Int)) ∧
 ((-9223372036854775808 : Int) ≤
 g.snd.fst.getD ((allOf x.fst.snd.fst).getD g.snd.snd.fst.toNat (0 : Int) / (16 : Int)).toNat (0 : Int) + (1 : Int) ∧
 g.snd.fst.getD ((allOf x.fst.snd.fst).getD g.snd.snd.fst.toNat (0 : Int) / (16 : Int)).toNat (0 : Int) + (1 : Int) ≤
 (9223372036854775807 : Int)) ∧
 ((0 : Int) ≤ (allOf x.fst.snd.fst).getD g.snd.snd.fst.toNat (0 : Int) / (16 : Int) ∧
 (allOf x.fst.snd.fst).getD g.snd.snd.fst.toNat (0 : Int) / (16 : Int) < (↑(16 : Nat) : Int)) ∧
 ((-9223372036854775808 : Int) ≤ g.snd.snd.fst + (1 : Int) ∧ g.snd.snd.fst + (1 : Int) ≤ (9223372036854775807 : Int)) ∧
 (((g.fst.fst, g.fst.snd.fst, g.fst.snd.snd) = x.fst ∧
 (0 : Int) ≤ g.snd.snd.fst + (1 : Int) ∧
 g.snd.snd.fst + (1 : Int) ≤ (↑(allOf x.fst.snd.fst).length : Int) ∧
 g.snd.fst.set ((allOf x.fst.snd.fst).getD g.snd.snd.fst.toNat (0 : Int) / (16 : Int)).toNat
 (g.snd.fst.getD ((allOf x.fst.snd.fst).getD g.snd.snd.fst.toNat (0 : Int) / (16 : Int)).toNat (0 : Int) +
 (1 : Int)) =
 cnts (List.take (g.snd.snd.fst + (1 : Int)).toNat (allOf x.fst.snd.fst))) ∧
 ((↑(allOf x.fst.snd.fst).length : Int) - (g.snd.snd.fst + (1 : Int))).toNat <
 ((↑(allOf x.fst.snd.fst).length : Int) - g.snd.snd.fst).toNat) ∧
 ((True ∧ True) ∧
 (True ∧ True) ∧
 allOf x.fst.snd.fst = allOf x.fst.snd.fst ∧
 (↑(allOf x.fst.snd.fst).length : Int) = (↑(allOf x.fst.snd.fst).length : Int) ∧
 g.snd.snd.fst + (1 : Int) = g.snd.snd.fst + (1 : Int) ∧ True) ∧
 ((g.fst.fst = g.fst.fst ∧ g.fst.snd.fst = g.fst.snd.fst ∧ g.fst.snd.snd = g.fst.snd.snd ∧ True) ∧
 (g.snd.fst.set ((allOf x.fst.snd.fst).getD g.snd.snd.fst.toNat (0 : Int) / (16 : Int)).toNat
 (g.snd.fst.getD ((allOf x.fst.snd.fst).getD g.snd.snd.fst.toNat (0 : Int) / (16 : Int)).toNat (0 : Int) +
 (1 : Int)) =
 g.snd.fst.set ((allOf x.fst.snd.fst).getD g.snd.snd.fst.toNat (0 : Int) / (16 : Int)).toNat
 (g.snd.fst.getD ((allOf x.fst.snd.fst).getD g.snd.snd.fst.toNat (0 : Int) / (16 : Int)).toNat (0 : Int) +
 (1 : Int)) ∧
 True) ∧
 True) ∧
 True) ∧
 (decide (g.snd.snd.fst < (↑(allOf x.fst.snd.fst).length : Int)) = false →
 ((((g.fst.fst, g.fst.snd.fst, g.fst.snd.snd) = x.fst ∧
 (0 : Int) ≤ (0 : Int) ∧ (0 : Int) ≤ (16 : Int) ∧ okC (allOf x.fst.snd.fst) (Int.toNat (0 : Int)) = true) ∧
 True) ∧
 ((True ∧ True) ∧ (g.snd.fst = g.snd.fst ∧ True) ∧ (0 : Int) = (0 : Int) ∧ True) ∧
 ((g.fst.fst = g.fst.fst ∧ g.fst.snd.fst = g.fst.snd.fst ∧ g.fst.snd.snd = g.fst.snd.snd ∧ True) ∧ True) ∧ True) ∧
 ∀ (g_1 : (List Int × List Int × Int) × Int × Unit),
 g_1.fst = x.fst ∧ (0 : Int) ≤ g_1.snd.fst ∧ g_1.snd.fst ≤ (16 : Int) ∧ okC (allOf x.fst.snd.fst) g_1.snd.fst.toNat = true →
 ((g_1.fst.fst.length = (4 : Nat) ∧ ∀ (x : Int), x ∈ g_1.fst.fst → (0 : Int) ≤ x ∧ x ≤ (18446744073709551615 : Int)) ∧
 (g_1.fst.snd.fst.length = (4 : Nat) ∧ ∀ (x : Int), x ∈ g_1.fst.snd.fst → (0 : Int) ≤ x ∧ x ≤ (18446744073709551615 : Int)) ∧
 (-9223372036854775808 : Int) ≤ g_1.fst.snd.snd ∧ g_1.fst.snd.snd ≤ (9223372036854775807 : Int)) ∧
 ((-9223372036854775808 : Int) ≤ g_1.snd.fst ∧ g_1.snd.fst ≤ (9223372036854775807 : Int)) ∧ True →
 (decide (g_1.snd.fst < (16 : Int)) = true →
 ((0 : Int) ≤ g_1.snd.fst ∧ g_1.snd.fst < (↑(16 : Nat) : Int)) ∧
 ((!decide ((1 : Int) < g.snd.fst.getD g_1.snd.fst.toNat (0 : Int))) = true →
 (!decide ((1 : Int) < g.snd.fst.getD g_1.snd.fst.toNat (0 : Int))) = true) ∧
 ((!decide ((1 : Int) < g.snd.fst.getD g_1.snd.fst.toNat (0 : Int))) = true →
 (!decide ((1 : Int) < g.snd.fst.getD g_1.snd.fst.toNat (0 : Int))) = true) ∧
 ((!decide ((1 : Int) < g.snd.fst.getD g_1.snd.fst.toNat (0 : Int)) && decide (g_1.snd.fst < (2 : Int))) = true →
 (!decide ((1 : Int) < g.snd.fst.getD g_1.snd.fst.toNat (0 : Int)) && decide (g_1.snd.fst < (2 : Int))) = true) ∧
 ((!decide ((1 : Int) < g.snd.fst.getD g_1.snd.fst.toNat (0 : Int))) = true →
 (!decide ((1 : Int) < g.snd.fst.getD g_1.snd.fst.toNat (0 : Int))) = true ∧
 (decide (g_1.snd.fst < (2 : Int)) = true →
 (!decide ((1 : Int) < g.snd.fst.getD g_1.snd.fst.toNat (0 : Int)) && decide (g_1.snd.fst < (2 : Int))) =
 true)) ∧
 (decide ((1 : Int) < g.snd.fst.getD g_1.snd.fst.toNat (0 : Int)) = false →
 (!decide ((1 : Int) < g.snd.fst.getD g_1.snd.fst.toNat (0 : Int))) = true) ∧
 ((decide ((1 : Int) < g.snd.fst.getD g_1.snd.fst.toNat (0 : Int)) ||
 decide (g_1.snd.fst < (2 : Int)) && decide ((0 : Int) < g.snd.fst.getD g_1.snd.fst.toNat (0 : Int))) =
 true →
 false = rightL x.fst) ∧
 ((decide ((1 : Int) < g.snd.fst.getD g_1.snd.fst.toNat (0 : Int)) ||
 decide (g_1.snd.fst < (2 : Int)) && decide ((0 : Int) < g.snd.fst.getD g_1.snd.fst.toNat (0 : Int))) =
 false →
 ((-9223372036854775808 : Int) ≤ g_1.snd.fst + (1 : Int) ∧
 g_1.snd.fst + (1 : Int) ≤ (9223372036854775807 : Int)) ∧
 (((g_1.fst.fst, g_1.fst.snd.fst, g_1.fst.snd.snd) = x.fst ∧
 (0 : Int) ≤ g_1.snd.fst + (1 : Int) ∧
 g_1.snd.fst + (1 : Int) ≤ (16 : Int) ∧
 okC (allOf x.fst.snd.fst) (g_1.snd.fst + (1 : Int)).toNat = true) ∧
 ((16 : Int) - (g_1.snd.fst + (1 : Int))).toNat < ((16 : Int) - g_1.snd.fst).toNat) ∧
 ((True ∧ True) ∧
 (g.snd.fst = g.snd.fst ∧ True) ∧ g_1.snd.fst + (1 : Int) = g_1.snd.fst + (1 : Int) ∧ True) ∧
 ((g_1.fst.fst = g_1.fst.fst ∧
 g_1.fst.snd.fst = g_1.fst.snd.fst ∧ g_1.fst.snd.snd = g_1.fst.snd.snd ∧ True) ∧
 True) ∧
 True)) ∧
 (decide (g_1.snd.fst < (16 : Int)) = false →
 Holds True ∧
 ((((g_1.fst.fst, g_1.fst.snd.fst, g_1.fst.snd.snd) = x.fst ∧
 (0 : Int) ≤ (0 : Int) ∧
 (0 : Int) ≤ (↑(allOf x.fst.fst).length : Int) ∧
 okC (allOf x.fst.snd.fst) (16 : Nat) = true ∧
 ((List.take (Int.toNat (0 : Int)) (allOf x.fst.fst)).all fun n ↦ decide ((32 : Int) ≤ n)) = true) ∧
 True) ∧
 ((True ∧ True) ∧
 allOf g_1.fst.fst = allOf g_1.fst.fst ∧
 (↑(allOf g_1.fst.fst).length : Int) = (↑(allOf g_1.fst.fst).length : Int) ∧ (0 : Int) = (0 : Int) ∧ True) ∧
 ((g_1.fst.fst = g_1.fst.fst ∧ g_1.fst.snd.fst = g_1.fst.snd.fst ∧ g_1.fst.snd.snd = g_1.fst.snd.snd ∧ True) ∧
 True) ∧
 True) ∧
 ∀ (g : (List Int × List Int × Int) × Int × Unit),
 g.fst = x.fst ∧
 (0 : Int) ≤ g.snd.fst ∧
 g.snd.fst ≤ (↑(allOf x.fst.fst).length : Int) ∧
 okC (allOf x.fst.snd.fst) (16 : Nat) = true ∧
 ((List.take g.snd.fst.toNat (allOf x.fst.fst)).all fun n ↦ decide ((32 : Int) ≤ n)) = true →
 ((g.fst.fst.length = (4 : Nat) ∧ ∀ (x : Int), x ∈ g.fst.fst → (0 : Int) ≤ x ∧ x ≤ (18446744073709551615 : Int)) ∧
 (g.fst.snd.fst.length = (4 : Nat) ∧
 ∀ (x : Int), x ∈ g.fst.snd.fst → (0 : Int) ≤ x ∧ x ≤ (18446744073709551615 : Int)) ∧
 (-9223372036854775808 : Int) ≤ g.fst.snd.snd ∧ g.fst.snd.snd ≤ (9223372036854775807 : Int)) ∧
 ((-9223372036854775808 : Int) ≤ g.snd.fst ∧ g.snd.fst ≤ (9223372036854775807 : Int)) ∧ True →
 (decide (g.snd.fst < (↑(allOf g_1.fst.fst).length : Int)) = true →
 ((0 : Int) ≤ g.snd.fst ∧ g.snd.fst < (↑(allOf g_1.fst.fst).length : Int)) ∧
 (decide ((allOf g_1.fst.fst).getD g.snd.fst.toNat (0 : Int) < (32 : Int)) = true → false = rightL x.fst) ∧
 (decide ((allOf g_1.fst.fst).getD g.snd.fst.toNat (0 : Int) < (32 : Int)) = false →
 ((-9223372036854775808 : Int) ≤ g.snd.fst + (1 : Int) ∧
 g.snd.fst + (1 : Int) ≤ (9223372036854775807 : Int)) ∧
 (((g.fst.fst, g.fst.snd.fst, g.fst.snd.snd) = x.fst ∧
 (0 : Int) ≤ g.snd.fst + (1 : Int) ∧
 g.snd.fst + (1 : Int) ≤ (↑(allOf x.fst.fst).length : Int) ∧
 okC (allOf x.fst.snd.fst) (16 : Nat) = true ∧
 ((List.take (g.snd.fst + (1 : Int)).toNat (allOf x.fst.fst)).all fun n ↦
 decide ((32 : Int) ≤ n)) =
 true) ∧
 ((↑(allOf x.fst.fst).length : Int) - (g.snd.fst + (1 : Int))).toNat <
 ((↑(allOf x.fst.fst).length : Int) - g.snd.fst).toNat) ∧
 ((True ∧ True) ∧
 allOf g_1.fst.fst = allOf g_1.fst.fst ∧
 (↑(allOf g_1.fst.fst).length : Int) = (↑(allOf g_1.fst.fst).length : Int) ∧
 g.snd.fst + (1 : Int) = g.snd.fst + (1 : Int) ∧ True) ∧
 ((g.fst.fst = g.fst.fst ∧ g.fst.snd.fst = g.fst.snd.fst ∧ g.fst.snd.snd = g.fst.snd.snd ∧ True) ∧
 True) ∧
 True)) ∧
 (decide (g.snd.fst < (↑(allOf g_1.fst.fst).length : Int)) = false →
 (decide ((0 : Int) ≤ g.fst.snd.snd) = true → decide ((0 : Int) ≤ g.fst.snd.snd) = true) ∧
 (decide ((0 : Int) ≤ g.fst.snd.snd) = true → decide ((0 : Int) ≤ g.fst.snd.snd) = true) ∧
 (decide ((0 : Int) ≤ g.fst.snd.snd) = true → decide ((0 : Int) ≤ g.fst.snd.snd) = true) ∧
 (decide ((0 : Int) ≤ g.fst.snd.snd) && decide (g.fst.snd.snd < (16 : Int))) = rightL x.fst)))

theorem E_bright_eq (x : HL (cRightL : Ctr).as) : vc (fx_bright x) 1 8 Tryd.f8 (cRightL) x = E_bright x := by kernel_rfl

def E_level (x : (List Int × List Int × Int) × Unit) : Prop :=
 Holds True ∧
 Holds ((0 : Int) ≤ max (topOf x.fst.snd.fst) (0 : Int)) ∧ max x.fst.snd.snd (max (topOf x.fst.snd.fst) (0 : Int) / (16 : Int)) = lvl x.fst

theorem E_level_eq (x : HL (cLvl : Ctr).as) : vc (fx_level x) 1 24 Tryd.f24 (cLvl) x = E_level x := by kernel_rfl

def E_would (x : (List Int × List Int × Int) × Unit) : Prop :=
 Holds True ∧
 Holds True ∧
 (rightL (x.fst.fst, x.fst.snd.fst, x.fst.snd.snd) = true →
 (decide ((0 : Int) ≤ topOf x.fst.fst) = true →
 Holds ((0 : Int) ≤ topOf x.fst.fst) ∧
 Holds True ∧
 (decide (lvl (x.fst.fst, x.fst.snd.fst, x.fst.snd.snd) < topOf x.fst.fst / (16 : Int)) = true → topOf x.fst.fst = wouldL x.fst) ∧
 (decide (lvl (x.fst.fst, x.fst.snd.fst, x.fst.snd.snd) < topOf x.fst.fst / (16 : Int)) = false → (-1 : Int) = wouldL x.fst)) ∧
 (decide ((0 : Int) ≤ topOf x.fst.fst) = !true → (-1 : Int) = wouldL x.fst)) ∧
 (rightL (x.fst.fst, x.fst.snd.fst, x.fst.snd.snd) = !true → (-1 : Int) = wouldL x.fst)

theorem E_would_eq (x : HL (cWould : Ctr).as) : vc (fx_would x) 1 9 Tryd.f9 (cWould) x = E_would x := by kernel_rfl

def E_bwould (x : (List Int × List Int × Int) × Unit) : Prop :=
 Holds True ∧
 ((!rightL (x.fst.fst, x.fst.snd.fst, x.fst.snd.snd)) = true → (-1 : Int) = wouldL x.fst) ∧
 ((!rightL (x.fst.fst, x.fst.snd.fst, x.fst.snd.snd)) = false →
 Holds True ∧
 ((((x.fst.fst, x.fst.snd.fst, x.fst.snd.snd) = x.fst ∧
 rightL x.fst = true ∧
 (0 : Int) ≤ (0 : Int) ∧
 (0 : Int) ≤ (↑(allOf x.fst.fst).length : Int) ∧ (-1 : Int) = bst x.fst (List.take (Int.toNat (0 : Int)) (allOf x.fst.fst))) ∧
 True) ∧
 ((True ∧ True) ∧
 (-1 : Int) = (-1 : Int) ∧
 allOf x.fst.fst = allOf x.fst.fst ∧
 (↑(allOf x.fst.fst).length : Int) = (↑(allOf x.fst.fst).length : Int) ∧ (0 : Int) = (0 : Int) ∧ True) ∧
 ((x.fst.fst = x.fst.fst ∧ x.fst.snd.fst = x.fst.snd.fst ∧ x.fst.snd.snd = x.fst.snd.snd ∧ True) ∧ True) ∧ True) ∧
 ∀ (g : (List Int × List Int × Int) × Int × Int × Unit),
 g.fst = x.fst ∧
 rightL x.fst = true ∧
 (0 : Int) ≤ g.snd.snd.fst ∧
 g.snd.snd.fst ≤ (↑(allOf x.fst.fst).length : Int) ∧ g.snd.fst = bst x.fst (List.take g.snd.snd.fst.toNat (allOf x.fst.fst)) →
 ((g.fst.fst.length = (4 : Nat) ∧ ∀ (x : Int), x ∈ g.fst.fst → (0 : Int) ≤ x ∧ x ≤ (18446744073709551615 : Int)) ∧
 (g.fst.snd.fst.length = (4 : Nat) ∧ ∀ (x : Int), x ∈ g.fst.snd.fst → (0 : Int) ≤ x ∧ x ≤ (18446744073709551615 : Int)) ∧
 (-9223372036854775808 : Int) ≤ g.fst.snd.snd ∧ g.fst.snd.snd ≤ (9223372036854775807 : Int)) ∧
 ((-9223372036854775808 : Int) ≤ g.snd.fst ∧ g.snd.fst ≤ (9223372036854775807 : Int)) ∧
 ((-9223372036854775808 : Int) ≤ g.snd.snd.fst ∧ g.snd.snd.fst ≤ (9223372036854775807 : Int)) ∧ True →
 (decide (g.snd.snd.fst < (↑(allOf x.fst.fst).length : Int)) = true →
 ((0 : Int) ≤ g.snd.snd.fst ∧ g.snd.snd.fst < (↑(allOf x.fst.fst).length : Int)) ∧
 ((0 : Int) ≤ (allOf x.fst.fst).getD g.snd.snd.fst.toNat (0 : Int) ∧ (0 : Int) < (16 : Int)) ∧
 Holds True ∧
 ((((g.fst.fst, g.fst.snd.fst, g.fst.snd.snd) = x.fst ∧
 (0 : Int) ≤ (0 : Int) ∧
 (0 : Int) ≤ (↑(allOf x.fst.snd.fst).length : Int) ∧
 decide (g.fst.snd.snd < (allOf x.fst.fst).getD g.snd.snd.fst.toNat (0 : Int) / (16 : Int)) =
 may x.fst (List.take (Int.toNat (0 : Int)) (allOf x.fst.snd.fst))
 ((allOf x.fst.fst).getD g.snd.snd.fst.toNat (0 : Int))) ∧
 True) ∧
 ((True ∧ True) ∧
 g.snd.fst = g.snd.fst ∧
 (allOf x.fst.fst).getD g.snd.snd.fst.toNat (0 : Int) = (allOf x.fst.fst).getD g.snd.snd.fst.toNat (0 : Int) ∧
 decide (g.fst.snd.snd < (allOf x.fst.fst).getD g.snd.snd.fst.toNat (0 : Int) / (16 : Int)) =
 decide (g.fst.snd.snd < (allOf x.fst.fst).getD g.snd.snd.fst.toNat (0 : Int) / (16 : Int)) ∧
 allOf x.fst.fst = allOf x.fst.fst ∧
 (↑(allOf x.fst.fst).length : Int) = (↑(allOf x.fst.fst).length : Int) ∧
 g.snd.snd.fst = g.snd.snd.fst ∧
 allOf g.fst.snd.fst = allOf g.fst.snd.fst ∧
 (↑(allOf g.fst.snd.fst).length : Int) = (↑(allOf g.fst.snd.fst).length : Int) ∧
 (0 : Int) = (0 : Int) ∧ True) ∧
 ((g.fst.fst = g.fst.fst ∧ g.fst.snd.fst = g.fst.snd.fst ∧ g.fst.snd.snd = g.fst.snd.snd ∧ True) ∧ True) ∧ True) ∧
 ∀ (g_1 : (List Int × List Int × Int) × Bool × Int × Unit),
 g_1.fst = x.fst ∧
 (0 : Int) ≤ g_1.snd.snd.fst ∧
 g_1.snd.snd.fst ≤ (↑(allOf x.fst.snd.fst).length : Int) ∧
 g_1.snd.fst =
 may x.fst (List.take g_1.snd.snd.fst.toNat (allOf x.fst.snd.fst))
 ((allOf x.fst.fst).getD g.snd.snd.fst.toNat (0 : Int)) →
 ((g_1.fst.fst.length = (4 : Nat) ∧ ∀ (x : Int), x ∈ g_1.fst.fst → (0 : Int) ≤ x ∧ x ≤ (18446744073709551615 : Int)) ∧
 (g_1.fst.snd.fst.length = (4 : Nat) ∧
 ∀ (x : Int), x ∈ g_1.fst.snd.fst → (0 : Int) ≤ x ∧ x ≤ (18446744073709551615 : Int)) ∧
 (-9223372036854775808 : Int) ≤ g_1.fst.snd.snd ∧ g_1.fst.snd.snd ≤ (9223372036854775807 : Int)) ∧
 True ∧ ((-9223372036854775808 : Int) ≤ g_1.snd.snd.fst ∧ g_1.snd.snd.fst ≤ (9223372036854775807 : Int)) ∧ True →
 (decide (g_1.snd.snd.fst < (↑(allOf g.fst.snd.fst).length : Int)) = true →
 ((0 : Int) ≤ g_1.snd.snd.fst ∧ g_1.snd.snd.fst < (↑(allOf g.fst.snd.fst).length : Int)) ∧
 (g_1.snd.fst = true →
 g_1.snd.fst = true ∧
 (0 : Int) ≤ (allOf x.fst.fst).getD g.snd.snd.fst.toNat (0 : Int) ∧ (0 : Int) < (16 : Int)) ∧
 (g_1.snd.fst = true →
 g_1.snd.fst = true ∧
 (0 : Int) ≤ (allOf g.fst.snd.fst).getD g_1.snd.snd.fst.toNat (0 : Int) ∧ (0 : Int) < (16 : Int)) ∧
 (g_1.snd.fst = true → g_1.snd.fst = true ∧ g_1.snd.fst = true) ∧
 (g_1.snd.fst = true → g_1.snd.fst = true) ∧
 ((-9223372036854775808 : Int) ≤ g_1.snd.snd.fst + (1 : Int) ∧
 g_1.snd.snd.fst + (1 : Int) ≤ (9223372036854775807 : Int)) ∧
 (((g_1.fst.fst, g_1.fst.snd.fst, g_1.fst.snd.snd) = x.fst ∧
 (0 : Int) ≤ g_1.snd.snd.fst + (1 : Int) ∧
 g_1.snd.snd.fst + (1 : Int) ≤ (↑(allOf x.fst.snd.fst).length : Int) ∧
 (g_1.snd.fst &&
 decide
 ((allOf g.fst.snd.fst).getD g_1.snd.snd.fst.toNat (0 : Int) / (16 : Int) <
 (allOf x.fst.fst).getD g.snd.snd.fst.toNat (0 : Int) / (16 : Int))) =
 may x.fst (List.take (g_1.snd.snd.fst + (1 : Int)).toNat (allOf x.fst.snd.fst))
 ((allOf x.fst.fst).getD g.snd.snd.fst.toNat (0 : Int))) ∧
 ((↑(allOf x.fst.snd.fst).length : Int) - (g_1.snd.snd.fst + (1 : Int))).toNat <
 ((↑(allOf x.fst.snd.fst).length : Int) - g_1.snd.snd.fst).toNat) ∧
 ((True ∧ True) ∧
 g.snd.fst = g.snd.fst ∧
 (allOf x.fst.fst).getD g.snd.snd.fst.toNat (0 : Int) =
 (allOf x.fst.fst).getD g.snd.snd.fst.toNat (0 : Int) ∧
 (g_1.snd.fst &&
 decide
 ((allOf g.fst.snd.fst).getD g_1.snd.snd.fst.toNat (0 : Int) / (16 : Int) <
 (allOf x.fst.fst).getD g.snd.snd.fst.toNat (0 : Int) / (16 : Int))) =
 (g_1.snd.fst &&
 decide
 ((allOf g.fst.snd.fst).getD g_1.snd.snd.fst.toNat (0 : Int) / (16 : Int) <
 (allOf x.fst.fst).getD g.snd.snd.fst.toNat (0 : Int) / (16 : Int))) ∧
 allOf x.fst.fst = allOf x.fst.fst ∧
 (↑(allOf x.fst.fst).length : Int) = (↑(allOf x.fst.fst).length : Int) ∧
 g.snd.snd.fst = g.snd.snd.fst ∧
 allOf g.fst.snd.fst = allOf g.fst.snd.fst ∧
 (↑(allOf g.fst.snd.fst).length : Int) = (↑(allOf g.fst.snd.fst).length : Int) ∧
 g_1.snd.snd.fst + (1 : Int) = g_1.snd.snd.fst + (1 : Int) ∧ True) ∧
 ((g_1.fst.fst = g_1.fst.fst ∧
 g_1.fst.snd.fst = g_1.fst.snd.fst ∧ g_1.fst.snd.snd = g_1.fst.snd.snd ∧ True) ∧
 True) ∧
 True) ∧
 (decide (g_1.snd.snd.fst < (↑(allOf g.fst.snd.fst).length : Int)) = false →
 (g_1.snd.fst = true →
 ((-9223372036854775808 : Int) ≤ g.snd.snd.fst + (1 : Int) ∧
 g.snd.snd.fst + (1 : Int) ≤ (9223372036854775807 : Int)) ∧
 (((g_1.fst.fst, g_1.fst.snd.fst, g_1.fst.snd.snd) = x.fst ∧
 rightL x.fst = true ∧
 (0 : Int) ≤ g.snd.snd.fst + (1 : Int) ∧
 g.snd.snd.fst + (1 : Int) ≤ (↑(allOf x.fst.fst).length : Int) ∧
 (allOf x.fst.fst).getD g.snd.snd.fst.toNat (0 : Int) =
 bst x.fst (List.take (g.snd.snd.fst + (1 : Int)).toNat (allOf x.fst.fst))) ∧
 ((↑(allOf x.fst.fst).length : Int) - (g.snd.snd.fst + (1 : Int))).toNat <
 ((↑(allOf x.fst.fst).length : Int) - g.snd.snd.fst).toNat) ∧
 ((True ∧ True) ∧
 (allOf x.fst.fst).getD g.snd.snd.fst.toNat (0 : Int) =
 (allOf x.fst.fst).getD g.snd.snd.fst.toNat (0 : Int) ∧
 allOf x.fst.fst = allOf x.fst.fst ∧
 (↑(allOf x.fst.fst).length : Int) = (↑(allOf x.fst.fst).length : Int) ∧
 g.snd.snd.fst + (1 : Int) = g.snd.snd.fst + (1 : Int) ∧ True) ∧
 ((g_1.fst.fst = g_1.fst.fst ∧
 g_1.fst.snd.fst = g_1.fst.snd.fst ∧ g_1.fst.snd.snd = g_1.fst.snd.snd ∧ True) ∧
 True) ∧
 True) ∧
 (g_1.snd.fst = false →
 ((-9223372036854775808 : Int) ≤ g.snd.snd.fst + (1 : Int) ∧
 g.snd.snd.fst + (1 : Int) ≤ (9223372036854775807 : Int)) ∧
 (((g_1.fst.fst, g_1.fst.snd.fst, g_1.fst.snd.snd) = x.fst ∧
 rightL x.fst = true ∧
 (0 : Int) ≤ g.snd.snd.fst + (1 : Int) ∧
 g.snd.snd.fst + (1 : Int) ≤ (↑(allOf x.fst.fst).length : Int) ∧
 g.snd.fst = bst x.fst (List.take (g.snd.snd.fst + (1 : Int)).toNat (allOf x.fst.fst))) ∧
 ((↑(allOf x.fst.fst).length : Int) - (g.snd.snd.fst + (1 : Int))).toNat <
 ((↑(allOf x.fst.fst).length : Int) - g.snd.snd.fst).toNat) ∧
 ((True ∧ True) ∧
 g.snd.fst = g.snd.fst ∧
 allOf x.fst.fst = allOf x.fst.fst ∧
 (↑(allOf x.fst.fst).length : Int) = (↑(allOf x.fst.fst).length : Int) ∧
 g.snd.snd.fst + (1 : Int) = g.snd.snd.fst + (1 : Int) ∧ True) ∧
 ((g_1.fst.fst = g_1.fst.fst ∧
 g_1.fst.snd.fst = g_1.fst.snd.fst ∧ g_1.fst.snd.snd = g_1.fst.snd.snd ∧ True) ∧
 True) ∧
 True))) ∧
 (decide (g.snd.snd.fst < (↑(allOf x.fst.fst).length : Int)) = false → g.snd.fst = wouldL x.fst))

theorem E_bwould_eq (x : HL (cWould : Ctr).as) : vc (fx_bwould x) 1 10 Tryd.f10 (cWould) x = E_bwould x := by kernel_rfl

def E_astep (x : (List Int × List Int × Int) × (Int × Int) × Unit) : Prop :=
 Holds True ∧
 ((!rightL (x.fst.fst, x.fst.snd.fst, x.fst.snd.snd)) = true →
 ((0 : Int) :: (0 : Int) :: (0 : Int) :: (0 : Int) :: ([] : List Int), (0 : Int) :: (0 : Int) :: (0 : Int) :: (0 : Int) :: ([] : List Int),
 (0 : Int)) =
 (stepL x.fst x.snd.fst).fst ∧
 (0 : Int) = (stepL x.fst x.snd.fst).snd.fst ∧ (1 : Int) = (stepL x.fst x.snd.fst).snd.snd.fst) ∧
 ((!rightL (x.fst.fst, x.fst.snd.fst, x.fst.snd.snd)) = false →
 ((x.snd.fst.fst == (1 : Int)) = true →
 ((!decide (x.snd.fst.snd < (32 : Int))) = true → (!decide (x.snd.fst.snd < (32 : Int))) = true) ∧
 ((!decide (x.snd.fst.snd < (32 : Int))) = true → (!decide (x.snd.fst.snd < (32 : Int))) = true) ∧
 (decide (x.snd.fst.snd < (32 : Int)) = false → (!decide (x.snd.fst.snd < (32 : Int))) = true) ∧
 ((decide (x.snd.fst.snd < (32 : Int)) || decide ((256 : Int) ≤ x.snd.fst.snd)) = true →
 ((0 : Int) :: (0 : Int) :: (0 : Int) :: (0 : Int) :: ([] : List Int),
 (0 : Int) :: (0 : Int) :: (0 : Int) :: (0 : Int) :: ([] : List Int), (0 : Int)) =
 (stepL x.fst x.snd.fst).fst ∧
 (0 : Int) = (stepL x.fst x.snd.fst).snd.fst ∧ (2 : Int) = (stepL x.fst x.snd.fst).snd.snd.fst) ∧
 ((decide (x.snd.fst.snd < (32 : Int)) || decide ((256 : Int) ≤ x.snd.fst.snd)) = false →
 Holds True ∧
 (putB x.fst.fst x.snd.fst.snd true, x.fst.snd.fst, x.fst.snd.snd) = (stepL x.fst x.snd.fst).fst ∧
 (-1 : Int) = (stepL x.fst x.snd.fst).snd.fst ∧ (0 : Int) = (stepL x.fst x.snd.fst).snd.snd.fst)) ∧
 ((x.snd.fst.fst == (1 : Int)) = false →
 ((x.snd.fst.fst == (2 : Int)) = true →
 Holds True ∧
 (decide (wouldL (x.fst.fst, x.fst.snd.fst, x.fst.snd.snd) < (0 : Int)) = true →
 ((0 : Int) :: (0 : Int) :: (0 : Int) :: (0 : Int) :: ([] : List Int),
 (0 : Int) :: (0 : Int) :: (0 : Int) :: (0 : Int) :: ([] : List Int), (0 : Int)) =
 (stepL x.fst x.snd.fst).fst ∧
 (0 : Int) = (stepL x.fst x.snd.fst).snd.fst ∧ (7 : Int) = (stepL x.fst x.snd.fst).snd.snd.fst) ∧
 (decide (wouldL (x.fst.fst, x.fst.snd.fst, x.fst.snd.snd) < (0 : Int)) = false →
 Holds True ∧
 Holds True ∧
 (putB x.fst.fst (wouldL (x.fst.fst, x.fst.snd.fst, x.fst.snd.snd)) false,
 putB x.fst.snd.fst (wouldL (x.fst.fst, x.fst.snd.fst, x.fst.snd.snd)) true, x.fst.snd.snd) =
 (stepL x.fst x.snd.fst).fst ∧
 wouldL (x.fst.fst, x.fst.snd.fst, x.fst.snd.snd) = (stepL x.fst x.snd.fst).snd.fst ∧
 (0 : Int) = (stepL x.fst x.snd.fst).snd.snd.fst)) ∧
 ((x.snd.fst.fst == (2 : Int)) = false →
 ((x.snd.fst.fst == (3 : Int)) = true →
 Holds True ∧
 (decide (topOf x.fst.snd.fst < (0 : Int)) = true →
 ((0 : Int) :: (0 : Int) :: (0 : Int) :: (0 : Int) :: ([] : List Int),
 (0 : Int) :: (0 : Int) :: (0 : Int) :: (0 : Int) :: ([] : List Int), (0 : Int)) =
 (stepL x.fst x.snd.fst).fst ∧
 (0 : Int) = (stepL x.fst x.snd.fst).snd.fst ∧ (3 : Int) = (stepL x.fst x.snd.fst).snd.snd.fst) ∧
 (decide (topOf x.fst.snd.fst < (0 : Int)) = false →
 Holds True ∧
 (x.fst.fst, putB x.fst.snd.fst (topOf x.fst.snd.fst) false, x.fst.snd.snd) = (stepL x.fst x.snd.fst).fst ∧
 topOf x.fst.snd.fst = (stepL x.fst x.snd.fst).snd.fst ∧ (0 : Int) = (stepL x.fst x.snd.fst).snd.snd.fst)) ∧
 ((x.snd.fst.fst == (3 : Int)) = false →
 ((x.snd.fst.fst == (4 : Int)) = true →
 ((!decide (x.snd.fst.snd < (0 : Int))) = true → (!decide (x.snd.fst.snd < (0 : Int))) = true) ∧
 ((!decide (x.snd.fst.snd < (0 : Int))) = true → (!decide (x.snd.fst.snd < (0 : Int))) = true) ∧
 (decide (x.snd.fst.snd < (0 : Int)) = false → (!decide (x.snd.fst.snd < (0 : Int))) = true) ∧
 ((decide (x.snd.fst.snd < (0 : Int)) || decide ((15 : Int) < x.snd.fst.snd)) = true →
 ((0 : Int) :: (0 : Int) :: (0 : Int) :: (0 : Int) :: ([] : List Int),
 (0 : Int) :: (0 : Int) :: (0 : Int) :: (0 : Int) :: ([] : List Int), (0 : Int)) =
 (stepL x.fst x.snd.fst).fst ∧
 (0 : Int) = (stepL x.fst x.snd.fst).snd.fst ∧ (2 : Int) = (stepL x.fst x.snd.fst).snd.snd.fst) ∧
 ((decide (x.snd.fst.snd < (0 : Int)) || decide ((15 : Int) < x.snd.fst.snd)) = false →
 (x.fst.fst, x.fst.snd.fst, x.snd.fst.snd) = (stepL x.fst x.snd.fst).fst ∧
 (-1 : Int) = (stepL x.fst x.snd.fst).snd.fst ∧ (0 : Int) = (stepL x.fst x.snd.fst).snd.snd.fst)) ∧
 ((x.snd.fst.fst == (4 : Int)) = false →
 ((0 : Int) :: (0 : Int) :: (0 : Int) :: (0 : Int) :: ([] : List Int),
 (0 : Int) :: (0 : Int) :: (0 : Int) :: (0 : Int) :: ([] : List Int), (0 : Int)) =
 (stepL x.fst x.snd.fst).fst ∧
 (0 : Int) = (stepL x.fst x.snd.fst).snd.fst ∧ (5 : Int) = (stepL x.fst x.snd.fst).snd.snd.fst)))))

theorem E_astep_eq (x : HL (cStep : Ctr).as) : vc (fx_astep x) 2 5 Tryd.f5 (cStep) x = E_astep x := by kernel_rfl

def E_bstep (x : (List Int × List Int × Int) × (Int × Int) × Unit) : Prop :=
 Holds True ∧
 ((!rightL (x.fst.fst, x.fst.snd.fst, x.fst.snd.snd)) = true →
 (((1 : Int) != (0 : Int)) = true →
 ((0 : Int) :: (0 : Int) :: (0 : Int) :: (0 : Int) :: ([] : List Int), (0 : Int) :: (0 : Int) :: (0 : Int) :: (0 : Int) :: ([] : List Int),
 (0 : Int)) =
 (stepL x.fst x.snd.fst).fst ∧
 (0 : Int) = (stepL x.fst x.snd.fst).snd.fst ∧ (1 : Int) = (stepL x.fst x.snd.fst).snd.snd.fst) ∧
 (((1 : Int) != (0 : Int)) = false →
 (x.fst.fst, x.fst.snd.fst, x.fst.snd.snd) = (stepL x.fst x.snd.fst).fst ∧
 (-1 : Int) = (stepL x.fst x.snd.fst).snd.fst ∧ (1 : Int) = (stepL x.fst x.snd.fst).snd.snd.fst)) ∧
 ((!rightL (x.fst.fst, x.fst.snd.fst, x.fst.snd.snd)) = false →
 ((x.snd.fst.fst == (1 : Int)) = true → (x.snd.fst.fst == (1 : Int)) = true) ∧
 ((x.snd.fst.fst == (1 : Int)) = true → (x.snd.fst.fst == (1 : Int)) = true) ∧
 ((x.snd.fst.fst == (1 : Int)) = true → (x.snd.fst.fst == (1 : Int)) = true) ∧
 ((x.snd.fst.fst == (1 : Int) && !decide (x.snd.fst.snd < (32 : Int))) = true →
 (x.snd.fst.fst == (1 : Int) && !decide (x.snd.fst.snd < (32 : Int))) = true) ∧
 ((x.snd.fst.fst == (1 : Int) && !decide (x.snd.fst.snd < (32 : Int))) = true →
 (x.snd.fst.fst == (1 : Int) && !decide (x.snd.fst.snd < (32 : Int))) = true) ∧
 ((x.snd.fst.fst == (1 : Int)) = true →
 (x.snd.fst.fst == (1 : Int)) = true ∧
 (decide (x.snd.fst.snd < (32 : Int)) = false → (x.snd.fst.fst == (1 : Int) && !decide (x.snd.fst.snd < (32 : Int))) = true)) ∧
 ((x.snd.fst.fst == (1 : Int)) = true → (x.snd.fst.fst == (1 : Int)) = true) ∧
 ((x.snd.fst.fst == (1 : Int) && (decide (x.snd.fst.snd < (32 : Int)) || decide ((255 : Int) < x.snd.fst.snd))) = true →
 (((2 : Int) != (0 : Int)) = true →
 ((0 : Int) :: (0 : Int) :: (0 : Int) :: (0 : Int) :: ([] : List Int),
 (0 : Int) :: (0 : Int) :: (0 : Int) :: (0 : Int) :: ([] : List Int), (0 : Int)) =
 (stepL x.fst x.snd.fst).fst ∧
 (0 : Int) = (stepL x.fst x.snd.fst).snd.fst ∧ (2 : Int) = (stepL x.fst x.snd.fst).snd.snd.fst) ∧
 (((2 : Int) != (0 : Int)) = false →
 (x.fst.fst, x.fst.snd.fst, x.fst.snd.snd) = (stepL x.fst x.snd.fst).fst ∧
 (-1 : Int) = (stepL x.fst x.snd.fst).snd.fst ∧ (2 : Int) = (stepL x.fst x.snd.fst).snd.snd.fst)) ∧
 ((x.snd.fst.fst == (1 : Int) && (decide (x.snd.fst.snd < (32 : Int)) || decide ((255 : Int) < x.snd.fst.snd))) = false →
 ((x.snd.fst.fst == (4 : Int)) = true → (x.snd.fst.fst == (4 : Int)) = true) ∧
 ((x.snd.fst.fst == (4 : Int)) = true → (x.snd.fst.fst == (4 : Int)) = true) ∧
 ((x.snd.fst.fst == (4 : Int)) = true → (x.snd.fst.fst == (4 : Int)) = true) ∧
 ((x.snd.fst.fst == (4 : Int) && !decide (x.snd.fst.snd < (0 : Int))) = true →
 (x.snd.fst.fst == (4 : Int) && !decide (x.snd.fst.snd < (0 : Int))) = true) ∧
 ((x.snd.fst.fst == (4 : Int) && !decide (x.snd.fst.snd < (0 : Int))) = true →
 (x.snd.fst.fst == (4 : Int) && !decide (x.snd.fst.snd < (0 : Int))) = true) ∧
 ((x.snd.fst.fst == (4 : Int)) = true →
 (x.snd.fst.fst == (4 : Int)) = true ∧
 (decide (x.snd.fst.snd < (0 : Int)) = false →
 (x.snd.fst.fst == (4 : Int) && !decide (x.snd.fst.snd < (0 : Int))) = true)) ∧
 ((x.snd.fst.fst == (4 : Int)) = true → (x.snd.fst.fst == (4 : Int)) = true) ∧
 ((x.snd.fst.fst == (4 : Int) && (decide (x.snd.fst.snd < (0 : Int)) || decide ((15 : Int) < x.snd.fst.snd))) =
 true →
 (((2 : Int) != (0 : Int)) = true →
 ((0 : Int) :: (0 : Int) :: (0 : Int) :: (0 : Int) :: ([] : List Int),
 (0 : Int) :: (0 : Int) :: (0 : Int) :: (0 : Int) :: ([] : List Int), (0 : Int)) =
 (stepL x.fst x.snd.fst).fst ∧
 (0 : Int) = (stepL x.fst x.snd.fst).snd.fst ∧ (2 : Int) = (stepL x.fst x.snd.fst).snd.snd.fst) ∧
 (((2 : Int) != (0 : Int)) = false →
 (x.fst.fst, x.fst.snd.fst, x.fst.snd.snd) = (stepL x.fst x.snd.fst).fst ∧
 (-1 : Int) = (stepL x.fst x.snd.fst).snd.fst ∧ (2 : Int) = (stepL x.fst x.snd.fst).snd.snd.fst)) ∧
 ((x.snd.fst.fst == (4 : Int) && (decide (x.snd.fst.snd < (0 : Int)) || decide ((15 : Int) < x.snd.fst.snd))) =
 false →
 ((x.snd.fst.fst == (1 : Int)) = true →
 Holds True ∧
 (((0 : Int) != (0 : Int)) = true →
 ((0 : Int) :: (0 : Int) :: (0 : Int) :: (0 : Int) :: ([] : List Int),
 (0 : Int) :: (0 : Int) :: (0 : Int) :: (0 : Int) :: ([] : List Int), (0 : Int)) =
 (stepL x.fst x.snd.fst).fst ∧
 (0 : Int) = (stepL x.fst x.snd.fst).snd.fst ∧ (0 : Int) = (stepL x.fst x.snd.fst).snd.snd.fst) ∧
 (((0 : Int) != (0 : Int)) = false →
 (putB x.fst.fst x.snd.fst.snd true, x.fst.snd.fst, x.fst.snd.snd) = (stepL x.fst x.snd.fst).fst ∧
 (-1 : Int) = (stepL x.fst x.snd.fst).snd.fst ∧
 (0 : Int) = (stepL x.fst x.snd.fst).snd.snd.fst)) ∧
 ((x.snd.fst.fst == (1 : Int)) = false →
 ((x.snd.fst.fst == (4 : Int)) = true →
 (((0 : Int) != (0 : Int)) = true →
 ((0 : Int) :: (0 : Int) :: (0 : Int) :: (0 : Int) :: ([] : List Int),
 (0 : Int) :: (0 : Int) :: (0 : Int) :: (0 : Int) :: ([] : List Int), (0 : Int)) =
 (stepL x.fst x.snd.fst).fst ∧
 (0 : Int) = (stepL x.fst x.snd.fst).snd.fst ∧
 (0 : Int) = (stepL x.fst x.snd.fst).snd.snd.fst) ∧
 (((0 : Int) != (0 : Int)) = false →
 (x.fst.fst, x.fst.snd.fst, x.snd.fst.snd) = (stepL x.fst x.snd.fst).fst ∧
 (-1 : Int) = (stepL x.fst x.snd.fst).snd.fst ∧
 (0 : Int) = (stepL x.fst x.snd.fst).snd.snd.fst)) ∧
 ((x.snd.fst.fst == (4 : Int)) = false →
 ((x.snd.fst.fst == (2 : Int)) = true →
 Holds True ∧
 (decide (wouldL (x.fst.fst, x.fst.snd.fst, x.fst.snd.snd) < (0 : Int)) = true →
 Holds True ∧
 Holds True ∧
 (((7 : Int) != (0 : Int)) = true →
 ((0 : Int) :: (0 : Int) :: (0 : Int) :: (0 : Int) :: ([] : List Int),
 (0 : Int) :: (0 : Int) :: (0 : Int) :: (0 : Int) :: ([] : List Int),
 (0 : Int)) =
 (stepL x.fst x.snd.fst).fst ∧
 (0 : Int) = (stepL x.fst x.snd.fst).snd.fst ∧
 (7 : Int) = (stepL x.fst x.snd.fst).snd.snd.fst) ∧
 (((7 : Int) != (0 : Int)) = false →
 (putB x.fst.fst (wouldL (x.fst.fst, x.fst.snd.fst, x.fst.snd.snd)) false,
 putB x.fst.snd.fst (wouldL (x.fst.fst, x.fst.snd.fst, x.fst.snd.snd)) true,
 x.fst.snd.snd) =
 (stepL x.fst x.snd.fst).fst ∧
 wouldL (x.fst.fst, x.fst.snd.fst, x.fst.snd.snd) =
 (stepL x.fst x.snd.fst).snd.fst ∧
 (7 : Int) = (stepL x.fst x.snd.fst).snd.snd.fst)) ∧
 (decide (wouldL (x.fst.fst, x.fst.snd.fst, x.fst.snd.snd) < (0 : Int)) = false →
 Holds True ∧
 Holds True ∧
 (((0 : Int) != (0 : Int)) = true →
 ((0 : Int) :: (0 : Int) :: (0 : Int) :: (0 : Int) :: ([] : List Int),
 (0 : Int) :: (0 : Int) :: (0 : Int) :: (0 : Int) :: ([] : List Int),
 (0 : Int)) =
 (stepL x.fst x.snd.fst).fst ∧
 (0 : Int) = (stepL x.fst x.snd.fst).snd.fst ∧
 (0 : Int) = (stepL x.fst x.snd.fst).snd.snd.fst) ∧
 (((0 : Int) != (0 : Int)) = false →
 (putB x.fst.fst (wouldL (x.fst.fst, x.fst.snd.fst, x.fst.snd.snd)) false,
 putB x.fst.snd.fst (wouldL (x.fst.fst, x.fst.snd.fst, x.fst.snd.snd)) true,
 x.fst.snd.snd) =
 (stepL x.fst x.snd.fst).fst ∧
 wouldL (x.fst.fst, x.fst.snd.fst, x.fst.snd.snd) =
 (stepL x.fst x.snd.fst).snd.fst ∧
 (0 : Int) = (stepL x.fst x.snd.fst).snd.snd.fst))) ∧
 ((x.snd.fst.fst == (2 : Int)) = false →
 ((x.snd.fst.fst == (3 : Int)) = true →
 Holds True ∧
 (decide (topOf x.fst.snd.fst < (0 : Int)) = true →
 Holds True ∧
 (((3 : Int) != (0 : Int)) = true →
 ((0 : Int) :: (0 : Int) :: (0 : Int) :: (0 : Int) :: ([] : List Int),
 (0 : Int) :: (0 : Int) :: (0 : Int) :: (0 : Int) :: ([] : List Int),
 (0 : Int)) =
 (stepL x.fst x.snd.fst).fst ∧
 (0 : Int) = (stepL x.fst x.snd.fst).snd.fst ∧
 (3 : Int) = (stepL x.fst x.snd.fst).snd.snd.fst) ∧
 (((3 : Int) != (0 : Int)) = false →
 (x.fst.fst, putB x.fst.snd.fst (topOf x.fst.snd.fst) false, x.fst.snd.snd) =
 (stepL x.fst x.snd.fst).fst ∧
 topOf x.fst.snd.fst = (stepL x.fst x.snd.fst).snd.fst ∧
 (3 : Int) = (stepL x.fst x.snd.fst).snd.snd.fst)) ∧
 (decide (topOf x.fst.snd.fst < (0 : Int)) = false →
 Holds True ∧
 (((0 : Int) != (0 : Int)) = true →
 ((0 : Int) :: (0 : Int) :: (0 : Int) :: (0 : Int) :: ([] : List Int),
 (0 : Int) :: (0 : Int) :: (0 : Int) :: (0 : Int) :: ([] : List Int),
 (0 : Int)) =
 (stepL x.fst x.snd.fst).fst ∧
 (0 : Int) = (stepL x.fst x.snd.fst).snd.fst ∧
 (0 : Int) = (stepL x.fst x.snd.fst).snd.snd.fst) ∧
 (((0 : Int) != (0 : Int)) = false →
 (x.fst.fst, putB x.fst.snd.fst (topOf x.fst.snd.fst) false, x.fst.snd.snd) =
 (stepL x.fst x.snd.fst).fst ∧
 topOf x.fst.snd.fst = (stepL x.fst x.snd.fst).snd.fst ∧
 (0 : Int) = (stepL x.fst x.snd.fst).snd.snd.fst))) ∧
 ((x.snd.fst.fst == (3 : Int)) = false →
 (((5 : Int) != (0 : Int)) = true →
 ((0 : Int) :: (0 : Int) :: (0 : Int) :: (0 : Int) :: ([] : List Int),
 (0 : Int) :: (0 : Int) :: (0 : Int) :: (0 : Int) :: ([] : List Int), (0 : Int)) =
 (stepL x.fst x.snd.fst).fst ∧
 (0 : Int) = (stepL x.fst x.snd.fst).snd.fst ∧
 (5 : Int) = (stepL x.fst x.snd.fst).snd.snd.fst) ∧
 (((5 : Int) != (0 : Int)) = false →
 (x.fst.fst, x.fst.snd.fst, x.fst.snd.snd) = (stepL x.fst x.snd.fst).fst ∧
 (-1 : Int) = (stepL x.fst x.snd.fst).snd.fst ∧
 (5 : Int) = (stepL x.fst x.snd.fst).snd.snd.fst))))))))

theorem E_bstep_eq (x : HL (cStep : Ctr).as) : vc (fx_bstep x) 1 6 Tryd.f6 (cStep) x = E_bstep x := by kernel_rfl

def E_tells (x : (List Int × List Int × Int) × (Int × Int) × Unit) : Prop :=
 Holds True ∧
 Holds True ∧
 Holds True ∧
 Holds True ∧
 ((rightL (x.fst.fst, x.fst.snd.fst, x.fst.snd.snd) == rightL (x.fst.fst, x.fst.snd.fst, x.fst.snd.snd)) = true →
 Holds True ∧
 Holds True ∧
 ((wouldL (x.fst.fst, x.fst.snd.fst, x.fst.snd.snd) == wouldL (x.fst.fst, x.fst.snd.fst, x.fst.snd.snd)) = true →
 (((stepL (x.fst.fst, x.fst.snd.fst, x.fst.snd.snd) (x.snd.fst.fst, x.snd.fst.snd)).snd.snd.fst ==
 (stepL (x.fst.fst, x.fst.snd.fst, x.fst.snd.snd) (x.snd.fst.fst, x.snd.fst.snd)).snd.snd.fst) =
 true →
 (((stepL (x.fst.fst, x.fst.snd.fst, x.fst.snd.snd) (x.snd.fst.fst, x.snd.fst.snd)).snd.fst ==
 (stepL (x.fst.fst, x.fst.snd.fst, x.fst.snd.snd) (x.snd.fst.fst, x.snd.fst.snd)).snd.fst) =
 true →
 deq ((Ty.arr (4 : Nat) (Ty.int IntKind.u64)).pair ((Ty.arr (4 : Nat) (Ty.int IntKind.u64)).pair (Ty.int IntKind.i64)))
 ((stepL (x.fst.fst, x.fst.snd.fst, x.fst.snd.snd) (x.snd.fst.fst, x.snd.fst.snd)).fst.fst,
 (stepL (x.fst.fst, x.fst.snd.fst, x.fst.snd.snd) (x.snd.fst.fst, x.snd.fst.snd)).fst.snd.fst,
 (stepL (x.fst.fst, x.fst.snd.fst, x.fst.snd.snd) (x.snd.fst.fst, x.snd.fst.snd)).fst.snd.snd)
 ((stepL (x.fst.fst, x.fst.snd.fst, x.fst.snd.snd) (x.snd.fst.fst, x.snd.fst.snd)).fst.fst,
 (stepL (x.fst.fst, x.fst.snd.fst, x.fst.snd.snd) (x.snd.fst.fst, x.snd.fst.snd)).fst.snd.fst,
 (stepL (x.fst.fst, x.fst.snd.fst, x.fst.snd.snd) (x.snd.fst.fst, x.snd.fst.snd)).fst.snd.snd) =
 true) ∧
 (((stepL (x.fst.fst, x.fst.snd.fst, x.fst.snd.snd) (x.snd.fst.fst, x.snd.fst.snd)).snd.fst ==
 (stepL (x.fst.fst, x.fst.snd.fst, x.fst.snd.snd) (x.snd.fst.fst, x.snd.fst.snd)).snd.fst) =
 !true →
 false = true)) ∧
 (((stepL (x.fst.fst, x.fst.snd.fst, x.fst.snd.snd) (x.snd.fst.fst, x.snd.fst.snd)).snd.snd.fst ==
 (stepL (x.fst.fst, x.fst.snd.fst, x.fst.snd.snd) (x.snd.fst.fst, x.snd.fst.snd)).snd.snd.fst) =
 !true →
 false = true)) ∧
 ((wouldL (x.fst.fst, x.fst.snd.fst, x.fst.snd.snd) == wouldL (x.fst.fst, x.fst.snd.fst, x.fst.snd.snd)) = !true → false = true)) ∧
 ((rightL (x.fst.fst, x.fst.snd.fst, x.fst.snd.snd) == rightL (x.fst.fst, x.fst.snd.fst, x.fst.snd.snd)) = !true → false = true)

theorem E_tells_eq (x : HL (cTells : Ctr).as) : vc (fx_tells x) 1 3 Tryd.f3 (cTells) x = E_tells x := by kernel_rfl

end Go.Proofs.YtlkhpbjjimjhbaaDoor.Apic
