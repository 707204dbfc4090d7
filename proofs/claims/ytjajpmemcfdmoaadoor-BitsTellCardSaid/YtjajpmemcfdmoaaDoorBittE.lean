/-
  The conditions that the executor comes to, written out (by a tool of ours), and that they are the conditions (by the kernel).
-/
import Derived.Test.YtjajpmemcfdmoaaDoorBittC
namespace Go.Proofs.YtjajpmemcfdmoaaDoor.Bitt
open Go.Sx
set_option maxRecDepth 100000

def E_row (x : List Int × Unit) : Prop :=
 ((((0 : Int) ≤ (0 : Int) ∧ (0 : Int) ≤ (4 : Int) ∧ List.replicate (256 : Nat) false = rowTo x.fst ((64 : Nat) * Int.toNat (0 : Int))) ∧ True) ∧
 ((True ∧ True) ∧ (True ∧ True) ∧ (x.fst = x.fst ∧ True) ∧ (0 : Int) = (0 : Int) ∧ True) ∧
 ((List.replicate (256 : Nat) false = List.replicate (256 : Nat) false ∧ True) ∧
 (List.replicate (256 : Nat) false = List.replicate (256 : Nat) false ∧ True) ∧ True) ∧
 True) ∧
 ∀ (g : List Bool × Int × Unit),
 (0 : Int) ≤ g.snd.fst ∧ g.snd.fst ≤ (4 : Int) ∧ g.fst = rowTo x.fst ((64 : Nat) * g.snd.fst.toNat) →
 (g.fst.length = (256 : Nat) ∧ ∀ (x : Bool), x ∈ g.fst → True) ∧
 ((-9223372036854775808 : Int) ≤ g.snd.fst ∧ g.snd.fst ≤ (9223372036854775807 : Int)) ∧ True →
 (decide (g.snd.fst < (4 : Int)) = true →
 ((0 : Int) ≤ g.snd.fst ∧ g.snd.fst < (↑(4 : Nat) : Int)) ∧
 ((((0 : Int) ≤ (0 : Int) ∧
 (0 : Int) ≤ (64 : Int) ∧
 g.fst = rowTo x.fst ((64 : Nat) * g.snd.fst.toNat + Int.toNat (0 : Int)) ∧
 x.fst.getD g.snd.fst.toNat (0 : Int) = x.fst.getD g.snd.fst.toNat (0 : Int) / (2 : Int) ^ Int.toNat (0 : Int)) ∧
 True) ∧
 ((True ∧ True) ∧
 (True ∧ True) ∧
 g.snd.fst = g.snd.fst ∧
 x.fst.getD g.snd.fst.toNat (0 : Int) = x.fst.getD g.snd.fst.toNat (0 : Int) ∧
 (x.fst = x.fst ∧ True) ∧ g.snd.fst = g.snd.fst ∧ (0 : Int) = (0 : Int) ∧ True) ∧
 ((g.fst = g.fst ∧ True) ∧ (List.replicate (256 : Nat) false = List.replicate (256 : Nat) false ∧ True) ∧ True) ∧ True) ∧
 ∀ (g_1 : List Bool × Int × Int × Unit),
 (0 : Int) ≤ g_1.snd.snd.fst ∧
 g_1.snd.snd.fst ≤ (64 : Int) ∧
 g_1.fst = rowTo x.fst ((64 : Nat) * g.snd.fst.toNat + g_1.snd.snd.fst.toNat) ∧
 g_1.snd.fst = x.fst.getD g.snd.fst.toNat (0 : Int) / (2 : Int) ^ g_1.snd.snd.fst.toNat →
 (g_1.fst.length = (256 : Nat) ∧ ∀ (x : Bool), x ∈ g_1.fst → True) ∧
 ((0 : Int) ≤ g_1.snd.fst ∧ g_1.snd.fst ≤ (18446744073709551615 : Int)) ∧
 ((-9223372036854775808 : Int) ≤ g_1.snd.snd.fst ∧ g_1.snd.snd.fst ≤ (9223372036854775807 : Int)) ∧ True →
 (decide (g_1.snd.snd.fst < (64 : Int)) = true →
 ((-9223372036854775808 : Int) ≤ (64 : Int) * g.snd.fst ∧ (64 : Int) * g.snd.fst ≤ (9223372036854775807 : Int)) ∧
 ((-9223372036854775808 : Int) ≤ (64 : Int) * g.snd.fst + g_1.snd.snd.fst ∧
 (64 : Int) * g.snd.fst + g_1.snd.snd.fst ≤ (9223372036854775807 : Int)) ∧
 ((0 : Int) ≤ g_1.snd.fst ∧ (0 : Int) < (2 : Int)) ∧
 ((0 : Int) ≤ (64 : Int) * g.snd.fst + g_1.snd.snd.fst ∧
 (64 : Int) * g.snd.fst + g_1.snd.snd.fst < (↑(256 : Nat) : Int)) ∧
 ((0 : Int) ≤ g_1.snd.fst ∧ (0 : Int) < (2 : Int)) ∧
 ((-9223372036854775808 : Int) ≤ g_1.snd.snd.fst + (1 : Int) ∧
 g_1.snd.snd.fst + (1 : Int) ≤ (9223372036854775807 : Int)) ∧
 (((0 : Int) ≤ g_1.snd.snd.fst + (1 : Int) ∧
 g_1.snd.snd.fst + (1 : Int) ≤ (64 : Int) ∧
 g_1.fst.set ((64 : Int) * g.snd.fst + g_1.snd.snd.fst).toNat (g_1.snd.fst % (2 : Int) == (1 : Int)) =
 rowTo x.fst ((64 : Nat) * g.snd.fst.toNat + (g_1.snd.snd.fst + (1 : Int)).toNat) ∧
 g_1.snd.fst / (2 : Int) =
 x.fst.getD g.snd.fst.toNat (0 : Int) / (2 : Int) ^ (g_1.snd.snd.fst + (1 : Int)).toNat) ∧
 ((64 : Int) - (g_1.snd.snd.fst + (1 : Int))).toNat < ((64 : Int) - g_1.snd.snd.fst).toNat) ∧
 ((True ∧ True) ∧
 (True ∧ True) ∧
 g.snd.fst = g.snd.fst ∧
 g_1.snd.fst / (2 : Int) = g_1.snd.fst / (2 : Int) ∧
 (x.fst = x.fst ∧ True) ∧
 g.snd.fst = g.snd.fst ∧ g_1.snd.snd.fst + (1 : Int) = g_1.snd.snd.fst + (1 : Int) ∧ True) ∧
 ((g_1.fst.set ((64 : Int) * g.snd.fst + g_1.snd.snd.fst).toNat (g_1.snd.fst % (2 : Int) == (1 : Int)) =
 g_1.fst.set ((64 : Int) * g.snd.fst + g_1.snd.snd.fst).toNat
 (g_1.snd.fst % (2 : Int) == (1 : Int)) ∧
 True) ∧
 (List.replicate (256 : Nat) false = List.replicate (256 : Nat) false ∧ True) ∧ True) ∧
 True) ∧
 (decide (g_1.snd.snd.fst < (64 : Int)) = false →
 ((-9223372036854775808 : Int) ≤ g.snd.fst + (1 : Int) ∧ g.snd.fst + (1 : Int) ≤ (9223372036854775807 : Int)) ∧
 (((0 : Int) ≤ g.snd.fst + (1 : Int) ∧
 g.snd.fst + (1 : Int) ≤ (4 : Int) ∧ g_1.fst = rowTo x.fst ((64 : Nat) * (g.snd.fst + (1 : Int)).toNat)) ∧
 ((4 : Int) - (g.snd.fst + (1 : Int))).toNat < ((4 : Int) - g.snd.fst).toNat) ∧
 ((True ∧ True) ∧ (True ∧ True) ∧ (x.fst = x.fst ∧ True) ∧ g.snd.fst + (1 : Int) = g.snd.fst + (1 : Int) ∧ True) ∧
 ((g_1.fst = g_1.fst ∧ True) ∧ (List.replicate (256 : Nat) false = List.replicate (256 : Nat) false ∧ True) ∧ True) ∧
 True)) ∧
 (decide (g.snd.fst < (4 : Int)) = false → g.fst = rowTo x.fst (256 : Nat))

theorem E_row_eq (x : HL (cRow : Ctr).as) : vc (fx_row x) 1 17 Tryd.f17 (cRow) x = E_row x := by kernel_rfl

def E_bits (x : List Bool × Unit) : Prop :=
 ((((-1 : Int) ≤ (255 : Int) ∧
 (255 : Int) ≤ (255 : Int) ∧
 (0 : Int) :: (0 : Int) :: (0 : Int) :: (0 : Int) :: ([] : List Int) = bitsTo (rf x.fst) ((255 : Int) + (1 : Int)).toNat) ∧
 True) ∧
 ((True ∧ True) ∧ (True ∧ True) ∧ (True ∧ True) ∧ (255 : Int) = (255 : Int) ∧ True) ∧
 (((0 : Int) :: (0 : Int) :: (0 : Int) :: (0 : Int) :: ([] : List Int) = (0 : Int) :: (0 : Int) :: (0 : Int) :: (0 : Int) :: ([] : List Int) ∧
 True) ∧
 (x.fst = x.fst ∧ True) ∧
 ((0 : Int) :: (0 : Int) :: (0 : Int) :: (0 : Int) :: ([] : List Int) =
 (0 : Int) :: (0 : Int) :: (0 : Int) :: (0 : Int) :: ([] : List Int) ∧
 True) ∧
 True) ∧
 True) ∧
 ∀ (g : List Int × Int × Unit),
 (-1 : Int) ≤ g.snd.fst ∧ g.snd.fst ≤ (255 : Int) ∧ g.fst = bitsTo (rf x.fst) (g.snd.fst + (1 : Int)).toNat →
 (g.fst.length = (4 : Nat) ∧ ∀ (x : Int), x ∈ g.fst → (0 : Int) ≤ x ∧ x ≤ (18446744073709551615 : Int)) ∧
 ((-9223372036854775808 : Int) ≤ g.snd.fst ∧ g.snd.fst ≤ (9223372036854775807 : Int)) ∧ True →
 (decide ((0 : Int) ≤ g.snd.fst) = true →
 ((0 : Int) ≤ g.snd.fst ∧ (0 : Int) < (64 : Int)) ∧
 ((0 : Int) ≤ g.snd.fst / (64 : Int) ∧ g.snd.fst / (64 : Int) < (↑(4 : Nat) : Int)) ∧
 ((0 : Int) ≤ g.fst.getD (g.snd.fst / (64 : Int)).toNat (0 : Int) * (2 : Int) ∧
 g.fst.getD (g.snd.fst / (64 : Int)).toNat (0 : Int) * (2 : Int) ≤ (18446744073709551615 : Int)) ∧
 ((0 : Int) ≤ g.snd.fst / (64 : Int) ∧ g.snd.fst / (64 : Int) < (↑(4 : Nat) : Int)) ∧
 ((0 : Int) ≤ g.snd.fst ∧ g.snd.fst < (↑(256 : Nat) : Int)) ∧
 (x.fst.getD g.snd.fst.toNat false = true →
 ((0 : Int) ≤ g.snd.fst ∧ (0 : Int) < (64 : Int)) ∧
 ((0 : Int) ≤ g.snd.fst / (64 : Int) ∧ g.snd.fst / (64 : Int) < (↑(4 : Nat) : Int)) ∧
 ((0 : Int) ≤
 (g.fst.set (g.snd.fst / (64 : Int)).toNat (g.fst.getD (g.snd.fst / (64 : Int)).toNat (0 : Int) * (2 : Int))).getD
 (g.snd.fst / (64 : Int)).toNat (0 : Int) +
 (1 : Int) ∧
 (g.fst.set (g.snd.fst / (64 : Int)).toNat (g.fst.getD (g.snd.fst / (64 : Int)).toNat (0 : Int) * (2 : Int))).getD
 (g.snd.fst / (64 : Int)).toNat (0 : Int) +
 (1 : Int) ≤
 (18446744073709551615 : Int)) ∧
 ((0 : Int) ≤ g.snd.fst / (64 : Int) ∧ g.snd.fst / (64 : Int) < (↑(4 : Nat) : Int)) ∧
 ((-9223372036854775808 : Int) ≤ g.snd.fst - (1 : Int) ∧ g.snd.fst - (1 : Int) ≤ (9223372036854775807 : Int)) ∧
 (((-1 : Int) ≤ g.snd.fst - (1 : Int) ∧
 g.snd.fst - (1 : Int) ≤ (255 : Int) ∧
 (g.fst.set (g.snd.fst / (64 : Int)).toNat
 (g.fst.getD (g.snd.fst / (64 : Int)).toNat (0 : Int) * (2 : Int))).set
 (g.snd.fst / (64 : Int)).toNat
 ((g.fst.set (g.snd.fst / (64 : Int)).toNat
 (g.fst.getD (g.snd.fst / (64 : Int)).toNat (0 : Int) * (2 : Int))).getD
 (g.snd.fst / (64 : Int)).toNat (0 : Int) +
 (1 : Int)) =
 bitsTo (rf x.fst) (g.snd.fst - (1 : Int) + (1 : Int)).toNat) ∧
 (g.snd.fst - (1 : Int) + (1 : Int)).toNat < (g.snd.fst + (1 : Int)).toNat) ∧
 ((True ∧ True) ∧ (True ∧ True) ∧ (True ∧ True) ∧ g.snd.fst - (1 : Int) = g.snd.fst - (1 : Int) ∧ True) ∧
 (((g.fst.set (g.snd.fst / (64 : Int)).toNat
 (g.fst.getD (g.snd.fst / (64 : Int)).toNat (0 : Int) * (2 : Int))).set
 (g.snd.fst / (64 : Int)).toNat
 ((g.fst.set (g.snd.fst / (64 : Int)).toNat
 (g.fst.getD (g.snd.fst / (64 : Int)).toNat (0 : Int) * (2 : Int))).getD
 (g.snd.fst / (64 : Int)).toNat (0 : Int) +
 (1 : Int)) =
 (g.fst.set (g.snd.fst / (64 : Int)).toNat
 (g.fst.getD (g.snd.fst / (64 : Int)).toNat (0 : Int) * (2 : Int))).set
 (g.snd.fst / (64 : Int)).toNat
 ((g.fst.set (g.snd.fst / (64 : Int)).toNat
 (g.fst.getD (g.snd.fst / (64 : Int)).toNat (0 : Int) * (2 : Int))).getD
 (g.snd.fst / (64 : Int)).toNat (0 : Int) +
 (1 : Int)) ∧
 True) ∧
 (x.fst = x.fst ∧ True) ∧
 ((0 : Int) :: (0 : Int) :: (0 : Int) :: (0 : Int) :: ([] : List Int) =
 (0 : Int) :: (0 : Int) :: (0 : Int) :: (0 : Int) :: ([] : List Int) ∧
 True) ∧
 True) ∧
 True) ∧
 (x.fst.getD g.snd.fst.toNat false = false →
 ((-9223372036854775808 : Int) ≤ g.snd.fst - (1 : Int) ∧ g.snd.fst - (1 : Int) ≤ (9223372036854775807 : Int)) ∧
 (((-1 : Int) ≤ g.snd.fst - (1 : Int) ∧
 g.snd.fst - (1 : Int) ≤ (255 : Int) ∧
 g.fst.set (g.snd.fst / (64 : Int)).toNat (g.fst.getD (g.snd.fst / (64 : Int)).toNat (0 : Int) * (2 : Int)) =
 bitsTo (rf x.fst) (g.snd.fst - (1 : Int) + (1 : Int)).toNat) ∧
 (g.snd.fst - (1 : Int) + (1 : Int)).toNat < (g.snd.fst + (1 : Int)).toNat) ∧
 ((True ∧ True) ∧ (True ∧ True) ∧ (True ∧ True) ∧ g.snd.fst - (1 : Int) = g.snd.fst - (1 : Int) ∧ True) ∧
 ((g.fst.set (g.snd.fst / (64 : Int)).toNat (g.fst.getD (g.snd.fst / (64 : Int)).toNat (0 : Int) * (2 : Int)) =
 g.fst.set (g.snd.fst / (64 : Int)).toNat (g.fst.getD (g.snd.fst / (64 : Int)).toNat (0 : Int) * (2 : Int)) ∧
 True) ∧
 (x.fst = x.fst ∧ True) ∧
 ((0 : Int) :: (0 : Int) :: (0 : Int) :: (0 : Int) :: ([] : List Int) =
 (0 : Int) :: (0 : Int) :: (0 : Int) :: (0 : Int) :: ([] : List Int) ∧
 True) ∧
 True) ∧
 True)) ∧
 (decide ((0 : Int) ≤ g.snd.fst) = false → g.fst = bitsTo (rf x.fst) (0 : Nat))

theorem E_bits_eq (x : HL (cBits : Ctr).as) : vc (fx_bits x) 1 18 Tryd.f18 (cBits) x = E_bits x := by kernel_rfl

def E_lead (x : Int × Unit) : Prop :=
 Holds True ∧
 ((-9223372036854775808 : Int) ≤ (64 : Int) - (↑(Lib.bitLen x.fst.toNat) : Int) ∧
 (64 : Int) - (↑(Lib.bitLen x.fst.toNat) : Int) ≤ (9223372036854775807 : Int)) ∧
 (64 : Int) - (↑(Lib.bitLen x.fst.toNat) : Int) = (64 : Int) - (↑(Lib.bitLen x.fst.toNat) : Int)

theorem E_lead_eq (x : HL (cLead : Ctr).as) : vc (fx_lead x) 1 19 Tryd.f19 (cLead) x = E_lead x := by kernel_rfl

def E_fits (x : Int × Unit) : Prop :=
 (decide ((0 : Int) ≤ x.fst) = true → decide ((0 : Int) ≤ x.fst) = true) ∧
 (decide ((0 : Int) ≤ x.fst) = true → decide ((0 : Int) ≤ x.fst) = true) ∧ (decide ((0 : Int) ≤ x.fst) && decide (x.fst < (256 : Int))) = fits x.fst

theorem E_fits_eq (x : HL (cFits : Ctr).as) : vc (fx_fits x) 1 16 Tryd.f16 (cFits) x = E_fits x := by kernel_rfl

def E_has (x : List Int × Int × Unit) : Prop :=
 Holds True ∧
 (fits x.snd.fst = true → fits x.snd.fst = true ∧ (0 : Int) ≤ x.snd.fst ∧ (0 : Int) < (64 : Int)) ∧
 (fits x.snd.fst = true → fits x.snd.fst = true ∧ (0 : Int) ≤ x.snd.fst / (64 : Int) ∧ x.snd.fst / (64 : Int) < (↑(4 : Nat) : Int)) ∧
 (fits x.snd.fst = true → fits x.snd.fst = true) ∧
 (fits x.snd.fst = true → fits x.snd.fst = true ∧ (0 : Int) ≤ x.snd.fst ∧ (0 : Int) < (64 : Int)) ∧
 (fits x.snd.fst = true → (fits x.snd.fst = true ∧ fits x.snd.fst = true) ∧ (0 : Int) ≤ x.snd.fst % (64 : Int)) ∧
 (fits x.snd.fst = true → fits x.snd.fst = true) ∧
 (fits x.snd.fst = true → fits x.snd.fst = true) ∧
 (fits x.snd.fst = true → fits x.snd.fst = true) ∧
 (fits x.snd.fst &&
 bits BinOp.and IntKind.u64
 (x.fst.getD (x.snd.fst / (64 : Int)).toNat (0 : Int) / (2 : Int) ^ min (x.snd.fst % (64 : Int)).toNat IntKind.u64.bits)
 (1 : Int) ==
 (1 : Int)) =
 hasB x.fst x.snd.fst

theorem E_has_eq (x : HL (cHas : Ctr).as) : vc (fx_has x) 1 4 Tryd.f4 (cHas) x = E_has x := by kernel_rfl

def E_with (x : List Int × Int × Unit) : Prop :=
 Holds True ∧
 (fits x.snd.fst = true →
 ((0 : Int) ≤ x.snd.fst ∧ (0 : Int) < (64 : Int)) ∧
 ((0 : Int) ≤ x.snd.fst / (64 : Int) ∧ x.snd.fst / (64 : Int) < (↑(4 : Nat) : Int)) ∧
 ((0 : Int) ≤ x.snd.fst ∧ (0 : Int) < (64 : Int)) ∧
 (0 : Int) ≤ x.snd.fst % (64 : Int) ∧
 ((0 : Int) ≤ x.snd.fst / (64 : Int) ∧ x.snd.fst / (64 : Int) < (↑(4 : Nat) : Int)) ∧
 x.fst.set (x.snd.fst / (64 : Int)).toNat
 (bits BinOp.or IntKind.u64 (x.fst.getD (x.snd.fst / (64 : Int)).toNat (0 : Int))
 (IntKind.u64.wrap ((1 : Int) * (2 : Int) ^ min (x.snd.fst % (64 : Int)).toNat IntKind.u64.bits))) =
 putB x.fst x.snd.fst true) ∧
 (fits x.snd.fst = false → x.fst = putB x.fst x.snd.fst true)

theorem E_with_eq (x : HL (cWith : Ctr).as) : vc (fx_with x) 1 6 Tryd.f6 (cWith) x = E_with x := by kernel_rfl

def E_without (x : List Int × Int × Unit) : Prop :=
 Holds True ∧
 (fits x.snd.fst = true →
 ((0 : Int) ≤ x.snd.fst ∧ (0 : Int) < (64 : Int)) ∧
 ((0 : Int) ≤ x.snd.fst / (64 : Int) ∧ x.snd.fst / (64 : Int) < (↑(4 : Nat) : Int)) ∧
 ((0 : Int) ≤ x.snd.fst ∧ (0 : Int) < (64 : Int)) ∧
 (0 : Int) ≤ x.snd.fst % (64 : Int) ∧
 ((0 : Int) ≤ x.snd.fst / (64 : Int) ∧ x.snd.fst / (64 : Int) < (↑(4 : Nat) : Int)) ∧
 x.fst.set (x.snd.fst / (64 : Int)).toNat
 (bits BinOp.andNot IntKind.u64 (x.fst.getD (x.snd.fst / (64 : Int)).toNat (0 : Int))
 (IntKind.u64.wrap ((1 : Int) * (2 : Int) ^ min (x.snd.fst % (64 : Int)).toNat IntKind.u64.bits))) =
 putB x.fst x.snd.fst false) ∧
 (fits x.snd.fst = false → x.fst = putB x.fst x.snd.fst false)

theorem E_without_eq (x : HL (cWithout : Ctr).as) : vc (fx_without x) 1 8 Tryd.f8 (cWithout) x = E_without x := by kernel_rfl

def E_top (x : List Int × Unit) : Prop :=
 ((((-1 : Int) ≤ (3 : Int) ∧ (3 : Int) ≤ (3 : Int) ∧ x.fst = x.fst ∧ topOf x.fst = topB (bitN x.fst) ((64 : Nat) * ((3 : Int) + (1 : Int)).toNat)) ∧
 True) ∧
 ((True ∧ True) ∧ (3 : Int) = (3 : Int) ∧ True) ∧ ((x.fst = x.fst ∧ True) ∧ True) ∧ True) ∧
 ∀ (g : List Int × Int × Unit),
 (-1 : Int) ≤ g.snd.fst ∧ g.snd.fst ≤ (3 : Int) ∧ g.fst = x.fst ∧ topOf x.fst = topB (bitN x.fst) ((64 : Nat) * (g.snd.fst + (1 : Int)).toNat) →
 (g.fst.length = (4 : Nat) ∧ ∀ (x : Int), x ∈ g.fst → (0 : Int) ≤ x ∧ x ≤ (18446744073709551615 : Int)) ∧
 ((-9223372036854775808 : Int) ≤ g.snd.fst ∧ g.snd.fst ≤ (9223372036854775807 : Int)) ∧ True →
 (decide ((0 : Int) ≤ g.snd.fst) = true →
 ((0 : Int) ≤ g.snd.fst ∧ g.snd.fst < (↑(4 : Nat) : Int)) ∧
 ((g.fst.getD g.snd.fst.toNat (0 : Int) != (0 : Int)) = true →
 ((-9223372036854775808 : Int) ≤ (64 : Int) * g.snd.fst ∧ (64 : Int) * g.snd.fst ≤ (9223372036854775807 : Int)) ∧
 ((-9223372036854775808 : Int) ≤ (64 : Int) * g.snd.fst + (63 : Int) ∧
 (64 : Int) * g.snd.fst + (63 : Int) ≤ (9223372036854775807 : Int)) ∧
 ((0 : Int) ≤ g.snd.fst ∧ g.snd.fst < (↑(4 : Nat) : Int)) ∧
 Holds True ∧
 ((-9223372036854775808 : Int) ≤
 (64 : Int) * g.snd.fst + (63 : Int) -
 ((64 : Int) - (↑(Lib.bitLen (g.fst.getD g.snd.fst.toNat (0 : Int)).toNat) : Int)) ∧
 (64 : Int) * g.snd.fst + (63 : Int) -
 ((64 : Int) - (↑(Lib.bitLen (g.fst.getD g.snd.fst.toNat (0 : Int)).toNat) : Int)) ≤
 (9223372036854775807 : Int)) ∧
 (64 : Int) * g.snd.fst + (63 : Int) - ((64 : Int) - (↑(Lib.bitLen (g.fst.getD g.snd.fst.toNat (0 : Int)).toNat) : Int)) =
 topOf x.fst) ∧
 ((g.fst.getD g.snd.fst.toNat (0 : Int) != (0 : Int)) = false →
 ((-9223372036854775808 : Int) ≤ g.snd.fst - (1 : Int) ∧ g.snd.fst - (1 : Int) ≤ (9223372036854775807 : Int)) ∧
 (((-1 : Int) ≤ g.snd.fst - (1 : Int) ∧
 g.snd.fst - (1 : Int) ≤ (3 : Int) ∧
 g.fst = x.fst ∧ topOf x.fst = topB (bitN x.fst) ((64 : Nat) * (g.snd.fst - (1 : Int) + (1 : Int)).toNat)) ∧
 (g.snd.fst - (1 : Int) + (1 : Int)).toNat < (g.snd.fst + (1 : Int)).toNat) ∧
 ((True ∧ True) ∧ g.snd.fst - (1 : Int) = g.snd.fst - (1 : Int) ∧ True) ∧ ((g.fst = g.fst ∧ True) ∧ True) ∧ True)) ∧
 (decide ((0 : Int) ≤ g.snd.fst) = false → (-1 : Int) = topOf x.fst)

theorem E_top_eq (x : HL (cTop : Ctr).as) : vc (fx_top x) 1 9 Tryd.f9 (cTop) x = E_top x := by kernel_rfl

def E_next (x : List Int × Int × Unit) : Prop :=
 Holds True ∧
 ((!fits (max x.snd.fst (0 : Int))) = true → (-1 : Int) = nextOf x.fst x.snd.fst) ∧
 ((!fits (max x.snd.fst (0 : Int))) = false →
 ((0 : Int) ≤ max x.snd.fst (0 : Int) ∧ (0 : Int) < (64 : Int)) ∧
 ((0 : Int) ≤ max x.snd.fst (0 : Int) / (64 : Int) ∧ max x.snd.fst (0 : Int) / (64 : Int) < (↑(4 : Nat) : Int)) ∧
 ((0 : Int) ≤ max x.snd.fst (0 : Int) ∧ (0 : Int) < (64 : Int)) ∧
 (0 : Int) ≤ max x.snd.fst (0 : Int) % (64 : Int) ∧
 ((0 : Int) ≤ IntKind.u64.wrap ((1 : Int) * (2 : Int) ^ min (max x.snd.fst (0 : Int) % (64 : Int)).toNat IntKind.u64.bits) - (1 : Int) ∧
 IntKind.u64.wrap ((1 : Int) * (2 : Int) ^ min (max x.snd.fst (0 : Int) % (64 : Int)).toNat IntKind.u64.bits) - (1 : Int) ≤
 (18446744073709551615 : Int)) ∧
 ((0 : Int) ≤ max x.snd.fst (0 : Int) / (64 : Int) ∧ max x.snd.fst (0 : Int) / (64 : Int) < (↑(4 : Nat) : Int)) ∧
 ((0 : Int) ≤ max x.snd.fst (0 : Int) ∧ (0 : Int) < (64 : Int)) ∧
 ((((0 : Int) ≤ max x.snd.fst (0 : Int) / (64 : Int) ∧
 max x.snd.fst (0 : Int) / (64 : Int) ≤ (4 : Int) ∧
 nextOf x.fst x.snd.fst =
 nextB
 (bitN
 (x.fst.set (max x.snd.fst (0 : Int) / (64 : Int)).toNat
 (bits BinOp.andNot IntKind.u64 (x.fst.getD (max x.snd.fst (0 : Int) / (64 : Int)).toNat (0 : Int))
 (IntKind.u64.wrap
 ((1 : Int) * (2 : Int) ^ min (max x.snd.fst (0 : Int) % (64 : Int)).toNat IntKind.u64.bits) -
 (1 : Int)))))
 ((64 : Nat) * (max x.snd.fst (0 : Int) / (64 : Int)).toNat)
 ((64 : Nat) * ((4 : Int) - max x.snd.fst (0 : Int) / (64 : Int)).toNat)) ∧
 True) ∧
 ((True ∧ True) ∧ max x.snd.fst (0 : Int) / (64 : Int) = max x.snd.fst (0 : Int) / (64 : Int) ∧ True) ∧
 ((x.fst.set (max x.snd.fst (0 : Int) / (64 : Int)).toNat
 (bits BinOp.andNot IntKind.u64 (x.fst.getD (max x.snd.fst (0 : Int) / (64 : Int)).toNat (0 : Int))
 (IntKind.u64.wrap ((1 : Int) * (2 : Int) ^ min (max x.snd.fst (0 : Int) % (64 : Int)).toNat IntKind.u64.bits) -
 (1 : Int))) =
 x.fst.set (max x.snd.fst (0 : Int) / (64 : Int)).toNat
 (bits BinOp.andNot IntKind.u64 (x.fst.getD (max x.snd.fst (0 : Int) / (64 : Int)).toNat (0 : Int))
 (IntKind.u64.wrap ((1 : Int) * (2 : Int) ^ min (max x.snd.fst (0 : Int) % (64 : Int)).toNat IntKind.u64.bits) -
 (1 : Int))) ∧
 True) ∧
 True) ∧
 True) ∧
 ∀ (g : List Int × Int × Unit),
 (0 : Int) ≤ g.snd.fst ∧
 g.snd.fst ≤ (4 : Int) ∧
 nextOf x.fst x.snd.fst =
 nextB (bitN g.fst) ((64 : Nat) * g.snd.fst.toNat) ((64 : Nat) * ((4 : Int) - g.snd.fst).toNat) →
 (g.fst.length = (4 : Nat) ∧ ∀ (x : Int), x ∈ g.fst → (0 : Int) ≤ x ∧ x ≤ (18446744073709551615 : Int)) ∧
 ((-9223372036854775808 : Int) ≤ g.snd.fst ∧ g.snd.fst ≤ (9223372036854775807 : Int)) ∧ True →
 (decide (g.snd.fst < (4 : Int)) = true →
 ((0 : Int) ≤ g.snd.fst ∧ g.snd.fst < (↑(4 : Nat) : Int)) ∧
 ((g.fst.getD g.snd.fst.toNat (0 : Int) != (0 : Int)) = true →
 ((-9223372036854775808 : Int) ≤ (64 : Int) * g.snd.fst ∧ (64 : Int) * g.snd.fst ≤ (9223372036854775807 : Int)) ∧
 ((0 : Int) ≤ g.snd.fst ∧ g.snd.fst < (↑(4 : Nat) : Int)) ∧
 Holds True ∧
 ((-9223372036854775808 : Int) ≤
 (64 : Int) * g.snd.fst +
 (↑(Lib.ctz (64 : Nat) (g.fst.getD g.snd.fst.toNat (0 : Int)).toNat) : Int) ∧
 (64 : Int) * g.snd.fst + (↑(Lib.ctz (64 : Nat) (g.fst.getD g.snd.fst.toNat (0 : Int)).toNat) : Int) ≤
 (9223372036854775807 : Int)) ∧
 (64 : Int) * g.snd.fst + (↑(Lib.ctz (64 : Nat) (g.fst.getD g.snd.fst.toNat (0 : Int)).toNat) : Int) =
 nextOf x.fst x.snd.fst) ∧
 ((g.fst.getD g.snd.fst.toNat (0 : Int) != (0 : Int)) = false →
 ((-9223372036854775808 : Int) ≤ g.snd.fst + (1 : Int) ∧ g.snd.fst + (1 : Int) ≤ (9223372036854775807 : Int)) ∧
 (((0 : Int) ≤ g.snd.fst + (1 : Int) ∧
 g.snd.fst + (1 : Int) ≤ (4 : Int) ∧
 nextOf x.fst x.snd.fst =
 nextB (bitN g.fst) ((64 : Nat) * (g.snd.fst + (1 : Int)).toNat)
 ((64 : Nat) * ((4 : Int) - (g.snd.fst + (1 : Int))).toNat)) ∧
 ((4 : Int) - (g.snd.fst + (1 : Int))).toNat < ((4 : Int) - g.snd.fst).toNat) ∧
 ((True ∧ True) ∧ g.snd.fst + (1 : Int) = g.snd.fst + (1 : Int) ∧ True) ∧
 ((g.fst = g.fst ∧ True) ∧ True) ∧ True)) ∧
 (decide (g.snd.fst < (4 : Int)) = false → (-1 : Int) = nextOf x.fst x.snd.fst))

theorem E_next_eq (x : HL (cNext : Ctr).as) : vc (fx_next x) 1 11 Tryd.f11 (cNext) x = E_next x := by kernel_rfl

def E_all (x : List Int × Unit) : Prop :=
 Holds True ∧
 (((x.fst = x.fst ∧
 (-1 : Int) ≤ nextOf x.fst (0 : Int) ∧
 nextOf x.fst (0 : Int) ≤ (255 : Int) ∧
 (↑([] : List Int).length : Int) ≤ (256 : Int) ∧
 (nextOf x.fst (0 : Int) = (-1 : Int) ∧ ([] : List Int) = allOf x.fst ∨
 (0 : Int) ≤ nextOf x.fst (0 : Int) ∧
 bitN x.fst (nextOf x.fst (0 : Int)).toNat = true ∧ ([] : List Int) = allB (bitN x.fst) (nextOf x.fst (0 : Int)).toNat)) ∧
 True) ∧
 ((True ∧ True) ∧ True ∧ nextOf x.fst (0 : Int) = nextOf x.fst (0 : Int) ∧ True) ∧
 ((x.fst = x.fst ∧ True) ∧ ([] : List Int) = ([] : List Int) ∧ True) ∧ True) ∧
 ∀ (g : List Int × List Int × Int × Unit),
 g.fst = x.fst ∧
 (-1 : Int) ≤ g.snd.snd.fst ∧
 g.snd.snd.fst ≤ (255 : Int) ∧
 (↑g.snd.fst.length : Int) ≤ (256 : Int) ∧
 (g.snd.snd.fst = (-1 : Int) ∧ g.snd.fst = allOf x.fst ∨
 (0 : Int) ≤ g.snd.snd.fst ∧ bitN x.fst g.snd.snd.fst.toNat = true ∧ g.snd.fst = allB (bitN x.fst) g.snd.snd.fst.toNat) →
 (g.fst.length = (4 : Nat) ∧ ∀ (x : Int), x ∈ g.fst → (0 : Int) ≤ x ∧ x ≤ (18446744073709551615 : Int)) ∧
 (g.snd.fst.length ≤ (9223372036854775807 : Nat) ∧
 ∀ (x : Int), x ∈ g.snd.fst → (-9223372036854775808 : Int) ≤ x ∧ x ≤ (9223372036854775807 : Int)) ∧
 ((-9223372036854775808 : Int) ≤ g.snd.snd.fst ∧ g.snd.snd.fst ≤ (9223372036854775807 : Int)) ∧ True →
 (decide ((0 : Int) ≤ g.snd.snd.fst) = true →
 (g.snd.fst.length + (((0 : Int) :: ([] : List Int)).set (0 : Nat) g.snd.snd.fst).length ≤ (9223372036854775807 : Nat) ∧
 (g.snd.fst.length + (((0 : Int) :: ([] : List Int)).set (0 : Nat) g.snd.snd.fst).length +
 (g.snd.fst.length + (((0 : Int) :: ([] : List Int)).set (0 : Nat) g.snd.snd.fst).length) / (4 : Nat) +
 (192 : Nat)) *
 (8 : Nat) ≤
 (281474976710656 : Nat)) ∧
 ((-9223372036854775808 : Int) ≤ g.snd.snd.fst + (1 : Int) ∧ g.snd.snd.fst + (1 : Int) ≤ (9223372036854775807 : Int)) ∧
 Holds True ∧
 ((g.fst = x.fst ∧
 (-1 : Int) ≤ nextOf g.fst (g.snd.snd.fst + (1 : Int)) ∧
 nextOf g.fst (g.snd.snd.fst + (1 : Int)) ≤ (255 : Int) ∧
 (↑(g.snd.fst ++ ((0 : Int) :: ([] : List Int)).set (0 : Nat) g.snd.snd.fst).length : Int) ≤ (256 : Int) ∧
 (nextOf g.fst (g.snd.snd.fst + (1 : Int)) = (-1 : Int) ∧
 g.snd.fst ++ ((0 : Int) :: ([] : List Int)).set (0 : Nat) g.snd.snd.fst = allOf x.fst ∨
 (0 : Int) ≤ nextOf g.fst (g.snd.snd.fst + (1 : Int)) ∧
 bitN x.fst (nextOf g.fst (g.snd.snd.fst + (1 : Int))).toNat = true ∧
 g.snd.fst ++ ((0 : Int) :: ([] : List Int)).set (0 : Nat) g.snd.snd.fst =
 allB (bitN x.fst) (nextOf g.fst (g.snd.snd.fst + (1 : Int))).toNat)) ∧
 ((256 : Int) -
 if nextOf g.fst (g.snd.snd.fst + (1 : Int)) = (-1 : Int) then (256 : Int)
 else nextOf g.fst (g.snd.snd.fst + (1 : Int))).toNat <
 ((256 : Int) - if g.snd.snd.fst = (-1 : Int) then (256 : Int) else g.snd.snd.fst).toNat) ∧
 ((True ∧ True) ∧ True ∧ nextOf g.fst (g.snd.snd.fst + (1 : Int)) = nextOf g.fst (g.snd.snd.fst + (1 : Int)) ∧ True) ∧
 ((g.fst = g.fst ∧ True) ∧
 g.snd.fst ++ ((0 : Int) :: ([] : List Int)).set (0 : Nat) g.snd.snd.fst =
 g.snd.fst ++ ((0 : Int) :: ([] : List Int)).set (0 : Nat) g.snd.snd.fst ∧
 True) ∧
 True) ∧
 (decide ((0 : Int) ≤ g.snd.snd.fst) = false → g.snd.fst = allOf x.fst)

theorem E_all_eq (x : HL (cAll : Ctr).as) : vc (fx_all x) 1 14 Tryd.f14 (cAll) x = E_all x := by kernel_rfl

def E_aall (x : List Int × Unit) : Prop :=
 Holds True ∧
 ((((0 : Int) ≤ (0 : Int) ∧ (0 : Int) ≤ (256 : Int) ∧ ([] : List Int) = allB (bitN x.fst) (Int.toNat (0 : Int))) ∧ True) ∧
 (True ∧ rowTo x.fst (256 : Nat) = rowTo x.fst (256 : Nat) ∧ (0 : Int) = (0 : Int) ∧ True) ∧ (([] : List Int) = ([] : List Int) ∧ True) ∧ True) ∧
 ∀ (g : List Int × Int × Unit),
 (0 : Int) ≤ g.snd.fst ∧ g.snd.fst ≤ (256 : Int) ∧ g.fst = allB (bitN x.fst) g.snd.fst.toNat →
 (g.fst.length ≤ (9223372036854775807 : Nat) ∧ ∀ (x : Int), x ∈ g.fst → (-9223372036854775808 : Int) ≤ x ∧ x ≤ (9223372036854775807 : Int)) ∧
 ((-9223372036854775808 : Int) ≤ g.snd.fst ∧ g.snd.fst ≤ (9223372036854775807 : Int)) ∧ True →
 (decide (g.snd.fst < (256 : Int)) = true →
 ((0 : Int) ≤ g.snd.fst ∧ g.snd.fst < (↑(256 : Nat) : Int)) ∧
 ((rowTo x.fst (256 : Nat)).getD g.snd.fst.toNat false = true →
 (g.fst.length + (((0 : Int) :: ([] : List Int)).set (0 : Nat) g.snd.fst).length ≤ (9223372036854775807 : Nat) ∧
 (g.fst.length + (((0 : Int) :: ([] : List Int)).set (0 : Nat) g.snd.fst).length +
 (g.fst.length + (((0 : Int) :: ([] : List Int)).set (0 : Nat) g.snd.fst).length) / (4 : Nat) +
 (192 : Nat)) *
 (8 : Nat) ≤
 (281474976710656 : Nat)) ∧
 ((-9223372036854775808 : Int) ≤ g.snd.fst + (1 : Int) ∧ g.snd.fst + (1 : Int) ≤ (9223372036854775807 : Int)) ∧
 (((0 : Int) ≤ g.snd.fst + (1 : Int) ∧
 g.snd.fst + (1 : Int) ≤ (256 : Int) ∧
 g.fst ++ ((0 : Int) :: ([] : List Int)).set (0 : Nat) g.snd.fst = allB (bitN x.fst) (g.snd.fst + (1 : Int)).toNat) ∧
 ((256 : Int) - (g.snd.fst + (1 : Int))).toNat < ((256 : Int) - g.snd.fst).toNat) ∧
 (True ∧ rowTo x.fst (256 : Nat) = rowTo x.fst (256 : Nat) ∧ g.snd.fst + (1 : Int) = g.snd.fst + (1 : Int) ∧ True) ∧
 (g.fst ++ ((0 : Int) :: ([] : List Int)).set (0 : Nat) g.snd.fst =
 g.fst ++ ((0 : Int) :: ([] : List Int)).set (0 : Nat) g.snd.fst ∧
 True) ∧
 True) ∧
 ((rowTo x.fst (256 : Nat)).getD g.snd.fst.toNat false = false →
 ((-9223372036854775808 : Int) ≤ g.snd.fst + (1 : Int) ∧ g.snd.fst + (1 : Int) ≤ (9223372036854775807 : Int)) ∧
 (((0 : Int) ≤ g.snd.fst + (1 : Int) ∧
 g.snd.fst + (1 : Int) ≤ (256 : Int) ∧ g.fst = allB (bitN x.fst) (g.snd.fst + (1 : Int)).toNat) ∧
 ((256 : Int) - (g.snd.fst + (1 : Int))).toNat < ((256 : Int) - g.snd.fst).toNat) ∧
 (True ∧ rowTo x.fst (256 : Nat) = rowTo x.fst (256 : Nat) ∧ g.snd.fst + (1 : Int) = g.snd.fst + (1 : Int) ∧ True) ∧
 (g.fst = g.fst ∧ True) ∧ True)) ∧
 (decide (g.snd.fst < (256 : Int)) = false → g.fst = allOf x.fst)

theorem E_aall_eq (x : HL (cAll : Ctr).as) : vc (fx_aall x) 1 15 Tryd.f15 (cAll) x = E_aall x := by kernel_rfl

def E_atop (x : List Int × Unit) : Prop :=
 Holds True ∧
 ((((0 : Int) ≤ (0 : Int) ∧
 (0 : Int) ≤ (↑(allOf x.fst).length : Int) ∧
 (-1 : Int) = if (0 : Int) = (0 : Int) then (-1 : Int) else (allOf x.fst).getD ((0 : Int) - (1 : Int)).toNat (0 : Int)) ∧
 True) ∧
 ((-1 : Int) = (-1 : Int) ∧
 allOf x.fst = allOf x.fst ∧ (↑(allOf x.fst).length : Int) = (↑(allOf x.fst).length : Int) ∧ (0 : Int) = (0 : Int) ∧ True) ∧
 True ∧ True) ∧
 ∀ (g : Int × Int × Unit),
 ((0 : Int) ≤ g.snd.fst ∧
 g.snd.fst ≤ (↑(allOf x.fst).length : Int) ∧
 g.fst = if g.snd.fst = (0 : Int) then (-1 : Int) else (allOf x.fst).getD (g.snd.fst - (1 : Int)).toNat (0 : Int)) →
 ((-9223372036854775808 : Int) ≤ g.fst ∧ g.fst ≤ (9223372036854775807 : Int)) ∧
 ((-9223372036854775808 : Int) ≤ g.snd.fst ∧ g.snd.fst ≤ (9223372036854775807 : Int)) ∧ True →
 (decide (g.snd.fst < (↑(allOf x.fst).length : Int)) = true →
 ((0 : Int) ≤ g.snd.fst ∧ g.snd.fst < (↑(allOf x.fst).length : Int)) ∧
 ((-9223372036854775808 : Int) ≤ g.snd.fst + (1 : Int) ∧ g.snd.fst + (1 : Int) ≤ (9223372036854775807 : Int)) ∧
 (((0 : Int) ≤ g.snd.fst + (1 : Int) ∧
 g.snd.fst + (1 : Int) ≤ (↑(allOf x.fst).length : Int) ∧
 (allOf x.fst).getD g.snd.fst.toNat (0 : Int) =
 if g.snd.fst + (1 : Int) = (0 : Int) then (-1 : Int)
 else (allOf x.fst).getD (g.snd.fst + (1 : Int) - (1 : Int)).toNat (0 : Int)) ∧
 ((↑(allOf x.fst).length : Int) - (g.snd.fst + (1 : Int))).toNat < ((↑(allOf x.fst).length : Int) - g.snd.fst).toNat) ∧
 ((allOf x.fst).getD g.snd.fst.toNat (0 : Int) = (allOf x.fst).getD g.snd.fst.toNat (0 : Int) ∧
 allOf x.fst = allOf x.fst ∧
 (↑(allOf x.fst).length : Int) = (↑(allOf x.fst).length : Int) ∧ g.snd.fst + (1 : Int) = g.snd.fst + (1 : Int) ∧ True) ∧
 True ∧ True) ∧
 (decide (g.snd.fst < (↑(allOf x.fst).length : Int)) = false → g.fst = topOf x.fst)

theorem E_atop_eq (x : HL (cTop : Ctr).as) : vc (fx_atop x) 1 10 Tryd.f10 (cTop) x = E_atop x := by kernel_rfl

def E_aset (x : List Int × Int × Bool × Unit) : Prop :=
 Holds True ∧
 (decide ((0 : Int) ≤ x.snd.fst) = true → decide ((0 : Int) ≤ x.snd.fst) = true) ∧
 (decide ((0 : Int) ≤ x.snd.fst) = true → decide ((0 : Int) ≤ x.snd.fst) = true) ∧
 ((decide ((0 : Int) ≤ x.snd.fst) && decide (x.snd.fst < (256 : Int))) = true →
 ((0 : Int) ≤ x.snd.fst ∧ x.snd.fst < (↑(256 : Nat) : Int)) ∧
 Holds True ∧ bitsTo (rf ((rowTo x.fst (256 : Nat)).set x.snd.fst.toNat x.snd.snd.fst)) (0 : Nat) = putB x.fst x.snd.fst x.snd.snd.fst) ∧
 ((decide ((0 : Int) ≤ x.snd.fst) && decide (x.snd.fst < (256 : Int))) = false →
 Holds True ∧ bitsTo (rf (rowTo x.fst (256 : Nat))) (0 : Nat) = putB x.fst x.snd.fst x.snd.snd.fst)

theorem E_aset_eq (x : HL (cASet : Ctr).as) : vc (fx_aset x) 1 7 Tryd.f7 (cASet) x = E_aset x := by kernel_rfl

def E_ahas (x : List Int × Int × Unit) : Prop :=
 (decide ((0 : Int) ≤ x.snd.fst) = true → decide ((0 : Int) ≤ x.snd.fst) = true) ∧
 (decide ((0 : Int) ≤ x.snd.fst) = true → decide ((0 : Int) ≤ x.snd.fst) = true) ∧
 ((decide ((0 : Int) ≤ x.snd.fst) && decide (x.snd.fst < (256 : Int))) = true →
 Holds True ∧
 ((0 : Int) ≤ x.snd.fst ∧ x.snd.fst < (↑(256 : Nat) : Int)) ∧ (rowTo x.fst (256 : Nat)).getD x.snd.fst.toNat false = hasB x.fst x.snd.fst) ∧
 ((decide ((0 : Int) ≤ x.snd.fst) && decide (x.snd.fst < (256 : Int))) = !true → false = hasB x.fst x.snd.fst)

theorem E_ahas_eq (x : HL (cHas : Ctr).as) : vc (fx_ahas x) 1 5 Tryd.f5 (cHas) x = E_ahas x := by kernel_rfl

def E_anext (x : List Int × Int × Unit) : Prop :=
 Holds True ∧
 ((((0 : Int) ≤ (0 : Int) ∧
 (0 : Int) ≤ (↑(allOf x.fst).length : Int) ∧ ∀ (m : Int), m ∈ List.take (Int.toNat (0 : Int)) (allOf x.fst) → m < x.snd.fst) ∧
 True) ∧
 (x.snd.fst = x.snd.fst ∧
 allOf x.fst = allOf x.fst ∧ (↑(allOf x.fst).length : Int) = (↑(allOf x.fst).length : Int) ∧ (0 : Int) = (0 : Int) ∧ True) ∧
 True ∧ True) ∧
 ∀ (g : Int × Unit),
 ((0 : Int) ≤ g.fst ∧ g.fst ≤ (↑(allOf x.fst).length : Int) ∧ ∀ (m : Int), m ∈ List.take g.fst.toNat (allOf x.fst) → m < x.snd.fst) →
 ((-9223372036854775808 : Int) ≤ g.fst ∧ g.fst ≤ (9223372036854775807 : Int)) ∧ True →
 (decide (g.fst < (↑(allOf x.fst).length : Int)) = true →
 ((0 : Int) ≤ g.fst ∧ g.fst < (↑(allOf x.fst).length : Int)) ∧
 (decide (x.snd.fst ≤ (allOf x.fst).getD g.fst.toNat (0 : Int)) = true →
 (allOf x.fst).getD g.fst.toNat (0 : Int) = nextOf x.fst x.snd.fst) ∧
 (decide (x.snd.fst ≤ (allOf x.fst).getD g.fst.toNat (0 : Int)) = false →
 ((-9223372036854775808 : Int) ≤ g.fst + (1 : Int) ∧ g.fst + (1 : Int) ≤ (9223372036854775807 : Int)) ∧
 (((0 : Int) ≤ g.fst + (1 : Int) ∧
 g.fst + (1 : Int) ≤ (↑(allOf x.fst).length : Int) ∧
 ∀ (m : Int), m ∈ List.take (g.fst + (1 : Int)).toNat (allOf x.fst) → m < x.snd.fst) ∧
 ((↑(allOf x.fst).length : Int) - (g.fst + (1 : Int))).toNat < ((↑(allOf x.fst).length : Int) - g.fst).toNat) ∧
 (x.snd.fst = x.snd.fst ∧
 allOf x.fst = allOf x.fst ∧
 (↑(allOf x.fst).length : Int) = (↑(allOf x.fst).length : Int) ∧ g.fst + (1 : Int) = g.fst + (1 : Int) ∧ True) ∧
 True ∧ True)) ∧
 (decide (g.fst < (↑(allOf x.fst).length : Int)) = false → (-1 : Int) = nextOf x.fst x.snd.fst)

theorem E_anext_eq (x : HL (cNext : Ctr).as) : vc (fx_anext x) 1 12 Tryd.f12 (cNext) x = E_anext x := by kernel_rfl

def E_equal (x : List Int × List Int × Unit) : Prop :=
 (((↑x.fst.length : Int) != (↑x.snd.fst.length : Int)) = true → false = decide (x.fst = x.snd.fst)) ∧
 (((↑x.fst.length : Int) != (↑x.snd.fst.length : Int)) = false →
 ((((0 : Int) ≤ (0 : Int) ∧
 (0 : Int) ≤ (↑x.fst.length : Int) ∧ List.take (Int.toNat (0 : Int)) x.fst = List.take (Int.toNat (0 : Int)) x.snd.fst) ∧
 True) ∧
 (x.fst = x.fst ∧ x.snd.fst = x.snd.fst ∧ (↑x.fst.length : Int) = (↑x.fst.length : Int) ∧ (0 : Int) = (0 : Int) ∧ True) ∧ True ∧ True) ∧
 ∀ (g : Int × Unit),
 (0 : Int) ≤ g.fst ∧ g.fst ≤ (↑x.fst.length : Int) ∧ List.take g.fst.toNat x.fst = List.take g.fst.toNat x.snd.fst →
 ((-9223372036854775808 : Int) ≤ g.fst ∧ g.fst ≤ (9223372036854775807 : Int)) ∧ True →
 (decide (g.fst < (↑x.fst.length : Int)) = true →
 ((0 : Int) ≤ g.fst ∧ g.fst < (↑x.fst.length : Int)) ∧
 ((0 : Int) ≤ g.fst ∧ g.fst < (↑x.snd.fst.length : Int)) ∧
 ((x.fst.getD g.fst.toNat (0 : Int) != x.snd.fst.getD g.fst.toNat (0 : Int)) = true → false = decide (x.fst = x.snd.fst)) ∧
 ((x.fst.getD g.fst.toNat (0 : Int) != x.snd.fst.getD g.fst.toNat (0 : Int)) = false →
 ((-9223372036854775808 : Int) ≤ g.fst + (1 : Int) ∧ g.fst + (1 : Int) ≤ (9223372036854775807 : Int)) ∧
 (((0 : Int) ≤ g.fst + (1 : Int) ∧
 g.fst + (1 : Int) ≤ (↑x.fst.length : Int) ∧
 List.take (g.fst + (1 : Int)).toNat x.fst = List.take (g.fst + (1 : Int)).toNat x.snd.fst) ∧
 ((↑x.fst.length : Int) - (g.fst + (1 : Int))).toNat < ((↑x.fst.length : Int) - g.fst).toNat) ∧
 (x.fst = x.fst ∧
 x.snd.fst = x.snd.fst ∧
 (↑x.fst.length : Int) = (↑x.fst.length : Int) ∧ g.fst + (1 : Int) = g.fst + (1 : Int) ∧ True) ∧
 True ∧ True)) ∧
 (decide (g.fst < (↑x.fst.length : Int)) = false → true = decide (x.fst = x.snd.fst)))

theorem E_equal_eq (x : HL (cEqual : Ctr).as) : vc (fx_equal x) 1 13 Tryd.f13 (cEqual) x = E_equal x := by kernel_rfl

def E_tells (x : List Int × Int × Unit) : Prop :=
 Holds True ∧
 Holds True ∧
 ((hasB x.fst x.snd.fst == hasB x.fst x.snd.fst) = true →
 Holds True ∧
 Holds True ∧
 (deq (Ty.arr (4 : Nat) (Ty.int IntKind.u64)) (putB x.fst x.snd.fst true) (putB x.fst x.snd.fst true) = true →
 Holds True ∧
 Holds True ∧
 (deq (Ty.arr (4 : Nat) (Ty.int IntKind.u64)) (putB x.fst x.snd.fst false) (putB x.fst x.snd.fst false) = true →
 Holds True ∧
 Holds True ∧
 ((topOf x.fst == topOf x.fst) = true →
 Holds True ∧
 Holds True ∧
 ((nextOf x.fst x.snd.fst == nextOf x.fst x.snd.fst) = true →
 Holds True ∧ Holds True ∧ Holds True ∧ decide (allOf x.fst = allOf x.fst) = true) ∧
 ((nextOf x.fst x.snd.fst == nextOf x.fst x.snd.fst) = !true → false = true)) ∧
 ((topOf x.fst == topOf x.fst) = !true → false = true)) ∧
 (deq (Ty.arr (4 : Nat) (Ty.int IntKind.u64)) (putB x.fst x.snd.fst false) (putB x.fst x.snd.fst false) = !true →
 false = true)) ∧
 (deq (Ty.arr (4 : Nat) (Ty.int IntKind.u64)) (putB x.fst x.snd.fst true) (putB x.fst x.snd.fst true) = !true → false = true)) ∧
 ((hasB x.fst x.snd.fst == hasB x.fst x.snd.fst) = !true → false = true)

theorem E_tells_eq (x : HL (cTell : Ctr).as) : vc (fx_tells x) 1 3 Tryd.f3 (cTell) x = E_tells x := by kernel_rfl

end Go.Proofs.YtjajpmemcfdmoaaDoor.Bitt
