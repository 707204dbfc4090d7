/-
 The conditions that the executor comes to, written out (by a tool of ours), and that they are the conditions (by the kernel).
-/
import Derived.Test.YtdhldloajddfiaaGreatDoorApicC
namespace Go.Proofs.YtdhldloajddfiaaGreatDoor.Apic
open Go.Sx
set_option maxRecDepth 100000
noncomputable section
def E_lead (x : Int × Unit) : Prop :=
 Holds True ∧
 ((-9223372036854775808 : Int) ≤ (64 : Int) - (↑(Lib.bitLen x.1.toNat) : Int) ∧
 (64 : Int) - (↑(Lib.bitLen x.1.toNat) : Int) ≤ (9223372036854775807 : Int)) ∧
 (64 : Int) - (↑(Lib.bitLen x.1.toNat) : Int) = (64 : Int) - (↑(Lib.bitLen x.1.toNat) : Int)

theorem E_lead_eq (x : HL (cLead : Ctr).as) : vc (fx_lead x) 1 108 Tryz.f108 (cLead) x = E_lead x := by kernel_rfl

def E_fits (x : Int × Unit) : Prop :=
 (decide (0 ≤ x.1) = true → decide (0 ≤ x.1) = true) ∧
 (decide (0 ≤ x.1) = true → decide (0 ≤ x.1) = true) ∧ (decide (0 ≤ x.1) && decide (x.1 < 256)) = fits x.1

theorem E_fits_eq (x : HL (cFits : Ctr).as) : vc (fx_fits x) 1 107 Tryz.f107 (cFits) x = E_fits x := by kernel_rfl

def E_with (x : List Int × Int × Unit) : Prop :=
 Holds True ∧
 (fits x.2.1 = true →
 (0 ≤ x.2.1 ∧ (0 : Int) < (64 : Int)) ∧
 (0 ≤ x.2.1 / (64 : Int) ∧ x.2.1 / 64 < (↑(4 : Nat) : Int)) ∧
 (0 ≤ x.2.1 ∧ (0 : Int) < (64 : Int)) ∧
 0 ≤ x.2.1 % (64 : Int) ∧
 (0 ≤ x.2.1 / (64 : Int) ∧ x.2.1 / 64 < (↑(4 : Nat) : Int)) ∧
 x.1.set (x.2.1 / (64 : Int)).toNat
 (bits BinOp.or IntKind.u64 (x.1.getD (x.2.1 / (64 : Int)).toNat (0 : Int))
 (IntKind.u64.wrap ((1 : Int) * (2 : Int) ^ min (x.2.1 % (64 : Int)).toNat IntKind.u64.bits))) =
 putB x.1 x.2.1 true) ∧
 (fits x.2.1 = false → x.1 = putB x.1 x.2.1 true)

theorem E_with_eq (x : HL (cWith : Ctr).as) : vc (fx_with x) 1 93 Tryz.f93 (cWith) x = E_with x := by kernel_rfl

def E_without (x : List Int × Int × Unit) : Prop :=
 Holds True ∧
 (fits x.2.1 = true →
 (0 ≤ x.2.1 ∧ (0 : Int) < (64 : Int)) ∧
 (0 ≤ x.2.1 / (64 : Int) ∧ x.2.1 / 64 < (↑(4 : Nat) : Int)) ∧
 (0 ≤ x.2.1 ∧ (0 : Int) < (64 : Int)) ∧
 0 ≤ x.2.1 % (64 : Int) ∧
 (0 ≤ x.2.1 / (64 : Int) ∧ x.2.1 / 64 < (↑(4 : Nat) : Int)) ∧
 x.1.set (x.2.1 / (64 : Int)).toNat
 (bits BinOp.andNot IntKind.u64 (x.1.getD (x.2.1 / (64 : Int)).toNat (0 : Int))
 (IntKind.u64.wrap ((1 : Int) * (2 : Int) ^ min (x.2.1 % (64 : Int)).toNat IntKind.u64.bits))) =
 putB x.1 x.2.1 false) ∧
 (fits x.2.1 = false → x.1 = putB x.1 x.2.1 false)

theorem E_without_eq (x : HL (cWithout : Ctr).as) : vc (fx_without x) 1 94 Tryz.f94 (cWithout) x = E_without x := by kernel_rfl

def E_top (x : List Int × Unit) : Prop :=
 ((((-1 : Int) ≤ (3 : Int) ∧ (3 : Int) ≤ (3 : Int) ∧ x.1 = x.1 ∧ topOf x.1 = topB (bitN x.1) ((64 : Nat) * ((3 : Int) + 1).toNat)) ∧
 True) ∧
 ((True ∧ True) ∧ (3 : Int) = (3 : Int) ∧ True) ∧ ((x.1 = x.1 ∧ True) ∧ True) ∧ True) ∧
 ∀ (g : List Int × Int × Unit),
 -1 ≤ g.2.1 ∧ g.2.1 ≤ 3 ∧ g.1 = x.1 ∧ topOf x.1 = topB (bitN x.1) ((64 : Nat) * (g.2.1 + 1).toNat) →
 (g.1.length = (4 : Nat) ∧ ∀ (x : Int), x ∈ g.1 → 0 ≤ x ∧ x ≤ 18446744073709551615) ∧
 (-9223372036854775808 ≤ g.2.1 ∧ g.2.1 ≤ 9223372036854775807) ∧ True →
 (decide (0 ≤ g.2.1) = true →
 (0 ≤ g.2.1 ∧ g.2.1 < (↑(4 : Nat) : Int)) ∧
 ((g.1.getD g.2.1.toNat (0 : Int) != (0 : Int)) = true →
 ((-9223372036854775808 : Int) ≤ (64 : Int) * g.2.1 ∧ (64 : Int) * g.2.1 ≤ 9223372036854775807) ∧
 ((-9223372036854775808 : Int) ≤ (64 : Int) * g.2.1 + 63 ∧
 (64 : Int) * g.2.1 + 63 ≤ (9223372036854775807 : Int)) ∧
 (0 ≤ g.2.1 ∧ g.2.1 < (↑(4 : Nat) : Int)) ∧
 Holds True ∧
 ((-9223372036854775808 : Int) ≤
 (64 : Int) * g.2.1 + 63 -
 ((64 : Int) - (↑(Lib.bitLen (g.1.getD g.2.1.toNat (0 : Int)).toNat) : Int)) ∧
 (64 : Int) * g.2.1 + 63 -
 ((64 : Int) - (↑(Lib.bitLen (g.1.getD g.2.1.toNat (0 : Int)).toNat) : Int)) ≤
 (9223372036854775807 : Int)) ∧
 (64 : Int) * g.2.1 + 63 - ((64 : Int) - (↑(Lib.bitLen (g.1.getD g.2.1.toNat (0 : Int)).toNat) : Int)) =
 topOf x.1) ∧
 ((g.1.getD g.2.1.toNat (0 : Int) != (0 : Int)) = false →
 (-9223372036854775808 ≤ g.2.1 - 1 ∧ g.2.1 - 1 ≤ (9223372036854775807 : Int)) ∧
 ((-1 ≤ g.2.1 - 1 ∧
 g.2.1 - 1 ≤ (3 : Int) ∧
 g.1 = x.1 ∧ topOf x.1 = topB (bitN x.1) ((64 : Nat) * (g.2.1 - 1 + 1).toNat)) ∧
 (g.2.1 - 1 + 1).toNat < (g.2.1 + 1).toNat) ∧
 ((True ∧ True) ∧ g.2.1 - 1 = g.2.1 - 1 ∧ True) ∧ ((g.1 = g.1 ∧ True) ∧ True) ∧ True)) ∧
 (decide (0 ≤ g.2.1) = false → (-1 : Int) = topOf x.1)

theorem E_top_eq (x : HL (cTop : Ctr).as) : vc (fx_top x) 1 95 Tryz.f95 (cTop) x = E_top x := by kernel_rfl

abbrev qnext_2 (x : List Int × Int × Unit) := ((1 : Int) * (2 : Int) ^ min (max x.2.1 (0 : Int) % (64 : Int)).toNat IntKind.u64.bits)
abbrev qnext_3 (v0_1 : List Int × Int × Unit) := (↑(Lib.ctz (64 : Nat) (v0_1.1.getD v0_1.2.1.toNat (0 : Int)).toNat) : Int)
abbrev qnext_4 (x : List Int × Int × Unit) := (0 ≤ max x.2.1 (0 : Int) ∧ (0 : Int) < (64 : Int))
abbrev qnext_5 (x : List Int × Int × Unit) := (0 ≤ max x.2.1 (0 : Int) / (64 : Int) ∧ max x.2.1 (0 : Int) / 64 < (↑(4 : Nat) : Int))
abbrev qnext_1 (x : List Int × Int × Unit) := (bits BinOp.andNot IntKind.u64 (x.1.getD (max x.2.1 (0 : Int) / (64 : Int)).toNat (0 : Int)) (IntKind.u64.wrap (qnext_2 x) - 1))
def E_next (x : List Int × Int × Unit) : Prop := Holds True ∧ ((!fits (max x.2.1 (0 : Int))) = true → (-1 : Int) = nextOf x.1 x.2.1) ∧ ((!fits (max x.2.1 (0 : Int))) = false → (qnext_4 x) ∧ (qnext_5 x) ∧ (qnext_4 x) ∧ 0 ≤ max x.2.1 (0 : Int) % (64 : Int) ∧ (0 ≤ IntKind.u64.wrap (qnext_2 x) - 1 ∧ IntKind.u64.wrap (qnext_2 x) - 1 ≤ (18446744073709551615 : Int)) ∧ (qnext_5 x) ∧ (qnext_4 x) ∧ (((0 ≤ max x.2.1 (0 : Int) / (64 : Int) ∧ max x.2.1 (0 : Int) / (64 : Int) ≤ (4 : Int) ∧ nextOf x.1 x.2.1 = nextB (bitN (x.1.set (max x.2.1 (0 : Int) / (64 : Int)).toNat (qnext_1 x))) ((64 : Nat) * (max x.2.1 (0 : Int) / (64 : Int)).toNat) ((64 : Nat) * ((4 : Int) - max x.2.1 (0 : Int) / (64 : Int)).toNat)) ∧ True) ∧ ((True ∧ True) ∧ max x.2.1 (0 : Int) / (64 : Int) = max x.2.1 (0 : Int) / (64 : Int) ∧ True) ∧ ((x.1.set (max x.2.1 (0 : Int) / (64 : Int)).toNat (qnext_1 x) = x.1.set (max x.2.1 (0 : Int) / (64 : Int)).toNat (qnext_1 x) ∧ True) ∧ True) ∧ True) ∧ ∀ (v0_1 : List Int × Int × Unit), 0 ≤ v0_1.2.1 ∧ v0_1.2.1 ≤ 4 ∧ nextOf x.1 x.2.1 = nextB (bitN v0_1.1) ((64 : Nat) * v0_1.2.1.toNat) ((64 : Nat) * ((4 : Int) - v0_1.2.1).toNat) → (v0_1.1.length = (4 : Nat) ∧ ∀ (v1_0 : Int), v1_0 ∈ v0_1.1 → 0 ≤ v1_0 ∧ v1_0 ≤ 18446744073709551615) ∧ (-9223372036854775808 ≤ v0_1.2.1 ∧ v0_1.2.1 ≤ 9223372036854775807) ∧ True → (decide (v0_1.2.1 < 4) = true → (0 ≤ v0_1.2.1 ∧ v0_1.2.1 < (↑(4 : Nat) : Int)) ∧ ((v0_1.1.getD v0_1.2.1.toNat (0 : Int) != (0 : Int)) = true → ((-9223372036854775808 : Int) ≤ (64 : Int) * v0_1.2.1 ∧ (64 : Int) * v0_1.2.1 ≤ 9223372036854775807) ∧ (0 ≤ v0_1.2.1 ∧ v0_1.2.1 < (↑(4 : Nat) : Int)) ∧ Holds True ∧ ((-9223372036854775808 : Int) ≤ (64 : Int) * v0_1.2.1 + (qnext_3 v0_1) ∧ (64 : Int) * v0_1.2.1 + (qnext_3 v0_1) ≤ 9223372036854775807) ∧ (64 : Int) * v0_1.2.1 + (qnext_3 v0_1) = nextOf x.1 x.2.1) ∧ ((v0_1.1.getD v0_1.2.1.toNat (0 : Int) != (0 : Int)) = false → (-9223372036854775808 ≤ v0_1.2.1 + 1 ∧ v0_1.2.1 + 1 ≤ (9223372036854775807 : Int)) ∧ ((0 ≤ v0_1.2.1 + 1 ∧ v0_1.2.1 + 1 ≤ (4 : Int) ∧ nextOf x.1 x.2.1 = nextB (bitN v0_1.1) ((64 : Nat) * (v0_1.2.1 + 1).toNat) ((64 : Nat) * ((4 : Int) - (v0_1.2.1 + 1)).toNat)) ∧ ((4 : Int) - (v0_1.2.1 + 1)).toNat < ((4 : Int) - v0_1.2.1).toNat) ∧ ((True ∧ True) ∧ v0_1.2.1 + 1 = v0_1.2.1 + 1 ∧ True) ∧ ((v0_1.1 = v0_1.1 ∧ True) ∧ True) ∧ True)) ∧ (decide (v0_1.2.1 < 4) = false → (-1 : Int) = nextOf x.1 x.2.1))

theorem E_next_eq (x : HL (cNext : Ctr).as) : vc (fx_next x) 1 106 Tryz.f106 (cNext) x = E_next x := by kernel_rfl

def E_class (x : Int × Unit) : Prop :=
 (0 ≤ x.1 ∧ (0 : Int) < (16 : Int)) ∧ x.1 / (16 : Int) = x.1 / (16 : Int)

theorem E_class_eq (x : HL (cClass : Ctr).as) : vc (fx_class x) 1 97 Tryz.f97 (cClass) x = E_class x := by kernel_rfl

abbrev qright_t1 := (List Int × List Int × Int) × Int × Int × Unit
abbrev qright_1 (v0_0 : qright_t1) := (decide (0 ≤ v0_0.1.2.2) = true → decide (0 ≤ v0_0.1.2.2) = true)
abbrev qright_2 (v0_0 : qright_t1) := (decide (0 ≤ v0_0.1.2.2) && decide (v0_0.1.2.2 ≤ 15))
def E_right (x : (List Int × List Int × Int) × Unit) : Prop := Holds True ∧ ((((x.1.1, x.1.2.1, x.1.2.2) = x.1 ∧ -1 ≤ nextOf x.1.2.1 (0 : Int) ∧ nextOf x.1.2.1 (0 : Int) ≤ (255 : Int) ∧ (nextOf x.1.2.1 (0 : Int) = (-1 : Int) ∨ bitN x.1.2.1 (nextOf x.1.2.1 (0 : Int)).toNat = true) ∧ okS (-1 : Int) (allOf x.1.2.1) = okS (-1 : Int) (List.drop (posOf x.1.2.1 (nextOf x.1.2.1 (0 : Int))) (allOf x.1.2.1))) ∧ True) ∧ ((True ∧ True) ∧ (-1 : Int) = (-1 : Int) ∧ nextOf x.1.2.1 (0 : Int) = nextOf x.1.2.1 (0 : Int) ∧ True) ∧ ((x.1.1 = x.1.1 ∧ x.1.2.1 = x.1.2.1 ∧ x.1.2.2 = x.1.2.2 ∧ True) ∧ True) ∧ True) ∧ ∀ (v0_0 : qright_t1), v0_0.1 = x.1 ∧ -1 ≤ v0_0.2.2.1 ∧ v0_0.2.2.1 ≤ 255 ∧ (v0_0.2.2.1 = -1 ∨ bitN x.1.2.1 v0_0.2.2.1.toNat = true) ∧ okS (-1 : Int) (allOf x.1.2.1) = okS v0_0.2.1 (List.drop (posOf x.1.2.1 v0_0.2.2.1) (allOf x.1.2.1)) → ((v0_0.1.1.length = (4 : Nat) ∧ ∀ (v1_0 : Int), v1_0 ∈ v0_0.1.1 → 0 ≤ v1_0 ∧ v1_0 ≤ 18446744073709551615) ∧ (v0_0.1.2.1.length = (4 : Nat) ∧ ∀ (v1_0 : Int), v1_0 ∈ v0_0.1.2.1 → 0 ≤ v1_0 ∧ v1_0 ≤ 18446744073709551615) ∧ -9223372036854775808 ≤ v0_0.1.2.2 ∧ v0_0.1.2.2 ≤ 9223372036854775807) ∧ (-9223372036854775808 ≤ v0_0.2.1 ∧ v0_0.2.1 ≤ 9223372036854775807) ∧ (-9223372036854775808 ≤ v0_0.2.2.1 ∧ v0_0.2.2.1 ≤ 9223372036854775807) ∧ True → (decide (0 ≤ v0_0.2.2.1) = true → Holds (0 ≤ v0_0.2.2.1) ∧ ((!v0_0.2.2.1 / (16 : Int) == v0_0.2.1) = true → (!v0_0.2.2.1 / (16 : Int) == v0_0.2.1) = true) ∧ ((v0_0.2.2.1 / (16 : Int) == v0_0.2.1) = false → (!v0_0.2.2.1 / (16 : Int) == v0_0.2.1) = true) ∧ ((v0_0.2.2.1 / (16 : Int) == v0_0.2.1 || decide (v0_0.2.2.1 < 32)) = true → false = rightL x.1) ∧ ((v0_0.2.2.1 / (16 : Int) == v0_0.2.1 || decide (v0_0.2.2.1 < 32)) = false → Holds (0 ≤ v0_0.2.2.1) ∧ (-9223372036854775808 ≤ v0_0.2.2.1 + 1 ∧ v0_0.2.2.1 + 1 ≤ (9223372036854775807 : Int)) ∧ Holds True ∧ (((v0_0.1.1, v0_0.1.2.1, v0_0.1.2.2) = x.1 ∧ -1 ≤ nextOf v0_0.1.2.1 (v0_0.2.2.1 + 1) ∧ nextOf v0_0.1.2.1 (v0_0.2.2.1 + 1) ≤ 255 ∧ (nextOf v0_0.1.2.1 (v0_0.2.2.1 + 1) = -1 ∨ bitN x.1.2.1 (nextOf v0_0.1.2.1 (v0_0.2.2.1 + 1)).toNat = true) ∧ okS (-1 : Int) (allOf x.1.2.1) = okS (v0_0.2.2.1 / (16 : Int)) (List.drop (posOf x.1.2.1 (nextOf v0_0.1.2.1 (v0_0.2.2.1 + 1))) (allOf x.1.2.1))) ∧ ((256 : Int) - if nextOf v0_0.1.2.1 (v0_0.2.2.1 + 1) = -1 then (256 : Int) else nextOf v0_0.1.2.1 (v0_0.2.2.1 + 1)).toNat < ((256 : Int) - if v0_0.2.2.1 = -1 then (256 : Int) else v0_0.2.2.1).toNat) ∧ ((True ∧ True) ∧ v0_0.2.2.1 / (16 : Int) = v0_0.2.2.1 / (16 : Int) ∧ nextOf v0_0.1.2.1 (v0_0.2.2.1 + 1) = nextOf v0_0.1.2.1 (v0_0.2.2.1 + 1) ∧ True) ∧ ((v0_0.1.1 = v0_0.1.1 ∧ v0_0.1.2.1 = v0_0.1.2.1 ∧ v0_0.1.2.2 = v0_0.1.2.2 ∧ True) ∧ True) ∧ True)) ∧ (decide (0 ≤ v0_0.2.2.1) = false → (qright_1 v0_0) ∧ (qright_1 v0_0) ∧ (qright_1 v0_0) ∧ ((qright_2 v0_0) = true → (qright_2 v0_0) = true ∧ Holds True ∧ (decide (nextOf v0_0.1.1 (0 : Int) < (0 : Int)) = false → (!decide (nextOf v0_0.1.1 (0 : Int) < (0 : Int))) = true ∧ Holds True ∧ decide (32 ≤ nextOf v0_0.1.1 (0 : Int)) = rightL x.1) ∧ (decide (nextOf v0_0.1.1 (0 : Int) < (0 : Int)) = !false → true = rightL x.1)) ∧ ((qright_2 v0_0) = !true → false = rightL x.1))

theorem E_right_eq (x : HL (cRightL : Ctr).as) : vc (fx_right x) 1 92 Tryz.f92 (cRightL) x = E_right x := by kernel_rfl

def E_level (x : (List Int × List Int × Int) × Unit) : Prop :=
 Holds True ∧
 Holds (0 ≤ max (topOf x.1.2.1) (0 : Int)) ∧ max x.1.2.2 (max (topOf x.1.2.1) (0 : Int) / (16 : Int)) = lvl x.1

theorem E_level_eq (x : HL (cLvl : Ctr).as) : vc (fx_level x) 1 98 Tryz.f98 (cLvl) x = E_level x := by kernel_rfl

def E_would (x : (List Int × List Int × Int) × Unit) : Prop :=
 Holds True ∧
 Holds True ∧
 (rightL (x.1.1, x.1.2.1, x.1.2.2) = true →
 (decide (0 ≤ topOf x.1.1) = true →
 Holds (0 ≤ topOf x.1.1) ∧
 Holds True ∧
 (decide (lvl (x.1.1, x.1.2.1, x.1.2.2) < topOf x.1.1 / (16 : Int)) = true → topOf x.1.1 = wouldL x.1) ∧
 (decide (lvl (x.1.1, x.1.2.1, x.1.2.2) < topOf x.1.1 / (16 : Int)) = false → (-1 : Int) = wouldL x.1)) ∧
 (decide (0 ≤ topOf x.1.1) = !true → (-1 : Int) = wouldL x.1)) ∧
 (rightL (x.1.1, x.1.2.1, x.1.2.2) = !true → (-1 : Int) = wouldL x.1)

theorem E_would_eq (x : HL (cWould : Ctr).as) : vc (fx_would x) 1 78 Tryz.f78 (cWould) x = E_would x := by kernel_rfl

abbrev qastep_1 := ((0 : Int) :: (0 : Int) :: (0 : Int) :: (0 : Int) :: ([] : List Int), (0 : Int) :: (0 : Int) :: (0 : Int) :: (0 : Int) :: ([] : List Int), (0 : Int))
def E_astep (x : (List Int × List Int × Int) × (Int × Int) × Unit) : Prop := Holds True ∧ ((!rightL (x.1.1, x.1.2.1, x.1.2.2)) = true → qastep_1 = (stepL x.1 x.2.1).1 ∧ (0 : Int) = (stepL x.1 x.2.1).2.1 ∧ (1 : Int) = (stepL x.1 x.2.1).2.2.1) ∧ ((!rightL (x.1.1, x.1.2.1, x.1.2.2)) = false → ((x.2.1.1 == 1) = true → ((!decide (x.2.1.2 < 32)) = true → (!decide (x.2.1.2 < 32)) = true) ∧ ((!decide (x.2.1.2 < 32)) = true → (!decide (x.2.1.2 < 32)) = true) ∧ (decide (x.2.1.2 < 32) = false → (!decide (x.2.1.2 < 32)) = true) ∧ ((decide (x.2.1.2 < 32) || decide (256 ≤ x.2.1.2)) = true → qastep_1 = (stepL x.1 x.2.1).1 ∧ (0 : Int) = (stepL x.1 x.2.1).2.1 ∧ (2 : Int) = (stepL x.1 x.2.1).2.2.1) ∧ ((decide (x.2.1.2 < 32) || decide (256 ≤ x.2.1.2)) = false → Holds True ∧ (putB x.1.1 x.2.1.2 true, x.1.2.1, x.1.2.2) = (stepL x.1 x.2.1).1 ∧ (-1 : Int) = (stepL x.1 x.2.1).2.1 ∧ (0 : Int) = (stepL x.1 x.2.1).2.2.1)) ∧ ((x.2.1.1 == 1) = false → ((x.2.1.1 == 2) = true → Holds True ∧ (decide (wouldL (x.1.1, x.1.2.1, x.1.2.2) < 0) = true → qastep_1 = (stepL x.1 x.2.1).1 ∧ (0 : Int) = (stepL x.1 x.2.1).2.1 ∧ (7 : Int) = (stepL x.1 x.2.1).2.2.1) ∧ (decide (wouldL (x.1.1, x.1.2.1, x.1.2.2) < 0) = false → Holds True ∧ Holds True ∧ (putB x.1.1 (wouldL (x.1.1, x.1.2.1, x.1.2.2)) false, putB x.1.2.1 (wouldL (x.1.1, x.1.2.1, x.1.2.2)) true, x.1.2.2) = (stepL x.1 x.2.1).1 ∧ wouldL (x.1.1, x.1.2.1, x.1.2.2) = (stepL x.1 x.2.1).2.1 ∧ (0 : Int) = (stepL x.1 x.2.1).2.2.1)) ∧ ((x.2.1.1 == 2) = false → ((x.2.1.1 == 3) = true → Holds True ∧ (decide (topOf x.1.2.1 < 0) = true → qastep_1 = (stepL x.1 x.2.1).1 ∧ (0 : Int) = (stepL x.1 x.2.1).2.1 ∧ (3 : Int) = (stepL x.1 x.2.1).2.2.1) ∧ (decide (topOf x.1.2.1 < 0) = false → Holds True ∧ (x.1.1, putB x.1.2.1 (topOf x.1.2.1) false, x.1.2.2) = (stepL x.1 x.2.1).1 ∧ topOf x.1.2.1 = (stepL x.1 x.2.1).2.1 ∧ (0 : Int) = (stepL x.1 x.2.1).2.2.1)) ∧ ((x.2.1.1 == 3) = false → ((x.2.1.1 == 4) = true → ((!decide (x.2.1.2 < 0)) = true → (!decide (x.2.1.2 < 0)) = true) ∧ ((!decide (x.2.1.2 < 0)) = true → (!decide (x.2.1.2 < 0)) = true) ∧ (decide (x.2.1.2 < 0) = false → (!decide (x.2.1.2 < 0)) = true) ∧ ((decide (x.2.1.2 < 0) || decide (15 < x.2.1.2)) = true → qastep_1 = (stepL x.1 x.2.1).1 ∧ (0 : Int) = (stepL x.1 x.2.1).2.1 ∧ (2 : Int) = (stepL x.1 x.2.1).2.2.1) ∧ ((decide (x.2.1.2 < 0) || decide (15 < x.2.1.2)) = false → (x.1.1, x.1.2.1, x.2.1.2) = (stepL x.1 x.2.1).1 ∧ (-1 : Int) = (stepL x.1 x.2.1).2.1 ∧ (0 : Int) = (stepL x.1 x.2.1).2.2.1)) ∧ ((x.2.1.1 == 4) = false → qastep_1 = (stepL x.1 x.2.1).1 ∧ (0 : Int) = (stepL x.1 x.2.1).2.1 ∧ (5 : Int) = (stepL x.1 x.2.1).2.2.1)))))

theorem E_astep_eq (x : HL (cStep : Ctr).as) : vc (fx_astep x) 2 76 Tryz.f76 (cStep) x = E_astep x := by kernel_rfl

end
end Go.Proofs.YtdhldloajddfiaaGreatDoor.Apic
