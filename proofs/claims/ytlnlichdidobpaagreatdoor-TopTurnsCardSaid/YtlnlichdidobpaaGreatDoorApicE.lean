/-
 The conditions that the executor comes to, written out (by a tool of ours), and that they are the conditions (by the kernel).
-/
import Derived.Test.YtlnlichdidobpaaGreatDoorApicC
namespace Go.Proofs.YtlnlichdidobpaaGreatDoor.Apic
open Go.Sx
set_option maxRecDepth 100000
noncomputable section
def Cz (x : Int × Unit) : Prop :=
 Holds True ∧
 ((-9223372036854775808 : Int) ≤ (64 : Int) - (↑(Lib.bitLen x.1.toNat) : Int) ∧
 (64 : Int) - (↑(Lib.bitLen x.1.toNat) : Int) ≤ (9223372036854775807 : Int)) ∧
 (64 : Int) - (↑(Lib.bitLen x.1.toNat) : Int) = (64 : Int) - (↑(Lib.bitLen x.1.toNat) : Int)

theorem Fu (x : HL (ou : ah).as) : vc (ye x) 1 135 Tryz.f135 (ou) x = Cz x := by kernel_rfl

def BJ (x : Int × Unit) : Prop :=
 (decide (0 ≤ x.1) = true → decide (0 ≤ x.1) = true) ∧
 (decide (0 ≤ x.1) = true → decide (0 ≤ x.1) = true) ∧ (decide (0 ≤ x.1) && decide (x.1 < 256)) = fits x.1

theorem Gc (x : HL (n9 : ah).as) : vc (y5 x) 1 134 Tryz.f134 (n9) x = BJ x := by kernel_rfl

def C8 (x : List Int × Int × Unit) : Prop :=
 Holds True ∧
 (fits x.2.1 = true →
 (0 ≤ x.2.1 ∧ (0 : Int) < (64 : Int)) ∧
 (0 ≤ x.2.1 / (64 : Int) ∧ x.2.1 / 64 < (↑(4 : Nat) : Int)) ∧
 (0 ≤ x.2.1 ∧ (0 : Int) < (64 : Int)) ∧
 0 ≤ x.2.1 % (64 : Int) ∧
 (0 ≤ x.2.1 / (64 : Int) ∧ x.2.1 / 64 < (↑(4 : Nat) : Int)) ∧
 x.1.set (x.2.1 / (64 : Int)).toNat
 (bits BinOp.or IntKind.u64 (x.1.getD (x.2.1 / (64 : Int)).toNat (0 : Int))
 (IntKind.u64.wrap ((1 : Int) * (2 : Int) ^ min (x.2.1 % (64 : Int)).toNat IntKind.u64.bits))) =
 nn x.1 x.2.1 true) ∧
 (fits x.2.1 = false → x.1 = nn x.1 x.2.1 true)

theorem FQ (x : HL (nG : ah).as) : vc (yK x) 1 111 Tryz.f111 (nG) x = C8 x := by kernel_rfl

def rT (x : List Int × Int × Unit) : Prop :=
 Holds True ∧
 (fits x.2.1 = true →
 (0 ≤ x.2.1 ∧ (0 : Int) < (64 : Int)) ∧
 (0 ≤ x.2.1 / (64 : Int) ∧ x.2.1 / 64 < (↑(4 : Nat) : Int)) ∧
 (0 ≤ x.2.1 ∧ (0 : Int) < (64 : Int)) ∧
 0 ≤ x.2.1 % (64 : Int) ∧
 (0 ≤ x.2.1 / (64 : Int) ∧ x.2.1 / 64 < (↑(4 : Nat) : Int)) ∧
 x.1.set (x.2.1 / (64 : Int)).toNat
 (bits BinOp.andNot IntKind.u64 (x.1.getD (x.2.1 / (64 : Int)).toNat (0 : Int))
 (IntKind.u64.wrap ((1 : Int) * (2 : Int) ^ min (x.2.1 % (64 : Int)).toNat IntKind.u64.bits))) =
 nn x.1 x.2.1 false) ∧
 (fits x.2.1 = false → x.1 = nn x.1 x.2.1 false)

theorem yM (x : HL (eL : ah).as) : vc (qc x) 1 112 Tryz.f112 (eL) x = rT x := by kernel_rfl

def KD (x : List Int × Unit) : Prop :=
 ((((-1 : Int) ≤ (3 : Int) ∧ (3 : Int) ≤ (3 : Int) ∧ x.1 = x.1 ∧ cG x.1 = uL (cB x.1) ((64 : Nat) * ((3 : Int) + 1).toNat)) ∧
 True) ∧
 ((True ∧ True) ∧ (3 : Int) = (3 : Int) ∧ True) ∧ ((x.1 = x.1 ∧ True) ∧ True) ∧ True) ∧
 ∀ (g : List Int × Int × Unit),
 -1 ≤ g.2.1 ∧ g.2.1 ≤ 3 ∧ g.1 = x.1 ∧ cG x.1 = uL (cB x.1) ((64 : Nat) * (g.2.1 + 1).toNat) →
 (g.1.length = (4 : Nat) ∧ ∀ (x : Int), x ∈ g.1 → 0 ≤ x ∧ x ≤ 18446744073709551615) ∧
 (-9223372036854775808 ≤ g.2.1 ∧ g.2.1 ≤ 9223372036854775807) ∧ True →
 (decide (0 ≤ g.2.1) = true →
 (0 ≤ g.2.1 ∧ g.2.1 < (↑(4 : Nat) : Int)) ∧
 ((g.1.getD g.2.1.toNat (0 : Int) != (0 : Int)) = true →
 ((-9223372036854775808 : Int) ≤ (64 : Int) * g.2.1 ∧ (64 : Int) * g.2.1 ≤ 9223372036854775807) ∧
 ((-9223372036854775808 : Int) ≤ (64 : Int) * g.2.1 + 63 ∧
 (64 : Int) * g.2.1 + 63 ≤ (9223372036854775807 : Int)) ∧
 (0 ≤ g.2.1 ∧ g.2.1 < (↑(4 : Nat) : Int)) ∧
 Holds True ∧
 ((-9223372036854775808 : Int) ≤
 (64 : Int) * g.2.1 + 63 -
 ((64 : Int) - (↑(Lib.bitLen (g.1.getD g.2.1.toNat (0 : Int)).toNat) : Int)) ∧
 (64 : Int) * g.2.1 + 63 -
 ((64 : Int) - (↑(Lib.bitLen (g.1.getD g.2.1.toNat (0 : Int)).toNat) : Int)) ≤
 (9223372036854775807 : Int)) ∧
 (64 : Int) * g.2.1 + 63 - ((64 : Int) - (↑(Lib.bitLen (g.1.getD g.2.1.toNat (0 : Int)).toNat) : Int)) =
 cG x.1) ∧
 ((g.1.getD g.2.1.toNat (0 : Int) != (0 : Int)) = false →
 (-9223372036854775808 ≤ g.2.1 - 1 ∧ g.2.1 - 1 ≤ (9223372036854775807 : Int)) ∧
 ((-1 ≤ g.2.1 - 1 ∧
 g.2.1 - 1 ≤ (3 : Int) ∧
 g.1 = x.1 ∧ cG x.1 = uL (cB x.1) ((64 : Nat) * (g.2.1 - 1 + 1).toNat)) ∧
 (g.2.1 - 1 + 1).toNat < (g.2.1 + 1).toNat) ∧
 ((True ∧ True) ∧ g.2.1 - 1 = g.2.1 - 1 ∧ True) ∧ ((g.1 = g.1 ∧ True) ∧ True) ∧ True)) ∧
 (decide (0 ≤ g.2.1) = false → (-1 : Int) = cG x.1)

theorem G7 (x : HL (tw : ah).as) : vc (C5 x) 1 113 Tryz.f113 (tw) x = KD x := by kernel_rfl

abbrev tR (x : List Int × Int × Unit) := ((1 : Int) * (2 : Int) ^ min (max x.2.1 (0 : Int) % (64 : Int)).toNat IntKind.u64.bits)
abbrev tD (v0_1 : List Int × Int × Unit) := (↑(Lib.ctz (64 : Nat) (v0_1.1.getD v0_1.2.1.toNat (0 : Int)).toNat) : Int)
abbrev tQ (x : List Int × Int × Unit) := (0 ≤ max x.2.1 (0 : Int) ∧ (0 : Int) < (64 : Int))
abbrev y4 (x : List Int × Int × Unit) := (0 ≤ max x.2.1 (0 : Int) / (64 : Int) ∧ max x.2.1 (0 : Int) / 64 < (↑(4 : Nat) : Int))
abbrev tL (x : List Int × Int × Unit) := (bits BinOp.andNot IntKind.u64 (x.1.getD (max x.2.1 (0 : Int) / (64 : Int)).toNat (0 : Int)) (IntKind.u64.wrap (tR x) - 1))
def Cv (x : List Int × Int × Unit) : Prop := Holds True ∧ ((!fits (max x.2.1 (0 : Int))) = true → (-1 : Int) = aL x.1 x.2.1) ∧ ((!fits (max x.2.1 (0 : Int))) = false → (tQ x) ∧ (y4 x) ∧ (tQ x) ∧ 0 ≤ max x.2.1 (0 : Int) % (64 : Int) ∧ (0 ≤ IntKind.u64.wrap (tR x) - 1 ∧ IntKind.u64.wrap (tR x) - 1 ≤ (18446744073709551615 : Int)) ∧ (y4 x) ∧ (tQ x) ∧ (((0 ≤ max x.2.1 (0 : Int) / (64 : Int) ∧ max x.2.1 (0 : Int) / (64 : Int) ≤ (4 : Int) ∧ aL x.1 x.2.1 = fP (cB (x.1.set (max x.2.1 (0 : Int) / (64 : Int)).toNat (tL x))) ((64 : Nat) * (max x.2.1 (0 : Int) / (64 : Int)).toNat) ((64 : Nat) * ((4 : Int) - max x.2.1 (0 : Int) / (64 : Int)).toNat)) ∧ True) ∧ ((True ∧ True) ∧ max x.2.1 (0 : Int) / (64 : Int) = max x.2.1 (0 : Int) / (64 : Int) ∧ True) ∧ ((x.1.set (max x.2.1 (0 : Int) / (64 : Int)).toNat (tL x) = x.1.set (max x.2.1 (0 : Int) / (64 : Int)).toNat (tL x) ∧ True) ∧ True) ∧ True) ∧ ∀ (v0_1 : List Int × Int × Unit), 0 ≤ v0_1.2.1 ∧ v0_1.2.1 ≤ 4 ∧ aL x.1 x.2.1 = fP (cB v0_1.1) ((64 : Nat) * v0_1.2.1.toNat) ((64 : Nat) * ((4 : Int) - v0_1.2.1).toNat) → (v0_1.1.length = (4 : Nat) ∧ ∀ (v1_0 : Int), v1_0 ∈ v0_1.1 → 0 ≤ v1_0 ∧ v1_0 ≤ 18446744073709551615) ∧ (-9223372036854775808 ≤ v0_1.2.1 ∧ v0_1.2.1 ≤ 9223372036854775807) ∧ True → (decide (v0_1.2.1 < 4) = true → (0 ≤ v0_1.2.1 ∧ v0_1.2.1 < (↑(4 : Nat) : Int)) ∧ ((v0_1.1.getD v0_1.2.1.toNat (0 : Int) != (0 : Int)) = true → ((-9223372036854775808 : Int) ≤ (64 : Int) * v0_1.2.1 ∧ (64 : Int) * v0_1.2.1 ≤ 9223372036854775807) ∧ (0 ≤ v0_1.2.1 ∧ v0_1.2.1 < (↑(4 : Nat) : Int)) ∧ Holds True ∧ ((-9223372036854775808 : Int) ≤ (64 : Int) * v0_1.2.1 + (tD v0_1) ∧ (64 : Int) * v0_1.2.1 + (tD v0_1) ≤ 9223372036854775807) ∧ (64 : Int) * v0_1.2.1 + (tD v0_1) = aL x.1 x.2.1) ∧ ((v0_1.1.getD v0_1.2.1.toNat (0 : Int) != (0 : Int)) = false → (-9223372036854775808 ≤ v0_1.2.1 + 1 ∧ v0_1.2.1 + 1 ≤ (9223372036854775807 : Int)) ∧ ((0 ≤ v0_1.2.1 + 1 ∧ v0_1.2.1 + 1 ≤ (4 : Int) ∧ aL x.1 x.2.1 = fP (cB v0_1.1) ((64 : Nat) * (v0_1.2.1 + 1).toNat) ((64 : Nat) * ((4 : Int) - (v0_1.2.1 + 1)).toNat)) ∧ ((4 : Int) - (v0_1.2.1 + 1)).toNat < ((4 : Int) - v0_1.2.1).toNat) ∧ ((True ∧ True) ∧ v0_1.2.1 + 1 = v0_1.2.1 + 1 ∧ True) ∧ ((v0_1.1 = v0_1.1 ∧ True) ∧ True) ∧ True)) ∧ (decide (v0_1.2.1 < 4) = false → (-1 : Int) = aL x.1 x.2.1))

theorem E0 (x : HL (mZ : ah).as) : vc (zx x) 1 133 Tryz.f133 (mZ) x = Cv x := by kernel_rfl

def yg (x : Int × Unit) : Prop :=
 (0 ≤ x.1 ∧ (0 : Int) < (16 : Int)) ∧ x.1 / (16 : Int) = x.1 / (16 : Int)

theorem C0 (x : HL (jB : ah).as) : vc (uA x) 1 115 Tryz.f115 (jB) x = yg x := by kernel_rfl

abbrev bJ := (List Int × List Int × Int) × Int × Int × Unit
abbrev ay (v0_0 : bJ) := (decide (0 ≤ v0_0.1.2.2) = true → decide (0 ≤ v0_0.1.2.2) = true)
abbrev bj (v0_0 : bJ) := (decide (0 ≤ v0_0.1.2.2) && decide (v0_0.1.2.2 ≤ 15))
def cy (x : (List Int × List Int × Int) × Unit) : Prop := Holds True ∧ ((((x.1.1, x.1.2.1, x.1.2.2) = x.1 ∧ -1 ≤ aL x.1.2.1 (0 : Int) ∧ aL x.1.2.1 (0 : Int) ≤ (255 : Int) ∧ (aL x.1.2.1 (0 : Int) = (-1 : Int) ∨ cB x.1.2.1 (aL x.1.2.1 (0 : Int)).toNat = true) ∧ zP (-1 : Int) (cQ x.1.2.1) = zP (-1 : Int) (List.drop (posOf x.1.2.1 (aL x.1.2.1 (0 : Int))) (cQ x.1.2.1))) ∧ True) ∧ ((True ∧ True) ∧ (-1 : Int) = (-1 : Int) ∧ aL x.1.2.1 (0 : Int) = aL x.1.2.1 (0 : Int) ∧ True) ∧ ((x.1.1 = x.1.1 ∧ x.1.2.1 = x.1.2.1 ∧ x.1.2.2 = x.1.2.2 ∧ True) ∧ True) ∧ True) ∧ ∀ (v0_0 : bJ), v0_0.1 = x.1 ∧ -1 ≤ v0_0.2.2.1 ∧ v0_0.2.2.1 ≤ 255 ∧ (v0_0.2.2.1 = -1 ∨ cB x.1.2.1 v0_0.2.2.1.toNat = true) ∧ zP (-1 : Int) (cQ x.1.2.1) = zP v0_0.2.1 (List.drop (posOf x.1.2.1 v0_0.2.2.1) (cQ x.1.2.1)) → ((v0_0.1.1.length = (4 : Nat) ∧ ∀ (v1_0 : Int), v1_0 ∈ v0_0.1.1 → 0 ≤ v1_0 ∧ v1_0 ≤ 18446744073709551615) ∧ (v0_0.1.2.1.length = (4 : Nat) ∧ ∀ (v1_0 : Int), v1_0 ∈ v0_0.1.2.1 → 0 ≤ v1_0 ∧ v1_0 ≤ 18446744073709551615) ∧ -9223372036854775808 ≤ v0_0.1.2.2 ∧ v0_0.1.2.2 ≤ 9223372036854775807) ∧ (-9223372036854775808 ≤ v0_0.2.1 ∧ v0_0.2.1 ≤ 9223372036854775807) ∧ (-9223372036854775808 ≤ v0_0.2.2.1 ∧ v0_0.2.2.1 ≤ 9223372036854775807) ∧ True → (decide (0 ≤ v0_0.2.2.1) = true → Holds (0 ≤ v0_0.2.2.1) ∧ ((!v0_0.2.2.1 / (16 : Int) == v0_0.2.1) = true → (!v0_0.2.2.1 / (16 : Int) == v0_0.2.1) = true) ∧ ((v0_0.2.2.1 / (16 : Int) == v0_0.2.1) = false → (!v0_0.2.2.1 / (16 : Int) == v0_0.2.1) = true) ∧ ((v0_0.2.2.1 / (16 : Int) == v0_0.2.1 || decide (v0_0.2.2.1 < 32)) = true → false = dP x.1) ∧ ((v0_0.2.2.1 / (16 : Int) == v0_0.2.1 || decide (v0_0.2.2.1 < 32)) = false → Holds (0 ≤ v0_0.2.2.1) ∧ (-9223372036854775808 ≤ v0_0.2.2.1 + 1 ∧ v0_0.2.2.1 + 1 ≤ (9223372036854775807 : Int)) ∧ Holds True ∧ (((v0_0.1.1, v0_0.1.2.1, v0_0.1.2.2) = x.1 ∧ -1 ≤ aL v0_0.1.2.1 (v0_0.2.2.1 + 1) ∧ aL v0_0.1.2.1 (v0_0.2.2.1 + 1) ≤ 255 ∧ (aL v0_0.1.2.1 (v0_0.2.2.1 + 1) = -1 ∨ cB x.1.2.1 (aL v0_0.1.2.1 (v0_0.2.2.1 + 1)).toNat = true) ∧ zP (-1 : Int) (cQ x.1.2.1) = zP (v0_0.2.2.1 / (16 : Int)) (List.drop (posOf x.1.2.1 (aL v0_0.1.2.1 (v0_0.2.2.1 + 1))) (cQ x.1.2.1))) ∧ ((256 : Int) - if aL v0_0.1.2.1 (v0_0.2.2.1 + 1) = -1 then (256 : Int) else aL v0_0.1.2.1 (v0_0.2.2.1 + 1)).toNat < ((256 : Int) - if v0_0.2.2.1 = -1 then (256 : Int) else v0_0.2.2.1).toNat) ∧ ((True ∧ True) ∧ v0_0.2.2.1 / (16 : Int) = v0_0.2.2.1 / (16 : Int) ∧ aL v0_0.1.2.1 (v0_0.2.2.1 + 1) = aL v0_0.1.2.1 (v0_0.2.2.1 + 1) ∧ True) ∧ ((v0_0.1.1 = v0_0.1.1 ∧ v0_0.1.2.1 = v0_0.1.2.1 ∧ v0_0.1.2.2 = v0_0.1.2.2 ∧ True) ∧ True) ∧ True)) ∧ (decide (0 ≤ v0_0.2.2.1) = false → (ay v0_0) ∧ (ay v0_0) ∧ (ay v0_0) ∧ ((bj v0_0) = true → (bj v0_0) = true ∧ Holds True ∧ (decide (aL v0_0.1.1 (0 : Int) < (0 : Int)) = false → (!decide (aL v0_0.1.1 (0 : Int) < (0 : Int))) = true ∧ Holds True ∧ decide (32 ≤ aL v0_0.1.1 (0 : Int)) = dP x.1) ∧ (decide (aL v0_0.1.1 (0 : Int) < (0 : Int)) = !false → true = dP x.1)) ∧ ((bj v0_0) = !true → false = dP x.1))

theorem dK (x : HL (fD : ah).as) : vc (bQ x) 1 110 Tryz.f110 (fD) x = cy x := by kernel_rfl

def zi (x : (List Int × List Int × Int) × Unit) : Prop :=
 Holds True ∧
 Holds (0 ≤ max (cG x.1.2.1) (0 : Int)) ∧ max x.1.2.2 (max (cG x.1.2.1) (0 : Int) / (16 : Int)) = lvl x.1

theorem CW (x : HL (uE : ah).as) : vc (wP x) 1 116 Tryz.f116 (uE) x = zi x := by kernel_rfl

def zC (x : (List Int × List Int × Int) × Unit) : Prop :=
 Holds True ∧
 Holds True ∧
 (dP (x.1.1, x.1.2.1, x.1.2.2) = true →
 (decide (0 ≤ cG x.1.1) = true →
 Holds (0 ≤ cG x.1.1) ∧
 Holds True ∧
 (decide (lvl (x.1.1, x.1.2.1, x.1.2.2) < cG x.1.1 / (16 : Int)) = true → cG x.1.1 = dj x.1) ∧
 (decide (lvl (x.1.1, x.1.2.1, x.1.2.2) < cG x.1.1 / (16 : Int)) = false → (-1 : Int) = dj x.1)) ∧
 (decide (0 ≤ cG x.1.1) = !true → (-1 : Int) = dj x.1)) ∧
 (dP (x.1.1, x.1.2.1, x.1.2.2) = !true → (-1 : Int) = dj x.1)

theorem DD (x : HL (j4 : ah).as) : vc (uU x) 1 84 Tryz.f84 (j4) x = zC x := by kernel_rfl

abbrev jy := ((0 : Int) :: (0 : Int) :: (0 : Int) :: (0 : Int) :: ([] : List Int), (0 : Int) :: (0 : Int) :: (0 : Int) :: (0 : Int) :: ([] : List Int), (0 : Int))
def yz (x : (List Int × List Int × Int) × (Int × Int) × Unit) : Prop := Holds True ∧ ((!dP (x.1.1, x.1.2.1, x.1.2.2)) = true → jy = (aW x.1 x.2.1).1 ∧ (0 : Int) = (aW x.1 x.2.1).2.1 ∧ (1 : Int) = (aW x.1 x.2.1).2.2.1) ∧ ((!dP (x.1.1, x.1.2.1, x.1.2.2)) = false → ((x.2.1.1 == 1) = true → ((!decide (x.2.1.2 < 32)) = true → (!decide (x.2.1.2 < 32)) = true) ∧ ((!decide (x.2.1.2 < 32)) = true → (!decide (x.2.1.2 < 32)) = true) ∧ (decide (x.2.1.2 < 32) = false → (!decide (x.2.1.2 < 32)) = true) ∧ ((decide (x.2.1.2 < 32) || decide (256 ≤ x.2.1.2)) = true → jy = (aW x.1 x.2.1).1 ∧ (0 : Int) = (aW x.1 x.2.1).2.1 ∧ (2 : Int) = (aW x.1 x.2.1).2.2.1) ∧ ((decide (x.2.1.2 < 32) || decide (256 ≤ x.2.1.2)) = false → Holds True ∧ (nn x.1.1 x.2.1.2 true, x.1.2.1, x.1.2.2) = (aW x.1 x.2.1).1 ∧ (-1 : Int) = (aW x.1 x.2.1).2.1 ∧ (0 : Int) = (aW x.1 x.2.1).2.2.1)) ∧ ((x.2.1.1 == 1) = false → ((x.2.1.1 == 2) = true → Holds True ∧ (decide (dj (x.1.1, x.1.2.1, x.1.2.2) < 0) = true → jy = (aW x.1 x.2.1).1 ∧ (0 : Int) = (aW x.1 x.2.1).2.1 ∧ (7 : Int) = (aW x.1 x.2.1).2.2.1) ∧ (decide (dj (x.1.1, x.1.2.1, x.1.2.2) < 0) = false → Holds True ∧ Holds True ∧ (nn x.1.1 (dj (x.1.1, x.1.2.1, x.1.2.2)) false, nn x.1.2.1 (dj (x.1.1, x.1.2.1, x.1.2.2)) true, x.1.2.2) = (aW x.1 x.2.1).1 ∧ dj (x.1.1, x.1.2.1, x.1.2.2) = (aW x.1 x.2.1).2.1 ∧ (0 : Int) = (aW x.1 x.2.1).2.2.1)) ∧ ((x.2.1.1 == 2) = false → ((x.2.1.1 == 3) = true → Holds True ∧ (decide (cG x.1.2.1 < 0) = true → jy = (aW x.1 x.2.1).1 ∧ (0 : Int) = (aW x.1 x.2.1).2.1 ∧ (3 : Int) = (aW x.1 x.2.1).2.2.1) ∧ (decide (cG x.1.2.1 < 0) = false → Holds True ∧ (x.1.1, nn x.1.2.1 (cG x.1.2.1) false, x.1.2.2) = (aW x.1 x.2.1).1 ∧ cG x.1.2.1 = (aW x.1 x.2.1).2.1 ∧ (0 : Int) = (aW x.1 x.2.1).2.2.1)) ∧ ((x.2.1.1 == 3) = false → ((x.2.1.1 == 4) = true → ((!decide (x.2.1.2 < 0)) = true → (!decide (x.2.1.2 < 0)) = true) ∧ ((!decide (x.2.1.2 < 0)) = true → (!decide (x.2.1.2 < 0)) = true) ∧ (decide (x.2.1.2 < 0) = false → (!decide (x.2.1.2 < 0)) = true) ∧ ((decide (x.2.1.2 < 0) || decide (15 < x.2.1.2)) = true → jy = (aW x.1 x.2.1).1 ∧ (0 : Int) = (aW x.1 x.2.1).2.1 ∧ (2 : Int) = (aW x.1 x.2.1).2.2.1) ∧ ((decide (x.2.1.2 < 0) || decide (15 < x.2.1.2)) = false → (x.1.1, x.1.2.1, x.2.1.2) = (aW x.1 x.2.1).1 ∧ (-1 : Int) = (aW x.1 x.2.1).2.1 ∧ (0 : Int) = (aW x.1 x.2.1).2.2.1)) ∧ ((x.2.1.1 == 4) = false → jy = (aW x.1 x.2.1).1 ∧ (0 : Int) = (aW x.1 x.2.1).2.1 ∧ (5 : Int) = (aW x.1 x.2.1).2.2.1)))))

theorem BX (x : HL (bg : ah).as) : vc (uH x) 2 82 Tryz.f82 (bg) x = yz x := by kernel_rfl

end
end Go.Proofs.YtlnlichdidobpaaGreatDoor.Apic
