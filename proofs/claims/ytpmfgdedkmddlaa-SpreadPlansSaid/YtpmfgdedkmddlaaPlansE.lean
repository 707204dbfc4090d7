/-
  The conditions that the executor comes to, written out (by a tool of ours), and that they are the conditions (by the kernel).
-/
import Derived.Test.YtpmfgdedkmddlaaPlansC
namespace Go.Proofs.Ytpmfgdedkmddlaa.Plans
open Go.Sx
set_option maxRecDepth 100000

def E_cmp (x : Int × Int × List Int × Unit) : Prop :=
 ((0 : Int) ≤ x.2.1 ∧ x.2.1 < (↑x.2.2.1.length : Int)) ∧
 ((0 : Int) ≤ x.1 ∧ x.1 < (↑x.2.2.1.length : Int)) ∧
 ((-9223372036854775808 : Int) ≤ x.2.2.1.getD x.2.1.toNat (0 : Int) - x.2.2.1.getD x.1.toNat (0 : Int) ∧
 x.2.2.1.getD x.2.1.toNat (0 : Int) - x.2.2.1.getD x.1.toNat (0 : Int) ≤ (9223372036854775807 : Int)) ∧
 x.2.2.1.getD x.2.1.toNat (0 : Int) - x.2.2.1.getD x.1.toNat (0 : Int) = wt x.2.2.1 x.2.1 - wt x.2.2.1 x.1 ∧
 ((True ∧ True) ∧ True) ∧ ((x.2.2.1 = x.2.2.1 ∧ True) ∧ True) ∧ True

theorem E_cmp_eq (x : (pCmp : Prc).G) : vcPr (fx_cmp x) 1 41 Try.f41 (pCmp) x = E_cmp x := by kernel_rfl

def E_swap (x : List Int × Int × Int × Int × List Int × Unit) : Prop :=
 ((((0 : Int) ≤ (0 : Int) ∧ (0 : Int) ≤ x.2.2.2.1 ∧ x.1 = swaps x.1 x.2.1 x.2.2.1 (Int.toNat (0 : Int))) ∧ True) ∧
 (True ∧ x.2.1 = x.2.1 ∧ x.2.2.1 = x.2.2.1 ∧ x.2.2.2.1 = x.2.2.2.1 ∧ True ∧ (0 : Int) = (0 : Int) ∧ True) ∧
 (x.1 = x.1 ∧ (x.2.2.2.2.1 = x.2.2.2.2.1 ∧ True) ∧ (True ∧ (True ∧ True) ∧ True) ∧ True) ∧
 True ∧ (True ∧ True) ∧ True ∧ True) ∧
 ∀ (g : List Int × Int × Unit),
 (0 : Int) ≤ g.2.1 ∧ g.2.1 ≤ x.2.2.2.1 ∧ g.1 = swaps x.1 x.2.1 x.2.2.1 g.2.1.toNat →
 (g.1.length ≤ (9223372036854775807 : Nat) ∧ ∀ (x : Int), x ∈ g.1 → (-9223372036854775808 : Int) ≤ x ∧ x ≤ (9223372036854775807 : Int)) ∧
 ((-9223372036854775808 : Int) ≤ g.2.1 ∧ g.2.1 ≤ (9223372036854775807 : Int)) ∧ True →
 (decide (g.2.1 < x.2.2.2.1) = true →
 ((-9223372036854775808 : Int) ≤ x.2.1 + g.2.1 ∧ x.2.1 + g.2.1 ≤ (9223372036854775807 : Int)) ∧
 ((-9223372036854775808 : Int) ≤ x.2.2.1 + g.2.1 ∧ x.2.2.1 + g.2.1 ≤ (9223372036854775807 : Int)) ∧
 ((-9223372036854775808 : Int) ≤ x.2.2.1 + g.2.1 ∧ x.2.2.1 + g.2.1 ≤ (9223372036854775807 : Int)) ∧
 ((0 : Int) ≤ x.2.2.1 + g.2.1 ∧ x.2.2.1 + g.2.1 < (↑g.1.length : Int)) ∧
 ((-9223372036854775808 : Int) ≤ x.2.1 + g.2.1 ∧ x.2.1 + g.2.1 ≤ (9223372036854775807 : Int)) ∧
 ((0 : Int) ≤ x.2.1 + g.2.1 ∧ x.2.1 + g.2.1 < (↑g.1.length : Int)) ∧
 ((0 : Int) ≤ x.2.1 + g.2.1 ∧ x.2.1 + g.2.1 < (↑g.1.length : Int)) ∧
 ((0 : Int) ≤ x.2.2.1 + g.2.1 ∧
 x.2.2.1 + g.2.1 <
 (↑(g.1.set (x.2.1 + g.2.1).toNat (g.1.getD (x.2.2.1 + g.2.1).toNat (0 : Int))).length : Int)) ∧
 ((-9223372036854775808 : Int) ≤ g.2.1 + (1 : Int) ∧ g.2.1 + (1 : Int) ≤ (9223372036854775807 : Int)) ∧
 (((0 : Int) ≤ g.2.1 + (1 : Int) ∧
 g.2.1 + (1 : Int) ≤ x.2.2.2.1 ∧
 (g.1.set (x.2.1 + g.2.1).toNat (g.1.getD (x.2.2.1 + g.2.1).toNat (0 : Int))).set
 (x.2.2.1 + g.2.1).toNat (g.1.getD (x.2.1 + g.2.1).toNat (0 : Int)) =
 swaps x.1 x.2.1 x.2.2.1 (g.2.1 + (1 : Int)).toNat) ∧
 (x.2.2.2.1 - (g.2.1 + (1 : Int))).toNat < (x.2.2.2.1 - g.2.1).toNat) ∧
 (True ∧
 x.2.1 = x.2.1 ∧
 x.2.2.1 = x.2.2.1 ∧
 x.2.2.2.1 = x.2.2.2.1 ∧ True ∧ g.2.1 + (1 : Int) = g.2.1 + (1 : Int) ∧ True) ∧
 ((g.1.set (x.2.1 + g.2.1).toNat (g.1.getD (x.2.2.1 + g.2.1).toNat (0 : Int))).set
 (x.2.2.1 + g.2.1).toNat (g.1.getD (x.2.1 + g.2.1).toNat (0 : Int)) =
 (g.1.set (x.2.1 + g.2.1).toNat (g.1.getD (x.2.2.1 + g.2.1).toNat (0 : Int))).set
 (x.2.2.1 + g.2.1).toNat (g.1.getD (x.2.1 + g.2.1).toNat (0 : Int)) ∧
 (x.2.2.2.2.1 = x.2.2.2.2.1 ∧ True) ∧ (True ∧ (True ∧ True) ∧ True) ∧ True) ∧
 True ∧ (True ∧ True) ∧ True ∧ True) ∧
 (decide (g.2.1 < x.2.2.2.1) = false →
 True ∧
 (True ∧ (True ∧ True) ∧ True ∧ True) ∧
 (g.1 = swaps x.1 x.2.1 x.2.2.1 x.2.2.2.1.toNat ∧
 (x.2.2.2.2.1 = x.2.2.2.2.1 ∧ True) ∧ (True ∧ (True ∧ True) ∧ True) ∧ True) ∧
 True)

theorem E_swap_eq (x : (pSwap : Prc).G) : vcPr (fx_swap x) 1 75 Try.f75 (pSwap) x = E_swap x := by kernel_rfl

def E_rot (x : List Int × Int × Int × Int × List Int × Unit) : Prop :=
 ((-9223372036854775808 : Int) ≤ x.2.2.1 - x.2.1 ∧ x.2.2.1 - x.2.1 ≤ (9223372036854775807 : Int)) ∧
 ((-9223372036854775808 : Int) ≤ x.2.2.2.1 - x.2.2.1 ∧ x.2.2.2.1 - x.2.2.1 ≤ (9223372036854775807 : Int)) ∧
 (((((1 : Int) ≤ x.2.2.1 - x.2.1 ∧
 (1 : Int) ≤ x.2.2.2.1 - x.2.2.1 ∧
 x.2.2.1 - x.2.1 ≤ x.2.2.1 - x.2.1 ∧ x.2.2.2.1 - x.2.2.1 ≤ x.2.2.2.1 - x.2.2.1) ∧
 x.1.length = x.1.length ∧
 rot x.1 (x.2.2.1 - (x.2.2.1 - x.2.1)) x.2.2.1 (x.2.2.1 + (x.2.2.2.1 - x.2.2.1)) =
 rot x.1 x.2.1 x.2.2.1 x.2.2.2.1) ∧
 True) ∧
 (True ∧
 x.2.1 = x.2.1 ∧
 x.2.2.1 = x.2.2.1 ∧
 x.2.2.2.1 = x.2.2.2.1 ∧
 True ∧
 x.2.2.1 - x.2.1 = x.2.2.1 - x.2.1 ∧
 x.2.2.2.1 - x.2.2.1 = x.2.2.2.1 - x.2.2.1 ∧ True) ∧
 (x.1 = x.1 ∧ (x.2.2.2.2.1 = x.2.2.2.2.1 ∧ True) ∧ (True ∧ (True ∧ True) ∧ True) ∧ True) ∧
 True ∧ (True ∧ True) ∧ True ∧ True) ∧
 ∀ (g : List Int × Int × Int × Unit),
 ((1 : Int) ≤ g.2.1 ∧
 (1 : Int) ≤ g.2.2.1 ∧ g.2.1 ≤ x.2.2.1 - x.2.1 ∧ g.2.2.1 ≤ x.2.2.2.1 - x.2.2.1) ∧
 g.1.length = x.1.length ∧
 rot g.1 (x.2.2.1 - g.2.1) x.2.2.1 (x.2.2.1 + g.2.2.1) =
 rot x.1 x.2.1 x.2.2.1 x.2.2.2.1 →
 (g.1.length ≤ (9223372036854775807 : Nat) ∧ ∀ (x : Int), x ∈ g.1 → (-9223372036854775808 : Int) ≤ x ∧ x ≤ (9223372036854775807 : Int)) ∧
 ((-9223372036854775808 : Int) ≤ g.2.1 ∧ g.2.1 ≤ (9223372036854775807 : Int)) ∧
 ((-9223372036854775808 : Int) ≤ g.2.2.1 ∧ g.2.2.1 ≤ (9223372036854775807 : Int)) ∧ True →
 ((g.2.1 != g.2.2.1) = true →
 (decide (g.2.2.1 < g.2.1) = true →
 ((-9223372036854775808 : Int) ≤ x.2.2.1 - g.2.1 ∧ x.2.2.1 - g.2.1 ≤ (9223372036854775807 : Int)) ∧
 Holds
 (((0 : Int) ≤ x.2.2.1 - g.2.1 ∧
 (0 : Int) ≤ g.2.2.1 ∧
 x.2.2.1 - g.2.1 + g.2.2.1 ≤ x.2.2.1 ∧ x.2.2.1 + g.2.2.1 ≤ (↑g.1.length : Int)) ∧
 g.1.length ≤ (400 : Nat)) ∧
 ((True ∧
 x.2.2.1 - g.2.1 = x.2.2.1 - g.2.1 ∧
 x.2.2.1 = x.2.2.1 ∧ g.2.2.1 = g.2.2.1 ∧ True ∧ True) ∧
 g.1 = g.1 ∧ (x.2.2.2.2.1 = x.2.2.2.2.1 ∧ True) ∧ (True ∧ (True ∧ True) ∧ True) ∧ True) ∧
 ((-9223372036854775808 : Int) ≤ g.2.1 - g.2.2.1 ∧ g.2.1 - g.2.2.1 ≤ (9223372036854775807 : Int)) ∧
 ((((1 : Int) ≤ g.2.1 - g.2.2.1 ∧
 (1 : Int) ≤ g.2.2.1 ∧
 g.2.1 - g.2.2.1 ≤ x.2.2.1 - x.2.1 ∧ g.2.2.1 ≤ x.2.2.2.1 - x.2.2.1) ∧
 (swaps g.1 (x.2.2.1 - g.2.1) x.2.2.1 g.2.2.1.toNat).length = x.1.length ∧
 rot (swaps g.1 (x.2.2.1 - g.2.1) x.2.2.1 g.2.2.1.toNat)
 (x.2.2.1 - (g.2.1 - g.2.2.1)) x.2.2.1 (x.2.2.1 + g.2.2.1) =
 rot x.1 x.2.1 x.2.2.1 x.2.2.2.1) ∧
 (g.2.1 - g.2.2.1 + g.2.2.1).toNat < (g.2.1 + g.2.2.1).toNat) ∧
 (True ∧
 x.2.1 = x.2.1 ∧
 x.2.2.1 = x.2.2.1 ∧
 x.2.2.2.1 = x.2.2.2.1 ∧
 True ∧ g.2.1 - g.2.2.1 = g.2.1 - g.2.2.1 ∧ g.2.2.1 = g.2.2.1 ∧ True) ∧
 (swaps g.1 (x.2.2.1 - g.2.1) x.2.2.1 g.2.2.1.toNat =
 swaps g.1 (x.2.2.1 - g.2.1) x.2.2.1 g.2.2.1.toNat ∧
 (x.2.2.2.2.1 = x.2.2.2.2.1 ∧ True) ∧ (True ∧ (True ∧ True) ∧ True) ∧ True) ∧
 True ∧ (True ∧ True) ∧ True ∧ True) ∧
 (decide (g.2.2.1 < g.2.1) = false →
 ((-9223372036854775808 : Int) ≤ x.2.2.1 - g.2.1 ∧ x.2.2.1 - g.2.1 ≤ (9223372036854775807 : Int)) ∧
 ((-9223372036854775808 : Int) ≤ x.2.2.1 + g.2.2.1 ∧ x.2.2.1 + g.2.2.1 ≤ (9223372036854775807 : Int)) ∧
 ((-9223372036854775808 : Int) ≤ x.2.2.1 + g.2.2.1 - g.2.1 ∧
 x.2.2.1 + g.2.2.1 - g.2.1 ≤ (9223372036854775807 : Int)) ∧
 Holds
 (((0 : Int) ≤ x.2.2.1 - g.2.1 ∧
 (0 : Int) ≤ g.2.1 ∧
 x.2.2.1 - g.2.1 + g.2.1 ≤ x.2.2.1 + g.2.2.1 - g.2.1 ∧
 x.2.2.1 + g.2.2.1 - g.2.1 + g.2.1 ≤ (↑g.1.length : Int)) ∧
 g.1.length ≤ (400 : Nat)) ∧
 ((True ∧
 x.2.2.1 - g.2.1 = x.2.2.1 - g.2.1 ∧
 x.2.2.1 + g.2.2.1 - g.2.1 = x.2.2.1 + g.2.2.1 - g.2.1 ∧
 g.2.1 = g.2.1 ∧ True ∧ True) ∧
 g.1 = g.1 ∧ (x.2.2.2.2.1 = x.2.2.2.2.1 ∧ True) ∧ (True ∧ (True ∧ True) ∧ True) ∧ True) ∧
 ((-9223372036854775808 : Int) ≤ g.2.2.1 - g.2.1 ∧ g.2.2.1 - g.2.1 ≤ (9223372036854775807 : Int)) ∧
 ((((1 : Int) ≤ g.2.1 ∧
 (1 : Int) ≤ g.2.2.1 - g.2.1 ∧
 g.2.1 ≤ x.2.2.1 - x.2.1 ∧ g.2.2.1 - g.2.1 ≤ x.2.2.2.1 - x.2.2.1) ∧
 (swaps g.1 (x.2.2.1 - g.2.1) (x.2.2.1 + g.2.2.1 - g.2.1) g.2.1.toNat).length =
 x.1.length ∧
 rot (swaps g.1 (x.2.2.1 - g.2.1) (x.2.2.1 + g.2.2.1 - g.2.1) g.2.1.toNat)
 (x.2.2.1 - g.2.1) x.2.2.1 (x.2.2.1 + (g.2.2.1 - g.2.1)) =
 rot x.1 x.2.1 x.2.2.1 x.2.2.2.1) ∧
 (g.2.1 + (g.2.2.1 - g.2.1)).toNat < (g.2.1 + g.2.2.1).toNat) ∧
 (True ∧
 x.2.1 = x.2.1 ∧
 x.2.2.1 = x.2.2.1 ∧
 x.2.2.2.1 = x.2.2.2.1 ∧
 True ∧ g.2.1 = g.2.1 ∧ g.2.2.1 - g.2.1 = g.2.2.1 - g.2.1 ∧ True) ∧
 (swaps g.1 (x.2.2.1 - g.2.1) (x.2.2.1 + g.2.2.1 - g.2.1) g.2.1.toNat =
 swaps g.1 (x.2.2.1 - g.2.1) (x.2.2.1 + g.2.2.1 - g.2.1) g.2.1.toNat ∧
 (x.2.2.2.2.1 = x.2.2.2.2.1 ∧ True) ∧ (True ∧ (True ∧ True) ∧ True) ∧ True) ∧
 True ∧ (True ∧ True) ∧ True ∧ True)) ∧
 ((g.2.1 != g.2.2.1) = false →
 ((-9223372036854775808 : Int) ≤ x.2.2.1 - g.2.1 ∧ x.2.2.1 - g.2.1 ≤ (9223372036854775807 : Int)) ∧
 Holds
 (((0 : Int) ≤ x.2.2.1 - g.2.1 ∧
 (0 : Int) ≤ g.2.1 ∧
 x.2.2.1 - g.2.1 + g.2.1 ≤ x.2.2.1 ∧ x.2.2.1 + g.2.1 ≤ (↑g.1.length : Int)) ∧
 g.1.length ≤ (400 : Nat)) ∧
 ((True ∧
 x.2.2.1 - g.2.1 = x.2.2.1 - g.2.1 ∧
 x.2.2.1 = x.2.2.1 ∧ g.2.1 = g.2.1 ∧ True ∧ True) ∧
 g.1 = g.1 ∧ (x.2.2.2.2.1 = x.2.2.2.2.1 ∧ True) ∧ (True ∧ (True ∧ True) ∧ True) ∧ True) ∧
 True ∧
 (True ∧ (True ∧ True) ∧ True ∧ True) ∧
 (swaps g.1 (x.2.2.1 - g.2.1) x.2.2.1 g.2.1.toNat =
 rot x.1 x.2.1 x.2.2.1 x.2.2.2.1 ∧
 (x.2.2.2.2.1 = x.2.2.2.2.1 ∧ True) ∧ (True ∧ (True ∧ True) ∧ True) ∧ True) ∧
 True)

theorem E_rot_eq (x : (pRot : Prc).G) : vcPr (fx_rot x) 1 73 Try.f73 (pRot) x = E_rot x := by kernel_rfl

def E_ins (x : List Int × Int × Int × List Int × Unit) : Prop :=
 ((-9223372036854775808 : Int) ≤ x.2.1 + (1 : Int) ∧ x.2.1 + (1 : Int) ≤ (9223372036854775807 : Int)) ∧
 (((x.2.1 + (1 : Int) ≤ x.2.1 + (1 : Int) ∧
 (x.2.1 + (1 : Int) ≤ x.2.2.1 ∨ x.2.1 + (1 : Int) = x.2.1 + (1 : Int)) ∧
 x.1 = srt x.2.2.2.1 x.1 x.2.1 (x.2.1 + (1 : Int))) ∧
 True) ∧
 (True ∧ x.2.1 = x.2.1 ∧ x.2.2.1 = x.2.2.1 ∧ True ∧ x.2.1 + (1 : Int) = x.2.1 + (1 : Int) ∧ True) ∧
 (x.1 = x.1 ∧ (x.2.2.2.1 = x.2.2.2.1 ∧ True) ∧ (True ∧ (True ∧ True) ∧ True) ∧ True) ∧
 True ∧ (True ∧ True) ∧ True ∧ True) ∧
 ∀ (g : List Int × Int × Unit),
 x.2.1 + (1 : Int) ≤ g.2.1 ∧
 (g.2.1 ≤ x.2.2.1 ∨ g.2.1 = x.2.1 + (1 : Int)) ∧ g.1 = srt x.2.2.2.1 x.1 x.2.1 g.2.1 →
 (g.1.length ≤ (9223372036854775807 : Nat) ∧ ∀ (x : Int), x ∈ g.1 → (-9223372036854775808 : Int) ≤ x ∧ x ≤ (9223372036854775807 : Int)) ∧
 ((-9223372036854775808 : Int) ≤ g.2.1 ∧ g.2.1 ≤ (9223372036854775807 : Int)) ∧ True →
 (decide (g.2.1 < x.2.2.1) = true →
 (((x.2.1 ≤ g.2.1 ∧
 g.2.1 ≤ g.2.1 ∧
 g.1 = mvL g.1 g.2.1 g.2.1 ∧
 ∀ (y : Int), y ∈ seg g.1 g.2.1 g.2.1 → ahd x.2.2.2.1 (g.1.getD g.2.1.toNat (0 : Int)) y) ∧
 True) ∧
 (True ∧ x.2.1 = x.2.1 ∧ x.2.2.1 = x.2.2.1 ∧ True ∧ g.2.1 = g.2.1 ∧ g.2.1 = g.2.1 ∧ True) ∧
 (g.1 = g.1 ∧ (x.2.2.2.1 = x.2.2.2.1 ∧ True) ∧ (True ∧ (True ∧ True) ∧ True) ∧ True) ∧
 True ∧ (True ∧ True) ∧ True ∧ True) ∧
 ∀ (g_1 : List Int × Int × Unit),
 (x.2.1 ≤ g_1.2.1 ∧
 g_1.2.1 ≤ g.2.1 ∧
 g_1.1 = mvL g.1 g_1.2.1 g.2.1 ∧
 ∀ (y : Int), y ∈ seg g.1 g_1.2.1 g.2.1 → ahd x.2.2.2.1 (g.1.getD g.2.1.toNat (0 : Int)) y) →
 (g_1.1.length ≤ (9223372036854775807 : Nat) ∧
 ∀ (x : Int), x ∈ g_1.1 → (-9223372036854775808 : Int) ≤ x ∧ x ≤ (9223372036854775807 : Int)) ∧
 ((-9223372036854775808 : Int) ≤ g_1.2.1 ∧ g_1.2.1 ≤ (9223372036854775807 : Int)) ∧ True →
 (decide (x.2.1 < g_1.2.1) = true →
 ((0 : Int) ≤ g_1.2.1 ∧ g_1.2.1 < (↑g_1.1.length : Int)) ∧
 ((-9223372036854775808 : Int) ≤ g_1.2.1 - (1 : Int) ∧ g_1.2.1 - (1 : Int) ≤ (9223372036854775807 : Int)) ∧
 ((0 : Int) ≤ g_1.2.1 - (1 : Int) ∧ g_1.2.1 - (1 : Int) < (↑g_1.1.length : Int)) ∧
 Holds
 (x.2.2.2.1.length ≤ (400 : Nat) ∧
 x.2.2.2.1.all inS = true ∧
 ∀ (x_1 : Int),
 x_1 ∈
 g_1.1.getD g_1.2.1.toNat (0 : Int) ::
 g_1.1.getD (g_1.2.1 - (1 : Int)).toNat (0 : Int) :: ([] : List Int) →
 (0 : Int) ≤ x_1 ∧ x_1 < (↑x.2.2.2.1.length : Int)) ∧
 ((g_1.1.getD g_1.2.1.toNat (0 : Int) = g_1.1.getD g_1.2.1.toNat (0 : Int) ∧
 g_1.1.getD (g_1.2.1 - (1 : Int)).toNat (0 : Int) =
 g_1.1.getD (g_1.2.1 - (1 : Int)).toNat (0 : Int) ∧
 (True ∧ True) ∧ True) ∧
 (x.2.2.2.1 = x.2.2.2.1 ∧ True) ∧ True) ∧
 (decide
 (wt x.2.2.2.1 (g_1.1.getD (g_1.2.1 - (1 : Int)).toNat (0 : Int)) -
 wt x.2.2.2.1 (g_1.1.getD g_1.2.1.toNat (0 : Int)) <
 (0 : Int)) =
 true →
 ((-9223372036854775808 : Int) ≤ g_1.2.1 - (1 : Int) ∧
 g_1.2.1 - (1 : Int) ≤ (9223372036854775807 : Int)) ∧
 ((-9223372036854775808 : Int) ≤ g_1.2.1 - (1 : Int) ∧
 g_1.2.1 - (1 : Int) ≤ (9223372036854775807 : Int)) ∧
 ((0 : Int) ≤ g_1.2.1 - (1 : Int) ∧ g_1.2.1 - (1 : Int) < (↑g_1.1.length : Int)) ∧
 ((0 : Int) ≤ g_1.2.1 ∧ g_1.2.1 < (↑g_1.1.length : Int)) ∧
 ((0 : Int) ≤ g_1.2.1 ∧ g_1.2.1 < (↑g_1.1.length : Int)) ∧
 ((0 : Int) ≤ g_1.2.1 - (1 : Int) ∧
 g_1.2.1 - (1 : Int) <
 (↑(g_1.1.set g_1.2.1.toNat
 (g_1.1.getD (g_1.2.1 - (1 : Int)).toNat (0 : Int))).length :
 Int)) ∧
 ((-9223372036854775808 : Int) ≤ g_1.2.1 - (1 : Int) ∧
 g_1.2.1 - (1 : Int) ≤ (9223372036854775807 : Int)) ∧
 ((x.2.1 ≤ g_1.2.1 - (1 : Int) ∧
 g_1.2.1 - (1 : Int) ≤ g.2.1 ∧
 (g_1.1.set g_1.2.1.toNat
 (g_1.1.getD (g_1.2.1 - (1 : Int)).toNat (0 : Int))).set
 (g_1.2.1 - (1 : Int)).toNat (g_1.1.getD g_1.2.1.toNat (0 : Int)) =
 mvL g.1 (g_1.2.1 - (1 : Int)) g.2.1 ∧
 ∀ (y : Int),
 y ∈ seg g.1 (g_1.2.1 - (1 : Int)) g.2.1 →
 ahd x.2.2.2.1 (g.1.getD g.2.1.toNat (0 : Int)) y) ∧
 (g_1.2.1 - (1 : Int)).toNat < g_1.2.1.toNat) ∧
 (True ∧
 x.2.1 = x.2.1 ∧
 x.2.2.1 = x.2.2.1 ∧
 True ∧
 g.2.1 = g.2.1 ∧ g_1.2.1 - (1 : Int) = g_1.2.1 - (1 : Int) ∧ True) ∧
 ((g_1.1.set g_1.2.1.toNat
 (g_1.1.getD (g_1.2.1 - (1 : Int)).toNat (0 : Int))).set
 (g_1.2.1 - (1 : Int)).toNat (g_1.1.getD g_1.2.1.toNat (0 : Int)) =
 (g_1.1.set g_1.2.1.toNat
 (g_1.1.getD (g_1.2.1 - (1 : Int)).toNat (0 : Int))).set
 (g_1.2.1 - (1 : Int)).toNat (g_1.1.getD g_1.2.1.toNat (0 : Int)) ∧
 (x.2.2.2.1 = x.2.2.2.1 ∧ True) ∧ (True ∧ (True ∧ True) ∧ True) ∧ True) ∧
 True ∧ (True ∧ True) ∧ True ∧ True) ∧
 (decide
 (wt x.2.2.2.1 (g_1.1.getD (g_1.2.1 - (1 : Int)).toNat (0 : Int)) -
 wt x.2.2.2.1 (g_1.1.getD g_1.2.1.toNat (0 : Int)) <
 (0 : Int)) =
 false →
 ((-9223372036854775808 : Int) ≤ g.2.1 + (1 : Int) ∧ g.2.1 + (1 : Int) ≤ (9223372036854775807 : Int)) ∧
 ((x.2.1 + (1 : Int) ≤ g.2.1 + (1 : Int) ∧
 (g.2.1 + (1 : Int) ≤ x.2.2.1 ∨ g.2.1 + (1 : Int) = x.2.1 + (1 : Int)) ∧
 g_1.1 = srt x.2.2.2.1 x.1 x.2.1 (g.2.1 + (1 : Int))) ∧
 (x.2.2.1 - (g.2.1 + (1 : Int))).toNat < (x.2.2.1 - g.2.1).toNat) ∧
 (True ∧
 x.2.1 = x.2.1 ∧
 x.2.2.1 = x.2.2.1 ∧ True ∧ g.2.1 + (1 : Int) = g.2.1 + (1 : Int) ∧ True) ∧
 (g_1.1 = g_1.1 ∧
 (x.2.2.2.1 = x.2.2.2.1 ∧ True) ∧ (True ∧ (True ∧ True) ∧ True) ∧ True) ∧
 True ∧ (True ∧ True) ∧ True ∧ True)) ∧
 (decide (x.2.1 < g_1.2.1) = !true →
 ((-9223372036854775808 : Int) ≤ g.2.1 + (1 : Int) ∧ g.2.1 + (1 : Int) ≤ (9223372036854775807 : Int)) ∧
 ((x.2.1 + (1 : Int) ≤ g.2.1 + (1 : Int) ∧
 (g.2.1 + (1 : Int) ≤ x.2.2.1 ∨ g.2.1 + (1 : Int) = x.2.1 + (1 : Int)) ∧
 g_1.1 = srt x.2.2.2.1 x.1 x.2.1 (g.2.1 + (1 : Int))) ∧
 (x.2.2.1 - (g.2.1 + (1 : Int))).toNat < (x.2.2.1 - g.2.1).toNat) ∧
 (True ∧
 x.2.1 = x.2.1 ∧
 x.2.2.1 = x.2.2.1 ∧ True ∧ g.2.1 + (1 : Int) = g.2.1 + (1 : Int) ∧ True) ∧
 (g_1.1 = g_1.1 ∧ (x.2.2.2.1 = x.2.2.2.1 ∧ True) ∧ (True ∧ (True ∧ True) ∧ True) ∧ True) ∧
 True ∧ (True ∧ True) ∧ True ∧ True)) ∧
 (decide (g.2.1 < x.2.2.1) = false →
 True ∧
 (True ∧ (True ∧ True) ∧ True ∧ True) ∧
 (g.1 = srt x.2.2.2.1 x.1 x.2.1 x.2.2.1 ∧
 (x.2.2.2.1 = x.2.2.2.1 ∧ True) ∧ (True ∧ (True ∧ True) ∧ True) ∧ True) ∧
 True)

theorem E_ins_eq (x : (pIns : Prc).G) : vcPr (fx_ins x) 1 68 Try.f68 (pIns) x = E_ins x := by kernel_rfl

def E_sym (x : List Int × Int × Int × Int × List Int × Unit) : Prop :=
 ((-9223372036854775808 : Int) ≤ x.2.2.1 - x.2.1 ∧ x.2.2.1 - x.2.1 ≤ (9223372036854775807 : Int)) ∧
 ((x.2.2.1 - x.2.1 == (1 : Int)) = true →
 (((x.2.2.1 ≤ x.2.2.1 ∧
 x.2.2.1 ≤ x.2.2.2.1 ∧
 x.2.2.2.1 ≤ x.2.2.2.1 ∧
 (∀ (k : Int),
 x.2.2.1 ≤ k →
 k < x.2.2.1 → ahd x.2.2.2.2.1 (x.1.getD k.toNat (0 : Int)) (x.1.getD x.2.1.toNat (0 : Int))) ∧
 ∀ (k : Int),
 x.2.2.2.1 ≤ k →
 k < x.2.2.2.1 → ¬ahd x.2.2.2.2.1 (x.1.getD k.toNat (0 : Int)) (x.1.getD x.2.1.toNat (0 : Int))) ∧
 True) ∧
 (True ∧
 x.2.1 = x.2.1 ∧
 x.2.2.1 = x.2.2.1 ∧
 x.2.2.2.1 = x.2.2.2.1 ∧ True ∧ x.2.2.1 = x.2.2.1 ∧ x.2.2.2.1 = x.2.2.2.1 ∧ True) ∧
 (x.1 = x.1 ∧ (x.2.2.2.2.1 = x.2.2.2.2.1 ∧ True) ∧ (True ∧ (True ∧ True) ∧ True) ∧ True) ∧
 True ∧ (True ∧ True) ∧ True ∧ True) ∧
 ∀ (g : Int × Int × Unit),
 (x.2.2.1 ≤ g.1 ∧
 g.1 ≤ g.2.1 ∧
 g.2.1 ≤ x.2.2.2.1 ∧
 (∀ (k : Int),
 x.2.2.1 ≤ k →
 k < g.1 → ahd x.2.2.2.2.1 (x.1.getD k.toNat (0 : Int)) (x.1.getD x.2.1.toNat (0 : Int))) ∧
 ∀ (k : Int),
 g.2.1 ≤ k →
 k < x.2.2.2.1 → ¬ahd x.2.2.2.2.1 (x.1.getD k.toNat (0 : Int)) (x.1.getD x.2.1.toNat (0 : Int))) →
 ((-9223372036854775808 : Int) ≤ g.1 ∧ g.1 ≤ (9223372036854775807 : Int)) ∧
 ((-9223372036854775808 : Int) ≤ g.2.1 ∧ g.2.1 ≤ (9223372036854775807 : Int)) ∧ True →
 (decide (g.1 < g.2.1) = true →
 ((-9223372036854775808 : Int) ≤ g.1 + g.2.1 ∧ g.1 + g.2.1 ≤ (9223372036854775807 : Int)) ∧
 ((0 : Int) ≤ g.1 + g.2.1 ∧ g.1 + g.2.1 ≤ (18446744073709551615 : Int)) ∧
 (0 : Int) ≤ (1 : Int) ∧
 ((-9223372036854775808 : Int) ≤ (g.1 + g.2.1) / (2 : Int) ^ min (Int.toNat (1 : Int)) IntKind.u64.bits ∧
 (g.1 + g.2.1) / (2 : Int) ^ min (Int.toNat (1 : Int)) IntKind.u64.bits ≤ (9223372036854775807 : Int)) ∧
 ((0 : Int) ≤ (g.1 + g.2.1) / (2 : Int) ^ min (Int.toNat (1 : Int)) IntKind.u64.bits ∧
 (g.1 + g.2.1) / (2 : Int) ^ min (Int.toNat (1 : Int)) IntKind.u64.bits < (↑x.1.length : Int)) ∧
 ((0 : Int) ≤ x.2.1 ∧ x.2.1 < (↑x.1.length : Int)) ∧
 Holds
 (x.2.2.2.2.1.length ≤ (400 : Nat) ∧
 x.2.2.2.2.1.all inS = true ∧
 ∀ (x_1 : Int),
 x_1 ∈
 x.1.getD ((g.1 + g.2.1) / (2 : Int) ^ min (Int.toNat (1 : Int)) IntKind.u64.bits).toNat
 (0 : Int) ::
 x.1.getD x.2.1.toNat (0 : Int) :: ([] : List Int) →
 (0 : Int) ≤ x_1 ∧ x_1 < (↑x.2.2.2.2.1.length : Int)) ∧
 ((x.1.getD ((g.1 + g.2.1) / (2 : Int) ^ min (Int.toNat (1 : Int)) IntKind.u64.bits).toNat (0 : Int) =
 x.1.getD ((g.1 + g.2.1) / (2 : Int) ^ min (Int.toNat (1 : Int)) IntKind.u64.bits).toNat (0 : Int) ∧
 x.1.getD x.2.1.toNat (0 : Int) = x.1.getD x.2.1.toNat (0 : Int) ∧ (True ∧ True) ∧ True) ∧
 (x.2.2.2.2.1 = x.2.2.2.2.1 ∧ True) ∧ True) ∧
 (decide
 (wt x.2.2.2.2.1 (x.1.getD x.2.1.toNat (0 : Int)) -
 wt x.2.2.2.2.1
 (x.1.getD ((g.1 + g.2.1) / (2 : Int) ^ min (Int.toNat (1 : Int)) IntKind.u64.bits).toNat
 (0 : Int)) <
 (0 : Int)) =
 true →
 ((-9223372036854775808 : Int) ≤
 (g.1 + g.2.1) / (2 : Int) ^ min (Int.toNat (1 : Int)) IntKind.u64.bits + (1 : Int) ∧
 (g.1 + g.2.1) / (2 : Int) ^ min (Int.toNat (1 : Int)) IntKind.u64.bits + (1 : Int) ≤
 (9223372036854775807 : Int)) ∧
 ((x.2.2.1 ≤ (g.1 + g.2.1) / (2 : Int) ^ min (Int.toNat (1 : Int)) IntKind.u64.bits + (1 : Int) ∧
 (g.1 + g.2.1) / (2 : Int) ^ min (Int.toNat (1 : Int)) IntKind.u64.bits + (1 : Int) ≤ g.2.1 ∧
 g.2.1 ≤ x.2.2.2.1 ∧
 (∀ (k : Int),
 x.2.2.1 ≤ k →
 k < (g.1 + g.2.1) / (2 : Int) ^ min (Int.toNat (1 : Int)) IntKind.u64.bits + (1 : Int) →
 ahd x.2.2.2.2.1 (x.1.getD k.toNat (0 : Int))
 (x.1.getD x.2.1.toNat (0 : Int))) ∧
 ∀ (k : Int),
 g.2.1 ≤ k →
 k < x.2.2.2.1 →
 ¬ahd x.2.2.2.2.1 (x.1.getD k.toNat (0 : Int))
 (x.1.getD x.2.1.toNat (0 : Int))) ∧
 (g.2.1 -
 ((g.1 + g.2.1) / (2 : Int) ^ min (Int.toNat (1 : Int)) IntKind.u64.bits + (1 : Int))).toNat <
 (g.2.1 - g.1).toNat) ∧
 (True ∧
 x.2.1 = x.2.1 ∧
 x.2.2.1 = x.2.2.1 ∧
 x.2.2.2.1 = x.2.2.2.1 ∧
 True ∧
 (g.1 + g.2.1) / (2 : Int) ^ min (Int.toNat (1 : Int)) IntKind.u64.bits + (1 : Int) =
 (g.1 + g.2.1) / (2 : Int) ^ min (Int.toNat (1 : Int)) IntKind.u64.bits + (1 : Int) ∧
 g.2.1 = g.2.1 ∧ True) ∧
 (x.1 = x.1 ∧
 (x.2.2.2.2.1 = x.2.2.2.2.1 ∧ True) ∧ (True ∧ (True ∧ True) ∧ True) ∧ True) ∧
 True ∧ (True ∧ True) ∧ True ∧ True) ∧
 (decide
 (wt x.2.2.2.2.1 (x.1.getD x.2.1.toNat (0 : Int)) -
 wt x.2.2.2.2.1
 (x.1.getD ((g.1 + g.2.1) / (2 : Int) ^ min (Int.toNat (1 : Int)) IntKind.u64.bits).toNat
 (0 : Int)) <
 (0 : Int)) =
 false →
 ((x.2.2.1 ≤ g.1 ∧
 g.1 ≤ (g.1 + g.2.1) / (2 : Int) ^ min (Int.toNat (1 : Int)) IntKind.u64.bits ∧
 (g.1 + g.2.1) / (2 : Int) ^ min (Int.toNat (1 : Int)) IntKind.u64.bits ≤ x.2.2.2.1 ∧
 (∀ (k : Int),
 x.2.2.1 ≤ k →
 k < g.1 →
 ahd x.2.2.2.2.1 (x.1.getD k.toNat (0 : Int))
 (x.1.getD x.2.1.toNat (0 : Int))) ∧
 ∀ (k : Int),
 (g.1 + g.2.1) / (2 : Int) ^ min (Int.toNat (1 : Int)) IntKind.u64.bits ≤ k →
 k < x.2.2.2.1 →
 ¬ahd x.2.2.2.2.1 (x.1.getD k.toNat (0 : Int))
 (x.1.getD x.2.1.toNat (0 : Int))) ∧
 ((g.1 + g.2.1) / (2 : Int) ^ min (Int.toNat (1 : Int)) IntKind.u64.bits - g.1).toNat <
 (g.2.1 - g.1).toNat) ∧
 (True ∧
 x.2.1 = x.2.1 ∧
 x.2.2.1 = x.2.2.1 ∧
 x.2.2.2.1 = x.2.2.2.1 ∧
 True ∧
 g.1 = g.1 ∧
 (g.1 + g.2.1) / (2 : Int) ^ min (Int.toNat (1 : Int)) IntKind.u64.bits =
 (g.1 + g.2.1) / (2 : Int) ^ min (Int.toNat (1 : Int)) IntKind.u64.bits ∧
 True) ∧
 (x.1 = x.1 ∧
 (x.2.2.2.2.1 = x.2.2.2.2.1 ∧ True) ∧ (True ∧ (True ∧ True) ∧ True) ∧ True) ∧
 True ∧ (True ∧ True) ∧ True ∧ True)) ∧
 (decide (g.1 < g.2.1) = false →
 (((x.2.1 ≤ x.2.1 ∧ x.2.1 + (1 : Int) ≤ g.1 ∧ x.1 = mvR x.1 x.2.1 x.2.1) ∧ True) ∧
 (True ∧
 x.2.1 = x.2.1 ∧
 x.2.2.1 = x.2.2.1 ∧
 x.2.2.2.1 = x.2.2.2.1 ∧ True ∧ g.1 = g.1 ∧ x.2.1 = x.2.1 ∧ True) ∧
 (x.1 = x.1 ∧ (x.2.2.2.2.1 = x.2.2.2.2.1 ∧ True) ∧ (True ∧ (True ∧ True) ∧ True) ∧ True) ∧
 True ∧ (True ∧ True) ∧ True ∧ True) ∧
 ∀ (g_1 : List Int × Int × Unit),
 x.2.1 ≤ g_1.2.1 ∧ g_1.2.1 + (1 : Int) ≤ g.1 ∧ g_1.1 = mvR x.1 x.2.1 g_1.2.1 →
 (g_1.1.length ≤ (9223372036854775807 : Nat) ∧
 ∀ (x : Int), x ∈ g_1.1 → (-9223372036854775808 : Int) ≤ x ∧ x ≤ (9223372036854775807 : Int)) ∧
 ((-9223372036854775808 : Int) ≤ g_1.2.1 ∧ g_1.2.1 ≤ (9223372036854775807 : Int)) ∧ True →
 ((-9223372036854775808 : Int) ≤ g.1 - (1 : Int) ∧ g.1 - (1 : Int) ≤ (9223372036854775807 : Int)) ∧
 (decide (g_1.2.1 < g.1 - (1 : Int)) = true →
 ((-9223372036854775808 : Int) ≤ g_1.2.1 + (1 : Int) ∧ g_1.2.1 + (1 : Int) ≤ (9223372036854775807 : Int)) ∧
 ((-9223372036854775808 : Int) ≤ g_1.2.1 + (1 : Int) ∧ g_1.2.1 + (1 : Int) ≤ (9223372036854775807 : Int)) ∧
 ((0 : Int) ≤ g_1.2.1 + (1 : Int) ∧ g_1.2.1 + (1 : Int) < (↑g_1.1.length : Int)) ∧
 ((0 : Int) ≤ g_1.2.1 ∧ g_1.2.1 < (↑g_1.1.length : Int)) ∧
 ((0 : Int) ≤ g_1.2.1 ∧ g_1.2.1 < (↑g_1.1.length : Int)) ∧
 ((0 : Int) ≤ g_1.2.1 + (1 : Int) ∧
 g_1.2.1 + (1 : Int) <
 (↑(g_1.1.set g_1.2.1.toNat (g_1.1.getD (g_1.2.1 + (1 : Int)).toNat (0 : Int))).length :
 Int)) ∧
 ((-9223372036854775808 : Int) ≤ g_1.2.1 + (1 : Int) ∧
 g_1.2.1 + (1 : Int) ≤ (9223372036854775807 : Int)) ∧
 ((x.2.1 ≤ g_1.2.1 + (1 : Int) ∧
 g_1.2.1 + (1 : Int) + (1 : Int) ≤ g.1 ∧
 (g_1.1.set g_1.2.1.toNat (g_1.1.getD (g_1.2.1 + (1 : Int)).toNat (0 : Int))).set
 (g_1.2.1 + (1 : Int)).toNat (g_1.1.getD g_1.2.1.toNat (0 : Int)) =
 mvR x.1 x.2.1 (g_1.2.1 + (1 : Int))) ∧
 (g.1 - (g_1.2.1 + (1 : Int))).toNat < (g.1 - g_1.2.1).toNat) ∧
 (True ∧
 x.2.1 = x.2.1 ∧
 x.2.2.1 = x.2.2.1 ∧
 x.2.2.2.1 = x.2.2.2.1 ∧
 True ∧ g.1 = g.1 ∧ g_1.2.1 + (1 : Int) = g_1.2.1 + (1 : Int) ∧ True) ∧
 ((g_1.1.set g_1.2.1.toNat (g_1.1.getD (g_1.2.1 + (1 : Int)).toNat (0 : Int))).set
 (g_1.2.1 + (1 : Int)).toNat (g_1.1.getD g_1.2.1.toNat (0 : Int)) =
 (g_1.1.set g_1.2.1.toNat (g_1.1.getD (g_1.2.1 + (1 : Int)).toNat (0 : Int))).set
 (g_1.2.1 + (1 : Int)).toNat (g_1.1.getD g_1.2.1.toNat (0 : Int)) ∧
 (x.2.2.2.2.1 = x.2.2.2.2.1 ∧ True) ∧ (True ∧ (True ∧ True) ∧ True) ∧ True) ∧
 True ∧ (True ∧ True) ∧ True ∧ True) ∧
 (decide (g_1.2.1 < g.1 - (1 : Int)) = false →
 True ∧
 (True ∧ (True ∧ True) ∧ True ∧ True) ∧
 (g_1.1 = srt x.2.2.2.2.1 x.1 x.2.1 x.2.2.2.1 ∧
 (x.2.2.2.2.1 = x.2.2.2.2.1 ∧ True) ∧ (True ∧ (True ∧ True) ∧ True) ∧ True) ∧
 True))) ∧
 ((x.2.2.1 - x.2.1 == (1 : Int)) = false →
 ((-9223372036854775808 : Int) ≤ x.2.2.2.1 - x.2.2.1 ∧ x.2.2.2.1 - x.2.2.1 ≤ (9223372036854775807 : Int)) ∧
 ((x.2.2.2.1 - x.2.2.1 == (1 : Int)) = true →
 (((x.2.1 ≤ x.2.1 ∧
 x.2.1 ≤ x.2.2.1 ∧
 x.2.2.1 ≤ x.2.2.1 ∧
 (∀ (k : Int),
 x.2.1 ≤ k →
 k < x.2.1 → ¬ahd x.2.2.2.2.1 (x.1.getD x.2.2.1.toNat (0 : Int)) (x.1.getD k.toNat (0 : Int))) ∧
 ∀ (k : Int),
 x.2.2.1 ≤ k →
 k < x.2.2.1 →
 ahd x.2.2.2.2.1 (x.1.getD x.2.2.1.toNat (0 : Int)) (x.1.getD k.toNat (0 : Int))) ∧
 True) ∧
 (True ∧
 x.2.1 = x.2.1 ∧
 x.2.2.1 = x.2.2.1 ∧
 x.2.2.2.1 = x.2.2.2.1 ∧ True ∧ x.2.1 = x.2.1 ∧ x.2.2.1 = x.2.2.1 ∧ True) ∧
 (x.1 = x.1 ∧ (x.2.2.2.2.1 = x.2.2.2.2.1 ∧ True) ∧ (True ∧ (True ∧ True) ∧ True) ∧ True) ∧
 True ∧ (True ∧ True) ∧ True ∧ True) ∧
 ∀ (g : Int × Int × Unit),
 (x.2.1 ≤ g.1 ∧
 g.1 ≤ g.2.1 ∧
 g.2.1 ≤ x.2.2.1 ∧
 (∀ (k : Int),
 x.2.1 ≤ k →
 k < g.1 → ¬ahd x.2.2.2.2.1 (x.1.getD x.2.2.1.toNat (0 : Int)) (x.1.getD k.toNat (0 : Int))) ∧
 ∀ (k : Int),
 g.2.1 ≤ k →
 k < x.2.2.1 →
 ahd x.2.2.2.2.1 (x.1.getD x.2.2.1.toNat (0 : Int)) (x.1.getD k.toNat (0 : Int))) →
 ((-9223372036854775808 : Int) ≤ g.1 ∧ g.1 ≤ (9223372036854775807 : Int)) ∧
 ((-9223372036854775808 : Int) ≤ g.2.1 ∧ g.2.1 ≤ (9223372036854775807 : Int)) ∧ True →
 (decide (g.1 < g.2.1) = true →
 ((-9223372036854775808 : Int) ≤ g.1 + g.2.1 ∧ g.1 + g.2.1 ≤ (9223372036854775807 : Int)) ∧
 ((0 : Int) ≤ g.1 + g.2.1 ∧ g.1 + g.2.1 ≤ (18446744073709551615 : Int)) ∧
 (0 : Int) ≤ (1 : Int) ∧
 ((-9223372036854775808 : Int) ≤ (g.1 + g.2.1) / (2 : Int) ^ min (Int.toNat (1 : Int)) IntKind.u64.bits ∧
 (g.1 + g.2.1) / (2 : Int) ^ min (Int.toNat (1 : Int)) IntKind.u64.bits ≤ (9223372036854775807 : Int)) ∧
 ((0 : Int) ≤ x.2.2.1 ∧ x.2.2.1 < (↑x.1.length : Int)) ∧
 ((0 : Int) ≤ (g.1 + g.2.1) / (2 : Int) ^ min (Int.toNat (1 : Int)) IntKind.u64.bits ∧
 (g.1 + g.2.1) / (2 : Int) ^ min (Int.toNat (1 : Int)) IntKind.u64.bits < (↑x.1.length : Int)) ∧
 Holds
 (x.2.2.2.2.1.length ≤ (400 : Nat) ∧
 x.2.2.2.2.1.all inS = true ∧
 ∀ (x_1 : Int),
 x_1 ∈
 x.1.getD x.2.2.1.toNat (0 : Int) ::
 x.1.getD ((g.1 + g.2.1) / (2 : Int) ^ min (Int.toNat (1 : Int)) IntKind.u64.bits).toNat
 (0 : Int) ::
 ([] : List Int) →
 (0 : Int) ≤ x_1 ∧ x_1 < (↑x.2.2.2.2.1.length : Int)) ∧
 ((x.1.getD x.2.2.1.toNat (0 : Int) = x.1.getD x.2.2.1.toNat (0 : Int) ∧
 x.1.getD ((g.1 + g.2.1) / (2 : Int) ^ min (Int.toNat (1 : Int)) IntKind.u64.bits).toNat
 (0 : Int) =
 x.1.getD ((g.1 + g.2.1) / (2 : Int) ^ min (Int.toNat (1 : Int)) IntKind.u64.bits).toNat
 (0 : Int) ∧
 (True ∧ True) ∧ True) ∧
 (x.2.2.2.2.1 = x.2.2.2.2.1 ∧ True) ∧ True) ∧
 ((!decide
 (wt x.2.2.2.2.1
 (x.1.getD
 ((g.1 + g.2.1) / (2 : Int) ^ min (Int.toNat (1 : Int)) IntKind.u64.bits).toNat
 (0 : Int)) -
 wt x.2.2.2.2.1 (x.1.getD x.2.2.1.toNat (0 : Int)) <
 (0 : Int))) =
 true →
 ((-9223372036854775808 : Int) ≤
 (g.1 + g.2.1) / (2 : Int) ^ min (Int.toNat (1 : Int)) IntKind.u64.bits + (1 : Int) ∧
 (g.1 + g.2.1) / (2 : Int) ^ min (Int.toNat (1 : Int)) IntKind.u64.bits + (1 : Int) ≤
 (9223372036854775807 : Int)) ∧
 ((x.2.1 ≤ (g.1 + g.2.1) / (2 : Int) ^ min (Int.toNat (1 : Int)) IntKind.u64.bits + (1 : Int) ∧
 (g.1 + g.2.1) / (2 : Int) ^ min (Int.toNat (1 : Int)) IntKind.u64.bits + (1 : Int) ≤
 g.2.1 ∧
 g.2.1 ≤ x.2.2.1 ∧
 (∀ (k : Int),
 x.2.1 ≤ k →
 k <
 (g.1 + g.2.1) / (2 : Int) ^ min (Int.toNat (1 : Int)) IntKind.u64.bits +
 (1 : Int) →
 ¬ahd x.2.2.2.2.1 (x.1.getD x.2.2.1.toNat (0 : Int))
 (x.1.getD k.toNat (0 : Int))) ∧
 ∀ (k : Int),
 g.2.1 ≤ k →
 k < x.2.2.1 →
 ahd x.2.2.2.2.1 (x.1.getD x.2.2.1.toNat (0 : Int))
 (x.1.getD k.toNat (0 : Int))) ∧
 (g.2.1 -
 ((g.1 + g.2.1) / (2 : Int) ^ min (Int.toNat (1 : Int)) IntKind.u64.bits +
 (1 : Int))).toNat <
 (g.2.1 - g.1).toNat) ∧
 (True ∧
 x.2.1 = x.2.1 ∧
 x.2.2.1 = x.2.2.1 ∧
 x.2.2.2.1 = x.2.2.2.1 ∧
 True ∧
 (g.1 + g.2.1) / (2 : Int) ^ min (Int.toNat (1 : Int)) IntKind.u64.bits + (1 : Int) =
 (g.1 + g.2.1) / (2 : Int) ^ min (Int.toNat (1 : Int)) IntKind.u64.bits +
 (1 : Int) ∧
 g.2.1 = g.2.1 ∧ True) ∧
 (x.1 = x.1 ∧
 (x.2.2.2.2.1 = x.2.2.2.2.1 ∧ True) ∧ (True ∧ (True ∧ True) ∧ True) ∧ True) ∧
 True ∧ (True ∧ True) ∧ True ∧ True) ∧
 ((!decide
 (wt x.2.2.2.2.1
 (x.1.getD
 ((g.1 + g.2.1) / (2 : Int) ^ min (Int.toNat (1 : Int)) IntKind.u64.bits).toNat
 (0 : Int)) -
 wt x.2.2.2.2.1 (x.1.getD x.2.2.1.toNat (0 : Int)) <
 (0 : Int))) =
 false →
 ((x.2.1 ≤ g.1 ∧
 g.1 ≤ (g.1 + g.2.1) / (2 : Int) ^ min (Int.toNat (1 : Int)) IntKind.u64.bits ∧
 (g.1 + g.2.1) / (2 : Int) ^ min (Int.toNat (1 : Int)) IntKind.u64.bits ≤ x.2.2.1 ∧
 (∀ (k : Int),
 x.2.1 ≤ k →
 k < g.1 →
 ¬ahd x.2.2.2.2.1 (x.1.getD x.2.2.1.toNat (0 : Int))
 (x.1.getD k.toNat (0 : Int))) ∧
 ∀ (k : Int),
 (g.1 + g.2.1) / (2 : Int) ^ min (Int.toNat (1 : Int)) IntKind.u64.bits ≤ k →
 k < x.2.2.1 →
 ahd x.2.2.2.2.1 (x.1.getD x.2.2.1.toNat (0 : Int))
 (x.1.getD k.toNat (0 : Int))) ∧
 ((g.1 + g.2.1) / (2 : Int) ^ min (Int.toNat (1 : Int)) IntKind.u64.bits - g.1).toNat <
 (g.2.1 - g.1).toNat) ∧
 (True ∧
 x.2.1 = x.2.1 ∧
 x.2.2.1 = x.2.2.1 ∧
 x.2.2.2.1 = x.2.2.2.1 ∧
 True ∧
 g.1 = g.1 ∧
 (g.1 + g.2.1) / (2 : Int) ^ min (Int.toNat (1 : Int)) IntKind.u64.bits =
 (g.1 + g.2.1) / (2 : Int) ^ min (Int.toNat (1 : Int)) IntKind.u64.bits ∧
 True) ∧
 (x.1 = x.1 ∧
 (x.2.2.2.2.1 = x.2.2.2.2.1 ∧ True) ∧ (True ∧ (True ∧ True) ∧ True) ∧ True) ∧
 True ∧ (True ∧ True) ∧ True ∧ True)) ∧
 (decide (g.1 < g.2.1) = false →
 (((g.1 ≤ x.2.2.1 ∧ x.2.2.1 ≤ x.2.2.1 ∧ x.1 = mvL x.1 x.2.2.1 x.2.2.1) ∧ True) ∧
 (True ∧
 x.2.1 = x.2.1 ∧
 x.2.2.1 = x.2.2.1 ∧
 x.2.2.2.1 = x.2.2.2.1 ∧ True ∧ g.1 = g.1 ∧ x.2.2.1 = x.2.2.1 ∧ True) ∧
 (x.1 = x.1 ∧ (x.2.2.2.2.1 = x.2.2.2.2.1 ∧ True) ∧ (True ∧ (True ∧ True) ∧ True) ∧ True) ∧
 True ∧ (True ∧ True) ∧ True ∧ True) ∧
 ∀ (g_1 : List Int × Int × Unit),
 g.1 ≤ g_1.2.1 ∧ g_1.2.1 ≤ x.2.2.1 ∧ g_1.1 = mvL x.1 g_1.2.1 x.2.2.1 →
 (g_1.1.length ≤ (9223372036854775807 : Nat) ∧
 ∀ (x : Int), x ∈ g_1.1 → (-9223372036854775808 : Int) ≤ x ∧ x ≤ (9223372036854775807 : Int)) ∧
 ((-9223372036854775808 : Int) ≤ g_1.2.1 ∧ g_1.2.1 ≤ (9223372036854775807 : Int)) ∧ True →
 (decide (g.1 < g_1.2.1) = true →
 ((-9223372036854775808 : Int) ≤ g_1.2.1 - (1 : Int) ∧ g_1.2.1 - (1 : Int) ≤ (9223372036854775807 : Int)) ∧
 ((-9223372036854775808 : Int) ≤ g_1.2.1 - (1 : Int) ∧
 g_1.2.1 - (1 : Int) ≤ (9223372036854775807 : Int)) ∧
 ((0 : Int) ≤ g_1.2.1 - (1 : Int) ∧ g_1.2.1 - (1 : Int) < (↑g_1.1.length : Int)) ∧
 ((0 : Int) ≤ g_1.2.1 ∧ g_1.2.1 < (↑g_1.1.length : Int)) ∧
 ((0 : Int) ≤ g_1.2.1 ∧ g_1.2.1 < (↑g_1.1.length : Int)) ∧
 ((0 : Int) ≤ g_1.2.1 - (1 : Int) ∧
 g_1.2.1 - (1 : Int) <
 (↑(g_1.1.set g_1.2.1.toNat
 (g_1.1.getD (g_1.2.1 - (1 : Int)).toNat (0 : Int))).length :
 Int)) ∧
 ((-9223372036854775808 : Int) ≤ g_1.2.1 - (1 : Int) ∧
 g_1.2.1 - (1 : Int) ≤ (9223372036854775807 : Int)) ∧
 ((g.1 ≤ g_1.2.1 - (1 : Int) ∧
 g_1.2.1 - (1 : Int) ≤ x.2.2.1 ∧
 (g_1.1.set g_1.2.1.toNat (g_1.1.getD (g_1.2.1 - (1 : Int)).toNat (0 : Int))).set
 (g_1.2.1 - (1 : Int)).toNat (g_1.1.getD g_1.2.1.toNat (0 : Int)) =
 mvL x.1 (g_1.2.1 - (1 : Int)) x.2.2.1) ∧
 (g_1.2.1 - (1 : Int) - g.1).toNat < (g_1.2.1 - g.1).toNat) ∧
 (True ∧
 x.2.1 = x.2.1 ∧
 x.2.2.1 = x.2.2.1 ∧
 x.2.2.2.1 = x.2.2.2.1 ∧
 True ∧ g.1 = g.1 ∧ g_1.2.1 - (1 : Int) = g_1.2.1 - (1 : Int) ∧ True) ∧
 ((g_1.1.set g_1.2.1.toNat (g_1.1.getD (g_1.2.1 - (1 : Int)).toNat (0 : Int))).set
 (g_1.2.1 - (1 : Int)).toNat (g_1.1.getD g_1.2.1.toNat (0 : Int)) =
 (g_1.1.set g_1.2.1.toNat
 (g_1.1.getD (g_1.2.1 - (1 : Int)).toNat (0 : Int))).set
 (g_1.2.1 - (1 : Int)).toNat (g_1.1.getD g_1.2.1.toNat (0 : Int)) ∧
 (x.2.2.2.2.1 = x.2.2.2.2.1 ∧ True) ∧
 (True ∧ (True ∧ True) ∧ True) ∧ True) ∧
 True ∧ (True ∧ True) ∧ True ∧ True) ∧
 (decide (g.1 < g_1.2.1) = false →
 True ∧
 (True ∧ (True ∧ True) ∧ True ∧ True) ∧
 (g_1.1 = srt x.2.2.2.2.1 x.1 x.2.1 x.2.2.2.1 ∧
 (x.2.2.2.2.1 = x.2.2.2.2.1 ∧ True) ∧ (True ∧ (True ∧ True) ∧ True) ∧ True) ∧
 True))) ∧
 ((x.2.2.2.1 - x.2.2.1 == (1 : Int)) = false →
 ((-9223372036854775808 : Int) ≤ x.2.1 + x.2.2.2.1 ∧ x.2.1 + x.2.2.2.1 ≤ (9223372036854775807 : Int)) ∧
 ((0 : Int) ≤ x.2.1 + x.2.2.2.1 ∧ x.2.1 + x.2.2.2.1 ≤ (18446744073709551615 : Int)) ∧
 (0 : Int) ≤ (1 : Int) ∧
 ((-9223372036854775808 : Int) ≤ (x.2.1 + x.2.2.2.1) / (2 : Int) ^ min (Int.toNat (1 : Int)) IntKind.u64.bits ∧
 (x.2.1 + x.2.2.2.1) / (2 : Int) ^ min (Int.toNat (1 : Int)) IntKind.u64.bits ≤ (9223372036854775807 : Int)) ∧
 ((-9223372036854775808 : Int) ≤
 (x.2.1 + x.2.2.2.1) / (2 : Int) ^ min (Int.toNat (1 : Int)) IntKind.u64.bits + x.2.2.1 ∧
 (x.2.1 + x.2.2.2.1) / (2 : Int) ^ min (Int.toNat (1 : Int)) IntKind.u64.bits + x.2.2.1 ≤
 (9223372036854775807 : Int)) ∧
 ((decide ((x.2.1 + x.2.2.2.1) / (2 : Int) ^ min (Int.toNat (1 : Int)) IntKind.u64.bits < x.2.2.1) = true →
 ((-9223372036854775808 : Int) ≤
 (x.2.1 + x.2.2.2.1) / (2 : Int) ^ min (Int.toNat (1 : Int)) IntKind.u64.bits + x.2.2.1 -
 x.2.2.2.1 ∧
 (x.2.1 + x.2.2.2.1) / (2 : Int) ^ min (Int.toNat (1 : Int)) IntKind.u64.bits + x.2.2.1 -
 x.2.2.2.1 ≤
 (9223372036854775807 : Int)) ∧
 (((x.2.1 + x.2.2.2.1) / (2 : Int) ^ min (Int.toNat (1 : Int)) IntKind.u64.bits < x.2.2.1 ∧
 (x.2.1 + x.2.2.2.1) / (2 : Int) ^ min (Int.toNat (1 : Int)) IntKind.u64.bits + x.2.2.1 -
 x.2.2.2.1 =
 (x.2.1 + x.2.2.2.1) / (2 : Int) ^ min (Int.toNat (1 : Int)) IntKind.u64.bits + x.2.2.1 -
 x.2.2.2.1 ∧
 (x.2.1 + x.2.2.2.1) / (2 : Int) ^ min (Int.toNat (1 : Int)) IntKind.u64.bits =
 (x.2.1 + x.2.2.2.1) / (2 : Int) ^ min (Int.toNat (1 : Int)) IntKind.u64.bits ∨
 ¬(x.2.1 + x.2.2.2.1) / (2 : Int) ^ min (Int.toNat (1 : Int)) IntKind.u64.bits < x.2.2.1 ∧
 (x.2.1 + x.2.2.2.1) / (2 : Int) ^ min (Int.toNat (1 : Int)) IntKind.u64.bits + x.2.2.1 -
 x.2.2.2.1 =
 x.2.1 ∧
 (x.2.1 + x.2.2.2.1) / (2 : Int) ^ min (Int.toNat (1 : Int)) IntKind.u64.bits = x.2.2.1) ∧
 True) ∧
 (True ∧
 x.2.1 = x.2.1 ∧
 x.2.2.1 = x.2.2.1 ∧
 x.2.2.2.1 = x.2.2.2.1 ∧
 True ∧
 (x.2.1 + x.2.2.2.1) / (2 : Int) ^ min (Int.toNat (1 : Int)) IntKind.u64.bits =
 (x.2.1 + x.2.2.2.1) / (2 : Int) ^ min (Int.toNat (1 : Int)) IntKind.u64.bits ∧
 (x.2.1 + x.2.2.2.1) / (2 : Int) ^ min (Int.toNat (1 : Int)) IntKind.u64.bits +
 x.2.2.1 =
 (x.2.1 + x.2.2.2.1) / (2 : Int) ^ min (Int.toNat (1 : Int)) IntKind.u64.bits +
 x.2.2.1 ∧
 (x.2.1 + x.2.2.2.1) / (2 : Int) ^ min (Int.toNat (1 : Int)) IntKind.u64.bits +
 x.2.2.1 -
 x.2.2.2.1 =
 (x.2.1 + x.2.2.2.1) / (2 : Int) ^ min (Int.toNat (1 : Int)) IntKind.u64.bits +
 x.2.2.1 -
 x.2.2.2.1 ∧
 (x.2.1 + x.2.2.2.1) / (2 : Int) ^ min (Int.toNat (1 : Int)) IntKind.u64.bits =
 (x.2.1 + x.2.2.2.1) / (2 : Int) ^ min (Int.toNat (1 : Int)) IntKind.u64.bits ∧
 True) ∧
 (x.1 = x.1 ∧ (x.2.2.2.2.1 = x.2.2.2.2.1 ∧ True) ∧ (True ∧ (True ∧ True) ∧ True) ∧ True) ∧
 True ∧ (True ∧ True) ∧ True ∧ True) ∧
 (decide ((x.2.1 + x.2.2.2.1) / (2 : Int) ^ min (Int.toNat (1 : Int)) IntKind.u64.bits < x.2.2.1) = false →
 (((x.2.1 + x.2.2.2.1) / (2 : Int) ^ min (Int.toNat (1 : Int)) IntKind.u64.bits < x.2.2.1 ∧
 x.2.1 =
 (x.2.1 + x.2.2.2.1) / (2 : Int) ^ min (Int.toNat (1 : Int)) IntKind.u64.bits + x.2.2.1 -
 x.2.2.2.1 ∧
 x.2.2.1 = (x.2.1 + x.2.2.2.1) / (2 : Int) ^ min (Int.toNat (1 : Int)) IntKind.u64.bits ∨
 ¬(x.2.1 + x.2.2.2.1) / (2 : Int) ^ min (Int.toNat (1 : Int)) IntKind.u64.bits < x.2.2.1 ∧
 x.2.1 = x.2.1 ∧ x.2.2.1 = x.2.2.1) ∧
 True) ∧
 (True ∧
 x.2.1 = x.2.1 ∧
 x.2.2.1 = x.2.2.1 ∧
 x.2.2.2.1 = x.2.2.2.1 ∧
 True ∧
 (x.2.1 + x.2.2.2.1) / (2 : Int) ^ min (Int.toNat (1 : Int)) IntKind.u64.bits =
 (x.2.1 + x.2.2.2.1) / (2 : Int) ^ min (Int.toNat (1 : Int)) IntKind.u64.bits ∧
 (x.2.1 + x.2.2.2.1) / (2 : Int) ^ min (Int.toNat (1 : Int)) IntKind.u64.bits + x.2.2.1 =
 (x.2.1 + x.2.2.2.1) / (2 : Int) ^ min (Int.toNat (1 : Int)) IntKind.u64.bits +
 x.2.2.1 ∧
 x.2.1 = x.2.1 ∧ x.2.2.1 = x.2.2.1 ∧ True) ∧
 (x.1 = x.1 ∧ (x.2.2.2.2.1 = x.2.2.2.2.1 ∧ True) ∧ (True ∧ (True ∧ True) ∧ True) ∧ True) ∧
 True ∧ (True ∧ True) ∧ True ∧ True)) ∧
 ∀ (g : Int × Int × Unit),
 (x.2.1 + x.2.2.2.1) / (2 : Int) ^ min (Int.toNat (1 : Int)) IntKind.u64.bits < x.2.2.1 ∧
 g.1 =
 (x.2.1 + x.2.2.2.1) / (2 : Int) ^ min (Int.toNat (1 : Int)) IntKind.u64.bits + x.2.2.1 -
 x.2.2.2.1 ∧
 g.2.1 = (x.2.1 + x.2.2.2.1) / (2 : Int) ^ min (Int.toNat (1 : Int)) IntKind.u64.bits ∨
 ¬(x.2.1 + x.2.2.2.1) / (2 : Int) ^ min (Int.toNat (1 : Int)) IntKind.u64.bits < x.2.2.1 ∧
 g.1 = x.2.1 ∧ g.2.1 = x.2.2.1 →
 ((-9223372036854775808 : Int) ≤ g.1 ∧ g.1 ≤ (9223372036854775807 : Int)) ∧
 ((-9223372036854775808 : Int) ≤ g.2.1 ∧ g.2.1 ≤ (9223372036854775807 : Int)) ∧ True →
 ((-9223372036854775808 : Int) ≤
 (x.2.1 + x.2.2.2.1) / (2 : Int) ^ min (Int.toNat (1 : Int)) IntKind.u64.bits + x.2.2.1 -
 (1 : Int) ∧
 (x.2.1 + x.2.2.2.1) / (2 : Int) ^ min (Int.toNat (1 : Int)) IntKind.u64.bits + x.2.2.1 -
 (1 : Int) ≤
 (9223372036854775807 : Int)) ∧
 (((g.1 ≤ g.1 ∧
 g.1 ≤ g.2.1 ∧
 g.2.1 ≤ g.2.1 ∧
 (∀ (k : Int),
 g.1 ≤ k →
 k < g.1 →
 ¬ahd x.2.2.2.2.1
 (x.1.getD
 ((x.2.1 + x.2.2.2.1) / (2 : Int) ^ min (Int.toNat (1 : Int)) IntKind.u64.bits +
 x.2.2.1 -
 (1 : Int) -
 k).toNat
 (0 : Int))
 (x.1.getD k.toNat (0 : Int))) ∧
 ∀ (k : Int),
 g.2.1 ≤ k →
 k < g.2.1 →
 ahd x.2.2.2.2.1
 (x.1.getD
 ((x.2.1 + x.2.2.2.1) / (2 : Int) ^ min (Int.toNat (1 : Int)) IntKind.u64.bits +
 x.2.2.1 -
 (1 : Int) -
 k).toNat
 (0 : Int))
 (x.1.getD k.toNat (0 : Int))) ∧
 True) ∧
 (True ∧
 x.2.1 = x.2.1 ∧
 x.2.2.1 = x.2.2.1 ∧
 x.2.2.2.1 = x.2.2.2.1 ∧
 True ∧
 (x.2.1 + x.2.2.2.1) / (2 : Int) ^ min (Int.toNat (1 : Int)) IntKind.u64.bits =
 (x.2.1 + x.2.2.2.1) / (2 : Int) ^ min (Int.toNat (1 : Int)) IntKind.u64.bits ∧
 (x.2.1 + x.2.2.2.1) / (2 : Int) ^ min (Int.toNat (1 : Int)) IntKind.u64.bits +
 x.2.2.1 =
 (x.2.1 + x.2.2.2.1) / (2 : Int) ^ min (Int.toNat (1 : Int)) IntKind.u64.bits +
 x.2.2.1 ∧
 g.1 = g.1 ∧
 g.2.1 = g.2.1 ∧
 (x.2.1 + x.2.2.2.1) / (2 : Int) ^ min (Int.toNat (1 : Int)) IntKind.u64.bits +
 x.2.2.1 -
 (1 : Int) =
 (x.2.1 + x.2.2.2.1) / (2 : Int) ^ min (Int.toNat (1 : Int)) IntKind.u64.bits +
 x.2.2.1 -
 (1 : Int) ∧
 True) ∧
 (x.1 = x.1 ∧
 (x.2.2.2.2.1 = x.2.2.2.2.1 ∧ True) ∧ (True ∧ (True ∧ True) ∧ True) ∧ True) ∧
 True ∧ (True ∧ True) ∧ True ∧ True) ∧
 ∀ (g_1 : Int × Int × Unit),
 (g.1 ≤ g_1.1 ∧
 g_1.1 ≤ g_1.2.1 ∧
 g_1.2.1 ≤ g.2.1 ∧
 (∀ (k : Int),
 g.1 ≤ k →
 k < g_1.1 →
 ¬ahd x.2.2.2.2.1
 (x.1.getD
 ((x.2.1 + x.2.2.2.1) / (2 : Int) ^ min (Int.toNat (1 : Int)) IntKind.u64.bits +
 x.2.2.1 -
 (1 : Int) -
 k).toNat
 (0 : Int))
 (x.1.getD k.toNat (0 : Int))) ∧
 ∀ (k : Int),
 g_1.2.1 ≤ k →
 k < g.2.1 →
 ahd x.2.2.2.2.1
 (x.1.getD
 ((x.2.1 + x.2.2.2.1) / (2 : Int) ^ min (Int.toNat (1 : Int)) IntKind.u64.bits +
 x.2.2.1 -
 (1 : Int) -
 k).toNat
 (0 : Int))
 (x.1.getD k.toNat (0 : Int))) →
 ((-9223372036854775808 : Int) ≤ g_1.1 ∧ g_1.1 ≤ (9223372036854775807 : Int)) ∧
 ((-9223372036854775808 : Int) ≤ g_1.2.1 ∧ g_1.2.1 ≤ (9223372036854775807 : Int)) ∧ True →
 (decide (g_1.1 < g_1.2.1) = true →
 ((-9223372036854775808 : Int) ≤ g_1.1 + g_1.2.1 ∧
 g_1.1 + g_1.2.1 ≤ (9223372036854775807 : Int)) ∧
 ((0 : Int) ≤ g_1.1 + g_1.2.1 ∧ g_1.1 + g_1.2.1 ≤ (18446744073709551615 : Int)) ∧
 (0 : Int) ≤ (1 : Int) ∧
 ((-9223372036854775808 : Int) ≤
 (g_1.1 + g_1.2.1) / (2 : Int) ^ min (Int.toNat (1 : Int)) IntKind.u64.bits ∧
 (g_1.1 + g_1.2.1) / (2 : Int) ^ min (Int.toNat (1 : Int)) IntKind.u64.bits ≤
 (9223372036854775807 : Int)) ∧
 ((-9223372036854775808 : Int) ≤
 (x.2.1 + x.2.2.2.1) / (2 : Int) ^ min (Int.toNat (1 : Int)) IntKind.u64.bits +
 x.2.2.1 -
 (1 : Int) -
 (g_1.1 + g_1.2.1) / (2 : Int) ^ min (Int.toNat (1 : Int)) IntKind.u64.bits ∧
 (x.2.1 + x.2.2.2.1) / (2 : Int) ^ min (Int.toNat (1 : Int)) IntKind.u64.bits +
 x.2.2.1 -
 (1 : Int) -
 (g_1.1 + g_1.2.1) / (2 : Int) ^ min (Int.toNat (1 : Int)) IntKind.u64.bits ≤
 (9223372036854775807 : Int)) ∧
 ((0 : Int) ≤
 (x.2.1 + x.2.2.2.1) / (2 : Int) ^ min (Int.toNat (1 : Int)) IntKind.u64.bits +
 x.2.2.1 -
 (1 : Int) -
 (g_1.1 + g_1.2.1) / (2 : Int) ^ min (Int.toNat (1 : Int)) IntKind.u64.bits ∧
 (x.2.1 + x.2.2.2.1) / (2 : Int) ^ min (Int.toNat (1 : Int)) IntKind.u64.bits +
 x.2.2.1 -
 (1 : Int) -
 (g_1.1 + g_1.2.1) / (2 : Int) ^ min (Int.toNat (1 : Int)) IntKind.u64.bits <
 (↑x.1.length : Int)) ∧
 ((0 : Int) ≤
 (g_1.1 + g_1.2.1) / (2 : Int) ^ min (Int.toNat (1 : Int)) IntKind.u64.bits ∧
 (g_1.1 + g_1.2.1) / (2 : Int) ^ min (Int.toNat (1 : Int)) IntKind.u64.bits <
 (↑x.1.length : Int)) ∧
 Holds
 (x.2.2.2.2.1.length ≤ (400 : Nat) ∧
 x.2.2.2.2.1.all inS = true ∧
 ∀ (x_1 : Int),
 x_1 ∈
 x.1.getD
 ((x.2.1 + x.2.2.2.1) /
 (2 : Int) ^ min (Int.toNat (1 : Int)) IntKind.u64.bits +
 x.2.2.1 -
 (1 : Int) -
 (g_1.1 + g_1.2.1) /
 (2 : Int) ^ min (Int.toNat (1 : Int)) IntKind.u64.bits).toNat
 (0 : Int) ::
 x.1.getD
 ((g_1.1 + g_1.2.1) /
 (2 : Int) ^ min (Int.toNat (1 : Int)) IntKind.u64.bits).toNat
 (0 : Int) ::
 ([] : List Int) →
 (0 : Int) ≤ x_1 ∧ x_1 < (↑x.2.2.2.2.1.length : Int)) ∧
 ((x.1.getD
 ((x.2.1 + x.2.2.2.1) /
 (2 : Int) ^ min (Int.toNat (1 : Int)) IntKind.u64.bits +
 x.2.2.1 -
 (1 : Int) -
 (g_1.1 + g_1.2.1) /
 (2 : Int) ^ min (Int.toNat (1 : Int)) IntKind.u64.bits).toNat
 (0 : Int) =
 x.1.getD
 ((x.2.1 + x.2.2.2.1) /
 (2 : Int) ^ min (Int.toNat (1 : Int)) IntKind.u64.bits +
 x.2.2.1 -
 (1 : Int) -
 (g_1.1 + g_1.2.1) /
 (2 : Int) ^ min (Int.toNat (1 : Int)) IntKind.u64.bits).toNat
 (0 : Int) ∧
 x.1.getD
 ((g_1.1 + g_1.2.1) /
 (2 : Int) ^ min (Int.toNat (1 : Int)) IntKind.u64.bits).toNat
 (0 : Int) =
 x.1.getD
 ((g_1.1 + g_1.2.1) /
 (2 : Int) ^ min (Int.toNat (1 : Int)) IntKind.u64.bits).toNat
 (0 : Int) ∧
 (True ∧ True) ∧ True) ∧
 (x.2.2.2.2.1 = x.2.2.2.2.1 ∧ True) ∧ True) ∧
 ((!decide
 (wt x.2.2.2.2.1
 (x.1.getD
 ((g_1.1 + g_1.2.1) /
 (2 : Int) ^ min (Int.toNat (1 : Int)) IntKind.u64.bits).toNat
 (0 : Int)) -
 wt x.2.2.2.2.1
 (x.1.getD
 ((x.2.1 + x.2.2.2.1) /
 (2 : Int) ^ min (Int.toNat (1 : Int)) IntKind.u64.bits +
 x.2.2.1 -
 (1 : Int) -
 (g_1.1 + g_1.2.1) /
 (2 : Int) ^ min (Int.toNat (1 : Int)) IntKind.u64.bits).toNat
 (0 : Int)) <
 (0 : Int))) =
 true →
 ((-9223372036854775808 : Int) ≤
 (g_1.1 + g_1.2.1) /
 (2 : Int) ^ min (Int.toNat (1 : Int)) IntKind.u64.bits +
 (1 : Int) ∧
 (g_1.1 + g_1.2.1) /
 (2 : Int) ^ min (Int.toNat (1 : Int)) IntKind.u64.bits +
 (1 : Int) ≤
 (9223372036854775807 : Int)) ∧
 ((g.1 ≤
 (g_1.1 + g_1.2.1) /
 (2 : Int) ^ min (Int.toNat (1 : Int)) IntKind.u64.bits +
 (1 : Int) ∧
 (g_1.1 + g_1.2.1) /
 (2 : Int) ^ min (Int.toNat (1 : Int)) IntKind.u64.bits +
 (1 : Int) ≤
 g_1.2.1 ∧
 g_1.2.1 ≤ g.2.1 ∧
 (∀ (k : Int),
 g.1 ≤ k →
 k <
 (g_1.1 + g_1.2.1) /
 (2 : Int) ^ min (Int.toNat (1 : Int)) IntKind.u64.bits +
 (1 : Int) →
 ¬ahd x.2.2.2.2.1
 (x.1.getD
 ((x.2.1 + x.2.2.2.1) /
 (2 : Int) ^
 min (Int.toNat (1 : Int)) IntKind.u64.bits +
 x.2.2.1 -
 (1 : Int) -
 k).toNat
 (0 : Int))
 (x.1.getD k.toNat (0 : Int))) ∧
 ∀ (k : Int),
 g_1.2.1 ≤ k →
 k < g.2.1 →
 ahd x.2.2.2.2.1
 (x.1.getD
 ((x.2.1 + x.2.2.2.1) /
 (2 : Int) ^
 min (Int.toNat (1 : Int)) IntKind.u64.bits +
 x.2.2.1 -
 (1 : Int) -
 k).toNat
 (0 : Int))
 (x.1.getD k.toNat (0 : Int))) ∧
 (g_1.2.1 -
 ((g_1.1 + g_1.2.1) /
 (2 : Int) ^ min (Int.toNat (1 : Int)) IntKind.u64.bits +
 (1 : Int))).toNat <
 (g_1.2.1 - g_1.1).toNat) ∧
 (True ∧
 x.2.1 = x.2.1 ∧
 x.2.2.1 = x.2.2.1 ∧
 x.2.2.2.1 = x.2.2.2.1 ∧
 True ∧
 (x.2.1 + x.2.2.2.1) /
 (2 : Int) ^ min (Int.toNat (1 : Int)) IntKind.u64.bits =
 (x.2.1 + x.2.2.2.1) /
 (2 : Int) ^ min (Int.toNat (1 : Int)) IntKind.u64.bits ∧
 (x.2.1 + x.2.2.2.1) /
 (2 : Int) ^ min (Int.toNat (1 : Int)) IntKind.u64.bits +
 x.2.2.1 =
 (x.2.1 + x.2.2.2.1) /
 (2 : Int) ^ min (Int.toNat (1 : Int)) IntKind.u64.bits +
 x.2.2.1 ∧
 (g_1.1 + g_1.2.1) /
 (2 : Int) ^ min (Int.toNat (1 : Int)) IntKind.u64.bits +
 (1 : Int) =
 (g_1.1 + g_1.2.1) /
 (2 : Int) ^ min (Int.toNat (1 : Int)) IntKind.u64.bits +
 (1 : Int) ∧
 g_1.2.1 = g_1.2.1 ∧
 (x.2.1 + x.2.2.2.1) /
 (2 : Int) ^
 min (Int.toNat (1 : Int)) IntKind.u64.bits +
 x.2.2.1 -
 (1 : Int) =
 (x.2.1 + x.2.2.2.1) /
 (2 : Int) ^
 min (Int.toNat (1 : Int)) IntKind.u64.bits +
 x.2.2.1 -
 (1 : Int) ∧
 True) ∧
 (x.1 = x.1 ∧
 (x.2.2.2.2.1 = x.2.2.2.2.1 ∧ True) ∧
 (True ∧ (True ∧ True) ∧ True) ∧ True) ∧
 True ∧ (True ∧ True) ∧ True ∧ True) ∧
 ((!decide
 (wt x.2.2.2.2.1
 (x.1.getD
 ((g_1.1 + g_1.2.1) /
 (2 : Int) ^ min (Int.toNat (1 : Int)) IntKind.u64.bits).toNat
 (0 : Int)) -
 wt x.2.2.2.2.1
 (x.1.getD
 ((x.2.1 + x.2.2.2.1) /
 (2 : Int) ^ min (Int.toNat (1 : Int)) IntKind.u64.bits +
 x.2.2.1 -
 (1 : Int) -
 (g_1.1 + g_1.2.1) /
 (2 : Int) ^ min (Int.toNat (1 : Int)) IntKind.u64.bits).toNat
 (0 : Int)) <
 (0 : Int))) =
 false →
 ((g.1 ≤ g_1.1 ∧
 g_1.1 ≤
 (g_1.1 + g_1.2.1) /
 (2 : Int) ^ min (Int.toNat (1 : Int)) IntKind.u64.bits ∧
 (g_1.1 + g_1.2.1) /
 (2 : Int) ^ min (Int.toNat (1 : Int)) IntKind.u64.bits ≤
 g.2.1 ∧
 (∀ (k : Int),
 g.1 ≤ k →
 k < g_1.1 →
 ¬ahd x.2.2.2.2.1
 (x.1.getD
 ((x.2.1 + x.2.2.2.1) /
 (2 : Int) ^
 min (Int.toNat (1 : Int)) IntKind.u64.bits +
 x.2.2.1 -
 (1 : Int) -
 k).toNat
 (0 : Int))
 (x.1.getD k.toNat (0 : Int))) ∧
 ∀ (k : Int),
 (g_1.1 + g_1.2.1) /
 (2 : Int) ^ min (Int.toNat (1 : Int)) IntKind.u64.bits ≤
 k →
 k < g.2.1 →
 ahd x.2.2.2.2.1
 (x.1.getD
 ((x.2.1 + x.2.2.2.1) /
 (2 : Int) ^
 min (Int.toNat (1 : Int)) IntKind.u64.bits +
 x.2.2.1 -
 (1 : Int) -
 k).toNat
 (0 : Int))
 (x.1.getD k.toNat (0 : Int))) ∧
 ((g_1.1 + g_1.2.1) /
 (2 : Int) ^ min (Int.toNat (1 : Int)) IntKind.u64.bits -
 g_1.1).toNat <
 (g_1.2.1 - g_1.1).toNat) ∧
 (True ∧
 x.2.1 = x.2.1 ∧
 x.2.2.1 = x.2.2.1 ∧
 x.2.2.2.1 = x.2.2.2.1 ∧
 True ∧
 (x.2.1 + x.2.2.2.1) /
 (2 : Int) ^ min (Int.toNat (1 : Int)) IntKind.u64.bits =
 (x.2.1 + x.2.2.2.1) /
 (2 : Int) ^ min (Int.toNat (1 : Int)) IntKind.u64.bits ∧
 (x.2.1 + x.2.2.2.1) /
 (2 : Int) ^ min (Int.toNat (1 : Int)) IntKind.u64.bits +
 x.2.2.1 =
 (x.2.1 + x.2.2.2.1) /
 (2 : Int) ^ min (Int.toNat (1 : Int)) IntKind.u64.bits +
 x.2.2.1 ∧
 g_1.1 = g_1.1 ∧
 (g_1.1 + g_1.2.1) /
 (2 : Int) ^ min (Int.toNat (1 : Int)) IntKind.u64.bits =
 (g_1.1 + g_1.2.1) /
 (2 : Int) ^ min (Int.toNat (1 : Int)) IntKind.u64.bits ∧
 (x.2.1 + x.2.2.2.1) /
 (2 : Int) ^
 min (Int.toNat (1 : Int)) IntKind.u64.bits +
 x.2.2.1 -
 (1 : Int) =
 (x.2.1 + x.2.2.2.1) /
 (2 : Int) ^
 min (Int.toNat (1 : Int)) IntKind.u64.bits +
 x.2.2.1 -
 (1 : Int) ∧
 True) ∧
 (x.1 = x.1 ∧
 (x.2.2.2.2.1 = x.2.2.2.2.1 ∧ True) ∧
 (True ∧ (True ∧ True) ∧ True) ∧ True) ∧
 True ∧ (True ∧ True) ∧ True ∧ True)) ∧
 (decide (g_1.1 < g_1.2.1) = false →
 ((-9223372036854775808 : Int) ≤
 (x.2.1 + x.2.2.2.1) / (2 : Int) ^ min (Int.toNat (1 : Int)) IntKind.u64.bits +
 x.2.2.1 -
 g_1.1 ∧
 (x.2.1 + x.2.2.2.1) / (2 : Int) ^ min (Int.toNat (1 : Int)) IntKind.u64.bits +
 x.2.2.1 -
 g_1.1 ≤
 (9223372036854775807 : Int)) ∧
 ((decide (g_1.1 < x.2.2.1) = true →
 decide (g_1.1 < x.2.2.1) = true ∧ decide (g_1.1 < x.2.2.1) = true) ∧
 (decide (g_1.1 < x.2.2.1) = true → decide (g_1.1 < x.2.2.1) = true) ∧
 ((decide (g_1.1 < x.2.2.1) &&
 decide
 (x.2.2.1 <
 (x.2.1 + x.2.2.2.1) /
 (2 : Int) ^ min (Int.toNat (1 : Int)) IntKind.u64.bits +
 x.2.2.1 -
 g_1.1)) =
 true →
 Holds
 (((0 : Int) ≤ g_1.1 ∧
 g_1.1 < x.2.2.1 ∧
 x.2.2.1 <
 (x.2.1 + x.2.2.2.1) /
 (2 : Int) ^ min (Int.toNat (1 : Int)) IntKind.u64.bits +
 x.2.2.1 -
 g_1.1 ∧
 (x.2.1 + x.2.2.2.1) /
 (2 : Int) ^ min (Int.toNat (1 : Int)) IntKind.u64.bits +
 x.2.2.1 -
 g_1.1 ≤
 (↑x.1.length : Int)) ∧
 x.1.length ≤ (400 : Nat)) ∧
 ((True ∧
 g_1.1 = g_1.1 ∧
 x.2.2.1 = x.2.2.1 ∧
 (x.2.1 + x.2.2.2.1) /
 (2 : Int) ^ min (Int.toNat (1 : Int)) IntKind.u64.bits +
 x.2.2.1 -
 g_1.1 =
 (x.2.1 + x.2.2.2.1) /
 (2 : Int) ^ min (Int.toNat (1 : Int)) IntKind.u64.bits +
 x.2.2.1 -
 g_1.1 ∧
 True ∧ True) ∧
 x.1 = x.1 ∧
 (x.2.2.2.2.1 = x.2.2.2.2.1 ∧ True) ∧
 (True ∧ (True ∧ True) ∧ True) ∧ True) ∧
 ((rot x.1 g_1.1 x.2.2.1
 ((x.2.1 + x.2.2.2.1) /
 (2 : Int) ^ min (Int.toNat (1 : Int)) IntKind.u64.bits +
 x.2.2.1 -
 g_1.1) =
 if
 g_1.1 < x.2.2.1 ∧
 x.2.2.1 <
 (x.2.1 + x.2.2.2.1) /
 (2 : Int) ^ min (Int.toNat (1 : Int)) IntKind.u64.bits +
 x.2.2.1 -
 g_1.1 then
 rot x.1 g_1.1 x.2.2.1
 ((x.2.1 + x.2.2.2.1) /
 (2 : Int) ^ min (Int.toNat (1 : Int)) IntKind.u64.bits +
 x.2.2.1 -
 g_1.1)
 else x.1) ∧
 True) ∧
 (True ∧
 x.2.1 = x.2.1 ∧
 x.2.2.1 = x.2.2.1 ∧
 x.2.2.2.1 = x.2.2.2.1 ∧
 True ∧
 (x.2.1 + x.2.2.2.1) /
 (2 : Int) ^ min (Int.toNat (1 : Int)) IntKind.u64.bits =
 (x.2.1 + x.2.2.2.1) /
 (2 : Int) ^ min (Int.toNat (1 : Int)) IntKind.u64.bits ∧
 g_1.1 = g_1.1 ∧
 (x.2.1 + x.2.2.2.1) /
 (2 : Int) ^ min (Int.toNat (1 : Int)) IntKind.u64.bits +
 x.2.2.1 -
 g_1.1 =
 (x.2.1 + x.2.2.2.1) /
 (2 : Int) ^ min (Int.toNat (1 : Int)) IntKind.u64.bits +
 x.2.2.1 -
 g_1.1 ∧
 True) ∧
 (rot x.1 g_1.1 x.2.2.1
 ((x.2.1 + x.2.2.2.1) /
 (2 : Int) ^ min (Int.toNat (1 : Int)) IntKind.u64.bits +
 x.2.2.1 -
 g_1.1) =
 rot x.1 g_1.1 x.2.2.1
 ((x.2.1 + x.2.2.2.1) /
 (2 : Int) ^ min (Int.toNat (1 : Int)) IntKind.u64.bits +
 x.2.2.1 -
 g_1.1) ∧
 (x.2.2.2.2.1 = x.2.2.2.2.1 ∧ True) ∧
 (True ∧ (True ∧ True) ∧ True) ∧ True) ∧
 True ∧ (True ∧ True) ∧ True ∧ True) ∧
 ((decide (g_1.1 < x.2.2.1) &&
 decide
 (x.2.2.1 <
 (x.2.1 + x.2.2.2.1) /
 (2 : Int) ^ min (Int.toNat (1 : Int)) IntKind.u64.bits +
 x.2.2.1 -
 g_1.1)) =
 false →
 ((x.1 =
 if
 g_1.1 < x.2.2.1 ∧
 x.2.2.1 <
 (x.2.1 + x.2.2.2.1) /
 (2 : Int) ^ min (Int.toNat (1 : Int)) IntKind.u64.bits +
 x.2.2.1 -
 g_1.1 then
 rot x.1 g_1.1 x.2.2.1
 ((x.2.1 + x.2.2.2.1) /
 (2 : Int) ^ min (Int.toNat (1 : Int)) IntKind.u64.bits +
 x.2.2.1 -
 g_1.1)
 else x.1) ∧
 True) ∧
 (True ∧
 x.2.1 = x.2.1 ∧
 x.2.2.1 = x.2.2.1 ∧
 x.2.2.2.1 = x.2.2.2.1 ∧
 True ∧
 (x.2.1 + x.2.2.2.1) /
 (2 : Int) ^ min (Int.toNat (1 : Int)) IntKind.u64.bits =
 (x.2.1 + x.2.2.2.1) /
 (2 : Int) ^ min (Int.toNat (1 : Int)) IntKind.u64.bits ∧
 g_1.1 = g_1.1 ∧
 (x.2.1 + x.2.2.2.1) /
 (2 : Int) ^ min (Int.toNat (1 : Int)) IntKind.u64.bits +
 x.2.2.1 -
 g_1.1 =
 (x.2.1 + x.2.2.2.1) /
 (2 : Int) ^ min (Int.toNat (1 : Int)) IntKind.u64.bits +
 x.2.2.1 -
 g_1.1 ∧
 True) ∧
 (x.1 = x.1 ∧
 (x.2.2.2.2.1 = x.2.2.2.2.1 ∧ True) ∧
 (True ∧ (True ∧ True) ∧ True) ∧ True) ∧
 True ∧ (True ∧ True) ∧ True ∧ True)) ∧
 ∀ (g : List Int × Unit),
 (g.1 =
 if
 g_1.1 < x.2.2.1 ∧
 x.2.2.1 <
 (x.2.1 + x.2.2.2.1) /
 (2 : Int) ^ min (Int.toNat (1 : Int)) IntKind.u64.bits +
 x.2.2.1 -
 g_1.1 then
 rot x.1 g_1.1 x.2.2.1
 ((x.2.1 + x.2.2.2.1) / (2 : Int) ^ min (Int.toNat (1 : Int)) IntKind.u64.bits +
 x.2.2.1 -
 g_1.1)
 else x.1) →
 (g.1.length ≤ (9223372036854775807 : Nat) ∧
 ∀ (x : Int),
 x ∈ g.1 → (-9223372036854775808 : Int) ≤ x ∧ x ≤ (9223372036854775807 : Int)) ∧
 True →
 ((decide (x.2.1 < g_1.1) = true →
 decide (x.2.1 < g_1.1) = true ∧ decide (x.2.1 < g_1.1) = true) ∧
 (decide (x.2.1 < g_1.1) = true → decide (x.2.1 < g_1.1) = true) ∧
 ((decide (x.2.1 < g_1.1) &&
 decide
 (g_1.1 <
 (x.2.1 + x.2.2.2.1) /
 (2 : Int) ^ min (Int.toNat (1 : Int)) IntKind.u64.bits)) =
 true →
 Holds
 ((((0 : Int) ≤ x.2.1 ∧
 x.2.1 < g_1.1 ∧
 g_1.1 <
 (x.2.1 + x.2.2.2.1) /
 (2 : Int) ^ min (Int.toNat (1 : Int)) IntKind.u64.bits ∧
 (x.2.1 + x.2.2.2.1) /
 (2 : Int) ^ min (Int.toNat (1 : Int)) IntKind.u64.bits ≤
 (↑g.1.length : Int) ∧
 g.1.length ≤ (400 : Nat)) ∧
 okW x.2.2.2.2.1 g.1 ∧
 down x.2.2.2.2.1 (seg g.1 x.2.1 g_1.1) ∧
 down x.2.2.2.2.1
 (seg g.1 g_1.1
 ((x.2.1 + x.2.2.2.1) /
 (2 : Int) ^ min (Int.toNat (1 : Int)) IntKind.u64.bits)) ∧
 apart (seg g.1 x.2.1 g_1.1)
 (seg g.1 g_1.1
 ((x.2.1 + x.2.2.2.1) /
 (2 : Int) ^ min (Int.toNat (1 : Int)) IntKind.u64.bits))) ∧
 ((x.2.1 + x.2.2.2.1) /
 (2 : Int) ^ min (Int.toNat (1 : Int)) IntKind.u64.bits -
 x.2.1).toNat <
 (x.2.2.2.1 - x.2.1).toNat) ∧
 ((True ∧
 x.2.1 = x.2.1 ∧
 g_1.1 = g_1.1 ∧
 (x.2.1 + x.2.2.2.1) /
 (2 : Int) ^ min (Int.toNat (1 : Int)) IntKind.u64.bits =
 (x.2.1 + x.2.2.2.1) /
 (2 : Int) ^ min (Int.toNat (1 : Int)) IntKind.u64.bits ∧
 True ∧ True) ∧
 g.1 = g.1 ∧
 (x.2.2.2.2.1 = x.2.2.2.2.1 ∧ True) ∧
 (True ∧ (True ∧ True) ∧ True) ∧ True) ∧
 ((srt x.2.2.2.2.1 g.1 x.2.1
 ((x.2.1 + x.2.2.2.1) /
 (2 : Int) ^ min (Int.toNat (1 : Int)) IntKind.u64.bits) =
 if
 x.2.1 < g_1.1 ∧
 g_1.1 <
 (x.2.1 + x.2.2.2.1) /
 (2 : Int) ^ min (Int.toNat (1 : Int)) IntKind.u64.bits then
 srt x.2.2.2.2.1 g.1 x.2.1
 ((x.2.1 + x.2.2.2.1) /
 (2 : Int) ^ min (Int.toNat (1 : Int)) IntKind.u64.bits)
 else g.1) ∧
 True) ∧
 (True ∧
 x.2.1 = x.2.1 ∧
 x.2.2.1 = x.2.2.1 ∧
 x.2.2.2.1 = x.2.2.2.1 ∧
 True ∧
 (x.2.1 + x.2.2.2.1) /
 (2 : Int) ^ min (Int.toNat (1 : Int)) IntKind.u64.bits =
 (x.2.1 + x.2.2.2.1) /
 (2 : Int) ^ min (Int.toNat (1 : Int)) IntKind.u64.bits ∧
 g_1.1 = g_1.1 ∧
 (x.2.1 + x.2.2.2.1) /
 (2 : Int) ^
 min (Int.toNat (1 : Int)) IntKind.u64.bits +
 x.2.2.1 -
 g_1.1 =
 (x.2.1 + x.2.2.2.1) /
 (2 : Int) ^
 min (Int.toNat (1 : Int)) IntKind.u64.bits +
 x.2.2.1 -
 g_1.1 ∧
 True) ∧
 (srt x.2.2.2.2.1 g.1 x.2.1
 ((x.2.1 + x.2.2.2.1) /
 (2 : Int) ^ min (Int.toNat (1 : Int)) IntKind.u64.bits) =
 srt x.2.2.2.2.1 g.1 x.2.1
 ((x.2.1 + x.2.2.2.1) /
 (2 : Int) ^ min (Int.toNat (1 : Int)) IntKind.u64.bits) ∧
 (x.2.2.2.2.1 = x.2.2.2.2.1 ∧ True) ∧
 (True ∧ (True ∧ True) ∧ True) ∧ True) ∧
 True ∧ (True ∧ True) ∧ True ∧ True) ∧
 ((decide (x.2.1 < g_1.1) &&
 decide
 (g_1.1 <
 (x.2.1 + x.2.2.2.1) /
 (2 : Int) ^ min (Int.toNat (1 : Int)) IntKind.u64.bits)) =
 false →
 ((g.1 =
 if
 x.2.1 < g_1.1 ∧
 g_1.1 <
 (x.2.1 + x.2.2.2.1) /
 (2 : Int) ^ min (Int.toNat (1 : Int)) IntKind.u64.bits then
 srt x.2.2.2.2.1 g.1 x.2.1
 ((x.2.1 + x.2.2.2.1) /
 (2 : Int) ^ min (Int.toNat (1 : Int)) IntKind.u64.bits)
 else g.1) ∧
 True) ∧
 (True ∧
 x.2.1 = x.2.1 ∧
 x.2.2.1 = x.2.2.1 ∧
 x.2.2.2.1 = x.2.2.2.1 ∧
 True ∧
 (x.2.1 + x.2.2.2.1) /
 (2 : Int) ^ min (Int.toNat (1 : Int)) IntKind.u64.bits =
 (x.2.1 + x.2.2.2.1) /
 (2 : Int) ^ min (Int.toNat (1 : Int)) IntKind.u64.bits ∧
 g_1.1 = g_1.1 ∧
 (x.2.1 + x.2.2.2.1) /
 (2 : Int) ^ min (Int.toNat (1 : Int)) IntKind.u64.bits +
 x.2.2.1 -
 g_1.1 =
 (x.2.1 + x.2.2.2.1) /
 (2 : Int) ^ min (Int.toNat (1 : Int)) IntKind.u64.bits +
 x.2.2.1 -
 g_1.1 ∧
 True) ∧
 (g.1 = g.1 ∧
 (x.2.2.2.2.1 = x.2.2.2.2.1 ∧ True) ∧
 (True ∧ (True ∧ True) ∧ True) ∧ True) ∧
 True ∧ (True ∧ True) ∧ True ∧ True)) ∧
 ∀ (g_2 : List Int × Unit),
 (g_2.1 =
 if
 x.2.1 < g_1.1 ∧
 g_1.1 <
 (x.2.1 + x.2.2.2.1) /
 (2 : Int) ^ min (Int.toNat (1 : Int)) IntKind.u64.bits then
 srt x.2.2.2.2.1 g.1 x.2.1
 ((x.2.1 + x.2.2.2.1) /
 (2 : Int) ^ min (Int.toNat (1 : Int)) IntKind.u64.bits)
 else g.1) →
 (g_2.1.length ≤ (9223372036854775807 : Nat) ∧
 ∀ (x : Int),
 x ∈ g_2.1 →
 (-9223372036854775808 : Int) ≤ x ∧ x ≤ (9223372036854775807 : Int)) ∧
 True →
 (decide
 ((x.2.1 + x.2.2.2.1) /
 (2 : Int) ^ min (Int.toNat (1 : Int)) IntKind.u64.bits <
 (x.2.1 + x.2.2.2.1) /
 (2 : Int) ^ min (Int.toNat (1 : Int)) IntKind.u64.bits +
 x.2.2.1 -
 g_1.1) =
 true →
 decide
 ((x.2.1 + x.2.2.2.1) /
 (2 : Int) ^ min (Int.toNat (1 : Int)) IntKind.u64.bits <
 (x.2.1 + x.2.2.2.1) /
 (2 : Int) ^ min (Int.toNat (1 : Int)) IntKind.u64.bits +
 x.2.2.1 -
 g_1.1) =
 true ∧
 decide
 ((x.2.1 + x.2.2.2.1) /
 (2 : Int) ^ min (Int.toNat (1 : Int)) IntKind.u64.bits <
 (x.2.1 + x.2.2.2.1) /
 (2 : Int) ^ min (Int.toNat (1 : Int)) IntKind.u64.bits +
 x.2.2.1 -
 g_1.1) =
 true) ∧
 (decide
 ((x.2.1 + x.2.2.2.1) /
 (2 : Int) ^ min (Int.toNat (1 : Int)) IntKind.u64.bits <
 (x.2.1 + x.2.2.2.1) /
 (2 : Int) ^ min (Int.toNat (1 : Int)) IntKind.u64.bits +
 x.2.2.1 -
 g_1.1) =
 true →
 decide
 ((x.2.1 + x.2.2.2.1) /
 (2 : Int) ^ min (Int.toNat (1 : Int)) IntKind.u64.bits <
 (x.2.1 + x.2.2.2.1) /
 (2 : Int) ^ min (Int.toNat (1 : Int)) IntKind.u64.bits +
 x.2.2.1 -
 g_1.1) =
 true) ∧
 ((decide
 ((x.2.1 + x.2.2.2.1) /
 (2 : Int) ^ min (Int.toNat (1 : Int)) IntKind.u64.bits <
 (x.2.1 + x.2.2.2.1) /
 (2 : Int) ^ min (Int.toNat (1 : Int)) IntKind.u64.bits +
 x.2.2.1 -
 g_1.1) &&
 decide
 ((x.2.1 + x.2.2.2.1) /
 (2 : Int) ^ min (Int.toNat (1 : Int)) IntKind.u64.bits +
 x.2.2.1 -
 g_1.1 <
 x.2.2.2.1)) =
 true →
 Holds
 ((((0 : Int) ≤
 (x.2.1 + x.2.2.2.1) /
 (2 : Int) ^ min (Int.toNat (1 : Int)) IntKind.u64.bits ∧
 (x.2.1 + x.2.2.2.1) /
 (2 : Int) ^ min (Int.toNat (1 : Int)) IntKind.u64.bits <
 (x.2.1 + x.2.2.2.1) /
 (2 : Int) ^ min (Int.toNat (1 : Int)) IntKind.u64.bits +
 x.2.2.1 -
 g_1.1 ∧
 (x.2.1 + x.2.2.2.1) /
 (2 : Int) ^ min (Int.toNat (1 : Int)) IntKind.u64.bits +
 x.2.2.1 -
 g_1.1 <
 x.2.2.2.1 ∧
 x.2.2.2.1 ≤ (↑g_2.1.length : Int) ∧
 g_2.1.length ≤ (400 : Nat)) ∧
 okW x.2.2.2.2.1 g_2.1 ∧
 down x.2.2.2.2.1
 (seg g_2.1
 ((x.2.1 + x.2.2.2.1) /
 (2 : Int) ^ min (Int.toNat (1 : Int)) IntKind.u64.bits)
 ((x.2.1 + x.2.2.2.1) /
 (2 : Int) ^ min (Int.toNat (1 : Int)) IntKind.u64.bits +
 x.2.2.1 -
 g_1.1)) ∧
 down x.2.2.2.2.1
 (seg g_2.1
 ((x.2.1 + x.2.2.2.1) /
 (2 : Int) ^ min (Int.toNat (1 : Int)) IntKind.u64.bits +
 x.2.2.1 -
 g_1.1)
 x.2.2.2.1) ∧
 apart
 (seg g_2.1
 ((x.2.1 + x.2.2.2.1) /
 (2 : Int) ^ min (Int.toNat (1 : Int)) IntKind.u64.bits)
 ((x.2.1 + x.2.2.2.1) /
 (2 : Int) ^ min (Int.toNat (1 : Int)) IntKind.u64.bits +
 x.2.2.1 -
 g_1.1))
 (seg g_2.1
 ((x.2.1 + x.2.2.2.1) /
 (2 : Int) ^ min (Int.toNat (1 : Int)) IntKind.u64.bits +
 x.2.2.1 -
 g_1.1)
 x.2.2.2.1)) ∧
 (x.2.2.2.1 -
 (x.2.1 + x.2.2.2.1) /
 (2 : Int) ^ min (Int.toNat (1 : Int)) IntKind.u64.bits).toNat <
 (x.2.2.2.1 - x.2.1).toNat) ∧
 ((True ∧
 (x.2.1 + x.2.2.2.1) /
 (2 : Int) ^ min (Int.toNat (1 : Int)) IntKind.u64.bits =
 (x.2.1 + x.2.2.2.1) /
 (2 : Int) ^ min (Int.toNat (1 : Int)) IntKind.u64.bits ∧
 (x.2.1 + x.2.2.2.1) /
 (2 : Int) ^ min (Int.toNat (1 : Int)) IntKind.u64.bits +
 x.2.2.1 -
 g_1.1 =
 (x.2.1 + x.2.2.2.1) /
 (2 : Int) ^ min (Int.toNat (1 : Int)) IntKind.u64.bits +
 x.2.2.1 -
 g_1.1 ∧
 x.2.2.2.1 = x.2.2.2.1 ∧ True ∧ True) ∧
 g_2.1 = g_2.1 ∧
 (x.2.2.2.2.1 = x.2.2.2.2.1 ∧ True) ∧
 (True ∧ (True ∧ True) ∧ True) ∧ True) ∧
 True ∧
 (True ∧ (True ∧ True) ∧ True ∧ True) ∧
 (srt x.2.2.2.2.1 g_2.1
 ((x.2.1 + x.2.2.2.1) /
 (2 : Int) ^ min (Int.toNat (1 : Int)) IntKind.u64.bits)
 x.2.2.2.1 =
 srt x.2.2.2.2.1 x.1 x.2.1 x.2.2.2.1 ∧
 (x.2.2.2.2.1 = x.2.2.2.2.1 ∧ True) ∧
 (True ∧ (True ∧ True) ∧ True) ∧ True) ∧
 True) ∧
 ((decide
 ((x.2.1 + x.2.2.2.1) /
 (2 : Int) ^ min (Int.toNat (1 : Int)) IntKind.u64.bits <
 (x.2.1 + x.2.2.2.1) /
 (2 : Int) ^ min (Int.toNat (1 : Int)) IntKind.u64.bits +
 x.2.2.1 -
 g_1.1) &&
 decide
 ((x.2.1 + x.2.2.2.1) /
 (2 : Int) ^ min (Int.toNat (1 : Int)) IntKind.u64.bits +
 x.2.2.1 -
 g_1.1 <
 x.2.2.2.1)) =
 false →
 True ∧
 (True ∧ (True ∧ True) ∧ True ∧ True) ∧
 (g_2.1 = srt x.2.2.2.2.1 x.1 x.2.1 x.2.2.2.1 ∧
 (x.2.2.2.2.1 = x.2.2.2.2.1 ∧ True) ∧
 (True ∧ (True ∧ True) ∧ True) ∧ True) ∧
 True))))

theorem E_sym_eq (x : (pSym : Prc).G) : vcPr (fx_sym x) 1 69 Try.f69 (pSym) x = E_sym x := by kernel_rfl

def E_stable (x : List Int × Int × List Int × Unit) : Prop :=
 ((((0 : Int) ≤ (0 : Int) ∧
 (0 : Int) ≤ (↑x.1.length : Int) ∧
 (20 : Int) = (0 : Int) + (20 : Int) ∧
 (0 : Int) % (20 : Int) = (0 : Int) ∧
 x.1.length = x.1.length ∧
 (∀ (q : Int), (0 : Int) ≤ q → (q + (1 : Int)) * (20 : Int) ≤ (0 : Int) → blkT x.2.2.1 x.1 x.1 (20 : Int) q) ∧
 List.drop (Int.toNat (0 : Int)) x.1 = List.drop (Int.toNat (0 : Int)) x.1) ∧
 True) ∧
 (True ∧ x.2.1 = x.2.1 ∧ True ∧ (20 : Int) = (20 : Int) ∧ (0 : Int) = (0 : Int) ∧ (20 : Int) = (20 : Int) ∧ True) ∧
 (x.1 = x.1 ∧ (x.2.2.1 = x.2.2.1 ∧ True) ∧ (True ∧ (True ∧ True) ∧ True) ∧ True) ∧ True ∧ (True ∧ True) ∧ True ∧ True) ∧
 ∀ (g : List Int × Int × Int × Unit),
 (0 : Int) ≤ g.2.1 ∧
 g.2.1 ≤ (↑x.1.length : Int) ∧
 g.2.2.1 = g.2.1 + (20 : Int) ∧
 g.2.1 % (20 : Int) = (0 : Int) ∧
 g.1.length = x.1.length ∧
 (∀ (q : Int), (0 : Int) ≤ q → (q + (1 : Int)) * (20 : Int) ≤ g.2.1 → blkT x.2.2.1 x.1 g.1 (20 : Int) q) ∧
 List.drop g.2.1.toNat g.1 = List.drop g.2.1.toNat x.1 →
 (g.1.length ≤ (9223372036854775807 : Nat) ∧ ∀ (x : Int), x ∈ g.1 → (-9223372036854775808 : Int) ≤ x ∧ x ≤ (9223372036854775807 : Int)) ∧
 ((-9223372036854775808 : Int) ≤ g.2.1 ∧ g.2.1 ≤ (9223372036854775807 : Int)) ∧
 ((-9223372036854775808 : Int) ≤ g.2.2.1 ∧ g.2.2.1 ≤ (9223372036854775807 : Int)) ∧ True →
 (decide (g.2.2.1 ≤ x.2.1) = true →
 Holds
 (((0 : Int) ≤ g.2.1 ∧ g.2.1 ≤ g.2.2.1 ∧ g.2.2.1 ≤ (↑g.1.length : Int) ∧ g.1.length ≤ (400 : Nat)) ∧
 okW x.2.2.1 g.1 ∧ up (seg g.1 g.2.1 g.2.2.1)) ∧
 ((True ∧ g.2.1 = g.2.1 ∧ g.2.2.1 = g.2.2.1 ∧ True ∧ True) ∧
 g.1 = g.1 ∧ (x.2.2.1 = x.2.2.1 ∧ True) ∧ (True ∧ (True ∧ True) ∧ True) ∧ True) ∧
 ((-9223372036854775808 : Int) ≤ g.2.2.1 + (20 : Int) ∧ g.2.2.1 + (20 : Int) ≤ (9223372036854775807 : Int)) ∧
 (((0 : Int) ≤ g.2.2.1 ∧
 g.2.2.1 ≤ (↑x.1.length : Int) ∧
 g.2.2.1 + (20 : Int) = g.2.2.1 + (20 : Int) ∧
 g.2.2.1 % (20 : Int) = (0 : Int) ∧
 (srt x.2.2.1 g.1 g.2.1 g.2.2.1).length = x.1.length ∧
 (∀ (q : Int),
 (0 : Int) ≤ q →
 (q + (1 : Int)) * (20 : Int) ≤ g.2.2.1 →
 blkT x.2.2.1 x.1 (srt x.2.2.1 g.1 g.2.1 g.2.2.1) (20 : Int) q) ∧
 List.drop g.2.2.1.toNat (srt x.2.2.1 g.1 g.2.1 g.2.2.1) =
 List.drop g.2.2.1.toNat x.1) ∧
 ((↑x.1.length : Int) - g.2.2.1).toNat < ((↑x.1.length : Int) - g.2.1).toNat) ∧
 (True ∧
 x.2.1 = x.2.1 ∧
 True ∧
 (20 : Int) = (20 : Int) ∧
 g.2.2.1 = g.2.2.1 ∧ g.2.2.1 + (20 : Int) = g.2.2.1 + (20 : Int) ∧ True) ∧
 (srt x.2.2.1 g.1 g.2.1 g.2.2.1 = srt x.2.2.1 g.1 g.2.1 g.2.2.1 ∧
 (x.2.2.1 = x.2.2.1 ∧ True) ∧ (True ∧ (True ∧ True) ∧ True) ∧ True) ∧
 True ∧ (True ∧ True) ∧ True ∧ True) ∧
 (decide (g.2.2.1 ≤ x.2.1) = false →
 Holds
 (((0 : Int) ≤ g.2.1 ∧ g.2.1 ≤ x.2.1 ∧ x.2.1 ≤ (↑g.1.length : Int) ∧ g.1.length ≤ (400 : Nat)) ∧
 okW x.2.2.1 g.1 ∧ up (seg g.1 g.2.1 x.2.1)) ∧
 ((True ∧ g.2.1 = g.2.1 ∧ x.2.1 = x.2.1 ∧ True ∧ True) ∧
 g.1 = g.1 ∧ (x.2.2.1 = x.2.2.1 ∧ True) ∧ (True ∧ (True ∧ True) ∧ True) ∧ True) ∧
 ((((20 : Int) ≤ (20 : Int) ∧
 (20 : Int) ≤ (800 : Int) ∧
 (srt x.2.2.1 g.1 g.2.1 x.2.1).length = x.1.length ∧
 ∀ (q : Int),
 (0 : Int) ≤ q →
 q * (20 : Int) ≤ (↑x.1.length : Int) →
 blkT x.2.2.1 x.1 (srt x.2.2.1 g.1 g.2.1 x.2.1) (20 : Int) q) ∧
 True) ∧
 (True ∧ x.2.1 = x.2.1 ∧ True ∧ (20 : Int) = (20 : Int) ∧ True) ∧
 (srt x.2.2.1 g.1 g.2.1 x.2.1 = srt x.2.2.1 g.1 g.2.1 x.2.1 ∧
 (x.2.2.1 = x.2.2.1 ∧ True) ∧ (True ∧ (True ∧ True) ∧ True) ∧ True) ∧
 True ∧ (True ∧ True) ∧ True ∧ True) ∧
 ∀ (g : List Int × Int × Unit),
 ((20 : Int) ≤ g.2.1 ∧
 g.2.1 ≤ (800 : Int) ∧
 g.1.length = x.1.length ∧
 ∀ (q : Int), (0 : Int) ≤ q → q * g.2.1 ≤ (↑x.1.length : Int) → blkT x.2.2.1 x.1 g.1 g.2.1 q) →
 (g.1.length ≤ (9223372036854775807 : Nat) ∧
 ∀ (x : Int), x ∈ g.1 → (-9223372036854775808 : Int) ≤ x ∧ x ≤ (9223372036854775807 : Int)) ∧
 ((-9223372036854775808 : Int) ≤ g.2.1 ∧ g.2.1 ≤ (9223372036854775807 : Int)) ∧ True →
 (decide (g.2.1 < x.2.1) = true →
 ((-9223372036854775808 : Int) ≤ (2 : Int) * g.2.1 ∧ (2 : Int) * g.2.1 ≤ (9223372036854775807 : Int)) ∧
 ((((0 : Int) ≤ (0 : Int) ∧
 (0 : Int) ≤ (↑x.1.length : Int) ∧
 (2 : Int) * g.2.1 = (0 : Int) + (2 : Int) * g.2.1 ∧
 (0 : Int) % ((2 : Int) * g.2.1) = (0 : Int) ∧
 g.1.length = x.1.length ∧
 (∀ (q : Int),
 (0 : Int) ≤ q →
 (q + (1 : Int)) * ((2 : Int) * g.2.1) ≤ (0 : Int) →
 blkT x.2.2.1 x.1 g.1 ((2 : Int) * g.2.1) q) ∧
 ∀ (q : Int),
 (0 : Int) ≤ q * g.2.1 →
 q * g.2.1 ≤ (↑x.1.length : Int) → blkT x.2.2.1 x.1 g.1 g.2.1 q) ∧
 True) ∧
 (True ∧
 x.2.1 = x.2.1 ∧
 True ∧ g.2.1 = g.2.1 ∧ (0 : Int) = (0 : Int) ∧ (2 : Int) * g.2.1 = (2 : Int) * g.2.1 ∧ True) ∧
 (g.1 = g.1 ∧ (x.2.2.1 = x.2.2.1 ∧ True) ∧ (True ∧ (True ∧ True) ∧ True) ∧ True) ∧
 True ∧ (True ∧ True) ∧ True ∧ True) ∧
 ∀ (g_1 : List Int × Int × Int × Unit),
 ((0 : Int) ≤ g_1.2.1 ∧
 g_1.2.1 ≤ (↑x.1.length : Int) ∧
 g_1.2.2.1 = g_1.2.1 + (2 : Int) * g.2.1 ∧
 g_1.2.1 % ((2 : Int) * g.2.1) = (0 : Int) ∧
 g_1.1.length = x.1.length ∧
 (∀ (q : Int),
 (0 : Int) ≤ q →
 (q + (1 : Int)) * ((2 : Int) * g.2.1) ≤ g_1.2.1 →
 blkT x.2.2.1 x.1 g_1.1 ((2 : Int) * g.2.1) q) ∧
 ∀ (q : Int),
 g_1.2.1 ≤ q * g.2.1 →
 q * g.2.1 ≤ (↑x.1.length : Int) → blkT x.2.2.1 x.1 g_1.1 g.2.1 q) →
 (g_1.1.length ≤ (9223372036854775807 : Nat) ∧
 ∀ (x : Int), x ∈ g_1.1 → (-9223372036854775808 : Int) ≤ x ∧ x ≤ (9223372036854775807 : Int)) ∧
 ((-9223372036854775808 : Int) ≤ g_1.2.1 ∧ g_1.2.1 ≤ (9223372036854775807 : Int)) ∧
 ((-9223372036854775808 : Int) ≤ g_1.2.2.1 ∧ g_1.2.2.1 ≤ (9223372036854775807 : Int)) ∧ True →
 (decide (g_1.2.2.1 ≤ x.2.1) = true →
 ((-9223372036854775808 : Int) ≤ g_1.2.1 + g.2.1 ∧
 g_1.2.1 + g.2.1 ≤ (9223372036854775807 : Int)) ∧
 Holds
 (((0 : Int) ≤ g_1.2.1 ∧
 g_1.2.1 < g_1.2.1 + g.2.1 ∧
 g_1.2.1 + g.2.1 < g_1.2.2.1 ∧
 g_1.2.2.1 ≤ (↑g_1.1.length : Int) ∧ g_1.1.length ≤ (400 : Nat)) ∧
 okW x.2.2.1 g_1.1 ∧
 down x.2.2.1 (seg g_1.1 g_1.2.1 (g_1.2.1 + g.2.1)) ∧
 down x.2.2.1 (seg g_1.1 (g_1.2.1 + g.2.1) g_1.2.2.1) ∧
 apart (seg g_1.1 g_1.2.1 (g_1.2.1 + g.2.1))
 (seg g_1.1 (g_1.2.1 + g.2.1) g_1.2.2.1)) ∧
 ((True ∧
 g_1.2.1 = g_1.2.1 ∧
 g_1.2.1 + g.2.1 = g_1.2.1 + g.2.1 ∧
 g_1.2.2.1 = g_1.2.2.1 ∧ True ∧ True) ∧
 g_1.1 = g_1.1 ∧ (x.2.2.1 = x.2.2.1 ∧ True) ∧ (True ∧ (True ∧ True) ∧ True) ∧ True) ∧
 ((-9223372036854775808 : Int) ≤ (2 : Int) * g.2.1 ∧
 (2 : Int) * g.2.1 ≤ (9223372036854775807 : Int)) ∧
 ((-9223372036854775808 : Int) ≤ g_1.2.2.1 + (2 : Int) * g.2.1 ∧
 g_1.2.2.1 + (2 : Int) * g.2.1 ≤ (9223372036854775807 : Int)) ∧
 (((0 : Int) ≤ g_1.2.2.1 ∧
 g_1.2.2.1 ≤ (↑x.1.length : Int) ∧
 g_1.2.2.1 + (2 : Int) * g.2.1 = g_1.2.2.1 + (2 : Int) * g.2.1 ∧
 g_1.2.2.1 % ((2 : Int) * g.2.1) = (0 : Int) ∧
 (srt x.2.2.1 g_1.1 g_1.2.1 g_1.2.2.1).length = x.1.length ∧
 (∀ (q : Int),
 (0 : Int) ≤ q →
 (q + (1 : Int)) * ((2 : Int) * g.2.1) ≤ g_1.2.2.1 →
 blkT x.2.2.1 x.1
 (srt x.2.2.1 g_1.1 g_1.2.1 g_1.2.2.1)
 ((2 : Int) * g.2.1) q) ∧
 ∀ (q : Int),
 g_1.2.2.1 ≤ q * g.2.1 →
 q * g.2.1 ≤ (↑x.1.length : Int) →
 blkT x.2.2.1 x.1
 (srt x.2.2.1 g_1.1 g_1.2.1 g_1.2.2.1) g.2.1 q) ∧
 ((↑x.1.length : Int) - g_1.2.2.1).toNat <
 ((↑x.1.length : Int) - g_1.2.1).toNat) ∧
 (True ∧
 x.2.1 = x.2.1 ∧
 True ∧
 g.2.1 = g.2.1 ∧
 g_1.2.2.1 = g_1.2.2.1 ∧
 g_1.2.2.1 + (2 : Int) * g.2.1 = g_1.2.2.1 + (2 : Int) * g.2.1 ∧
 True) ∧
 (srt x.2.2.1 g_1.1 g_1.2.1 g_1.2.2.1 =
 srt x.2.2.1 g_1.1 g_1.2.1 g_1.2.2.1 ∧
 (x.2.2.1 = x.2.2.1 ∧ True) ∧ (True ∧ (True ∧ True) ∧ True) ∧ True) ∧
 True ∧ (True ∧ True) ∧ True ∧ True) ∧
 (decide (g_1.2.2.1 ≤ x.2.1) = false →
 ((-9223372036854775808 : Int) ≤ g_1.2.1 + g.2.1 ∧
 g_1.2.1 + g.2.1 ≤ (9223372036854775807 : Int)) ∧
 (decide (g_1.2.1 + g.2.1 < x.2.1) = true →
 Holds
 (((0 : Int) ≤ g_1.2.1 ∧
 g_1.2.1 < g_1.2.1 + g.2.1 ∧
 g_1.2.1 + g.2.1 < x.2.1 ∧
 x.2.1 ≤ (↑g_1.1.length : Int) ∧ g_1.1.length ≤ (400 : Nat)) ∧
 okW x.2.2.1 g_1.1 ∧
 down x.2.2.1 (seg g_1.1 g_1.2.1 (g_1.2.1 + g.2.1)) ∧
 down x.2.2.1 (seg g_1.1 (g_1.2.1 + g.2.1) x.2.1) ∧
 apart (seg g_1.1 g_1.2.1 (g_1.2.1 + g.2.1))
 (seg g_1.1 (g_1.2.1 + g.2.1) x.2.1)) ∧
 ((True ∧
 g_1.2.1 = g_1.2.1 ∧
 g_1.2.1 + g.2.1 = g_1.2.1 + g.2.1 ∧ x.2.1 = x.2.1 ∧ True ∧ True) ∧
 g_1.1 = g_1.1 ∧
 (x.2.2.1 = x.2.2.1 ∧ True) ∧ (True ∧ (True ∧ True) ∧ True) ∧ True) ∧
 ((-9223372036854775808 : Int) ≤ g.2.1 * (2 : Int) ∧
 g.2.1 * (2 : Int) ≤ (9223372036854775807 : Int)) ∧
 (((20 : Int) ≤ g.2.1 * (2 : Int) ∧
 g.2.1 * (2 : Int) ≤ (800 : Int) ∧
 (srt x.2.2.1 g_1.1 g_1.2.1 x.2.1).length = x.1.length ∧
 ∀ (q : Int),
 (0 : Int) ≤ q →
 q * (g.2.1 * (2 : Int)) ≤ (↑x.1.length : Int) →
 blkT x.2.2.1 x.1 (srt x.2.2.1 g_1.1 g_1.2.1 x.2.1)
 (g.2.1 * (2 : Int)) q) ∧
 ((↑x.1.length : Int) - g.2.1 * (2 : Int)).toNat <
 ((↑x.1.length : Int) - g.2.1).toNat) ∧
 (True ∧ x.2.1 = x.2.1 ∧ True ∧ g.2.1 * (2 : Int) = g.2.1 * (2 : Int) ∧ True) ∧
 (srt x.2.2.1 g_1.1 g_1.2.1 x.2.1 =
 srt x.2.2.1 g_1.1 g_1.2.1 x.2.1 ∧
 (x.2.2.1 = x.2.2.1 ∧ True) ∧ (True ∧ (True ∧ True) ∧ True) ∧ True) ∧
 True ∧ (True ∧ True) ∧ True ∧ True) ∧
 (decide (g_1.2.1 + g.2.1 < x.2.1) = false →
 ((-9223372036854775808 : Int) ≤ g.2.1 * (2 : Int) ∧
 g.2.1 * (2 : Int) ≤ (9223372036854775807 : Int)) ∧
 (((20 : Int) ≤ g.2.1 * (2 : Int) ∧
 g.2.1 * (2 : Int) ≤ (800 : Int) ∧
 g_1.1.length = x.1.length ∧
 ∀ (q : Int),
 (0 : Int) ≤ q →
 q * (g.2.1 * (2 : Int)) ≤ (↑x.1.length : Int) →
 blkT x.2.2.1 x.1 g_1.1 (g.2.1 * (2 : Int)) q) ∧
 ((↑x.1.length : Int) - g.2.1 * (2 : Int)).toNat <
 ((↑x.1.length : Int) - g.2.1).toNat) ∧
 (True ∧ x.2.1 = x.2.1 ∧ True ∧ g.2.1 * (2 : Int) = g.2.1 * (2 : Int) ∧ True) ∧
 (g_1.1 = g_1.1 ∧
 (x.2.2.1 = x.2.2.1 ∧ True) ∧ (True ∧ (True ∧ True) ∧ True) ∧ True) ∧
 True ∧ (True ∧ True) ∧ True ∧ True))) ∧
 (decide (g.2.1 < x.2.1) = false →
 True ∧
 (True ∧ (True ∧ True) ∧ True ∧ True) ∧
 (g.1 = sortT x.2.2.1 x.1 ∧ (x.2.2.1 = x.2.2.1 ∧ True) ∧ (True ∧ (True ∧ True) ∧ True) ∧ True) ∧
 True))

theorem E_stable_eq (x : (pStable : Prc).G) : vcPr (fx_stable x) 1 59 Try.f59 (pStable) x = E_stable x := by kernel_rfl

def E_sort (x : List Int × List Int × Unit) : Prop :=
 Holds (((↑x.1.length : Int) = (↑x.1.length : Int) ∧ x.1.length ≤ (400 : Nat)) ∧ okW x.2.1 x.1 ∧ up x.1) ∧
 ((True ∧ (↑x.1.length : Int) = (↑x.1.length : Int) ∧ True ∧ True) ∧
 x.1 = x.1 ∧ (x.2.1 = x.2.1 ∧ True) ∧ (True ∧ (True ∧ True) ∧ True) ∧ True) ∧
 True ∧
 (True ∧ (True ∧ True) ∧ True ∧ True) ∧
 (sortT x.2.1 x.1 = sortT x.2.1 x.1 ∧ (x.2.1 = x.2.1 ∧ True) ∧ (True ∧ (True ∧ True) ∧ True) ∧ True) ∧ True

theorem E_sort_eq (x : (pSort : Prc).G) : vcPr (fx_sort x) 1 40 Try.f40 (pSort) x = E_sort x := by kernel_rfl

def E_equal (x : List Int × List Int × Unit) : Prop :=
 (((↑x.1.length : Int) != (↑x.2.1.length : Int)) = true → false = decide (x.1 = x.2.1)) ∧
 (((↑x.1.length : Int) != (↑x.2.1.length : Int)) = false →
 ((((0 : Int) ≤ (0 : Int) ∧
 (0 : Int) ≤ (↑x.1.length : Int) ∧ List.take (Int.toNat (0 : Int)) x.1 = List.take (Int.toNat (0 : Int)) x.2.1) ∧
 True) ∧
 (x.1 = x.1 ∧ x.2.1 = x.2.1 ∧ (↑x.1.length : Int) = (↑x.1.length : Int) ∧ (0 : Int) = (0 : Int) ∧ True) ∧ True ∧ True) ∧
 ∀ (g : Int × Unit),
 (0 : Int) ≤ g.1 ∧ g.1 ≤ (↑x.1.length : Int) ∧ List.take g.1.toNat x.1 = List.take g.1.toNat x.2.1 →
 ((-9223372036854775808 : Int) ≤ g.1 ∧ g.1 ≤ (9223372036854775807 : Int)) ∧ True →
 (decide (g.1 < (↑x.1.length : Int)) = true →
 ((0 : Int) ≤ g.1 ∧ g.1 < (↑x.1.length : Int)) ∧
 ((0 : Int) ≤ g.1 ∧ g.1 < (↑x.2.1.length : Int)) ∧
 ((x.1.getD g.1.toNat (0 : Int) != x.2.1.getD g.1.toNat (0 : Int)) = true → false = decide (x.1 = x.2.1)) ∧
 ((x.1.getD g.1.toNat (0 : Int) != x.2.1.getD g.1.toNat (0 : Int)) = false →
 ((-9223372036854775808 : Int) ≤ g.1 + (1 : Int) ∧ g.1 + (1 : Int) ≤ (9223372036854775807 : Int)) ∧
 (((0 : Int) ≤ g.1 + (1 : Int) ∧
 g.1 + (1 : Int) ≤ (↑x.1.length : Int) ∧
 List.take (g.1 + (1 : Int)).toNat x.1 = List.take (g.1 + (1 : Int)).toNat x.2.1) ∧
 ((↑x.1.length : Int) - (g.1 + (1 : Int))).toNat < ((↑x.1.length : Int) - g.1).toNat) ∧
 (x.1 = x.1 ∧
 x.2.1 = x.2.1 ∧
 (↑x.1.length : Int) = (↑x.1.length : Int) ∧ g.1 + (1 : Int) = g.1 + (1 : Int) ∧ True) ∧
 True ∧ True)) ∧
 (decide (g.1 < (↑x.1.length : Int)) = false → true = decide (x.1 = x.2.1)))

theorem E_equal_eq (x : HL (cEqual : Ctr).as) : vc (fx_equal x) 1 11 Try.f11 (cEqual) x = E_equal x := by kernel_rfl

def E_min (x : List Int × Unit) : Prop :=
 (decide ((↑x.1.length : Int) < (1 : Int)) = true → False) ∧
 (decide ((↑x.1.length : Int) < (1 : Int)) = false →
 ((0 : Int) ≤ (0 : Int) ∧ (0 : Int) < (↑x.1.length : Int)) ∧
 ((((1 : Int) ≤ (1 : Int) ∧
 (1 : Int) ≤ (↑x.1.length : Int) ∧ x.1.getD (Int.toNat (0 : Int)) (0 : Int) = mn (List.take (Int.toNat (1 : Int)) x.1)) ∧
 True) ∧
 (x.1 = x.1 ∧ x.1.getD (Int.toNat (0 : Int)) (0 : Int) = x.1.getD (Int.toNat (0 : Int)) (0 : Int) ∧ (1 : Int) = (1 : Int) ∧ True) ∧
 True ∧ True) ∧
 ∀ (g : Int × Int × Unit),
 (1 : Int) ≤ g.2.1 ∧ g.2.1 ≤ (↑x.1.length : Int) ∧ g.1 = mn (List.take g.2.1.toNat x.1) →
 ((-9223372036854775808 : Int) ≤ g.1 ∧ g.1 ≤ (9223372036854775807 : Int)) ∧
 ((-9223372036854775808 : Int) ≤ g.2.1 ∧ g.2.1 ≤ (9223372036854775807 : Int)) ∧ True →
 (decide (g.2.1 < (↑x.1.length : Int)) = true →
 ((0 : Int) ≤ g.2.1 ∧ g.2.1 < (↑x.1.length : Int)) ∧
 ((-9223372036854775808 : Int) ≤ g.2.1 + (1 : Int) ∧ g.2.1 + (1 : Int) ≤ (9223372036854775807 : Int)) ∧
 (((1 : Int) ≤ g.2.1 + (1 : Int) ∧
 g.2.1 + (1 : Int) ≤ (↑x.1.length : Int) ∧
 min g.1 (x.1.getD g.2.1.toNat (0 : Int)) = mn (List.take (g.2.1 + (1 : Int)).toNat x.1)) ∧
 ((↑x.1.length : Int) - (g.2.1 + (1 : Int))).toNat < ((↑x.1.length : Int) - g.2.1).toNat) ∧
 (x.1 = x.1 ∧
 min g.1 (x.1.getD g.2.1.toNat (0 : Int)) = min g.1 (x.1.getD g.2.1.toNat (0 : Int)) ∧
 g.2.1 + (1 : Int) = g.2.1 + (1 : Int) ∧ True) ∧
 True ∧ True) ∧
 (decide (g.2.1 < (↑x.1.length : Int)) = false → g.1 = mn x.1))

theorem E_min_eq (x : HL (cMin : Ctr).as) : vc (fx_min x) 1 67 Try.f67 (cMin) x = E_min x := by kernel_rfl

def E_index (x : List Int × Int × Unit) : Prop :=
 ((((0 : Int) ≤ (0 : Int) ∧ (0 : Int) ≤ (↑x.1.length : Int) ∧ List.idxOf? x.2.1 (List.take (Int.toNat (0 : Int)) x.1) = none) ∧ True) ∧
 (x.1 = x.1 ∧ x.2.1 = x.2.1 ∧ (↑x.1.length : Int) = (↑x.1.length : Int) ∧ (0 : Int) = (0 : Int) ∧ True) ∧ True ∧ True) ∧
 ∀ (g : Int × Unit),
 (0 : Int) ≤ g.1 ∧ g.1 ≤ (↑x.1.length : Int) ∧ List.idxOf? x.2.1 (List.take g.1.toNat x.1) = none →
 ((-9223372036854775808 : Int) ≤ g.1 ∧ g.1 ≤ (9223372036854775807 : Int)) ∧ True →
 (decide (g.1 < (↑x.1.length : Int)) = true →
 ((0 : Int) ≤ g.1 ∧ g.1 < (↑x.1.length : Int)) ∧
 ((x.2.1 == x.1.getD g.1.toNat (0 : Int)) = true → g.1 = idx x.1 x.2.1) ∧
 ((x.2.1 == x.1.getD g.1.toNat (0 : Int)) = false →
 ((-9223372036854775808 : Int) ≤ g.1 + (1 : Int) ∧ g.1 + (1 : Int) ≤ (9223372036854775807 : Int)) ∧
 (((0 : Int) ≤ g.1 + (1 : Int) ∧
 g.1 + (1 : Int) ≤ (↑x.1.length : Int) ∧ List.idxOf? x.2.1 (List.take (g.1 + (1 : Int)).toNat x.1) = none) ∧
 ((↑x.1.length : Int) - (g.1 + (1 : Int))).toNat < ((↑x.1.length : Int) - g.1).toNat) ∧
 (x.1 = x.1 ∧
 x.2.1 = x.2.1 ∧ (↑x.1.length : Int) = (↑x.1.length : Int) ∧ g.1 + (1 : Int) = g.1 + (1 : Int) ∧ True) ∧
 True ∧ True)) ∧
 (decide (g.1 < (↑x.1.length : Int)) = false → (-1 : Int) = idx x.1 x.2.1)

theorem E_index_eq (x : HL (cIndex : Ctr).as) : vc (fx_index x) 1 61 Try.f61 (cIndex) x = E_index x := by kernel_rfl

def E_contains (x : List Int × Int × Unit) : Prop :=
 Holds True ∧ decide ((0 : Int) ≤ idx x.1 x.2.1) = decide ((0 : Int) ≤ idx x.1 x.2.1)

theorem E_contains_eq (x : HL (cContains : Ctr).as) : vc (fx_contains x) 1 44 Try.f44 (cContains) x = E_contains x := by kernel_rfl

def E_any (x : List Int × Unit) : Prop :=
 ((((0 : Int) ≤ (0 : Int) ∧ (0 : Int) ≤ (↑x.1.length : Int) ∧ (List.take (Int.toNat (0 : Int)) x.1).all inS = true) ∧ True) ∧
 (x.1 = x.1 ∧
 Value.func (Fn.func (43 : Nat)) ([] : List Value).toArray ([] : List Value).toArray =
 Value.func (Fn.func (43 : Nat)) ([] : List Value).toArray ([] : List Value).toArray ∧
 (↑x.1.length : Int) = (↑x.1.length : Int) ∧ (0 : Int) = (0 : Int) ∧ True) ∧
 True ∧
 x.1 = x.1 ∧
 Value.func (Fn.func (43 : Nat)) ([] : List Value).toArray ([] : List Value).toArray =
 Value.func (Fn.func (43 : Nat)) ([] : List Value).toArray ([] : List Value).toArray ∧
 True ∧
 True ∧
 false = false ∧
 x.1 = x.1 ∧
 Value.func (Fn.func (43 : Nat)) ([] : List Value).toArray ([] : List Value).toArray =
 Value.func (Fn.func (43 : Nat)) ([] : List Value).toArray ([] : List Value).toArray ∧
 True ∧ True ∧ True) ∧
 ∀ (g : Int × Unit),
 (0 : Int) ≤ g.1 ∧ g.1 ≤ (↑x.1.length : Int) ∧ (List.take g.1.toNat x.1).all inS = true →
 ((-9223372036854775808 : Int) ≤ g.1 ∧ g.1 ≤ (9223372036854775807 : Int)) ∧ True →
 (decide (g.1 < (↑x.1.length : Int)) = true →
 ((0 : Int) ≤ g.1 ∧ g.1 < (↑x.1.length : Int)) ∧
 ((!decide (x.1.getD g.1.toNat (0 : Int) < (0 : Int))) = true → (!decide (x.1.getD g.1.toNat (0 : Int) < (0 : Int))) = true) ∧
 (decide (x.1.getD g.1.toNat (0 : Int) < (0 : Int)) = false → (!decide (x.1.getD g.1.toNat (0 : Int) < (0 : Int))) = true) ∧
 ((decide (x.1.getD g.1.toNat (0 : Int) < (0 : Int)) || decide ((1073741824 : Int) < x.1.getD g.1.toNat (0 : Int))) = true →
 decide ((0 : Int) ≤ g.1) = !x.1.all inS) ∧
 ((decide (x.1.getD g.1.toNat (0 : Int) < (0 : Int)) || decide ((1073741824 : Int) < x.1.getD g.1.toNat (0 : Int))) =
 false →
 ((-9223372036854775808 : Int) ≤ g.1 + (1 : Int) ∧ g.1 + (1 : Int) ≤ (9223372036854775807 : Int)) ∧
 (((0 : Int) ≤ g.1 + (1 : Int) ∧
 g.1 + (1 : Int) ≤ (↑x.1.length : Int) ∧ (List.take (g.1 + (1 : Int)).toNat x.1).all inS = true) ∧
 ((↑x.1.length : Int) - (g.1 + (1 : Int))).toNat < ((↑x.1.length : Int) - g.1).toNat) ∧
 (x.1 = x.1 ∧
 Value.func (Fn.func (43 : Nat)) ([] : List Value).toArray ([] : List Value).toArray =
 Value.func (Fn.func (43 : Nat)) ([] : List Value).toArray ([] : List Value).toArray ∧
 (↑x.1.length : Int) = (↑x.1.length : Int) ∧ g.1 + (1 : Int) = g.1 + (1 : Int) ∧ True) ∧
 True ∧
 x.1 = x.1 ∧
 Value.func (Fn.func (43 : Nat)) ([] : List Value).toArray ([] : List Value).toArray =
 Value.func (Fn.func (43 : Nat)) ([] : List Value).toArray ([] : List Value).toArray ∧
 True ∧
 True ∧
 false = false ∧
 x.1 = x.1 ∧
 Value.func (Fn.func (43 : Nat)) ([] : List Value).toArray ([] : List Value).toArray =
 Value.func (Fn.func (43 : Nat)) ([] : List Value).toArray ([] : List Value).toArray ∧
 True ∧ True ∧ True)) ∧
 (decide (g.1 < (↑x.1.length : Int)) = false → decide ((0 : Int) ≤ (-1 : Int)) = !x.1.all inS)

theorem E_any_eq (x : HL (cAny : Ctr).as) : vcF (fx_any x) 3 42 43 Try.f42 (cAny) x = E_any x := by kernel_rfl

def E_wrong (x : List Int × Int × Unit) : Prop :=
 ((!decide (x.2.1 < (1 : Int))) = true → (!decide (x.2.1 < (1 : Int))) = true) ∧
 (decide (x.2.1 < (1 : Int)) = false → (!decide (x.2.1 < (1 : Int))) = true) ∧
 ((!(decide (x.2.1 < (1 : Int)) || decide ((8 : Int) < x.2.1))) = true →
 (!(decide (x.2.1 < (1 : Int)) || decide ((8 : Int) < x.2.1))) = true) ∧
 ((!(decide (x.2.1 < (1 : Int)) || decide ((8 : Int) < x.2.1))) = true →
 (!(decide (x.2.1 < (1 : Int)) || decide ((8 : Int) < x.2.1))) = true) ∧
 ((decide (x.2.1 < (1 : Int)) || decide ((8 : Int) < x.2.1)) = false →
 (!(decide (x.2.1 < (1 : Int)) || decide ((8 : Int) < x.2.1))) = true) ∧
 ((decide (x.2.1 < (1 : Int)) || decide ((8 : Int) < x.2.1) || decide ((400 : Int) < (↑x.1.length : Int))) = false →
 (!(decide (x.2.1 < (1 : Int)) || decide ((8 : Int) < x.2.1) || decide ((400 : Int) < (↑x.1.length : Int)))) = true ∧
 Holds True ∧
 ((!x.1.all inS) = true → (2 : Int) = wrong x.1 x.2.1) ∧ ((!x.1.all inS) = false → (0 : Int) = wrong x.1 x.2.1)) ∧
 ((decide (x.2.1 < (1 : Int)) || decide ((8 : Int) < x.2.1) || decide ((400 : Int) < (↑x.1.length : Int))) = !false →
 (2 : Int) = wrong x.1 x.2.1)

theorem E_wrong_eq (x : HL (cWrong : Ctr).as) : vc (fx_wrong x) 1 20 Try.f20 (cWrong) x = E_wrong x := by kernel_rfl

def E_ewrong (x : List Int × Int × Unit) : Prop :=
 (decide ((0 : Int) < x.2.1) = true → decide ((0 : Int) < x.2.1) = true) ∧
 (decide ((0 : Int) < x.2.1) = true → decide ((0 : Int) < x.2.1) = true) ∧
 ((decide ((0 : Int) < x.2.1) && decide (x.2.1 < (9 : Int))) = true →
 (decide ((0 : Int) < x.2.1) && decide (x.2.1 < (9 : Int))) = true) ∧
 ((decide ((0 : Int) < x.2.1) && decide (x.2.1 < (9 : Int))) = true →
 (decide ((0 : Int) < x.2.1) && decide (x.2.1 < (9 : Int))) = true) ∧
 ((decide ((0 : Int) < x.2.1) && decide (x.2.1 < (9 : Int))) = true →
 (decide ((0 : Int) < x.2.1) && decide (x.2.1 < (9 : Int))) = true) ∧
 ((((0 : Int) ≤ (0 : Int) ∧
 (0 : Int) ≤ (↑x.1.length : Int) ∧
 ((decide ((0 : Int) < x.2.1) && decide (x.2.1 < (9 : Int)) && decide ((↑x.1.length : Int) ≤ (400 : Int))) = true ↔
 (1 : Int) ≤ x.2.1 ∧
 x.2.1 ≤ (8 : Int) ∧ x.1.length ≤ (400 : Nat) ∧ (List.take (Int.toNat (0 : Int)) x.1).all inS = true)) ∧
 True) ∧
 (x.1 = x.1 ∧
 (decide ((0 : Int) < x.2.1) && decide (x.2.1 < (9 : Int)) && decide ((↑x.1.length : Int) ≤ (400 : Int))) =
 (decide ((0 : Int) < x.2.1) && decide (x.2.1 < (9 : Int)) && decide ((↑x.1.length : Int) ≤ (400 : Int))) ∧
 x.1 = x.1 ∧ (↑x.1.length : Int) = (↑x.1.length : Int) ∧ (0 : Int) = (0 : Int) ∧ True) ∧
 True ∧ True) ∧
 ∀ (g : Bool × Int × Unit),
 (0 : Int) ≤ g.2.1 ∧
 g.2.1 ≤ (↑x.1.length : Int) ∧
 (g.1 = true ↔
 (1 : Int) ≤ x.2.1 ∧ x.2.1 ≤ (8 : Int) ∧ x.1.length ≤ (400 : Nat) ∧ (List.take g.2.1.toNat x.1).all inS = true) →
 True ∧ ((-9223372036854775808 : Int) ≤ g.2.1 ∧ g.2.1 ≤ (9223372036854775807 : Int)) ∧ True →
 (decide (g.2.1 < (↑x.1.length : Int)) = true →
 ((0 : Int) ≤ g.2.1 ∧ g.2.1 < (↑x.1.length : Int)) ∧
 (g.1 = true → g.1 = true) ∧
 (g.1 = true → g.1 = true) ∧
 ((g.1 && decide ((0 : Int) ≤ x.1.getD g.2.1.toNat (0 : Int))) = true →
 (g.1 && decide ((0 : Int) ≤ x.1.getD g.2.1.toNat (0 : Int))) = true) ∧
 ((g.1 && decide ((0 : Int) ≤ x.1.getD g.2.1.toNat (0 : Int))) = true →
 (g.1 && decide ((0 : Int) ≤ x.1.getD g.2.1.toNat (0 : Int))) = true) ∧
 ((-9223372036854775808 : Int) ≤ g.2.1 + (1 : Int) ∧ g.2.1 + (1 : Int) ≤ (9223372036854775807 : Int)) ∧
 (((0 : Int) ≤ g.2.1 + (1 : Int) ∧
 g.2.1 + (1 : Int) ≤ (↑x.1.length : Int) ∧
 ((g.1 && decide ((0 : Int) ≤ x.1.getD g.2.1.toNat (0 : Int)) &&
 decide (x.1.getD g.2.1.toNat (0 : Int) ≤ (1073741824 : Int))) =
 true ↔
 (1 : Int) ≤ x.2.1 ∧
 x.2.1 ≤ (8 : Int) ∧
 x.1.length ≤ (400 : Nat) ∧ (List.take (g.2.1 + (1 : Int)).toNat x.1).all inS = true)) ∧
 ((↑x.1.length : Int) - (g.2.1 + (1 : Int))).toNat < ((↑x.1.length : Int) - g.2.1).toNat) ∧
 (x.1 = x.1 ∧
 (g.1 && decide ((0 : Int) ≤ x.1.getD g.2.1.toNat (0 : Int)) &&
 decide (x.1.getD g.2.1.toNat (0 : Int) ≤ (1073741824 : Int))) =
 (g.1 && decide ((0 : Int) ≤ x.1.getD g.2.1.toNat (0 : Int)) &&
 decide (x.1.getD g.2.1.toNat (0 : Int) ≤ (1073741824 : Int))) ∧
 x.1 = x.1 ∧
 (↑x.1.length : Int) = (↑x.1.length : Int) ∧ g.2.1 + (1 : Int) = g.2.1 + (1 : Int) ∧ True) ∧
 True ∧ True) ∧
 (decide (g.2.1 < (↑x.1.length : Int)) = false →
 ((!g.1) = true → (2 : Int) = wrong x.1 x.2.1) ∧ ((!g.1) = false → (0 : Int) = wrong x.1 x.2.1))

theorem E_ewrong_eq (x : HL (cWrong : Ctr).as) : vc (fx_ewrong x) 1 19 Try.f19 (cWrong) x = E_ewrong x := by kernel_rfl

def E_ord (x : Int × Unit) : Prop :=
 (((0 : Int) ≤ x.1 ∧ x.1 ≤ x.1) ∧ x.1 * (↑(8 : Nat) : Int) ≤ (140737488355328 : Int) ∧ x.1 ≤ (9223372036854775807 : Int)) ∧
 ((((0 : Int) ≤ (0 : Int) ∧
 (0 : Int) ≤ x.1 ∧
 (List.replicate x.1.toNat (0 : Int)).length = x.1.toNat ∧
 List.take (Int.toNat (0 : Int)) (List.replicate x.1.toNat (0 : Int)) = ord (0 : Int)) ∧
 True) ∧
 (True ∧
 (↑(List.replicate x.1.toNat (0 : Int)).length : Int) = (↑(List.replicate x.1.toNat (0 : Int)).length : Int) ∧
 (0 : Int) = (0 : Int) ∧ True) ∧
 (List.replicate x.1.toNat (0 : Int) = List.replicate x.1.toNat (0 : Int) ∧ True) ∧ True) ∧
 ∀ (g : List Int × Int × Unit),
 (0 : Int) ≤ g.2.1 ∧ g.2.1 ≤ x.1 ∧ g.1.length = x.1.toNat ∧ List.take g.2.1.toNat g.1 = ord g.2.1 →
 (g.1.length ≤ (9223372036854775807 : Nat) ∧ ∀ (x : Int), x ∈ g.1 → (-9223372036854775808 : Int) ≤ x ∧ x ≤ (9223372036854775807 : Int)) ∧
 ((-9223372036854775808 : Int) ≤ g.2.1 ∧ g.2.1 ≤ (9223372036854775807 : Int)) ∧ True →
 (decide (g.2.1 < (↑(List.replicate x.1.toNat (0 : Int)).length : Int)) = true →
 ((0 : Int) ≤ g.2.1 ∧ g.2.1 < (↑g.1.length : Int)) ∧
 ((-9223372036854775808 : Int) ≤ g.2.1 + (1 : Int) ∧ g.2.1 + (1 : Int) ≤ (9223372036854775807 : Int)) ∧
 (((0 : Int) ≤ g.2.1 + (1 : Int) ∧
 g.2.1 + (1 : Int) ≤ x.1 ∧
 (g.1.set g.2.1.toNat g.2.1).length = x.1.toNat ∧
 List.take (g.2.1 + (1 : Int)).toNat (g.1.set g.2.1.toNat g.2.1) = ord (g.2.1 + (1 : Int))) ∧
 (x.1 - (g.2.1 + (1 : Int))).toNat < (x.1 - g.2.1).toNat) ∧
 (True ∧
 (↑(List.replicate x.1.toNat (0 : Int)).length : Int) = (↑(List.replicate x.1.toNat (0 : Int)).length : Int) ∧
 g.2.1 + (1 : Int) = g.2.1 + (1 : Int) ∧ True) ∧
 (g.1.set g.2.1.toNat g.2.1 = g.1.set g.2.1.toNat g.2.1 ∧ True) ∧ True) ∧
 (decide (g.2.1 < (↑(List.replicate x.1.toNat (0 : Int)).length : Int)) = false → g.1 = ord x.1)

theorem E_ord_eq (x : HL (cOrd : Ctr).as) : vc (fx_ord x) 1 39 Try.f39 (cOrd) x = E_ord x := by kernel_rfl

def E_plan (x : List Int × Int × List Int × Unit) : Prop :=
 (((0 : Int) ≤ (↑x.1.length : Int) ∧ (↑x.1.length : Int) ≤ (↑x.1.length : Int)) ∧
 (↑x.1.length : Int) * (↑(8 : Nat) : Int) ≤ (140737488355328 : Int) ∧ (↑x.1.length : Int) ≤ (9223372036854775807 : Int)) ∧
 (((0 : Int) ≤ x.2.1 ∧ x.2.1 ≤ x.2.1) ∧
 x.2.1 * (↑(8 : Nat) : Int) ≤ (140737488355328 : Int) ∧ x.2.1 ≤ (9223372036854775807 : Int)) ∧
 ((((0 : Int) ≤ (0 : Int) ∧
 (0 : Int) ≤ (↑x.2.2.1.length : Int) ∧
 plRun x.1 x.2.1 (List.take (Int.toNat (0 : Int)) x.2.2.1) =
 (List.replicate (↑x.1.length : Int).toNat (0 : Int), List.replicate x.2.1.toNat (0 : Int), (0 : Int)) ∧
 (List.replicate x.2.1.toNat (0 : Int)).length = x.2.1.toNat ∧
 (List.replicate (↑x.1.length : Int).toNat (0 : Int)).length = x.1.length ∧
 (0 : Int) ≤ (0 : Int) ∧
 (0 : Int) ≤ (0 : Int) * (1073741824 : Int) ∧
 ∀ (h : Int), h ∈ List.replicate x.2.1.toNat (0 : Int) → (0 : Int) ≤ h ∧ h ≤ (0 : Int) * (1073741824 : Int)) ∧
 True) ∧
 (x.1 = x.1 ∧
 (True ∧ True) ∧
 (True ∧ True) ∧
 True ∧ x.2.2.1 = x.2.2.1 ∧ (↑x.2.2.1.length : Int) = (↑x.2.2.1.length : Int) ∧ (0 : Int) = (0 : Int) ∧ True) ∧
 ((True ∧ (0 : Int) = (0 : Int) ∧ True) ∧
 List.replicate (↑x.1.length : Int).toNat (0 : Int) = List.replicate (↑x.1.length : Int).toNat (0 : Int) ∧
 List.replicate x.2.1.toNat (0 : Int) = List.replicate x.2.1.toNat (0 : Int) ∧
 (Value.slice none (0 : Nat) (0 : Nat) = Value.slice none (0 : Nat) (0 : Nat) ∧ (0 : Int) = (0 : Int) ∧ True) ∧ True) ∧
 True) ∧
 ∀ (g : (List Int × Int) × List Int × Int × Unit),
 ((0 : Int) ≤ g.2.2.1 ∧
 g.2.2.1 ≤ (↑x.2.2.1.length : Int) ∧
 plRun x.1 x.2.1 (List.take g.2.2.1.toNat x.2.2.1) = (g.1.1, g.2.1, g.1.2) ∧
 g.2.1.length = x.2.1.toNat ∧
 g.1.1.length = x.1.length ∧
 (0 : Int) ≤ g.1.2 ∧
 g.1.2 ≤ g.2.2.1 * (1073741824 : Int) ∧
 ∀ (h : Int), h ∈ g.2.1 → (0 : Int) ≤ h ∧ h ≤ g.2.2.1 * (1073741824 : Int)) →
 ((g.1.1.length ≤ (9223372036854775807 : Nat) ∧
 ∀ (x : Int), x ∈ g.1.1 → (-9223372036854775808 : Int) ≤ x ∧ x ≤ (9223372036854775807 : Int)) ∧
 (-9223372036854775808 : Int) ≤ g.1.2 ∧ g.1.2 ≤ (9223372036854775807 : Int)) ∧
 (g.2.1.length ≤ (9223372036854775807 : Nat) ∧
 ∀ (x : Int), x ∈ g.2.1 → (-9223372036854775808 : Int) ≤ x ∧ x ≤ (9223372036854775807 : Int)) ∧
 ((-9223372036854775808 : Int) ≤ g.2.2.1 ∧ g.2.2.1 ≤ (9223372036854775807 : Int)) ∧ True →
 (decide (g.2.2.1 < (↑x.2.2.1.length : Int)) = true →
 ((0 : Int) ≤ g.2.2.1 ∧ g.2.2.1 < (↑x.2.2.1.length : Int)) ∧
 Holds ((0 : Nat) < g.2.1.length) ∧
 Holds True ∧
 ((0 : Int) ≤ x.2.2.1.getD g.2.2.1.toNat (0 : Int) ∧
 x.2.2.1.getD g.2.2.1.toNat (0 : Int) < (↑g.1.1.length : Int)) ∧
 ((0 : Int) ≤ idx g.2.1 (mn g.2.1) ∧ idx g.2.1 (mn g.2.1) < (↑g.2.1.length : Int)) ∧
 ((0 : Int) ≤ x.2.2.1.getD g.2.2.1.toNat (0 : Int) ∧
 x.2.2.1.getD g.2.2.1.toNat (0 : Int) < (↑x.1.length : Int)) ∧
 ((-9223372036854775808 : Int) ≤
 g.2.1.getD (idx g.2.1 (mn g.2.1)).toNat (0 : Int) +
 x.1.getD (x.2.2.1.getD g.2.2.1.toNat (0 : Int)).toNat (0 : Int) ∧
 g.2.1.getD (idx g.2.1 (mn g.2.1)).toNat (0 : Int) +
 x.1.getD (x.2.2.1.getD g.2.2.1.toNat (0 : Int)).toNat (0 : Int) ≤
 (9223372036854775807 : Int)) ∧
 ((0 : Int) ≤ idx g.2.1 (mn g.2.1) ∧ idx g.2.1 (mn g.2.1) < (↑g.2.1.length : Int)) ∧
 ((0 : Int) ≤ idx g.2.1 (mn g.2.1) ∧
 idx g.2.1 (mn g.2.1) <
 (↑(g.2.1.set (idx g.2.1 (mn g.2.1)).toNat
 (g.2.1.getD (idx g.2.1 (mn g.2.1)).toNat (0 : Int) +
 x.1.getD (x.2.2.1.getD g.2.2.1.toNat (0 : Int)).toNat (0 : Int))).length :
 Int)) ∧
 ((-9223372036854775808 : Int) ≤ g.2.2.1 + (1 : Int) ∧
 g.2.2.1 + (1 : Int) ≤ (9223372036854775807 : Int)) ∧
 (((0 : Int) ≤ g.2.2.1 + (1 : Int) ∧
 g.2.2.1 + (1 : Int) ≤ (↑x.2.2.1.length : Int) ∧
 plRun x.1 x.2.1 (List.take (g.2.2.1 + (1 : Int)).toNat x.2.2.1) =
 (g.1.1.set (x.2.2.1.getD g.2.2.1.toNat (0 : Int)).toNat
 (idx g.2.1 (mn g.2.1)),
 g.2.1.set (idx g.2.1 (mn g.2.1)).toNat
 (g.2.1.getD (idx g.2.1 (mn g.2.1)).toNat (0 : Int) +
 x.1.getD (x.2.2.1.getD g.2.2.1.toNat (0 : Int)).toNat (0 : Int)),
 max g.1.2
 ((g.2.1.set (idx g.2.1 (mn g.2.1)).toNat
 (g.2.1.getD (idx g.2.1 (mn g.2.1)).toNat (0 : Int) +
 x.1.getD (x.2.2.1.getD g.2.2.1.toNat (0 : Int)).toNat (0 : Int))).getD
 (idx g.2.1 (mn g.2.1)).toNat (0 : Int))) ∧
 (g.2.1.set (idx g.2.1 (mn g.2.1)).toNat
 (g.2.1.getD (idx g.2.1 (mn g.2.1)).toNat (0 : Int) +
 x.1.getD (x.2.2.1.getD g.2.2.1.toNat (0 : Int)).toNat (0 : Int))).length =
 x.2.1.toNat ∧
 (g.1.1.set (x.2.2.1.getD g.2.2.1.toNat (0 : Int)).toNat
 (idx g.2.1 (mn g.2.1))).length =
 x.1.length ∧
 (0 : Int) ≤
 max g.1.2
 ((g.2.1.set (idx g.2.1 (mn g.2.1)).toNat
 (g.2.1.getD (idx g.2.1 (mn g.2.1)).toNat (0 : Int) +
 x.1.getD (x.2.2.1.getD g.2.2.1.toNat (0 : Int)).toNat (0 : Int))).getD
 (idx g.2.1 (mn g.2.1)).toNat (0 : Int)) ∧
 max g.1.2
 ((g.2.1.set (idx g.2.1 (mn g.2.1)).toNat
 (g.2.1.getD (idx g.2.1 (mn g.2.1)).toNat (0 : Int) +
 x.1.getD (x.2.2.1.getD g.2.2.1.toNat (0 : Int)).toNat (0 : Int))).getD
 (idx g.2.1 (mn g.2.1)).toNat (0 : Int)) ≤
 (g.2.2.1 + (1 : Int)) * (1073741824 : Int) ∧
 ∀ (h : Int),
 h ∈
 g.2.1.set (idx g.2.1 (mn g.2.1)).toNat
 (g.2.1.getD (idx g.2.1 (mn g.2.1)).toNat (0 : Int) +
 x.1.getD (x.2.2.1.getD g.2.2.1.toNat (0 : Int)).toNat (0 : Int)) →
 (0 : Int) ≤ h ∧ h ≤ (g.2.2.1 + (1 : Int)) * (1073741824 : Int)) ∧
 ((↑x.2.2.1.length : Int) - (g.2.2.1 + (1 : Int))).toNat <
 ((↑x.2.2.1.length : Int) - g.2.2.1).toNat) ∧
 (x.1 = x.1 ∧
 (True ∧ True) ∧
 (True ∧ True) ∧
 True ∧
 x.2.2.1 = x.2.2.1 ∧
 (↑x.2.2.1.length : Int) = (↑x.2.2.1.length : Int) ∧
 g.2.2.1 + (1 : Int) = g.2.2.1 + (1 : Int) ∧ True) ∧
 ((True ∧
 max g.1.2
 ((g.2.1.set (idx g.2.1 (mn g.2.1)).toNat
 (g.2.1.getD (idx g.2.1 (mn g.2.1)).toNat (0 : Int) +
 x.1.getD (x.2.2.1.getD g.2.2.1.toNat (0 : Int)).toNat (0 : Int))).getD
 (idx g.2.1 (mn g.2.1)).toNat (0 : Int)) =
 max g.1.2
 ((g.2.1.set (idx g.2.1 (mn g.2.1)).toNat
 (g.2.1.getD (idx g.2.1 (mn g.2.1)).toNat (0 : Int) +
 x.1.getD (x.2.2.1.getD g.2.2.1.toNat (0 : Int)).toNat (0 : Int))).getD
 (idx g.2.1 (mn g.2.1)).toNat (0 : Int)) ∧
 True) ∧
 g.1.1.set (x.2.2.1.getD g.2.2.1.toNat (0 : Int)).toNat (idx g.2.1 (mn g.2.1)) =
 g.1.1.set (x.2.2.1.getD g.2.2.1.toNat (0 : Int)).toNat
 (idx g.2.1 (mn g.2.1)) ∧
 g.2.1.set (idx g.2.1 (mn g.2.1)).toNat
 (g.2.1.getD (idx g.2.1 (mn g.2.1)).toNat (0 : Int) +
 x.1.getD (x.2.2.1.getD g.2.2.1.toNat (0 : Int)).toNat (0 : Int)) =
 g.2.1.set (idx g.2.1 (mn g.2.1)).toNat
 (g.2.1.getD (idx g.2.1 (mn g.2.1)).toNat (0 : Int) +
 x.1.getD (x.2.2.1.getD g.2.2.1.toNat (0 : Int)).toNat (0 : Int)) ∧
 (Value.slice none (0 : Nat) (0 : Nat) = Value.slice none (0 : Nat) (0 : Nat) ∧
 (0 : Int) = (0 : Int) ∧ True) ∧
 True) ∧
 True) ∧
 (decide (g.2.2.1 < (↑x.2.2.1.length : Int)) = false → (g.1.1, g.1.2) = (plan x.1 x.2.1 x.2.2.1).1)

theorem E_plan_eq (x : HL (cPlan : Ctr).as) : vc (fx_plan x) 1 38 Try.f38 (cPlan) x = E_plan x := by kernel_rfl

def E_eplan (x : List Int × Int × List Int × Unit) : Prop :=
 (((0 : Int) ≤ (↑x.1.length : Int) ∧ (↑x.1.length : Int) ≤ (↑x.1.length : Int)) ∧
 (↑x.1.length : Int) * (↑(8 : Nat) : Int) ≤ (140737488355328 : Int) ∧ (↑x.1.length : Int) ≤ (9223372036854775807 : Int)) ∧
 (((0 : Int) ≤ x.2.1 ∧ x.2.1 ≤ x.2.1) ∧
 x.2.1 * (↑(8 : Nat) : Int) ≤ (140737488355328 : Int) ∧ x.2.1 ≤ (9223372036854775807 : Int)) ∧
 ((((0 : Int) ≤ (0 : Int) ∧
 (0 : Int) ≤ (↑x.2.2.1.length : Int) ∧
 (0 : Int) = (0 : Int) ∧
 (∃ q,
 plRun x.1 x.2.1 (List.take (Int.toNat (0 : Int)) x.2.2.1) =
 (List.replicate (↑x.1.length : Int).toNat (0 : Int), List.replicate x.2.1.toNat (0 : Int), q)) ∧
 (List.replicate x.2.1.toNat (0 : Int)).length = x.2.1.toNat ∧
 (List.replicate (↑x.1.length : Int).toNat (0 : Int)).length = x.1.length ∧
 ∀ (h : Int), h ∈ List.replicate x.2.1.toNat (0 : Int) → (0 : Int) ≤ h ∧ h ≤ (0 : Int) * (1073741824 : Int)) ∧
 True) ∧
 (x.1 = x.1 ∧
 x.2.1 = x.2.1 ∧
 (True ∧ True) ∧
 (True ∧ True) ∧
 True ∧
 x.2.2.1 = x.2.2.1 ∧ (↑x.2.2.1.length : Int) = (↑x.2.2.1.length : Int) ∧ (0 : Int) = (0 : Int) ∧ True) ∧
 ((True ∧ (0 : Int) = (0 : Int) ∧ True) ∧
 List.replicate (↑x.1.length : Int).toNat (0 : Int) = List.replicate (↑x.1.length : Int).toNat (0 : Int) ∧
 List.replicate x.2.1.toNat (0 : Int) = List.replicate x.2.1.toNat (0 : Int) ∧
 (Value.slice none (0 : Nat) (0 : Nat) = Value.slice none (0 : Nat) (0 : Nat) ∧ (0 : Int) = (0 : Int) ∧ True) ∧ True) ∧
 True) ∧
 ∀ (g : (List Int × Int) × List Int × Int × Unit),
 ((0 : Int) ≤ g.2.2.1 ∧
 g.2.2.1 ≤ (↑x.2.2.1.length : Int) ∧
 g.1.2 = (0 : Int) ∧
 (∃ q, plRun x.1 x.2.1 (List.take g.2.2.1.toNat x.2.2.1) = (g.1.1, g.2.1, q)) ∧
 g.2.1.length = x.2.1.toNat ∧
 g.1.1.length = x.1.length ∧ ∀ (h : Int), h ∈ g.2.1 → (0 : Int) ≤ h ∧ h ≤ g.2.2.1 * (1073741824 : Int)) →
 ((g.1.1.length ≤ (9223372036854775807 : Nat) ∧
 ∀ (x : Int), x ∈ g.1.1 → (-9223372036854775808 : Int) ≤ x ∧ x ≤ (9223372036854775807 : Int)) ∧
 (-9223372036854775808 : Int) ≤ g.1.2 ∧ g.1.2 ≤ (9223372036854775807 : Int)) ∧
 (g.2.1.length ≤ (9223372036854775807 : Nat) ∧
 ∀ (x : Int), x ∈ g.2.1 → (-9223372036854775808 : Int) ≤ x ∧ x ≤ (9223372036854775807 : Int)) ∧
 ((-9223372036854775808 : Int) ≤ g.2.2.1 ∧ g.2.2.1 ≤ (9223372036854775807 : Int)) ∧ True →
 (decide (g.2.2.1 < (↑x.2.2.1.length : Int)) = true →
 ((0 : Int) ≤ g.2.2.1 ∧ g.2.2.1 < (↑x.2.2.1.length : Int)) ∧
 ((((0 : Int) ≤ (0 : Int) ∧ (0 : Int) ≤ x.2.1 ∧ firstMin g.2.1 (0 : Int) (0 : Int)) ∧ True) ∧
 (x.1 = x.1 ∧
 x.2.1 = x.2.1 ∧
 (True ∧ True) ∧
 (True ∧ True) ∧
 True ∧
 x.2.2.1.getD g.2.2.1.toNat (0 : Int) = x.2.2.1.getD g.2.2.1.toNat (0 : Int) ∧
 (0 : Int) = (0 : Int) ∧
 x.2.2.1 = x.2.2.1 ∧
 (↑x.2.2.1.length : Int) = (↑x.2.2.1.length : Int) ∧
 g.2.2.1 = g.2.2.1 ∧ x.2.1 = x.2.1 ∧ (0 : Int) = (0 : Int) ∧ True) ∧
 ((Value.slice none (0 : Nat) (0 : Nat) = Value.slice none (0 : Nat) (0 : Nat) ∧ (0 : Int) = (0 : Int) ∧ True) ∧
 (True ∧ g.1.2 = g.1.2 ∧ True) ∧ g.1.1 = g.1.1 ∧ g.2.1 = g.2.1 ∧ True) ∧
 True) ∧
 ∀ (g_1 : Int × Int × Unit),
 (0 : Int) ≤ g_1.2.1 ∧ g_1.2.1 ≤ x.2.1 ∧ firstMin g.2.1 g_1.1 g_1.2.1 →
 ((-9223372036854775808 : Int) ≤ g_1.1 ∧ g_1.1 ≤ (9223372036854775807 : Int)) ∧
 ((-9223372036854775808 : Int) ≤ g_1.2.1 ∧ g_1.2.1 ≤ (9223372036854775807 : Int)) ∧ True →
 (decide (g_1.2.1 < x.2.1) = true →
 ((0 : Int) ≤ g_1.2.1 ∧ g_1.2.1 < (↑g.2.1.length : Int)) ∧
 ((0 : Int) ≤ g_1.1 ∧ g_1.1 < (↑g.2.1.length : Int)) ∧
 (decide (g.2.1.getD g_1.2.1.toNat (0 : Int) < g.2.1.getD g_1.1.toNat (0 : Int)) = true →
 ((-9223372036854775808 : Int) ≤ g_1.2.1 + (1 : Int) ∧
 g_1.2.1 + (1 : Int) ≤ (9223372036854775807 : Int)) ∧
 (((0 : Int) ≤ g_1.2.1 + (1 : Int) ∧
 g_1.2.1 + (1 : Int) ≤ x.2.1 ∧ firstMin g.2.1 g_1.2.1 (g_1.2.1 + (1 : Int))) ∧
 (x.2.1 - (g_1.2.1 + (1 : Int))).toNat < (x.2.1 - g_1.2.1).toNat) ∧
 (x.1 = x.1 ∧
 x.2.1 = x.2.1 ∧
 (True ∧ True) ∧
 (True ∧ True) ∧
 True ∧
 x.2.2.1.getD g.2.2.1.toNat (0 : Int) =
 x.2.2.1.getD g.2.2.1.toNat (0 : Int) ∧
 g_1.2.1 = g_1.2.1 ∧
 x.2.2.1 = x.2.2.1 ∧
 (↑x.2.2.1.length : Int) = (↑x.2.2.1.length : Int) ∧
 g.2.2.1 = g.2.2.1 ∧
 x.2.1 = x.2.1 ∧ g_1.2.1 + (1 : Int) = g_1.2.1 + (1 : Int) ∧ True) ∧
 ((Value.slice none (0 : Nat) (0 : Nat) = Value.slice none (0 : Nat) (0 : Nat) ∧
 (0 : Int) = (0 : Int) ∧ True) ∧
 (True ∧ g.1.2 = g.1.2 ∧ True) ∧ g.1.1 = g.1.1 ∧ g.2.1 = g.2.1 ∧ True) ∧
 True) ∧
 (decide (g.2.1.getD g_1.2.1.toNat (0 : Int) < g.2.1.getD g_1.1.toNat (0 : Int)) = false →
 ((-9223372036854775808 : Int) ≤ g_1.2.1 + (1 : Int) ∧
 g_1.2.1 + (1 : Int) ≤ (9223372036854775807 : Int)) ∧
 (((0 : Int) ≤ g_1.2.1 + (1 : Int) ∧
 g_1.2.1 + (1 : Int) ≤ x.2.1 ∧ firstMin g.2.1 g_1.1 (g_1.2.1 + (1 : Int))) ∧
 (x.2.1 - (g_1.2.1 + (1 : Int))).toNat < (x.2.1 - g_1.2.1).toNat) ∧
 (x.1 = x.1 ∧
 x.2.1 = x.2.1 ∧
 (True ∧ True) ∧
 (True ∧ True) ∧
 True ∧
 x.2.2.1.getD g.2.2.1.toNat (0 : Int) =
 x.2.2.1.getD g.2.2.1.toNat (0 : Int) ∧
 g_1.1 = g_1.1 ∧
 x.2.2.1 = x.2.2.1 ∧
 (↑x.2.2.1.length : Int) = (↑x.2.2.1.length : Int) ∧
 g.2.2.1 = g.2.2.1 ∧
 x.2.1 = x.2.1 ∧ g_1.2.1 + (1 : Int) = g_1.2.1 + (1 : Int) ∧ True) ∧
 ((Value.slice none (0 : Nat) (0 : Nat) = Value.slice none (0 : Nat) (0 : Nat) ∧
 (0 : Int) = (0 : Int) ∧ True) ∧
 (True ∧ g.1.2 = g.1.2 ∧ True) ∧ g.1.1 = g.1.1 ∧ g.2.1 = g.2.1 ∧ True) ∧
 True)) ∧
 (decide (g_1.2.1 < x.2.1) = false →
 ((0 : Int) ≤ g_1.1 ∧ g_1.1 < (↑g.2.1.length : Int)) ∧
 ((0 : Int) ≤ x.2.2.1.getD g.2.2.1.toNat (0 : Int) ∧
 x.2.2.1.getD g.2.2.1.toNat (0 : Int) < (↑x.1.length : Int)) ∧
 ((-9223372036854775808 : Int) ≤
 g.2.1.getD g_1.1.toNat (0 : Int) +
 x.1.getD (x.2.2.1.getD g.2.2.1.toNat (0 : Int)).toNat (0 : Int) ∧
 g.2.1.getD g_1.1.toNat (0 : Int) +
 x.1.getD (x.2.2.1.getD g.2.2.1.toNat (0 : Int)).toNat (0 : Int) ≤
 (9223372036854775807 : Int)) ∧
 ((0 : Int) ≤ g_1.1 ∧ g_1.1 < (↑g.2.1.length : Int)) ∧
 ((0 : Int) ≤ x.2.2.1.getD g.2.2.1.toNat (0 : Int) ∧
 x.2.2.1.getD g.2.2.1.toNat (0 : Int) < (↑g.1.1.length : Int)) ∧
 ((-9223372036854775808 : Int) ≤ g.2.2.1 + (1 : Int) ∧
 g.2.2.1 + (1 : Int) ≤ (9223372036854775807 : Int)) ∧
 (((0 : Int) ≤ g.2.2.1 + (1 : Int) ∧
 g.2.2.1 + (1 : Int) ≤ (↑x.2.2.1.length : Int) ∧
 g.1.2 = (0 : Int) ∧
 (∃ q,
 plRun x.1 x.2.1 (List.take (g.2.2.1 + (1 : Int)).toNat x.2.2.1) =
 (g.1.1.set (x.2.2.1.getD g.2.2.1.toNat (0 : Int)).toNat g_1.1,
 g.2.1.set g_1.1.toNat
 (g.2.1.getD g_1.1.toNat (0 : Int) +
 x.1.getD (x.2.2.1.getD g.2.2.1.toNat (0 : Int)).toNat (0 : Int)),
 q)) ∧
 (g.2.1.set g_1.1.toNat
 (g.2.1.getD g_1.1.toNat (0 : Int) +
 x.1.getD (x.2.2.1.getD g.2.2.1.toNat (0 : Int)).toNat
 (0 : Int))).length =
 x.2.1.toNat ∧
 (g.1.1.set (x.2.2.1.getD g.2.2.1.toNat (0 : Int)).toNat g_1.1).length =
 x.1.length ∧
 ∀ (h : Int),
 h ∈
 g.2.1.set g_1.1.toNat
 (g.2.1.getD g_1.1.toNat (0 : Int) +
 x.1.getD (x.2.2.1.getD g.2.2.1.toNat (0 : Int)).toNat (0 : Int)) →
 (0 : Int) ≤ h ∧ h ≤ (g.2.2.1 + (1 : Int)) * (1073741824 : Int)) ∧
 ((↑x.2.2.1.length : Int) - (g.2.2.1 + (1 : Int))).toNat <
 ((↑x.2.2.1.length : Int) - g.2.2.1).toNat) ∧
 (x.1 = x.1 ∧
 x.2.1 = x.2.1 ∧
 (True ∧ True) ∧
 (True ∧ True) ∧
 True ∧
 x.2.2.1 = x.2.2.1 ∧
 (↑x.2.2.1.length : Int) = (↑x.2.2.1.length : Int) ∧
 g.2.2.1 + (1 : Int) = g.2.2.1 + (1 : Int) ∧ True) ∧
 ((True ∧ g.1.2 = g.1.2 ∧ True) ∧
 g.1.1.set (x.2.2.1.getD g.2.2.1.toNat (0 : Int)).toNat g_1.1 =
 g.1.1.set (x.2.2.1.getD g.2.2.1.toNat (0 : Int)).toNat g_1.1 ∧
 g.2.1.set g_1.1.toNat
 (g.2.1.getD g_1.1.toNat (0 : Int) +
 x.1.getD (x.2.2.1.getD g.2.2.1.toNat (0 : Int)).toNat (0 : Int)) =
 g.2.1.set g_1.1.toNat
 (g.2.1.getD g_1.1.toNat (0 : Int) +
 x.1.getD (x.2.2.1.getD g.2.2.1.toNat (0 : Int)).toNat (0 : Int)) ∧
 (Value.slice none (0 : Nat) (0 : Nat) = Value.slice none (0 : Nat) (0 : Nat) ∧
 (0 : Int) = (0 : Int) ∧ True) ∧
 True) ∧
 True)) ∧
 (decide (g.2.2.1 < (↑x.2.2.1.length : Int)) = false →
 ((((0 : Int) ≤ (0 : Int) ∧
 g.1.1 = g.1.1 ∧
 (0 : Int) ≤ (↑g.2.1.length : Int) ∧ g.1.2 = List.foldl max (0 : Int) (List.take (Int.toNat (0 : Int)) g.2.1)) ∧
 True) ∧
 ((True ∧ True) ∧ (True ∧ True) ∧ True ∧ (↑g.2.1.length : Int) = (↑g.2.1.length : Int) ∧ (0 : Int) = (0 : Int) ∧ True) ∧
 ((True ∧ g.1.2 = g.1.2 ∧ True) ∧
 g.1.1 = g.1.1 ∧
 (Value.slice none (0 : Nat) (0 : Nat) = Value.slice none (0 : Nat) (0 : Nat) ∧ (0 : Int) = (0 : Int) ∧ True) ∧
 g.2.1 = g.2.1 ∧ True) ∧
 True) ∧
 ∀ (g_1 : (List Int × Int) × Int × Unit),
 (0 : Int) ≤ g_1.2.1 ∧
 g_1.1.1 = g.1.1 ∧
 g_1.2.1 ≤ (↑g.2.1.length : Int) ∧ g_1.1.2 = List.foldl max (0 : Int) (List.take g_1.2.1.toNat g.2.1) →
 ((g_1.1.1.length ≤ (9223372036854775807 : Nat) ∧
 ∀ (x : Int), x ∈ g_1.1.1 → (-9223372036854775808 : Int) ≤ x ∧ x ≤ (9223372036854775807 : Int)) ∧
 (-9223372036854775808 : Int) ≤ g_1.1.2 ∧ g_1.1.2 ≤ (9223372036854775807 : Int)) ∧
 ((-9223372036854775808 : Int) ≤ g_1.2.1 ∧ g_1.2.1 ≤ (9223372036854775807 : Int)) ∧ True →
 (decide (g_1.2.1 < (↑g.2.1.length : Int)) = true →
 ((0 : Int) ≤ g_1.2.1 ∧ g_1.2.1 < (↑g.2.1.length : Int)) ∧
 ((-9223372036854775808 : Int) ≤ g_1.2.1 + (1 : Int) ∧ g_1.2.1 + (1 : Int) ≤ (9223372036854775807 : Int)) ∧
 (((0 : Int) ≤ g_1.2.1 + (1 : Int) ∧
 g_1.1.1 = g.1.1 ∧
 g_1.2.1 + (1 : Int) ≤ (↑g.2.1.length : Int) ∧
 max g_1.1.2 (g.2.1.getD g_1.2.1.toNat (0 : Int)) =
 List.foldl max (0 : Int) (List.take (g_1.2.1 + (1 : Int)).toNat g.2.1)) ∧
 ((↑g.2.1.length : Int) - (g_1.2.1 + (1 : Int))).toNat < ((↑g.2.1.length : Int) - g_1.2.1).toNat) ∧
 ((True ∧ True) ∧
 (True ∧ True) ∧
 True ∧
 (↑g.2.1.length : Int) = (↑g.2.1.length : Int) ∧
 g_1.2.1 + (1 : Int) = g_1.2.1 + (1 : Int) ∧ True) ∧
 ((True ∧
 max g_1.1.2 (g.2.1.getD g_1.2.1.toNat (0 : Int)) =
 max g_1.1.2 (g.2.1.getD g_1.2.1.toNat (0 : Int)) ∧
 True) ∧
 g_1.1.1 = g_1.1.1 ∧
 (Value.slice none (0 : Nat) (0 : Nat) = Value.slice none (0 : Nat) (0 : Nat) ∧
 (0 : Int) = (0 : Int) ∧ True) ∧
 g.2.1 = g.2.1 ∧ True) ∧
 True) ∧
 (decide (g_1.2.1 < (↑g.2.1.length : Int)) = false →
 (g_1.1.1, g_1.1.2) = (plan x.1 x.2.1 x.2.2.1).1))

theorem E_eplan_eq (x : HL (cPlan : Ctr).as) : vc (fx_eplan x) 1 22 Try.f22 (cPlan) x = E_eplan x := by kernel_rfl

def E_order (x : List Int × Bool × Unit) : Prop :=
 (((([] : List Int).length ≤ x.1.length ∧ ([] : List Int) = List.take ([] : List Int).length (order x.1 x.2.1)) ∧ True) ∧
 (x.1 = x.1 ∧ x.2.1 = x.2.1 ∧ True ∧ True) ∧ (([] : List Int) = ([] : List Int) ∧ True) ∧ True) ∧
 ∀ (g : List Int × Unit),
 g.1.length ≤ x.1.length ∧ g.1 = List.take g.1.length (order x.1 x.2.1) →
 (g.1.length ≤ (9223372036854775807 : Nat) ∧ ∀ (x : Int), x ∈ g.1 → (-9223372036854775808 : Int) ≤ x ∧ x ≤ (9223372036854775807 : Int)) ∧
 True →
 (decide ((↑g.1.length : Int) < (↑x.1.length : Int)) = true →
 ((((0 : Int) ≤ (0 : Int) ∧ (0 : Int) ≤ (↑x.1.length : Int) ∧ bestOf x.1 g.1 x.2.1 (-1 : Int) (0 : Int)) ∧ True) ∧
 (x.1 = x.1 ∧
 x.2.1 = x.2.1 ∧
 True ∧ (-1 : Int) = (-1 : Int) ∧ x.1 = x.1 ∧ (↑x.1.length : Int) = (↑x.1.length : Int) ∧ (0 : Int) = (0 : Int) ∧ True) ∧
 (g.1 = g.1 ∧ True) ∧ True) ∧
 ∀ (g_1 : Int × Int × Unit),
 (0 : Int) ≤ g_1.2.1 ∧ g_1.2.1 ≤ (↑x.1.length : Int) ∧ bestOf x.1 g.1 x.2.1 g_1.1 g_1.2.1 →
 ((-9223372036854775808 : Int) ≤ g_1.1 ∧ g_1.1 ≤ (9223372036854775807 : Int)) ∧
 ((-9223372036854775808 : Int) ≤ g_1.2.1 ∧ g_1.2.1 ≤ (9223372036854775807 : Int)) ∧ True →
 (decide (g_1.2.1 < (↑x.1.length : Int)) = true →
 ((0 : Int) ≤ g_1.2.1 ∧ g_1.2.1 < (↑x.1.length : Int)) ∧
 Holds True ∧
 ((!decide ((0 : Int) ≤ idx g.1 g_1.2.1)) = true → (!decide ((0 : Int) ≤ idx g.1 g_1.2.1)) = true) ∧
 ((!decide ((0 : Int) ≤ idx g.1 g_1.2.1)) = true → (!decide ((0 : Int) ≤ idx g.1 g_1.2.1)) = true) ∧
 ((!decide ((0 : Int) ≤ idx g.1 g_1.2.1) && !decide (g_1.1 < (0 : Int))) = true →
 (!decide ((0 : Int) ≤ idx g.1 g_1.2.1) && !decide (g_1.1 < (0 : Int))) = true) ∧
 ((!decide ((0 : Int) ≤ idx g.1 g_1.2.1) && !decide (g_1.1 < (0 : Int)) && x.2.1) = true →
 ((!decide ((0 : Int) ≤ idx g.1 g_1.2.1) && !decide (g_1.1 < (0 : Int)) && x.2.1) = true ∧
 (!decide ((0 : Int) ≤ idx g.1 g_1.2.1) && !decide (g_1.1 < (0 : Int)) && x.2.1) = true) ∧
 (0 : Int) ≤ g_1.1 ∧ g_1.1 < (↑x.1.length : Int)) ∧
 ((!decide ((0 : Int) ≤ idx g.1 g_1.2.1) && !decide (g_1.1 < (0 : Int)) && x.2.1) = true →
 (!decide ((0 : Int) ≤ idx g.1 g_1.2.1) && !decide (g_1.1 < (0 : Int)) && x.2.1) = true) ∧
 ((!decide ((0 : Int) ≤ idx g.1 g_1.2.1) && !decide (g_1.1 < (0 : Int)) && x.2.1) = true →
 (!decide ((0 : Int) ≤ idx g.1 g_1.2.1) && !decide (g_1.1 < (0 : Int)) && x.2.1) = true ∧
 (!decide ((0 : Int) ≤ idx g.1 g_1.2.1) && !decide (g_1.1 < (0 : Int)) && x.2.1) = true) ∧
 ((!decide ((0 : Int) ≤ idx g.1 g_1.2.1) && !decide (g_1.1 < (0 : Int))) = true →
 (!decide ((0 : Int) ≤ idx g.1 g_1.2.1) && !decide (g_1.1 < (0 : Int))) = true ∧
 (x.2.1 = true →
 (!decide ((0 : Int) ≤ idx g.1 g_1.2.1) && !decide (g_1.1 < (0 : Int)) && x.2.1) = true)) ∧
 ((!decide ((0 : Int) ≤ idx g.1 g_1.2.1)) = true →
 (!decide ((0 : Int) ≤ idx g.1 g_1.2.1)) = true ∧
 (decide (g_1.1 < (0 : Int)) = false →
 (!decide ((0 : Int) ≤ idx g.1 g_1.2.1) && !decide (g_1.1 < (0 : Int))) = true)) ∧
 ((!decide ((0 : Int) ≤ idx g.1 g_1.2.1)) = true →
 (!decide ((0 : Int) ≤ idx g.1 g_1.2.1)) = true) ∧
 ((!decide ((0 : Int) ≤ idx g.1 g_1.2.1) &&
 (decide (g_1.1 < (0 : Int)) ||
 x.2.1 &&
 decide (x.1.getD g_1.1.toNat (0 : Int) < x.1.getD g_1.2.1.toNat (0 : Int)))) =
 true →
 ((-9223372036854775808 : Int) ≤ g_1.2.1 + (1 : Int) ∧
 g_1.2.1 + (1 : Int) ≤ (9223372036854775807 : Int)) ∧
 (((0 : Int) ≤ g_1.2.1 + (1 : Int) ∧
 g_1.2.1 + (1 : Int) ≤ (↑x.1.length : Int) ∧
 bestOf x.1 g.1 x.2.1 g_1.2.1 (g_1.2.1 + (1 : Int))) ∧
 ((↑x.1.length : Int) - (g_1.2.1 + (1 : Int))).toNat <
 ((↑x.1.length : Int) - g_1.2.1).toNat) ∧
 (x.1 = x.1 ∧
 x.2.1 = x.2.1 ∧
 True ∧
 g_1.2.1 = g_1.2.1 ∧
 x.1 = x.1 ∧
 (↑x.1.length : Int) = (↑x.1.length : Int) ∧
 g_1.2.1 + (1 : Int) = g_1.2.1 + (1 : Int) ∧ True) ∧
 (g.1 = g.1 ∧ True) ∧ True) ∧
 ((!decide ((0 : Int) ≤ idx g.1 g_1.2.1) &&
 (decide (g_1.1 < (0 : Int)) ||
 x.2.1 &&
 decide (x.1.getD g_1.1.toNat (0 : Int) < x.1.getD g_1.2.1.toNat (0 : Int)))) =
 false →
 ((-9223372036854775808 : Int) ≤ g_1.2.1 + (1 : Int) ∧
 g_1.2.1 + (1 : Int) ≤ (9223372036854775807 : Int)) ∧
 (((0 : Int) ≤ g_1.2.1 + (1 : Int) ∧
 g_1.2.1 + (1 : Int) ≤ (↑x.1.length : Int) ∧
 bestOf x.1 g.1 x.2.1 g_1.1 (g_1.2.1 + (1 : Int))) ∧
 ((↑x.1.length : Int) - (g_1.2.1 + (1 : Int))).toNat <
 ((↑x.1.length : Int) - g_1.2.1).toNat) ∧
 (x.1 = x.1 ∧
 x.2.1 = x.2.1 ∧
 True ∧
 g_1.1 = g_1.1 ∧
 x.1 = x.1 ∧
 (↑x.1.length : Int) = (↑x.1.length : Int) ∧
 g_1.2.1 + (1 : Int) = g_1.2.1 + (1 : Int) ∧ True) ∧
 (g.1 = g.1 ∧ True) ∧ True)) ∧
 (decide (g_1.2.1 < (↑x.1.length : Int)) = false →
 (g.1.length + (((0 : Int) :: ([] : List Int)).set (0 : Nat) g_1.1).length ≤ (9223372036854775807 : Nat) ∧
 (g.1.length + (((0 : Int) :: ([] : List Int)).set (0 : Nat) g_1.1).length +
 (g.1.length + (((0 : Int) :: ([] : List Int)).set (0 : Nat) g_1.1).length) / (4 : Nat) +
 (192 : Nat)) *
 (8 : Nat) ≤
 (281474976710656 : Nat)) ∧
 (((g.1 ++ ((0 : Int) :: ([] : List Int)).set (0 : Nat) g_1.1).length ≤ x.1.length ∧
 g.1 ++ ((0 : Int) :: ([] : List Int)).set (0 : Nat) g_1.1 =
 List.take (g.1 ++ ((0 : Int) :: ([] : List Int)).set (0 : Nat) g_1.1).length (order x.1 x.2.1)) ∧
 x.1.length - (g.1 ++ ((0 : Int) :: ([] : List Int)).set (0 : Nat) g_1.1).length < x.1.length - g.1.length) ∧
 (x.1 = x.1 ∧ x.2.1 = x.2.1 ∧ True ∧ True) ∧
 (g.1 ++ ((0 : Int) :: ([] : List Int)).set (0 : Nat) g_1.1 =
 g.1 ++ ((0 : Int) :: ([] : List Int)).set (0 : Nat) g_1.1 ∧
 True) ∧
 True)) ∧
 (decide ((↑g.1.length : Int) < (↑x.1.length : Int)) = false → g.1 = order x.1 x.2.1)

theorem E_order_eq (x : HL (cOrder : Ctr).as) : vc (fx_order x) 1 23 Try.f23 (cOrder) x = E_order x := by kernel_rfl

def E_same (x : (List Int × Int) × (List Int × Int) × Unit) : Prop :=
 Holds True ∧
 (decide (x.1.1 = x.2.1.1) = true → decide (x.1.1 = x.2.1.1) = true) ∧
 (decide (x.1.1 = x.2.1.1) = true → decide (x.1.1 = x.2.1.1) = true) ∧
 (decide (x.1.1 = x.2.1.1) = true → decide (x.1.1 = x.2.1.1) = true ∧ decide (x.1.1 = x.2.1.1) = true) ∧
 (decide (x.1.1 = x.2.1.1) = true → decide (x.1.1 = x.2.1.1) = true) ∧
 (decide (x.1.1 = x.2.1.1) && x.1.2 == x.2.1.2) = decide (x.1 = x.2.1)

theorem E_same_eq (x : HL (cSame : Ctr).as) : vc (fx_same x) 1 21 Try.f21 (cSame) x = E_same x := by kernel_rfl

def E_list (x : List Int × Int × Unit) : Prop :=
 Holds True ∧
 ((wrong x.1 x.2.1 != (0 : Int)) = true →
 (([] : List Int), (0 : Int)) = (shared x.1 x.2.1 false).1 ∧ wrong x.1 x.2.1 = (shared x.1 x.2.1 false).2.1) ∧
 ((wrong x.1 x.2.1 != (0 : Int)) = false →
 Holds ((0 : Int) ≤ (↑x.1.length : Int) ∧ (↑x.1.length : Int) ≤ (400 : Int)) ∧
 Holds
 (((1 : Int) ≤ x.2.1 ∧ x.2.1 ≤ (8 : Int)) ∧
 (ord (↑x.1.length : Int)).length ≤ (400 : Nat) ∧ okW x.1 (ord (↑x.1.length : Int))) ∧
 ((plan x.1 x.2.1 (ord (↑x.1.length : Int))).1.1, (plan x.1 x.2.1 (ord (↑x.1.length : Int))).1.2) =
 (shared x.1 x.2.1 false).1 ∧
 (0 : Int) = (shared x.1 x.2.1 false).2.1)

theorem E_list_eq (x : HL (cList : Ctr).as) : vc (fx_list x) 1 17 Try.f17 (cList) x = E_list x := by kernel_rfl

def E_longest (x : List Int × Int × Unit) : Prop :=
 Holds True ∧
 ((wrong x.1 x.2.1 != (0 : Int)) = true →
 (([] : List Int), (0 : Int)) = (shared x.1 x.2.1 true).1 ∧ wrong x.1 x.2.1 = (shared x.1 x.2.1 true).2.1) ∧
 ((wrong x.1 x.2.1 != (0 : Int)) = false →
 Holds ((0 : Int) ≤ (↑x.1.length : Int) ∧ (↑x.1.length : Int) ≤ (400 : Int)) ∧
 Holds ((ord (↑x.1.length : Int)).length ≤ (400 : Nat) ∧ okW x.1 (ord (↑x.1.length : Int)) ∧ up (ord (↑x.1.length : Int))) ∧
 ((True ∧ True ∧ True) ∧
 ord (↑x.1.length : Int) = ord (↑x.1.length : Int) ∧ (x.1 = x.1 ∧ True) ∧ (True ∧ (True ∧ True) ∧ True) ∧ True) ∧
 Holds
 (((1 : Int) ≤ x.2.1 ∧ x.2.1 ≤ (8 : Int)) ∧
 (sortT x.1 (ord (↑x.1.length : Int))).length ≤ (400 : Nat) ∧ okW x.1 (sortT x.1 (ord (↑x.1.length : Int)))) ∧
 ((plan x.1 x.2.1 (sortT x.1 (ord (↑x.1.length : Int)))).1.1,
 (plan x.1 x.2.1 (sortT x.1 (ord (↑x.1.length : Int)))).1.2) =
 (shared x.1 x.2.1 true).1 ∧
 (0 : Int) = (shared x.1 x.2.1 true).2.1)

theorem E_longest_eq (x : HL (cLongest : Ctr).as) : vc (fx_longest x) 1 18 Try.f18 (cLongest) x = E_longest x := by kernel_rfl

def E_law (x : List Int × Int × Unit) : Prop :=
 Holds True ∧
 Holds True ∧
 Holds True ∧
 ((wrong x.1 x.2.1 != (0 : Int)) = true →
 Holds True ∧
 ((wrong x.1 x.2.1 == wrong x.1 x.2.1) = true →
 (wrong x.1 x.2.1 == wrong x.1 x.2.1) = true ∧ (wrong x.1 x.2.1 == wrong x.1 x.2.1) = true) ∧
 ((wrong x.1 x.2.1 == wrong x.1 x.2.1) = true → (wrong x.1 x.2.1 == wrong x.1 x.2.1) = true) ∧
 ((wrong x.1 x.2.1 == wrong x.1 x.2.1 && (shared x.1 x.2.1 false).2.1 == wrong x.1 x.2.1) = true →
 (wrong x.1 x.2.1 == wrong x.1 x.2.1 && (shared x.1 x.2.1 false).2.1 == wrong x.1 x.2.1) = true ∧
 (wrong x.1 x.2.1 == wrong x.1 x.2.1 && (shared x.1 x.2.1 false).2.1 == wrong x.1 x.2.1) = true) ∧
 ((wrong x.1 x.2.1 == wrong x.1 x.2.1 && (shared x.1 x.2.1 false).2.1 == wrong x.1 x.2.1) = true →
 (wrong x.1 x.2.1 == wrong x.1 x.2.1 && (shared x.1 x.2.1 false).2.1 == wrong x.1 x.2.1) = true) ∧
 ((wrong x.1 x.2.1 == wrong x.1 x.2.1 && (shared x.1 x.2.1 false).2.1 == wrong x.1 x.2.1 &&
 (shared x.1 x.2.1 true).2.1 == wrong x.1 x.2.1) =
 true →
 Holds True ∧
 (decide (((shared x.1 x.2.1 false).1.1, (shared x.1 x.2.1 false).1.2) = (([] : List Int), (0 : Int))) =
 true →
 Holds True ∧
 decide
 (((shared x.1 x.2.1 true).1.1, (shared x.1 x.2.1 true).1.2) = (([] : List Int), (0 : Int))) =
 true) ∧
 (decide
 (((shared x.1 x.2.1 false).1.1, (shared x.1 x.2.1 false).1.2) = (([] : List Int), (0 : Int))) =
 !true →
 false = true)) ∧
 ((wrong x.1 x.2.1 == wrong x.1 x.2.1 && (shared x.1 x.2.1 false).2.1 == wrong x.1 x.2.1 &&
 (shared x.1 x.2.1 true).2.1 == wrong x.1 x.2.1) =
 !true →
 false = true)) ∧
 ((wrong x.1 x.2.1 != (0 : Int)) = false →
 Holds True ∧
 ((wrong x.1 x.2.1 == (0 : Int)) = true →
 (((shared x.1 x.2.1 false).2.1 == (0 : Int)) = true →
 (((shared x.1 x.2.1 true).2.1 == (0 : Int)) = true →
 Holds (x.1.length ≤ (400 : Nat)) ∧
 Holds
 (((1 : Int) ≤ x.2.1 ∧ x.2.1 ≤ (8 : Int)) ∧
 (order x.1 false).length ≤ (400 : Nat) ∧ okW x.1 (order x.1 false)) ∧
 Holds True ∧
 (decide
 (((shared x.1 x.2.1 false).1.1, (shared x.1 x.2.1 false).1.2) =
 ((plan x.1 x.2.1 (order x.1 false)).1.1, (plan x.1 x.2.1 (order x.1 false)).1.2)) =
 true →
 Holds (x.1.length ≤ (400 : Nat)) ∧
 Holds
 (((1 : Int) ≤ x.2.1 ∧ x.2.1 ≤ (8 : Int)) ∧
 (order x.1 true).length ≤ (400 : Nat) ∧ okW x.1 (order x.1 true)) ∧
 Holds True ∧
 decide
 (((shared x.1 x.2.1 true).1.1, (shared x.1 x.2.1 true).1.2) =
 ((plan x.1 x.2.1 (order x.1 true)).1.1,
 (plan x.1 x.2.1 (order x.1 true)).1.2)) =
 true) ∧
 (decide
 (((shared x.1 x.2.1 false).1.1, (shared x.1 x.2.1 false).1.2) =
 ((plan x.1 x.2.1 (order x.1 false)).1.1, (plan x.1 x.2.1 (order x.1 false)).1.2)) =
 !true →
 false = true)) ∧
 (((shared x.1 x.2.1 true).2.1 == (0 : Int)) = !true → false = true)) ∧
 (((shared x.1 x.2.1 false).2.1 == (0 : Int)) = !true → false = true)) ∧
 ((wrong x.1 x.2.1 == (0 : Int)) = !true → false = true))

theorem E_law_eq (x : HL (cLaw : Ctr).as) : vc (fx_law x) 1 6 Try.f6 (cLaw) x = E_law x := by kernel_rfl

end Go.Proofs.Ytpmfgdedkmddlaa.Plans
