/-
  The conditions that the executor comes to, written out (by a tool of ours), and that they are the conditions (by the kernel).
-/
import Derived.Test.YtpnmfoojmodnlaaLiftsC
namespace Go.Proofs.Ytpnmfoojmodnlaa.Lifts
open Go.Sx
set_option maxRecDepth 100000

def E_rev (x : List Int × Unit) : Prop :=
 ((-9223372036854775808 : Int) ≤ (↑x.1.length : Int) - (1 : Int) ∧ (↑x.1.length : Int) - (1 : Int) ≤ (9223372036854775807 : Int)) ∧
 ((((0 : Int) ≤ (0 : Int) ∧
 (↑x.1.length : Int) - (1 : Int) = (↑x.1.length : Int) - (1 : Int) - (0 : Int) ∧
 (0 : Int) ≤ (↑x.1.length : Int) - (1 : Int) + (1 : Int) ∧ x.1 = revs x.1 (Int.toNat (0 : Int))) ∧
 True) ∧
 (True ∧ (0 : Int) = (0 : Int) ∧ (↑x.1.length : Int) - (1 : Int) = (↑x.1.length : Int) - (1 : Int) ∧ True) ∧
 (x.1 = x.1 ∧ True) ∧ True ∧ True) ∧
 ∀ (g : List Int × Int × Int × Unit),
 (0 : Int) ≤ g.2.1 ∧
 g.2.2.1 = (↑x.1.length : Int) - (1 : Int) - g.2.1 ∧ g.2.1 ≤ g.2.2.1 + (1 : Int) ∧ g.1 = revs x.1 g.2.1.toNat →
 (g.1.length ≤ (9223372036854775807 : Nat) ∧ ∀ (x : Int), x ∈ g.1 → (-9223372036854775808 : Int) ≤ x ∧ x ≤ (9223372036854775807 : Int)) ∧
 ((-9223372036854775808 : Int) ≤ g.2.1 ∧ g.2.1 ≤ (9223372036854775807 : Int)) ∧
 ((-9223372036854775808 : Int) ≤ g.2.2.1 ∧ g.2.2.1 ≤ (9223372036854775807 : Int)) ∧ True →
 (decide (g.2.1 < g.2.2.1) = true →
 ((0 : Int) ≤ g.2.2.1 ∧ g.2.2.1 < (↑g.1.length : Int)) ∧
 ((0 : Int) ≤ g.2.1 ∧ g.2.1 < (↑g.1.length : Int)) ∧
 ((0 : Int) ≤ g.2.1 ∧ g.2.1 < (↑g.1.length : Int)) ∧
 ((0 : Int) ≤ g.2.2.1 ∧
 g.2.2.1 < (↑(g.1.set g.2.1.toNat (g.1.getD g.2.2.1.toNat (0 : Int))).length : Int)) ∧
 ((-9223372036854775808 : Int) ≤ g.2.1 + (1 : Int) ∧ g.2.1 + (1 : Int) ≤ (9223372036854775807 : Int)) ∧
 ((-9223372036854775808 : Int) ≤ g.2.2.1 - (1 : Int) ∧ g.2.2.1 - (1 : Int) ≤ (9223372036854775807 : Int)) ∧
 (((0 : Int) ≤ g.2.1 + (1 : Int) ∧
 g.2.2.1 - (1 : Int) = (↑x.1.length : Int) - (1 : Int) - (g.2.1 + (1 : Int)) ∧
 g.2.1 + (1 : Int) ≤ g.2.2.1 - (1 : Int) + (1 : Int) ∧
 (g.1.set g.2.1.toNat (g.1.getD g.2.2.1.toNat (0 : Int))).set g.2.2.1.toNat
 (g.1.getD g.2.1.toNat (0 : Int)) =
 revs x.1 (g.2.1 + (1 : Int)).toNat) ∧
 (g.2.2.1 - (1 : Int) - (g.2.1 + (1 : Int)) + (1 : Int)).toNat <
 (g.2.2.1 - g.2.1 + (1 : Int)).toNat) ∧
 (True ∧ g.2.1 + (1 : Int) = g.2.1 + (1 : Int) ∧ g.2.2.1 - (1 : Int) = g.2.2.1 - (1 : Int) ∧ True) ∧
 ((g.1.set g.2.1.toNat (g.1.getD g.2.2.1.toNat (0 : Int))).set g.2.2.1.toNat
 (g.1.getD g.2.1.toNat (0 : Int)) =
 (g.1.set g.2.1.toNat (g.1.getD g.2.2.1.toNat (0 : Int))).set g.2.2.1.toNat
 (g.1.getD g.2.1.toNat (0 : Int)) ∧
 True) ∧
 True ∧ True) ∧
 (decide (g.2.1 < g.2.2.1) = false → True ∧ (True ∧ True) ∧ (g.1 = x.1.reverse ∧ True) ∧ True)

theorem E_rev_eq (x : (pRev : Prc).G) : vcPr (fx_rev x) 1 38 Try.f38 (pRev) x = E_rev x := by kernel_rfl

def E_equal (x : List Int × List Int × Unit) : Prop :=
 (((↑x.1.length : Int) != (↑x.2.1.length : Int)) = true → false = decide (x.1 = x.2.1)) ∧
 (((↑x.1.length : Int) != (↑x.2.1.length : Int)) = false →
 ((((0 : Int) ≤ (0 : Int) ∧
 (0 : Int) ≤ (↑x.1.length : Int) ∧ List.take (Int.toNat (0 : Int)) x.1 = List.take (Int.toNat (0 : Int)) x.2.1) ∧
 True) ∧
 (x.1 = x.1 ∧ x.2.1 = x.2.1 ∧ (↑x.1.length : Int) = (↑x.1.length : Int) ∧ (0 : Int) = (0 : Int) ∧ True) ∧ True ∧ True) ∧
 ∀ (g : Int × Unit),
 (0 : Int) ≤ g.1 ∧ g.1 ≤ (↑x.1.length : Int) ∧ List.take g.1.toNat x.1 = List.take g.1.toNat x.2.1 →
 ((-9223372036854775808 : Int) ≤ g.1 ∧ g.1 ≤ (9223372036854775807 : Int)) ∧ True →
 (decide (g.1 < (↑x.1.length : Int)) = true →
 ((0 : Int) ≤ g.1 ∧ g.1 < (↑x.1.length : Int)) ∧
 ((0 : Int) ≤ g.1 ∧ g.1 < (↑x.2.1.length : Int)) ∧
 ((x.1.getD g.1.toNat (0 : Int) != x.2.1.getD g.1.toNat (0 : Int)) = true → false = decide (x.1 = x.2.1)) ∧
 ((x.1.getD g.1.toNat (0 : Int) != x.2.1.getD g.1.toNat (0 : Int)) = false →
 ((-9223372036854775808 : Int) ≤ g.1 + (1 : Int) ∧ g.1 + (1 : Int) ≤ (9223372036854775807 : Int)) ∧
 (((0 : Int) ≤ g.1 + (1 : Int) ∧
 g.1 + (1 : Int) ≤ (↑x.1.length : Int) ∧
 List.take (g.1 + (1 : Int)).toNat x.1 = List.take (g.1 + (1 : Int)).toNat x.2.1) ∧
 ((↑x.1.length : Int) - (g.1 + (1 : Int))).toNat < ((↑x.1.length : Int) - g.1).toNat) ∧
 (x.1 = x.1 ∧
 x.2.1 = x.2.1 ∧
 (↑x.1.length : Int) = (↑x.1.length : Int) ∧ g.1 + (1 : Int) = g.1 + (1 : Int) ∧ True) ∧
 True ∧ True)) ∧
 (decide (g.1 < (↑x.1.length : Int)) = false → true = decide (x.1 = x.2.1)))

theorem E_equal_eq (x : HL (cEqual : Ctr).as) : vc (fx_equal x) 1 16 Try.f16 (cEqual) x = E_equal x := by kernel_rfl

def E_min (x : List Int × Unit) : Prop :=
 (decide ((↑x.1.length : Int) < (1 : Int)) = true → False) ∧
 (decide ((↑x.1.length : Int) < (1 : Int)) = false →
 ((0 : Int) ≤ (0 : Int) ∧ (0 : Int) < (↑x.1.length : Int)) ∧
 ((((1 : Int) ≤ (1 : Int) ∧
 (1 : Int) ≤ (↑x.1.length : Int) ∧ x.1.getD (Int.toNat (0 : Int)) (0 : Int) = mn (List.take (Int.toNat (1 : Int)) x.1)) ∧
 True) ∧
 (x.1 = x.1 ∧ x.1.getD (Int.toNat (0 : Int)) (0 : Int) = x.1.getD (Int.toNat (0 : Int)) (0 : Int) ∧ (1 : Int) = (1 : Int) ∧ True) ∧
 True ∧ True) ∧
 ∀ (g : Int × Int × Unit),
 (1 : Int) ≤ g.2.1 ∧ g.2.1 ≤ (↑x.1.length : Int) ∧ g.1 = mn (List.take g.2.1.toNat x.1) →
 ((-9223372036854775808 : Int) ≤ g.1 ∧ g.1 ≤ (9223372036854775807 : Int)) ∧
 ((-9223372036854775808 : Int) ≤ g.2.1 ∧ g.2.1 ≤ (9223372036854775807 : Int)) ∧ True →
 (decide (g.2.1 < (↑x.1.length : Int)) = true →
 ((0 : Int) ≤ g.2.1 ∧ g.2.1 < (↑x.1.length : Int)) ∧
 ((-9223372036854775808 : Int) ≤ g.2.1 + (1 : Int) ∧ g.2.1 + (1 : Int) ≤ (9223372036854775807 : Int)) ∧
 (((1 : Int) ≤ g.2.1 + (1 : Int) ∧
 g.2.1 + (1 : Int) ≤ (↑x.1.length : Int) ∧
 min g.1 (x.1.getD g.2.1.toNat (0 : Int)) = mn (List.take (g.2.1 + (1 : Int)).toNat x.1)) ∧
 ((↑x.1.length : Int) - (g.2.1 + (1 : Int))).toNat < ((↑x.1.length : Int) - g.2.1).toNat) ∧
 (x.1 = x.1 ∧
 min g.1 (x.1.getD g.2.1.toNat (0 : Int)) = min g.1 (x.1.getD g.2.1.toNat (0 : Int)) ∧
 g.2.1 + (1 : Int) = g.2.1 + (1 : Int) ∧ True) ∧
 True ∧ True) ∧
 (decide (g.2.1 < (↑x.1.length : Int)) = false → g.1 = mn x.1))

theorem E_min_eq (x : HL (cMin : Ctr).as) : vc (fx_min x) 1 44 Try.f44 (cMin) x = E_min x := by kernel_rfl

def E_max (x : List Int × Unit) : Prop :=
 (decide ((↑x.1.length : Int) < (1 : Int)) = true → False) ∧
 (decide ((↑x.1.length : Int) < (1 : Int)) = false →
 ((0 : Int) ≤ (0 : Int) ∧ (0 : Int) < (↑x.1.length : Int)) ∧
 ((((1 : Int) ≤ (1 : Int) ∧
 (1 : Int) ≤ (↑x.1.length : Int) ∧ x.1.getD (Int.toNat (0 : Int)) (0 : Int) = mx (List.take (Int.toNat (1 : Int)) x.1)) ∧
 True) ∧
 (x.1 = x.1 ∧ x.1.getD (Int.toNat (0 : Int)) (0 : Int) = x.1.getD (Int.toNat (0 : Int)) (0 : Int) ∧ (1 : Int) = (1 : Int) ∧ True) ∧
 True ∧ True) ∧
 ∀ (g : Int × Int × Unit),
 (1 : Int) ≤ g.2.1 ∧ g.2.1 ≤ (↑x.1.length : Int) ∧ g.1 = mx (List.take g.2.1.toNat x.1) →
 ((-9223372036854775808 : Int) ≤ g.1 ∧ g.1 ≤ (9223372036854775807 : Int)) ∧
 ((-9223372036854775808 : Int) ≤ g.2.1 ∧ g.2.1 ≤ (9223372036854775807 : Int)) ∧ True →
 (decide (g.2.1 < (↑x.1.length : Int)) = true →
 ((0 : Int) ≤ g.2.1 ∧ g.2.1 < (↑x.1.length : Int)) ∧
 ((-9223372036854775808 : Int) ≤ g.2.1 + (1 : Int) ∧ g.2.1 + (1 : Int) ≤ (9223372036854775807 : Int)) ∧
 (((1 : Int) ≤ g.2.1 + (1 : Int) ∧
 g.2.1 + (1 : Int) ≤ (↑x.1.length : Int) ∧
 max g.1 (x.1.getD g.2.1.toNat (0 : Int)) = mx (List.take (g.2.1 + (1 : Int)).toNat x.1)) ∧
 ((↑x.1.length : Int) - (g.2.1 + (1 : Int))).toNat < ((↑x.1.length : Int) - g.2.1).toNat) ∧
 (x.1 = x.1 ∧
 max g.1 (x.1.getD g.2.1.toNat (0 : Int)) = max g.1 (x.1.getD g.2.1.toNat (0 : Int)) ∧
 g.2.1 + (1 : Int) = g.2.1 + (1 : Int) ∧ True) ∧
 True ∧ True) ∧
 (decide (g.2.1 < (↑x.1.length : Int)) = false → g.1 = mx x.1))

theorem E_max_eq (x : HL (cMax : Ctr).as) : vc (fx_max x) 1 43 Try.f43 (cMax) x = E_max x := by kernel_rfl

def E_nan (x : Int × Unit) : Prop :=
 (x.1 != x.1) = false

theorem E_nan_eq (x : HL (cNaN : Ctr).as) : vc (fx_nan x) 1 61 Try.f61 (cNaN) x = E_nan x := by kernel_rfl

def E_less (x : Int × Int × Unit) : Prop :=
 ((x.1 != x.1) = true →
 (x.1 != x.1) = true ∧
 ((!!x.2.1 != x.2.1) = true → (!!x.2.1 != x.2.1) = true ∧ (!!x.2.1 != x.2.1) = true) ∧
 ((!x.2.1 != x.2.1) = false → (!!x.2.1 != x.2.1) = true) ∧
 (!x.2.1 != x.2.1 || decide (x.1 < x.2.1)) = decide (x.1 < x.2.1)) ∧
 ((x.1 != x.1) = !true → decide (x.1 < x.2.1) = decide (x.1 < x.2.1))

theorem E_less_eq (x : HL (cLess : Ctr).as) : vc (fx_less x) 2 60 Try.f60 (cLess) x = E_less x := by kernel_rfl

def E_bs (x : List Int × Int × Unit) : Prop :=
 ((((0 : Int) ≤ (0 : Int) ∧
 (0 : Int) ≤ (↑x.1.length : Int) ∧
 (↑x.1.length : Int) ≤ (↑x.1.length : Int) ∧
 (∀ (k : Int), (0 : Int) ≤ k → k < (0 : Int) → x.1.getD k.toNat (0 : Int) < x.2.1) ∧
 ∀ (k : Int), (↑x.1.length : Int) ≤ k → k < (↑x.1.length : Int) → x.2.1 ≤ x.1.getD k.toNat (0 : Int)) ∧
 True) ∧
 (x.1 = x.1 ∧
 x.2.1 = x.2.1 ∧
 (↑x.1.length : Int) = (↑x.1.length : Int) ∧ (0 : Int) = (0 : Int) ∧ (↑x.1.length : Int) = (↑x.1.length : Int) ∧ True) ∧
 True ∧ True) ∧
 ∀ (g : Int × Int × Unit),
 ((0 : Int) ≤ g.1 ∧
 g.1 ≤ g.2.1 ∧
 g.2.1 ≤ (↑x.1.length : Int) ∧
 (∀ (k : Int), (0 : Int) ≤ k → k < g.1 → x.1.getD k.toNat (0 : Int) < x.2.1) ∧
 ∀ (k : Int), g.2.1 ≤ k → k < (↑x.1.length : Int) → x.2.1 ≤ x.1.getD k.toNat (0 : Int)) →
 ((-9223372036854775808 : Int) ≤ g.1 ∧ g.1 ≤ (9223372036854775807 : Int)) ∧
 ((-9223372036854775808 : Int) ≤ g.2.1 ∧ g.2.1 ≤ (9223372036854775807 : Int)) ∧ True →
 (decide (g.1 < g.2.1) = true →
 ((-9223372036854775808 : Int) ≤ g.1 + g.2.1 ∧ g.1 + g.2.1 ≤ (9223372036854775807 : Int)) ∧
 (0 : Int) ≤ (1 : Int) ∧
 ((0 : Int) ≤ IntKind.i64.wrap (IntKind.u64.wrap (g.1 + g.2.1) / (2 : Int) ^ min (Int.toNat (1 : Int)) IntKind.u64.bits) ∧
 IntKind.i64.wrap (IntKind.u64.wrap (g.1 + g.2.1) / (2 : Int) ^ min (Int.toNat (1 : Int)) IntKind.u64.bits) <
 (↑x.1.length : Int)) ∧
 Holds True ∧
 (decide
 (x.1.getD
 (IntKind.i64.wrap
 (IntKind.u64.wrap (g.1 + g.2.1) / (2 : Int) ^ min (Int.toNat (1 : Int)) IntKind.u64.bits)).toNat
 (0 : Int) <
 x.2.1) =
 true →
 ((-9223372036854775808 : Int) ≤
 IntKind.i64.wrap (IntKind.u64.wrap (g.1 + g.2.1) / (2 : Int) ^ min (Int.toNat (1 : Int)) IntKind.u64.bits) +
 (1 : Int) ∧
 IntKind.i64.wrap (IntKind.u64.wrap (g.1 + g.2.1) / (2 : Int) ^ min (Int.toNat (1 : Int)) IntKind.u64.bits) +
 (1 : Int) ≤
 (9223372036854775807 : Int)) ∧
 (((0 : Int) ≤
 IntKind.i64.wrap (IntKind.u64.wrap (g.1 + g.2.1) / (2 : Int) ^ min (Int.toNat (1 : Int)) IntKind.u64.bits) +
 (1 : Int) ∧
 IntKind.i64.wrap (IntKind.u64.wrap (g.1 + g.2.1) / (2 : Int) ^ min (Int.toNat (1 : Int)) IntKind.u64.bits) +
 (1 : Int) ≤
 g.2.1 ∧
 g.2.1 ≤ (↑x.1.length : Int) ∧
 (∀ (k : Int),
 (0 : Int) ≤ k →
 k <
 IntKind.i64.wrap
 (IntKind.u64.wrap (g.1 + g.2.1) / (2 : Int) ^ min (Int.toNat (1 : Int)) IntKind.u64.bits) +
 (1 : Int) →
 x.1.getD k.toNat (0 : Int) < x.2.1) ∧
 ∀ (k : Int), g.2.1 ≤ k → k < (↑x.1.length : Int) → x.2.1 ≤ x.1.getD k.toNat (0 : Int)) ∧
 (g.2.1 -
 (IntKind.i64.wrap
 (IntKind.u64.wrap (g.1 + g.2.1) / (2 : Int) ^ min (Int.toNat (1 : Int)) IntKind.u64.bits) +
 (1 : Int))).toNat <
 (g.2.1 - g.1).toNat) ∧
 (x.1 = x.1 ∧
 x.2.1 = x.2.1 ∧
 (↑x.1.length : Int) = (↑x.1.length : Int) ∧
 IntKind.i64.wrap (IntKind.u64.wrap (g.1 + g.2.1) / (2 : Int) ^ min (Int.toNat (1 : Int)) IntKind.u64.bits) +
 (1 : Int) =
 IntKind.i64.wrap
 (IntKind.u64.wrap (g.1 + g.2.1) / (2 : Int) ^ min (Int.toNat (1 : Int)) IntKind.u64.bits) +
 (1 : Int) ∧
 g.2.1 = g.2.1 ∧ True) ∧
 True ∧ True) ∧
 (decide
 (x.1.getD
 (IntKind.i64.wrap
 (IntKind.u64.wrap (g.1 + g.2.1) / (2 : Int) ^ min (Int.toNat (1 : Int)) IntKind.u64.bits)).toNat
 (0 : Int) <
 x.2.1) =
 false →
 (((0 : Int) ≤ g.1 ∧
 g.1 ≤
 IntKind.i64.wrap (IntKind.u64.wrap (g.1 + g.2.1) / (2 : Int) ^ min (Int.toNat (1 : Int)) IntKind.u64.bits) ∧
 IntKind.i64.wrap (IntKind.u64.wrap (g.1 + g.2.1) / (2 : Int) ^ min (Int.toNat (1 : Int)) IntKind.u64.bits) ≤
 (↑x.1.length : Int) ∧
 (∀ (k : Int), (0 : Int) ≤ k → k < g.1 → x.1.getD k.toNat (0 : Int) < x.2.1) ∧
 ∀ (k : Int),
 IntKind.i64.wrap
 (IntKind.u64.wrap (g.1 + g.2.1) / (2 : Int) ^ min (Int.toNat (1 : Int)) IntKind.u64.bits) ≤
 k →
 k < (↑x.1.length : Int) → x.2.1 ≤ x.1.getD k.toNat (0 : Int)) ∧
 (IntKind.i64.wrap (IntKind.u64.wrap (g.1 + g.2.1) / (2 : Int) ^ min (Int.toNat (1 : Int)) IntKind.u64.bits) -
 g.1).toNat <
 (g.2.1 - g.1).toNat) ∧
 (x.1 = x.1 ∧
 x.2.1 = x.2.1 ∧
 (↑x.1.length : Int) = (↑x.1.length : Int) ∧
 g.1 = g.1 ∧
 IntKind.i64.wrap (IntKind.u64.wrap (g.1 + g.2.1) / (2 : Int) ^ min (Int.toNat (1 : Int)) IntKind.u64.bits) =
 IntKind.i64.wrap
 (IntKind.u64.wrap (g.1 + g.2.1) / (2 : Int) ^ min (Int.toNat (1 : Int)) IntKind.u64.bits) ∧
 True) ∧
 True ∧ True)) ∧
 (decide (g.1 < g.2.1) = false →
 (decide (g.1 < (↑x.1.length : Int)) = true →
 (decide (g.1 < (↑x.1.length : Int)) = true ∧ decide (g.1 < (↑x.1.length : Int)) = true) ∧
 (0 : Int) ≤ g.1 ∧ g.1 < (↑x.1.length : Int)) ∧
 (decide (g.1 < (↑x.1.length : Int)) = true → decide (g.1 < (↑x.1.length : Int)) = true) ∧
 (decide (g.1 < (↑x.1.length : Int)) = true →
 decide (g.1 < (↑x.1.length : Int)) = true ∧ decide (g.1 < (↑x.1.length : Int)) = true) ∧
 (decide (g.1 < (↑x.1.length : Int)) = true → decide (g.1 < (↑x.1.length : Int)) = true) ∧
 ((decide (g.1 < (↑x.1.length : Int)) && !x.1.getD g.1.toNat (0 : Int) == x.2.1) = true →
 ((decide (g.1 < (↑x.1.length : Int)) && !x.1.getD g.1.toNat (0 : Int) == x.2.1) = true ∧
 (decide (g.1 < (↑x.1.length : Int)) && !x.1.getD g.1.toNat (0 : Int) == x.2.1) = true) ∧
 (0 : Int) ≤ g.1 ∧ g.1 < (↑x.1.length : Int)) ∧
 ((decide (g.1 < (↑x.1.length : Int)) && !x.1.getD g.1.toNat (0 : Int) == x.2.1) = true →
 (decide (g.1 < (↑x.1.length : Int)) && !x.1.getD g.1.toNat (0 : Int) == x.2.1) = true) ∧
 ((decide (g.1 < (↑x.1.length : Int)) && !x.1.getD g.1.toNat (0 : Int) == x.2.1) = true →
 (decide (g.1 < (↑x.1.length : Int)) && !x.1.getD g.1.toNat (0 : Int) == x.2.1) = true ∧ Holds True) ∧
 ((decide (g.1 < (↑x.1.length : Int)) && !x.1.getD g.1.toNat (0 : Int) == x.2.1) = true →
 (decide (g.1 < (↑x.1.length : Int)) && !x.1.getD g.1.toNat (0 : Int) == x.2.1) = true) ∧
 ((decide (g.1 < (↑x.1.length : Int)) && !x.1.getD g.1.toNat (0 : Int) == x.2.1 && false) = true →
 (decide (g.1 < (↑x.1.length : Int)) && !x.1.getD g.1.toNat (0 : Int) == x.2.1 && false) = true ∧
 Holds True) ∧
 ((decide (g.1 < (↑x.1.length : Int)) && !x.1.getD g.1.toNat (0 : Int) == x.2.1) = true →
 (decide (g.1 < (↑x.1.length : Int)) && !x.1.getD g.1.toNat (0 : Int) == x.2.1) = true ∧
 (false = true →
 (decide (g.1 < (↑x.1.length : Int)) && !x.1.getD g.1.toNat (0 : Int) == x.2.1 && false) = true)) ∧
 (decide (g.1 < (↑x.1.length : Int)) = true →
 decide (g.1 < (↑x.1.length : Int)) = true ∧
 ((x.1.getD g.1.toNat (0 : Int) == x.2.1) = false →
 (decide (g.1 < (↑x.1.length : Int)) && !x.1.getD g.1.toNat (0 : Int) == x.2.1) = true)) ∧
 (decide (g.1 < (↑x.1.length : Int)) = true → decide (g.1 < (↑x.1.length : Int)) = true) ∧
 g.1 = lb x.1 x.2.1 ∧
 (decide (g.1 < (↑x.1.length : Int)) && (x.1.getD g.1.toNat (0 : Int) == x.2.1 && true)) =
 found x.1 x.2.1)

theorem E_bs_eq (x : HL (cBS : Ctr).as) : vc (fx_bs x) 1 36 Try.f36 (cBS) x = E_bs x := by kernel_rfl

def E_clone (x : List Int × Unit) : Prop :=
 ∀ (b : Bool),
 (b = true → x.1 = ([] : List Int)) →
 (b = true → ([] : List Int) = x.1) ∧
 (b = false →
 (([] : List Int).length + x.1.length ≤ (9223372036854775807 : Nat) ∧
 (([] : List Int).length + x.1.length + (([] : List Int).length + x.1.length) / (4 : Nat) + (192 : Nat)) * (8 : Nat) ≤
 (281474976710656 : Nat)) ∧
 ([] : List Int) ++ x.1 = x.1)

theorem E_clone_eq (x : HL (cClone : Ctr).as) : vc (fx_clone x) 1 37 Try.f37 (cClone) x = E_clone x := by kernel_rfl

def E_concat (x : List (List Int) × Unit) : Prop :=
 ((((0 : Int) ≤ (0 : Int) ∧ (0 : Int) ≤ (↑x.1.length : Int) ∧ (0 : Int) = (↑(List.take (Int.toNat (0 : Int)) x.1).flatten.length : Int)) ∧ True) ∧
 (x.1 = x.1 ∧ (0 : Int) = (0 : Int) ∧ x.1 = x.1 ∧ (↑x.1.length : Int) = (↑x.1.length : Int) ∧ (0 : Int) = (0 : Int) ∧ True) ∧
 True ∧ True) ∧
 ∀ (g : Int × Int × Unit),
 (0 : Int) ≤ g.2.1 ∧ g.2.1 ≤ (↑x.1.length : Int) ∧ g.1 = (↑(List.take g.2.1.toNat x.1).flatten.length : Int) →
 ((-9223372036854775808 : Int) ≤ g.1 ∧ g.1 ≤ (9223372036854775807 : Int)) ∧
 ((-9223372036854775808 : Int) ≤ g.2.1 ∧ g.2.1 ≤ (9223372036854775807 : Int)) ∧ True →
 (decide (g.2.1 < (↑x.1.length : Int)) = true →
 ((0 : Int) ≤ g.2.1 ∧ g.2.1 < (↑x.1.length : Int)) ∧
 ((-9223372036854775808 : Int) ≤ g.1 + (↑(x.1.getD g.2.1.toNat ([] : List Int)).length : Int) ∧
 g.1 + (↑(x.1.getD g.2.1.toNat ([] : List Int)).length : Int) ≤ (9223372036854775807 : Int)) ∧
 (decide (g.1 + (↑(x.1.getD g.2.1.toNat ([] : List Int)).length : Int) < (0 : Int)) = true → False) ∧
 (decide (g.1 + (↑(x.1.getD g.2.1.toNat ([] : List Int)).length : Int) < (0 : Int)) = false →
 ((-9223372036854775808 : Int) ≤ g.2.1 + (1 : Int) ∧ g.2.1 + (1 : Int) ≤ (9223372036854775807 : Int)) ∧
 (((0 : Int) ≤ g.2.1 + (1 : Int) ∧
 g.2.1 + (1 : Int) ≤ (↑x.1.length : Int) ∧
 g.1 + (↑(x.1.getD g.2.1.toNat ([] : List Int)).length : Int) =
 (↑(List.take (g.2.1 + (1 : Int)).toNat x.1).flatten.length : Int)) ∧
 ((↑x.1.length : Int) - (g.2.1 + (1 : Int))).toNat < ((↑x.1.length : Int) - g.2.1).toNat) ∧
 (x.1 = x.1 ∧
 g.1 + (↑(x.1.getD g.2.1.toNat ([] : List Int)).length : Int) =
 g.1 + (↑(x.1.getD g.2.1.toNat ([] : List Int)).length : Int) ∧
 x.1 = x.1 ∧ (↑x.1.length : Int) = (↑x.1.length : Int) ∧ g.2.1 + (1 : Int) = g.2.1 + (1 : Int) ∧ True) ∧
 True ∧ True)) ∧
 (decide (g.2.1 < (↑x.1.length : Int)) = false →
 Holds ((0 : Int) ≤ g.1 ∧ g.1 ≤ (800 : Int)) ∧
 ((((0 : Int) ≤ (0 : Int) ∧ (0 : Int) ≤ (↑x.1.length : Int) ∧ ([] : List Int) = (List.take (Int.toNat (0 : Int)) x.1).flatten) ∧
 True) ∧
 (True ∧ x.1 = x.1 ∧ (↑x.1.length : Int) = (↑x.1.length : Int) ∧ (0 : Int) = (0 : Int) ∧ True) ∧
 (([] : List Int) = ([] : List Int) ∧ True) ∧ True) ∧
 ∀ (g : List Int × Int × Unit),
 (0 : Int) ≤ g.2.1 ∧ g.2.1 ≤ (↑x.1.length : Int) ∧ g.1 = (List.take g.2.1.toNat x.1).flatten →
 (g.1.length ≤ (9223372036854775807 : Nat) ∧
 ∀ (x : Int), x ∈ g.1 → (-9223372036854775808 : Int) ≤ x ∧ x ≤ (9223372036854775807 : Int)) ∧
 ((-9223372036854775808 : Int) ≤ g.2.1 ∧ g.2.1 ≤ (9223372036854775807 : Int)) ∧ True →
 (decide (g.2.1 < (↑x.1.length : Int)) = true →
 ((0 : Int) ≤ g.2.1 ∧ g.2.1 < (↑x.1.length : Int)) ∧
 (g.1.length + (x.1.getD g.2.1.toNat ([] : List Int)).length ≤ (9223372036854775807 : Nat) ∧
 (g.1.length + (x.1.getD g.2.1.toNat ([] : List Int)).length +
 (g.1.length + (x.1.getD g.2.1.toNat ([] : List Int)).length) / (4 : Nat) +
 (192 : Nat)) *
 (8 : Nat) ≤
 (281474976710656 : Nat)) ∧
 ((-9223372036854775808 : Int) ≤ g.2.1 + (1 : Int) ∧ g.2.1 + (1 : Int) ≤ (9223372036854775807 : Int)) ∧
 (((0 : Int) ≤ g.2.1 + (1 : Int) ∧
 g.2.1 + (1 : Int) ≤ (↑x.1.length : Int) ∧
 g.1 ++ x.1.getD g.2.1.toNat ([] : List Int) =
 (List.take (g.2.1 + (1 : Int)).toNat x.1).flatten) ∧
 ((↑x.1.length : Int) - (g.2.1 + (1 : Int))).toNat < ((↑x.1.length : Int) - g.2.1).toNat) ∧
 (True ∧
 x.1 = x.1 ∧
 (↑x.1.length : Int) = (↑x.1.length : Int) ∧ g.2.1 + (1 : Int) = g.2.1 + (1 : Int) ∧ True) ∧
 (g.1 ++ x.1.getD g.2.1.toNat ([] : List Int) = g.1 ++ x.1.getD g.2.1.toNat ([] : List Int) ∧
 True) ∧
 True) ∧
 (decide (g.2.1 < (↑x.1.length : Int)) = false → g.1 = x.1.flatten))

theorem E_concat_eq (x : HL (cConcat : Ctr).as) : vc (fx_concat x) 1 17 Try.f17 (cConcat) x = E_concat x := by kernel_rfl

def E_any (x : List Int × Unit) : Prop :=
 ((((0 : Int) ≤ (0 : Int) ∧ (0 : Int) ≤ (↑x.1.length : Int) ∧ (List.take (Int.toNat (0 : Int)) x.1).all okB = true) ∧ True) ∧
 (x.1 = x.1 ∧
 Value.func (Fn.func (40 : Nat)) ([] : List Value).toArray ([] : List Value).toArray =
 Value.func (Fn.func (40 : Nat)) ([] : List Value).toArray ([] : List Value).toArray ∧
 (↑x.1.length : Int) = (↑x.1.length : Int) ∧ (0 : Int) = (0 : Int) ∧ True) ∧
 True ∧
 x.1 = x.1 ∧
 Value.func (Fn.func (40 : Nat)) ([] : List Value).toArray ([] : List Value).toArray =
 Value.func (Fn.func (40 : Nat)) ([] : List Value).toArray ([] : List Value).toArray ∧
 True ∧
 True ∧
 false = false ∧
 x.1 = x.1 ∧
 Value.func (Fn.func (40 : Nat)) ([] : List Value).toArray ([] : List Value).toArray =
 Value.func (Fn.func (40 : Nat)) ([] : List Value).toArray ([] : List Value).toArray ∧
 True ∧ True ∧ True) ∧
 ∀ (g : Int × Unit),
 (0 : Int) ≤ g.1 ∧ g.1 ≤ (↑x.1.length : Int) ∧ (List.take g.1.toNat x.1).all okB = true →
 ((-9223372036854775808 : Int) ≤ g.1 ∧ g.1 ≤ (9223372036854775807 : Int)) ∧ True →
 (decide (g.1 < (↑x.1.length : Int)) = true →
 ((0 : Int) ≤ g.1 ∧ g.1 < (↑x.1.length : Int)) ∧
 ((!decide (x.1.getD g.1.toNat (0 : Int) < (0 : Int))) = true → (!decide (x.1.getD g.1.toNat (0 : Int) < (0 : Int))) = true) ∧
 (decide (x.1.getD g.1.toNat (0 : Int) < (0 : Int)) = false → (!decide (x.1.getD g.1.toNat (0 : Int) < (0 : Int))) = true) ∧
 ((decide (x.1.getD g.1.toNat (0 : Int) < (0 : Int)) || decide ((1099511627776 : Int) < x.1.getD g.1.toNat (0 : Int))) =
 true →
 decide ((0 : Int) ≤ g.1) = !x.1.all okB) ∧
 ((decide (x.1.getD g.1.toNat (0 : Int) < (0 : Int)) || decide ((1099511627776 : Int) < x.1.getD g.1.toNat (0 : Int))) =
 false →
 ((-9223372036854775808 : Int) ≤ g.1 + (1 : Int) ∧ g.1 + (1 : Int) ≤ (9223372036854775807 : Int)) ∧
 (((0 : Int) ≤ g.1 + (1 : Int) ∧
 g.1 + (1 : Int) ≤ (↑x.1.length : Int) ∧ (List.take (g.1 + (1 : Int)).toNat x.1).all okB = true) ∧
 ((↑x.1.length : Int) - (g.1 + (1 : Int))).toNat < ((↑x.1.length : Int) - g.1).toNat) ∧
 (x.1 = x.1 ∧
 Value.func (Fn.func (40 : Nat)) ([] : List Value).toArray ([] : List Value).toArray =
 Value.func (Fn.func (40 : Nat)) ([] : List Value).toArray ([] : List Value).toArray ∧
 (↑x.1.length : Int) = (↑x.1.length : Int) ∧ g.1 + (1 : Int) = g.1 + (1 : Int) ∧ True) ∧
 True ∧
 x.1 = x.1 ∧
 Value.func (Fn.func (40 : Nat)) ([] : List Value).toArray ([] : List Value).toArray =
 Value.func (Fn.func (40 : Nat)) ([] : List Value).toArray ([] : List Value).toArray ∧
 True ∧
 True ∧
 false = false ∧
 x.1 = x.1 ∧
 Value.func (Fn.func (40 : Nat)) ([] : List Value).toArray ([] : List Value).toArray =
 Value.func (Fn.func (40 : Nat)) ([] : List Value).toArray ([] : List Value).toArray ∧
 True ∧ True ∧ True)) ∧
 (decide (g.1 < (↑x.1.length : Int)) = false → decide ((0 : Int) ≤ (-1 : Int)) = !x.1.all okB)

theorem E_any_eq (x : HL (cAny : Ctr).as) : vcF (fx_any x) 3 39 40 Try.f39 (cAny) x = E_any x := by kernel_rfl

def E_wrong (x : List Int × Unit) : Prop :=
 (decide ((400 : Int) < (↑x.1.length : Int)) = false →
 (!decide ((400 : Int) < (↑x.1.length : Int))) = true ∧
 Holds True ∧ ((!x.1.all okB) = true → (2 : Int) = wr x.1) ∧ ((!x.1.all okB) = false → (0 : Int) = wr x.1)) ∧
 (decide ((400 : Int) < (↑x.1.length : Int)) = !false → (2 : Int) = wr x.1)

theorem E_wrong_eq (x : HL (cWrong : Ctr).as) : vc (fx_wrong x) 1 13 Try.f13 (cWrong) x = E_wrong x := by kernel_rfl

def E_way (x : Int × List Int × Unit) : Prop :=
 Holds True ∧
 ((wr x.2.1 != (0 : Int)) = false →
 (!wr x.2.1 != (0 : Int)) = true ∧
 Holds True ∧
 ((wr (((0 : Int) :: ([] : List Int)).set (0 : Nat) x.1) != (0 : Int)) = true →
 (0 : Int) = (way x.1 x.2.1).1 ∧ (2 : Int) = (way x.1 x.2.1).2) ∧
 ((wr (((0 : Int) :: ([] : List Int)).set (0 : Nat) x.1) != (0 : Int)) = false →
 ((((0 : Int) ≤ (0 : Int) ∧
 (0 : Int) ≤ (↑x.2.1.length : Int) ∧
 walk x.1 (List.take (Int.toNat (0 : Int)) x.2.1) = ((0 : Int), x.1) ∧
 okB x.1 = true ∧ (0 : Int) ≤ (0 : Int) ∧ (0 : Int) ≤ (0 : Int) * (1099511627776 : Int)) ∧
 True) ∧
 (x.1 = x.1 ∧
 (0 : Int) = (0 : Int) ∧
 x.2.1 = x.2.1 ∧ (↑x.2.1.length : Int) = (↑x.2.1.length : Int) ∧ (0 : Int) = (0 : Int) ∧ True) ∧
 True ∧ True) ∧
 ∀ (g : Int × Int × Int × Unit),
 (0 : Int) ≤ g.2.2.1 ∧
 g.2.2.1 ≤ (↑x.2.1.length : Int) ∧
 walk x.1 (List.take g.2.2.1.toNat x.2.1) = (g.2.1, g.1) ∧
 okB g.1 = true ∧ (0 : Int) ≤ g.2.1 ∧ g.2.1 ≤ g.2.2.1 * (1099511627776 : Int) →
 ((-9223372036854775808 : Int) ≤ g.1 ∧ g.1 ≤ (9223372036854775807 : Int)) ∧
 ((-9223372036854775808 : Int) ≤ g.2.1 ∧ g.2.1 ≤ (9223372036854775807 : Int)) ∧
 ((-9223372036854775808 : Int) ≤ g.2.2.1 ∧ g.2.2.1 ≤ (9223372036854775807 : Int)) ∧ True →
 (decide (g.2.2.1 < (↑x.2.1.length : Int)) = true →
 ((0 : Int) ≤ g.2.2.1 ∧ g.2.2.1 < (↑x.2.1.length : Int)) ∧
 ((-9223372036854775808 : Int) ≤ x.2.1.getD g.2.2.1.toNat (0 : Int) - g.1 ∧
 x.2.1.getD g.2.2.1.toNat (0 : Int) - g.1 ≤ (9223372036854775807 : Int)) ∧
 ((-9223372036854775808 : Int) ≤ g.1 - x.2.1.getD g.2.2.1.toNat (0 : Int) ∧
 g.1 - x.2.1.getD g.2.2.1.toNat (0 : Int) ≤ (9223372036854775807 : Int)) ∧
 ((-9223372036854775808 : Int) ≤
 g.2.1 +
 max (x.2.1.getD g.2.2.1.toNat (0 : Int) - g.1)
 (g.1 - x.2.1.getD g.2.2.1.toNat (0 : Int)) ∧
 g.2.1 +
 max (x.2.1.getD g.2.2.1.toNat (0 : Int) - g.1)
 (g.1 - x.2.1.getD g.2.2.1.toNat (0 : Int)) ≤
 (9223372036854775807 : Int)) ∧
 ((-9223372036854775808 : Int) ≤ g.2.2.1 + (1 : Int) ∧
 g.2.2.1 + (1 : Int) ≤ (9223372036854775807 : Int)) ∧
 (((0 : Int) ≤ g.2.2.1 + (1 : Int) ∧
 g.2.2.1 + (1 : Int) ≤ (↑x.2.1.length : Int) ∧
 walk x.1 (List.take (g.2.2.1 + (1 : Int)).toNat x.2.1) =
 (g.2.1 +
 max (x.2.1.getD g.2.2.1.toNat (0 : Int) - g.1)
 (g.1 - x.2.1.getD g.2.2.1.toNat (0 : Int)),
 x.2.1.getD g.2.2.1.toNat (0 : Int)) ∧
 okB (x.2.1.getD g.2.2.1.toNat (0 : Int)) = true ∧
 (0 : Int) ≤
 g.2.1 +
 max (x.2.1.getD g.2.2.1.toNat (0 : Int) - g.1)
 (g.1 - x.2.1.getD g.2.2.1.toNat (0 : Int)) ∧
 g.2.1 +
 max (x.2.1.getD g.2.2.1.toNat (0 : Int) - g.1)
 (g.1 - x.2.1.getD g.2.2.1.toNat (0 : Int)) ≤
 (g.2.2.1 + (1 : Int)) * (1099511627776 : Int)) ∧
 ((↑x.2.1.length : Int) - (g.2.2.1 + (1 : Int))).toNat <
 ((↑x.2.1.length : Int) - g.2.2.1).toNat) ∧
 (x.2.1.getD g.2.2.1.toNat (0 : Int) = x.2.1.getD g.2.2.1.toNat (0 : Int) ∧
 g.2.1 +
 max (x.2.1.getD g.2.2.1.toNat (0 : Int) - g.1)
 (g.1 - x.2.1.getD g.2.2.1.toNat (0 : Int)) =
 g.2.1 +
 max (x.2.1.getD g.2.2.1.toNat (0 : Int) - g.1)
 (g.1 - x.2.1.getD g.2.2.1.toNat (0 : Int)) ∧
 x.2.1 = x.2.1 ∧
 (↑x.2.1.length : Int) = (↑x.2.1.length : Int) ∧
 g.2.2.1 + (1 : Int) = g.2.2.1 + (1 : Int) ∧ True) ∧
 True ∧ True) ∧
 (decide (g.2.2.1 < (↑x.2.1.length : Int)) = false →
 g.2.1 = (way x.1 x.2.1).1 ∧ (0 : Int) = (way x.1 x.2.1).2))) ∧
 ((wr x.2.1 != (0 : Int)) = !false → (0 : Int) = (way x.1 x.2.1).1 ∧ (2 : Int) = (way x.1 x.2.1).2)

theorem E_way_eq (x : HL (cWay : Ctr).as) : vc (fx_way x) 1 10 Try.f10 (cWay) x = E_way x := by kernel_rfl

def E_sway (x : Int × List Int × Unit) : Prop :=
 (decide ((400 : Int) < (↑x.2.1.length : Int)) = true → (-1 : Int) = sway x.1 x.2.1) ∧
 (decide ((400 : Int) < (↑x.2.1.length : Int)) = false →
 ((((0 : Int) :: ([] : List Int)).set (0 : Nat) x.1).length + x.2.1.length ≤ (9223372036854775807 : Nat) ∧
 ((((0 : Int) :: ([] : List Int)).set (0 : Nat) x.1).length + x.2.1.length +
 ((((0 : Int) :: ([] : List Int)).set (0 : Nat) x.1).length + x.2.1.length) / (4 : Nat) +
 (192 : Nat)) *
 (8 : Nat) ≤
 (281474976710656 : Nat)) ∧
 ((((0 : Int) ≤ (0 : Int) ∧
 (0 : Int) ≤ (↑x.2.1.length : Int) + (1 : Int) ∧
 walk x.1 (List.take (Int.toNat (0 : Int)) (x.1 :: x.2.1)) = ((0 : Int), x.1) ∧
 (List.take (Int.toNat (0 : Int)) (x.1 :: x.2.1)).all okB = true ∧
 ((0 : Int) = (0 : Int) ∨ okB x.1 = true) ∧ (0 : Int) ≤ (0 : Int) ∧ (0 : Int) ≤ (0 : Int) * (1099511627776 : Int)) ∧
 True) ∧
 (x.1 = x.1 ∧
 (0 : Int) = (0 : Int) ∧
 True ∧
 (↑(((0 : Int) :: ([] : List Int)).set (0 : Nat) x.1 ++ x.2.1).length : Int) =
 (↑(((0 : Int) :: ([] : List Int)).set (0 : Nat) x.1 ++ x.2.1).length : Int) ∧
 (0 : Int) = (0 : Int) ∧ True) ∧
 (((0 : Int) :: ([] : List Int)).set (0 : Nat) x.1 ++ x.2.1 = ((0 : Int) :: ([] : List Int)).set (0 : Nat) x.1 ++ x.2.1 ∧
 True) ∧
 True) ∧
 ∀ (g : Int × Int × Int × Unit),
 (0 : Int) ≤ g.2.2.1 ∧
 g.2.2.1 ≤ (↑x.2.1.length : Int) + (1 : Int) ∧
 walk x.1 (List.take g.2.2.1.toNat (x.1 :: x.2.1)) = (g.2.1, g.1) ∧
 (List.take g.2.2.1.toNat (x.1 :: x.2.1)).all okB = true ∧
 (g.2.2.1 = (0 : Int) ∨ okB g.1 = true) ∧ (0 : Int) ≤ g.2.1 ∧ g.2.1 ≤ g.2.2.1 * (1099511627776 : Int) →
 ((-9223372036854775808 : Int) ≤ g.1 ∧ g.1 ≤ (9223372036854775807 : Int)) ∧
 ((-9223372036854775808 : Int) ≤ g.2.1 ∧ g.2.1 ≤ (9223372036854775807 : Int)) ∧
 ((-9223372036854775808 : Int) ≤ g.2.2.1 ∧ g.2.2.1 ≤ (9223372036854775807 : Int)) ∧ True →
 (decide (g.2.2.1 < (↑(((0 : Int) :: ([] : List Int)).set (0 : Nat) x.1 ++ x.2.1).length : Int)) = true →
 ((0 : Int) ≤ g.2.2.1 ∧ g.2.2.1 < (↑(((0 : Int) :: ([] : List Int)).set (0 : Nat) x.1 ++ x.2.1).length : Int)) ∧
 ((!decide ((((0 : Int) :: ([] : List Int)).set (0 : Nat) x.1 ++ x.2.1).getD g.2.2.1.toNat (0 : Int) < (0 : Int))) =
 true →
 (!decide ((((0 : Int) :: ([] : List Int)).set (0 : Nat) x.1 ++ x.2.1).getD g.2.2.1.toNat (0 : Int) < (0 : Int))) =
 true) ∧
 (decide ((((0 : Int) :: ([] : List Int)).set (0 : Nat) x.1 ++ x.2.1).getD g.2.2.1.toNat (0 : Int) < (0 : Int)) =
 false →
 (!decide
 ((((0 : Int) :: ([] : List Int)).set (0 : Nat) x.1 ++ x.2.1).getD g.2.2.1.toNat (0 : Int) < (0 : Int))) =
 true) ∧
 ((decide ((((0 : Int) :: ([] : List Int)).set (0 : Nat) x.1 ++ x.2.1).getD g.2.2.1.toNat (0 : Int) < (0 : Int)) ||
 decide
 ((1099511627776 : Int) <
 (((0 : Int) :: ([] : List Int)).set (0 : Nat) x.1 ++ x.2.1).getD g.2.2.1.toNat (0 : Int))) =
 true →
 (-1 : Int) = sway x.1 x.2.1) ∧
 ((decide
 ((((0 : Int) :: ([] : List Int)).set (0 : Nat) x.1 ++ x.2.1).getD g.2.2.1.toNat (0 : Int) <
 (0 : Int)) ||
 decide
 ((1099511627776 : Int) <
 (((0 : Int) :: ([] : List Int)).set (0 : Nat) x.1 ++ x.2.1).getD g.2.2.1.toNat (0 : Int))) =
 false →
 (decide (g.1 < (((0 : Int) :: ([] : List Int)).set (0 : Nat) x.1 ++ x.2.1).getD g.2.2.1.toNat (0 : Int)) =
 true →
 ((-9223372036854775808 : Int) ≤
 (((0 : Int) :: ([] : List Int)).set (0 : Nat) x.1 ++ x.2.1).getD g.2.2.1.toNat (0 : Int) - g.1 ∧
 (((0 : Int) :: ([] : List Int)).set (0 : Nat) x.1 ++ x.2.1).getD g.2.2.1.toNat (0 : Int) - g.1 ≤
 (9223372036854775807 : Int)) ∧
 ((-9223372036854775808 : Int) ≤
 g.2.1 +
 ((((0 : Int) :: ([] : List Int)).set (0 : Nat) x.1 ++ x.2.1).getD g.2.2.1.toNat (0 : Int) -
 g.1) ∧
 g.2.1 +
 ((((0 : Int) :: ([] : List Int)).set (0 : Nat) x.1 ++ x.2.1).getD g.2.2.1.toNat (0 : Int) -
 g.1) ≤
 (9223372036854775807 : Int)) ∧
 ((-9223372036854775808 : Int) ≤ g.2.2.1 + (1 : Int) ∧
 g.2.2.1 + (1 : Int) ≤ (9223372036854775807 : Int)) ∧
 (((0 : Int) ≤ g.2.2.1 + (1 : Int) ∧
 g.2.2.1 + (1 : Int) ≤ (↑x.2.1.length : Int) + (1 : Int) ∧
 walk x.1 (List.take (g.2.2.1 + (1 : Int)).toNat (x.1 :: x.2.1)) =
 (g.2.1 +
 ((((0 : Int) :: ([] : List Int)).set (0 : Nat) x.1 ++ x.2.1).getD g.2.2.1.toNat
 (0 : Int) -
 g.1),
 (((0 : Int) :: ([] : List Int)).set (0 : Nat) x.1 ++ x.2.1).getD g.2.2.1.toNat
 (0 : Int)) ∧
 (List.take (g.2.2.1 + (1 : Int)).toNat (x.1 :: x.2.1)).all okB = true ∧
 (g.2.2.1 + (1 : Int) = (0 : Int) ∨
 okB
 ((((0 : Int) :: ([] : List Int)).set (0 : Nat) x.1 ++ x.2.1).getD g.2.2.1.toNat
 (0 : Int)) =
 true) ∧
 (0 : Int) ≤
 g.2.1 +
 ((((0 : Int) :: ([] : List Int)).set (0 : Nat) x.1 ++ x.2.1).getD g.2.2.1.toNat
 (0 : Int) -
 g.1) ∧
 g.2.1 +
 ((((0 : Int) :: ([] : List Int)).set (0 : Nat) x.1 ++ x.2.1).getD g.2.2.1.toNat
 (0 : Int) -
 g.1) ≤
 (g.2.2.1 + (1 : Int)) * (1099511627776 : Int)) ∧
 ((↑x.2.1.length : Int) + (1 : Int) - (g.2.2.1 + (1 : Int))).toNat <
 ((↑x.2.1.length : Int) + (1 : Int) - g.2.2.1).toNat) ∧
 ((((0 : Int) :: ([] : List Int)).set (0 : Nat) x.1 ++ x.2.1).getD g.2.2.1.toNat (0 : Int) =
 (((0 : Int) :: ([] : List Int)).set (0 : Nat) x.1 ++ x.2.1).getD g.2.2.1.toNat (0 : Int) ∧
 g.2.1 +
 ((((0 : Int) :: ([] : List Int)).set (0 : Nat) x.1 ++ x.2.1).getD g.2.2.1.toNat
 (0 : Int) -
 g.1) =
 g.2.1 +
 ((((0 : Int) :: ([] : List Int)).set (0 : Nat) x.1 ++ x.2.1).getD g.2.2.1.toNat
 (0 : Int) -
 g.1) ∧
 True ∧
 (↑(((0 : Int) :: ([] : List Int)).set (0 : Nat) x.1 ++ x.2.1).length : Int) =
 (↑(((0 : Int) :: ([] : List Int)).set (0 : Nat) x.1 ++ x.2.1).length : Int) ∧
 g.2.2.1 + (1 : Int) = g.2.2.1 + (1 : Int) ∧ True) ∧
 (((0 : Int) :: ([] : List Int)).set (0 : Nat) x.1 ++ x.2.1 =
 ((0 : Int) :: ([] : List Int)).set (0 : Nat) x.1 ++ x.2.1 ∧
 True) ∧
 True) ∧
 (decide (g.1 < (((0 : Int) :: ([] : List Int)).set (0 : Nat) x.1 ++ x.2.1).getD g.2.2.1.toNat (0 : Int)) =
 false →
 ((-9223372036854775808 : Int) ≤
 g.1 - (((0 : Int) :: ([] : List Int)).set (0 : Nat) x.1 ++ x.2.1).getD g.2.2.1.toNat (0 : Int) ∧
 g.1 - (((0 : Int) :: ([] : List Int)).set (0 : Nat) x.1 ++ x.2.1).getD g.2.2.1.toNat (0 : Int) ≤
 (9223372036854775807 : Int)) ∧
 ((-9223372036854775808 : Int) ≤
 g.2.1 +
 (g.1 -
 (((0 : Int) :: ([] : List Int)).set (0 : Nat) x.1 ++ x.2.1).getD g.2.2.1.toNat (0 : Int)) ∧
 g.2.1 +
 (g.1 -
 (((0 : Int) :: ([] : List Int)).set (0 : Nat) x.1 ++ x.2.1).getD g.2.2.1.toNat (0 : Int)) ≤
 (9223372036854775807 : Int)) ∧
 ((-9223372036854775808 : Int) ≤ g.2.2.1 + (1 : Int) ∧
 g.2.2.1 + (1 : Int) ≤ (9223372036854775807 : Int)) ∧
 (((0 : Int) ≤ g.2.2.1 + (1 : Int) ∧
 g.2.2.1 + (1 : Int) ≤ (↑x.2.1.length : Int) + (1 : Int) ∧
 walk x.1 (List.take (g.2.2.1 + (1 : Int)).toNat (x.1 :: x.2.1)) =
 (g.2.1 +
 (g.1 -
 (((0 : Int) :: ([] : List Int)).set (0 : Nat) x.1 ++ x.2.1).getD g.2.2.1.toNat
 (0 : Int)),
 (((0 : Int) :: ([] : List Int)).set (0 : Nat) x.1 ++ x.2.1).getD g.2.2.1.toNat
 (0 : Int)) ∧
 (List.take (g.2.2.1 + (1 : Int)).toNat (x.1 :: x.2.1)).all okB = true ∧
 (g.2.2.1 + (1 : Int) = (0 : Int) ∨
 okB
 ((((0 : Int) :: ([] : List Int)).set (0 : Nat) x.1 ++ x.2.1).getD g.2.2.1.toNat
 (0 : Int)) =
 true) ∧
 (0 : Int) ≤
 g.2.1 +
 (g.1 -
 (((0 : Int) :: ([] : List Int)).set (0 : Nat) x.1 ++ x.2.1).getD g.2.2.1.toNat
 (0 : Int)) ∧
 g.2.1 +
 (g.1 -
 (((0 : Int) :: ([] : List Int)).set (0 : Nat) x.1 ++ x.2.1).getD g.2.2.1.toNat
 (0 : Int)) ≤
 (g.2.2.1 + (1 : Int)) * (1099511627776 : Int)) ∧
 ((↑x.2.1.length : Int) + (1 : Int) - (g.2.2.1 + (1 : Int))).toNat <
 ((↑x.2.1.length : Int) + (1 : Int) - g.2.2.1).toNat) ∧
 ((((0 : Int) :: ([] : List Int)).set (0 : Nat) x.1 ++ x.2.1).getD g.2.2.1.toNat (0 : Int) =
 (((0 : Int) :: ([] : List Int)).set (0 : Nat) x.1 ++ x.2.1).getD g.2.2.1.toNat (0 : Int) ∧
 g.2.1 +
 (g.1 -
 (((0 : Int) :: ([] : List Int)).set (0 : Nat) x.1 ++ x.2.1).getD g.2.2.1.toNat
 (0 : Int)) =
 g.2.1 +
 (g.1 -
 (((0 : Int) :: ([] : List Int)).set (0 : Nat) x.1 ++ x.2.1).getD g.2.2.1.toNat
 (0 : Int)) ∧
 True ∧
 (↑(((0 : Int) :: ([] : List Int)).set (0 : Nat) x.1 ++ x.2.1).length : Int) =
 (↑(((0 : Int) :: ([] : List Int)).set (0 : Nat) x.1 ++ x.2.1).length : Int) ∧
 g.2.2.1 + (1 : Int) = g.2.2.1 + (1 : Int) ∧ True) ∧
 (((0 : Int) :: ([] : List Int)).set (0 : Nat) x.1 ++ x.2.1 =
 ((0 : Int) :: ([] : List Int)).set (0 : Nat) x.1 ++ x.2.1 ∧
 True) ∧
 True))) ∧
 (decide (g.2.2.1 < (↑(((0 : Int) :: ([] : List Int)).set (0 : Nat) x.1 ++ x.2.1).length : Int)) = false →
 g.2.1 = sway x.1 x.2.1))

theorem E_sway_eq (x : HL (cSway : Ctr).as) : vc (fx_sway x) 1 14 Try.f14 (cSway) x = E_sway x := by kernel_rfl

def E_sshort (x : Int × List Int × Unit) : Prop :=
 (((↑x.2.1.length : Int) == (0 : Int)) = true →
 ([] : List Int) = if x.2.1.length = (0 : Nat) then ([] : List Int) else order x.1 x.2.1) ∧
 (((↑x.2.1.length : Int) == (0 : Int)) = false →
 ((((0 : Int) ≤ (0 : Int) ∧
 (0 : Int) ≤ (↑x.2.1.length : Int) ∧
 ([] : List Int) = List.filter (fun y ↦ decide (x.1 ≤ y)) (List.take (Int.toNat (0 : Int)) x.2.1) ∧
 ([] : List Int) = List.filter (fun y ↦ decide (y < x.1)) (List.take (Int.toNat (0 : Int)) x.2.1)) ∧
 True) ∧
 (x.1 = x.1 ∧ True ∧ True ∧ x.2.1 = x.2.1 ∧ (↑x.2.1.length : Int) = (↑x.2.1.length : Int) ∧ (0 : Int) = (0 : Int) ∧ True) ∧
 (([] : List Int) = ([] : List Int) ∧ ([] : List Int) = ([] : List Int) ∧ True) ∧
 x.1 = x.1 ∧
 x.2.1 = x.2.1 ∧
 True ∧
 True ∧
 Value.slice none (0 : Nat) (0 : Nat) = Value.slice none (0 : Nat) (0 : Nat) ∧
 True ∧
 True ∧
 x.2.1 = x.2.1 ∧
 (↑x.2.1.length : Int) = (↑x.2.1.length : Int) ∧
 false = false ∧
 True ∧
 x.1 = x.1 ∧
 x.2.1 = x.2.1 ∧
 True ∧
 True ∧
 True ∧
 True ∧
 True ∧
 True ∧
 True ∧
 True ∧ True ∧ True ∧ True ∧ True ∧ True ∧ True ∧ True ∧ True ∧ True ∧ True ∧ True ∧ True ∧ True) ∧
 ∀ (g : List Int × List Int × Int × Unit),
 (0 : Int) ≤ g.2.2.1 ∧
 g.2.2.1 ≤ (↑x.2.1.length : Int) ∧
 g.1 = List.filter (fun y ↦ decide (x.1 ≤ y)) (List.take g.2.2.1.toNat x.2.1) ∧
 g.2.1 = List.filter (fun y ↦ decide (y < x.1)) (List.take g.2.2.1.toNat x.2.1) →
 (g.1.length ≤ (9223372036854775807 : Nat) ∧ ∀ (x : Int), x ∈ g.1 → (-9223372036854775808 : Int) ≤ x ∧ x ≤ (9223372036854775807 : Int)) ∧
 (g.2.1.length ≤ (9223372036854775807 : Nat) ∧
 ∀ (x : Int), x ∈ g.2.1 → (-9223372036854775808 : Int) ≤ x ∧ x ≤ (9223372036854775807 : Int)) ∧
 ((-9223372036854775808 : Int) ≤ g.2.2.1 ∧ g.2.2.1 ≤ (9223372036854775807 : Int)) ∧ True →
 (decide (g.2.2.1 < (↑x.2.1.length : Int)) = true →
 ((0 : Int) ≤ g.2.2.1 ∧ g.2.2.1 < (↑x.2.1.length : Int)) ∧
 (decide (x.1 ≤ x.2.1.getD g.2.2.1.toNat (0 : Int)) = true →
 (g.1.length + (((0 : Int) :: ([] : List Int)).set (0 : Nat) (x.2.1.getD g.2.2.1.toNat (0 : Int))).length ≤
 (9223372036854775807 : Nat) ∧
 (g.1.length + (((0 : Int) :: ([] : List Int)).set (0 : Nat) (x.2.1.getD g.2.2.1.toNat (0 : Int))).length +
 (g.1.length +
 (((0 : Int) :: ([] : List Int)).set (0 : Nat) (x.2.1.getD g.2.2.1.toNat (0 : Int))).length) /
 (4 : Nat) +
 (192 : Nat)) *
 (8 : Nat) ≤
 (281474976710656 : Nat)) ∧
 ((-9223372036854775808 : Int) ≤ g.2.2.1 + (1 : Int) ∧ g.2.2.1 + (1 : Int) ≤ (9223372036854775807 : Int)) ∧
 (((0 : Int) ≤ g.2.2.1 + (1 : Int) ∧
 g.2.2.1 + (1 : Int) ≤ (↑x.2.1.length : Int) ∧
 g.1 ++ ((0 : Int) :: ([] : List Int)).set (0 : Nat) (x.2.1.getD g.2.2.1.toNat (0 : Int)) =
 List.filter (fun y ↦ decide (x.1 ≤ y)) (List.take (g.2.2.1 + (1 : Int)).toNat x.2.1) ∧
 g.2.1 = List.filter (fun y ↦ decide (y < x.1)) (List.take (g.2.2.1 + (1 : Int)).toNat x.2.1)) ∧
 ((↑x.2.1.length : Int) - (g.2.2.1 + (1 : Int))).toNat < ((↑x.2.1.length : Int) - g.2.2.1).toNat) ∧
 (x.1 = x.1 ∧
 True ∧
 True ∧
 x.2.1 = x.2.1 ∧
 (↑x.2.1.length : Int) = (↑x.2.1.length : Int) ∧
 g.2.2.1 + (1 : Int) = g.2.2.1 + (1 : Int) ∧ True) ∧
 (g.1 ++ ((0 : Int) :: ([] : List Int)).set (0 : Nat) (x.2.1.getD g.2.2.1.toNat (0 : Int)) =
 g.1 ++ ((0 : Int) :: ([] : List Int)).set (0 : Nat) (x.2.1.getD g.2.2.1.toNat (0 : Int)) ∧
 g.2.1 = g.2.1 ∧ True) ∧
 x.1 = x.1 ∧
 x.2.1 = x.2.1 ∧
 True ∧
 True ∧
 Value.slice none (0 : Nat) (0 : Nat) = Value.slice none (0 : Nat) (0 : Nat) ∧
 True ∧
 True ∧
 x.2.1 = x.2.1 ∧
 (↑x.2.1.length : Int) = (↑x.2.1.length : Int) ∧
 false = false ∧
 True ∧
 x.1 = x.1 ∧
 x.2.1 = x.2.1 ∧
 True ∧
 True ∧
 True ∧
 True ∧
 True ∧
 True ∧
 True ∧
 True ∧
 True ∧
 True ∧
 True ∧
 True ∧ True ∧ True ∧ True ∧ True ∧ True ∧ True ∧ True ∧ True ∧ True) ∧
 (decide (x.1 ≤ x.2.1.getD g.2.2.1.toNat (0 : Int)) = false →
 (g.2.1.length + (((0 : Int) :: ([] : List Int)).set (0 : Nat) (x.2.1.getD g.2.2.1.toNat (0 : Int))).length ≤
 (9223372036854775807 : Nat) ∧
 (g.2.1.length + (((0 : Int) :: ([] : List Int)).set (0 : Nat) (x.2.1.getD g.2.2.1.toNat (0 : Int))).length +
 (g.2.1.length +
 (((0 : Int) :: ([] : List Int)).set (0 : Nat) (x.2.1.getD g.2.2.1.toNat (0 : Int))).length) /
 (4 : Nat) +
 (192 : Nat)) *
 (8 : Nat) ≤
 (281474976710656 : Nat)) ∧
 ((-9223372036854775808 : Int) ≤ g.2.2.1 + (1 : Int) ∧ g.2.2.1 + (1 : Int) ≤ (9223372036854775807 : Int)) ∧
 (((0 : Int) ≤ g.2.2.1 + (1 : Int) ∧
 g.2.2.1 + (1 : Int) ≤ (↑x.2.1.length : Int) ∧
 g.1 = List.filter (fun y ↦ decide (x.1 ≤ y)) (List.take (g.2.2.1 + (1 : Int)).toNat x.2.1) ∧
 g.2.1 ++ ((0 : Int) :: ([] : List Int)).set (0 : Nat) (x.2.1.getD g.2.2.1.toNat (0 : Int)) =
 List.filter (fun y ↦ decide (y < x.1)) (List.take (g.2.2.1 + (1 : Int)).toNat x.2.1)) ∧
 ((↑x.2.1.length : Int) - (g.2.2.1 + (1 : Int))).toNat < ((↑x.2.1.length : Int) - g.2.2.1).toNat) ∧
 (x.1 = x.1 ∧
 True ∧
 True ∧
 x.2.1 = x.2.1 ∧
 (↑x.2.1.length : Int) = (↑x.2.1.length : Int) ∧
 g.2.2.1 + (1 : Int) = g.2.2.1 + (1 : Int) ∧ True) ∧
 (g.1 = g.1 ∧
 g.2.1 ++ ((0 : Int) :: ([] : List Int)).set (0 : Nat) (x.2.1.getD g.2.2.1.toNat (0 : Int)) =
 g.2.1 ++ ((0 : Int) :: ([] : List Int)).set (0 : Nat) (x.2.1.getD g.2.2.1.toNat (0 : Int)) ∧
 True) ∧
 x.1 = x.1 ∧
 x.2.1 = x.2.1 ∧
 True ∧
 True ∧
 Value.slice none (0 : Nat) (0 : Nat) = Value.slice none (0 : Nat) (0 : Nat) ∧
 True ∧
 True ∧
 x.2.1 = x.2.1 ∧
 (↑x.2.1.length : Int) = (↑x.2.1.length : Int) ∧
 false = false ∧
 True ∧
 x.1 = x.1 ∧
 x.2.1 = x.2.1 ∧
 True ∧
 True ∧
 True ∧
 True ∧
 True ∧
 True ∧
 True ∧
 True ∧
 True ∧
 True ∧
 True ∧
 True ∧
 True ∧ True ∧ True ∧ True ∧ True ∧ True ∧ True ∧ True ∧ True)) ∧
 (decide (g.2.2.1 < (↑x.2.1.length : Int)) = false →
 Holds (g.1.length.le (400 : Nat)) ∧
 ((True ∧ True) ∧ g.1 = g.1 ∧ True) ∧
 Holds (g.2.1.length.le (400 : Nat)) ∧
 ((True ∧ True) ∧ g.2.1 = g.2.1 ∧ True) ∧
 Holds ((sortI g.2.1).length.le (400 : Nat)) ∧
 ((True ∧ True) ∧ sortI g.2.1 = sortI g.2.1 ∧ True) ∧
 Holds ((0 : Nat) < x.2.1.length) ∧
 ((-9223372036854775808 : Int) ≤ mx x.2.1 - x.1 ∧ mx x.2.1 - x.1 ≤ (9223372036854775807 : Int)) ∧
 Holds ((0 : Nat) < x.2.1.length) ∧
 ((-9223372036854775808 : Int) ≤ x.1 - mn x.2.1 ∧ x.1 - mn x.2.1 ≤ (9223372036854775807 : Int)) ∧
 (decide (x.1 - mn x.2.1 < mx x.2.1 - x.1) = true →
 ((sortI g.2.1).reverse.length + (sortI g.1).length ≤ (9223372036854775807 : Nat) ∧
 ((sortI g.2.1).reverse.length + (sortI g.1).length +
 ((sortI g.2.1).reverse.length + (sortI g.1).length) / (4 : Nat) +
 (192 : Nat)) *
 (8 : Nat) ≤
 (281474976710656 : Nat)) ∧
 (sortI g.2.1).reverse ++ sortI g.1 =
 if x.2.1.length = (0 : Nat) then ([] : List Int) else order x.1 x.2.1) ∧
 (decide (x.1 - mn x.2.1 < mx x.2.1 - x.1) = false →
 ((sortI g.1).length + (sortI g.2.1).reverse.length ≤ (9223372036854775807 : Nat) ∧
 ((sortI g.1).length + (sortI g.2.1).reverse.length +
 ((sortI g.1).length + (sortI g.2.1).reverse.length) / (4 : Nat) +
 (192 : Nat)) *
 (8 : Nat) ≤
 (281474976710656 : Nat)) ∧
 sortI g.1 ++ (sortI g.2.1).reverse =
 if x.2.1.length = (0 : Nat) then ([] : List Int) else order x.1 x.2.1)))

theorem E_sshort_eq (x : HL (cSshort : Ctr).as) : vc (fx_sshort x) 2 18 Try.f18 (cSshort) x = E_sshort x := by kernel_rfl

def E_parts (x : Int × List Int × Unit) : Prop :=
 ((((0 : Int) ≤ (0 : Int) ∧
 (0 : Int) ≤ (↑x.2.1.length : Int) ∧
 ([] : List Int) = List.filter (fun y ↦ decide (x.1 ≤ y)) (List.take (Int.toNat (0 : Int)) x.2.1) ∧
 ([] : List Int) = List.filter (fun y ↦ decide (y < x.1)) (List.take (Int.toNat (0 : Int)) x.2.1)) ∧
 True) ∧
 (x.1 = x.1 ∧ True ∧ True ∧ x.2.1 = x.2.1 ∧ (↑x.2.1.length : Int) = (↑x.2.1.length : Int) ∧ (0 : Int) = (0 : Int) ∧ True) ∧
 (([] : List Int) = ([] : List Int) ∧ ([] : List Int) = ([] : List Int) ∧ True) ∧ True) ∧
 ∀ (g : List Int × List Int × Int × Unit),
 (0 : Int) ≤ g.2.2.1 ∧
 g.2.2.1 ≤ (↑x.2.1.length : Int) ∧
 g.1 = List.filter (fun y ↦ decide (x.1 ≤ y)) (List.take g.2.2.1.toNat x.2.1) ∧
 g.2.1 = List.filter (fun y ↦ decide (y < x.1)) (List.take g.2.2.1.toNat x.2.1) →
 (g.1.length ≤ (9223372036854775807 : Nat) ∧ ∀ (x : Int), x ∈ g.1 → (-9223372036854775808 : Int) ≤ x ∧ x ≤ (9223372036854775807 : Int)) ∧
 (g.2.1.length ≤ (9223372036854775807 : Nat) ∧
 ∀ (x : Int), x ∈ g.2.1 → (-9223372036854775808 : Int) ≤ x ∧ x ≤ (9223372036854775807 : Int)) ∧
 ((-9223372036854775808 : Int) ≤ g.2.2.1 ∧ g.2.2.1 ≤ (9223372036854775807 : Int)) ∧ True →
 (decide (g.2.2.1 < (↑x.2.1.length : Int)) = true →
 ((0 : Int) ≤ g.2.2.1 ∧ g.2.2.1 < (↑x.2.1.length : Int)) ∧
 (decide (x.1 ≤ x.2.1.getD g.2.2.1.toNat (0 : Int)) = true →
 (g.1.length + (((0 : Int) :: ([] : List Int)).set (0 : Nat) (x.2.1.getD g.2.2.1.toNat (0 : Int))).length ≤
 (9223372036854775807 : Nat) ∧
 (g.1.length + (((0 : Int) :: ([] : List Int)).set (0 : Nat) (x.2.1.getD g.2.2.1.toNat (0 : Int))).length +
 (g.1.length + (((0 : Int) :: ([] : List Int)).set (0 : Nat) (x.2.1.getD g.2.2.1.toNat (0 : Int))).length) /
 (4 : Nat) +
 (192 : Nat)) *
 (8 : Nat) ≤
 (281474976710656 : Nat)) ∧
 ((-9223372036854775808 : Int) ≤ g.2.2.1 + (1 : Int) ∧ g.2.2.1 + (1 : Int) ≤ (9223372036854775807 : Int)) ∧
 (((0 : Int) ≤ g.2.2.1 + (1 : Int) ∧
 g.2.2.1 + (1 : Int) ≤ (↑x.2.1.length : Int) ∧
 g.1 ++ ((0 : Int) :: ([] : List Int)).set (0 : Nat) (x.2.1.getD g.2.2.1.toNat (0 : Int)) =
 List.filter (fun y ↦ decide (x.1 ≤ y)) (List.take (g.2.2.1 + (1 : Int)).toNat x.2.1) ∧
 g.2.1 = List.filter (fun y ↦ decide (y < x.1)) (List.take (g.2.2.1 + (1 : Int)).toNat x.2.1)) ∧
 ((↑x.2.1.length : Int) - (g.2.2.1 + (1 : Int))).toNat < ((↑x.2.1.length : Int) - g.2.2.1).toNat) ∧
 (x.1 = x.1 ∧
 True ∧
 True ∧
 x.2.1 = x.2.1 ∧
 (↑x.2.1.length : Int) = (↑x.2.1.length : Int) ∧
 g.2.2.1 + (1 : Int) = g.2.2.1 + (1 : Int) ∧ True) ∧
 (g.1 ++ ((0 : Int) :: ([] : List Int)).set (0 : Nat) (x.2.1.getD g.2.2.1.toNat (0 : Int)) =
 g.1 ++ ((0 : Int) :: ([] : List Int)).set (0 : Nat) (x.2.1.getD g.2.2.1.toNat (0 : Int)) ∧
 g.2.1 = g.2.1 ∧ True) ∧
 True) ∧
 (decide (x.1 ≤ x.2.1.getD g.2.2.1.toNat (0 : Int)) = false →
 (g.2.1.length + (((0 : Int) :: ([] : List Int)).set (0 : Nat) (x.2.1.getD g.2.2.1.toNat (0 : Int))).length ≤
 (9223372036854775807 : Nat) ∧
 (g.2.1.length + (((0 : Int) :: ([] : List Int)).set (0 : Nat) (x.2.1.getD g.2.2.1.toNat (0 : Int))).length +
 (g.2.1.length +
 (((0 : Int) :: ([] : List Int)).set (0 : Nat) (x.2.1.getD g.2.2.1.toNat (0 : Int))).length) /
 (4 : Nat) +
 (192 : Nat)) *
 (8 : Nat) ≤
 (281474976710656 : Nat)) ∧
 ((-9223372036854775808 : Int) ≤ g.2.2.1 + (1 : Int) ∧ g.2.2.1 + (1 : Int) ≤ (9223372036854775807 : Int)) ∧
 (((0 : Int) ≤ g.2.2.1 + (1 : Int) ∧
 g.2.2.1 + (1 : Int) ≤ (↑x.2.1.length : Int) ∧
 g.1 = List.filter (fun y ↦ decide (x.1 ≤ y)) (List.take (g.2.2.1 + (1 : Int)).toNat x.2.1) ∧
 g.2.1 ++ ((0 : Int) :: ([] : List Int)).set (0 : Nat) (x.2.1.getD g.2.2.1.toNat (0 : Int)) =
 List.filter (fun y ↦ decide (y < x.1)) (List.take (g.2.2.1 + (1 : Int)).toNat x.2.1)) ∧
 ((↑x.2.1.length : Int) - (g.2.2.1 + (1 : Int))).toNat < ((↑x.2.1.length : Int) - g.2.2.1).toNat) ∧
 (x.1 = x.1 ∧
 True ∧
 True ∧
 x.2.1 = x.2.1 ∧
 (↑x.2.1.length : Int) = (↑x.2.1.length : Int) ∧
 g.2.2.1 + (1 : Int) = g.2.2.1 + (1 : Int) ∧ True) ∧
 (g.1 = g.1 ∧
 g.2.1 ++ ((0 : Int) :: ([] : List Int)).set (0 : Nat) (x.2.1.getD g.2.2.1.toNat (0 : Int)) =
 g.2.1 ++ ((0 : Int) :: ([] : List Int)).set (0 : Nat) (x.2.1.getD g.2.2.1.toNat (0 : Int)) ∧
 True) ∧
 True)) ∧
 (decide (g.2.2.1 < (↑x.2.1.length : Int)) = false →
 Holds (g.1.length.le (400 : Nat)) ∧
 ((True ∧ True) ∧ g.1 = g.1 ∧ True) ∧
 Holds (g.2.1.length.le (400 : Nat)) ∧
 ((True ∧ True) ∧ g.2.1 = g.2.1 ∧ True) ∧ sortI g.1 = up x.1 x.2.1 ∧ sortI g.2.1 = down x.1 x.2.1)

theorem E_parts_eq (x : HL (cParts : Ctr).as) : vc (fx_parts x) 1 15 Try.f15 (cParts) x = E_parts x := by kernel_rfl

def E_sweep (x : Int × List Int × Unit) : Prop :=
 Holds True ∧
 (((way x.1 x.2.1).2 != (0 : Int)) = true →
 ([] : List Int) = (sweep x.1 x.2.1).1 ∧ (way x.1 x.2.1).2 = (sweep x.1 x.2.1).2) ∧
 (((way x.1 x.2.1).2 != (0 : Int)) = false →
 Holds (x.2.1.length ≤ (400 : Nat)) ∧
 Holds ((sortI x.2.1).length ≤ (400 : Nat) ∧ List.Pairwise (fun x1 x2 ↦ x1 ≤ x2) (sortI x.2.1)) ∧
 (((0 : Int) ≤ lb (sortI x.2.1) x.1 ∧ lb (sortI x.2.1) x.1 ≤ (↑(sortI x.2.1).length : Int)) ∧
 (↑(sortI x.2.1).length : Int) ≤ (↑(sortI x.2.1).length : Int)) ∧
 (((0 : Int) ≤ (0 : Int) ∧ (0 : Int) ≤ lb (sortI x.2.1) x.1) ∧ lb (sortI x.2.1) x.1 ≤ (↑(sortI x.2.1).length : Int)) ∧
 Holds
 ((((([] : List Int) :: ([] : List Int) :: ([] : List (List Int))).set (0 : Nat)
 (List.drop (lb (sortI x.2.1) x.1).toNat
 (List.take (↑(sortI x.2.1).length : Int).toNat (sortI x.2.1)))).set
 (1 : Nat)
 (List.drop (Int.toNat (0 : Int)) (List.take (lb (sortI x.2.1) x.1).toNat (sortI x.2.1)))).flatten.length ≤
 (800 : Nat)) ∧
 (((([] : List Int) :: ([] : List Int) :: ([] : List (List Int))).set (0 : Nat)
 (List.drop (lb (sortI x.2.1) x.1).toNat (List.take (↑(sortI x.2.1).length : Int).toNat (sortI x.2.1)))).set
 (1 : Nat) (List.drop (Int.toNat (0 : Int)) (List.take (lb (sortI x.2.1) x.1).toNat (sortI x.2.1)))).flatten =
 (sweep x.1 x.2.1).1 ∧
 (0 : Int) = (sweep x.1 x.2.1).2)

theorem E_sweep_eq (x : HL (cSweep : Ctr).as) : vc (fx_sweep x) 2 11 Try.f11 (cSweep) x = E_sweep x := by kernel_rfl

def E_short (x : Int × List Int × Unit) : Prop :=
 Holds True ∧
 (((way x.1 x.2.1).2 != (0 : Int)) = true →
 ([] : List Int) = (short x.1 x.2.1).1 ∧ (way x.1 x.2.1).2 = (short x.1 x.2.1).2) ∧
 (((way x.1 x.2.1).2 != (0 : Int)) = false →
 (((↑x.2.1.length : Int) == (0 : Int)) = true → ([] : List Int) = (short x.1 x.2.1).1 ∧ (0 : Int) = (short x.1 x.2.1).2) ∧
 (((↑x.2.1.length : Int) == (0 : Int)) = false →
 Holds (x.2.1.length ≤ (400 : Nat)) ∧
 Holds ((sortI x.2.1).length ≤ (400 : Nat) ∧ List.Pairwise (fun x1 x2 ↦ x1 ≤ x2) (sortI x.2.1)) ∧
 (((0 : Int) ≤ lb (sortI x.2.1) x.1 ∧ lb (sortI x.2.1) x.1 ≤ (↑(sortI x.2.1).length : Int)) ∧
 (↑(sortI x.2.1).length : Int) ≤ (↑(sortI x.2.1).length : Int)) ∧
 (((0 : Int) ≤ (0 : Int) ∧ (0 : Int) ≤ lb (sortI x.2.1) x.1) ∧ lb (sortI x.2.1) x.1 ≤ (↑(sortI x.2.1).length : Int)) ∧
 Holds ((List.drop (Int.toNat (0 : Int)) (List.take (lb (sortI x.2.1) x.1).toNat (sortI x.2.1))).length ≤ (400 : Nat)) ∧
 Holds ((List.drop (Int.toNat (0 : Int)) (List.take (lb (sortI x.2.1) x.1).toNat (sortI x.2.1))).length.le (400 : Nat)) ∧
 ((True ∧ True) ∧
 List.drop (Int.toNat (0 : Int)) (List.take (lb (sortI x.2.1) x.1).toNat (sortI x.2.1)) =
 List.drop (Int.toNat (0 : Int)) (List.take (lb (sortI x.2.1) x.1).toNat (sortI x.2.1)) ∧
 True) ∧
 ((-9223372036854775808 : Int) ≤ (↑(sortI x.2.1).length : Int) - (1 : Int) ∧
 (↑(sortI x.2.1).length : Int) - (1 : Int) ≤ (9223372036854775807 : Int)) ∧
 ((0 : Int) ≤ (↑(sortI x.2.1).length : Int) - (1 : Int) ∧
 (↑(sortI x.2.1).length : Int) - (1 : Int) < (↑(sortI x.2.1).length : Int)) ∧
 ((-9223372036854775808 : Int) ≤
 (sortI x.2.1).getD ((↑(sortI x.2.1).length : Int) - (1 : Int)).toNat (0 : Int) - x.1 ∧
 (sortI x.2.1).getD ((↑(sortI x.2.1).length : Int) - (1 : Int)).toNat (0 : Int) - x.1 ≤
 (9223372036854775807 : Int)) ∧
 ((0 : Int) ≤ (0 : Int) ∧ (0 : Int) < (↑(sortI x.2.1).length : Int)) ∧
 ((-9223372036854775808 : Int) ≤ x.1 - (sortI x.2.1).getD (Int.toNat (0 : Int)) (0 : Int) ∧
 x.1 - (sortI x.2.1).getD (Int.toNat (0 : Int)) (0 : Int) ≤ (9223372036854775807 : Int)) ∧
 (decide
 ((sortI x.2.1).getD ((↑(sortI x.2.1).length : Int) - (1 : Int)).toNat (0 : Int) - x.1 ≤
 x.1 - (sortI x.2.1).getD (Int.toNat (0 : Int)) (0 : Int)) =
 true →
 Holds
 ((((([] : List Int) :: ([] : List Int) :: ([] : List (List Int))).set (0 : Nat)
 (List.drop (lb (sortI x.2.1) x.1).toNat
 (List.take (↑(sortI x.2.1).length : Int).toNat (sortI x.2.1)))).set
 (1 : Nat)
 (List.drop (Int.toNat (0 : Int))
 (List.take (lb (sortI x.2.1) x.1).toNat (sortI x.2.1))).reverse).flatten.length ≤
 (800 : Nat)) ∧
 (((([] : List Int) :: ([] : List Int) :: ([] : List (List Int))).set (0 : Nat)
 (List.drop (lb (sortI x.2.1) x.1).toNat
 (List.take (↑(sortI x.2.1).length : Int).toNat (sortI x.2.1)))).set
 (1 : Nat)
 (List.drop (Int.toNat (0 : Int))
 (List.take (lb (sortI x.2.1) x.1).toNat (sortI x.2.1))).reverse).flatten =
 (short x.1 x.2.1).1 ∧
 (0 : Int) = (short x.1 x.2.1).2) ∧
 (decide
 ((sortI x.2.1).getD ((↑(sortI x.2.1).length : Int) - (1 : Int)).toNat (0 : Int) - x.1 ≤
 x.1 - (sortI x.2.1).getD (Int.toNat (0 : Int)) (0 : Int)) =
 false →
 Holds
 ((((([] : List Int) :: ([] : List Int) :: ([] : List (List Int))).set (0 : Nat)
 (List.drop (Int.toNat (0 : Int))
 (List.take (lb (sortI x.2.1) x.1).toNat (sortI x.2.1))).reverse).set
 (1 : Nat)
 (List.drop (lb (sortI x.2.1) x.1).toNat
 (List.take (↑(sortI x.2.1).length : Int).toNat (sortI x.2.1)))).flatten.length ≤
 (800 : Nat)) ∧
 (((([] : List Int) :: ([] : List Int) :: ([] : List (List Int))).set (0 : Nat)
 (List.drop (Int.toNat (0 : Int))
 (List.take (lb (sortI x.2.1) x.1).toNat (sortI x.2.1))).reverse).set
 (1 : Nat)
 (List.drop (lb (sortI x.2.1) x.1).toNat
 (List.take (↑(sortI x.2.1).length : Int).toNat (sortI x.2.1)))).flatten =
 (short x.1 x.2.1).1 ∧
 (0 : Int) = (short x.1 x.2.1).2)))

theorem E_short_eq (x : HL (cShort : Ctr).as) : vc (fx_short x) 2 12 Try.f12 (cShort) x = E_short x := by kernel_rfl

def E_law (x : Int × List Int × Unit) : Prop :=
 Holds True ∧
 Holds True ∧
 Holds True ∧
 Holds True ∧
 Holds True ∧
 ((!(wr x.2.1 == (0 : Int)) != decide ((0 : Int) ≤ sway (0 : Int) x.2.1)) = true →
 (!(wr x.2.1 == (0 : Int)) != decide ((0 : Int) ≤ sway (0 : Int) x.2.1)) = true ∧ Holds True) ∧
 ((!(wr x.2.1 == (0 : Int)) != decide ((0 : Int) ≤ sway (0 : Int) x.2.1)) = true →
 (!(wr x.2.1 == (0 : Int)) != decide ((0 : Int) ≤ sway (0 : Int) x.2.1)) = true) ∧
 ((!(wr x.2.1 == (0 : Int)) != decide ((0 : Int) ≤ sway (0 : Int) x.2.1)) = true →
 (!(wr x.2.1 == (0 : Int)) != decide ((0 : Int) ≤ sway (0 : Int) x.2.1)) = true) ∧
 ((!(wr x.2.1 == (0 : Int)) != decide ((0 : Int) ≤ sway (0 : Int) x.2.1) && wr x.2.1 != (0 : Int)) = true →
 (!(wr x.2.1 == (0 : Int)) != decide ((0 : Int) ≤ sway (0 : Int) x.2.1) && wr x.2.1 != (0 : Int)) = true ∧
 Holds True) ∧
 ((!(wr x.2.1 == (0 : Int)) != decide ((0 : Int) ≤ sway (0 : Int) x.2.1) && wr x.2.1 != (0 : Int)) = true →
 (!(wr x.2.1 == (0 : Int)) != decide ((0 : Int) ≤ sway (0 : Int) x.2.1) && wr x.2.1 != (0 : Int)) = true) ∧
 ((!(wr x.2.1 == (0 : Int)) != decide ((0 : Int) ≤ sway (0 : Int) x.2.1)) = true →
 (!(wr x.2.1 == (0 : Int)) != decide ((0 : Int) ≤ sway (0 : Int) x.2.1)) = true ∧
 ((wr x.2.1 != (0 : Int)) = true →
 (!(wr x.2.1 == (0 : Int)) != decide ((0 : Int) ≤ sway (0 : Int) x.2.1) && wr x.2.1 != (0 : Int)) = true)) ∧
 (((wr x.2.1 == (0 : Int)) != decide ((0 : Int) ≤ sway (0 : Int) x.2.1)) = false →
 (!(wr x.2.1 == (0 : Int)) != decide ((0 : Int) ≤ sway (0 : Int) x.2.1)) = true) ∧
 (((wr x.2.1 == (0 : Int)) != decide ((0 : Int) ≤ sway (0 : Int) x.2.1) ||
 wr x.2.1 != (0 : Int) && wr x.2.1 != (2 : Int)) =
 true →
 false = true) ∧
 (((wr x.2.1 == (0 : Int)) != decide ((0 : Int) ≤ sway (0 : Int) x.2.1) ||
 wr x.2.1 != (0 : Int) && wr x.2.1 != (2 : Int)) =
 false →
 Holds True ∧
 (decide (sway x.1 x.2.1 < (0 : Int)) = true →
 (((way x.1 x.2.1).2 == (2 : Int)) = true →
 ((way x.1 x.2.1).2 == (2 : Int)) = true ∧ ((way x.1 x.2.1).2 == (2 : Int)) = true) ∧
 (((way x.1 x.2.1).2 == (2 : Int)) = true → ((way x.1 x.2.1).2 == (2 : Int)) = true) ∧
 (((way x.1 x.2.1).2 == (2 : Int) && (sweep x.1 x.2.1).2 == (way x.1 x.2.1).2) = true →
 ((way x.1 x.2.1).2 == (2 : Int) && (sweep x.1 x.2.1).2 == (way x.1 x.2.1).2) =
 true ∧
 ((way x.1 x.2.1).2 == (2 : Int) && (sweep x.1 x.2.1).2 == (way x.1 x.2.1).2) =
 true) ∧
 (((way x.1 x.2.1).2 == (2 : Int) && (sweep x.1 x.2.1).2 == (way x.1 x.2.1).2) = true →
 ((way x.1 x.2.1).2 == (2 : Int) && (sweep x.1 x.2.1).2 == (way x.1 x.2.1).2) =
 true) ∧
 (((way x.1 x.2.1).2 == (2 : Int) && (sweep x.1 x.2.1).2 == (way x.1 x.2.1).2 &&
 (short x.1 x.2.1).2 == (way x.1 x.2.1).2) =
 true →
 ((way x.1 x.2.1).2 == (2 : Int) && (sweep x.1 x.2.1).2 == (way x.1 x.2.1).2 &&
 (short x.1 x.2.1).2 == (way x.1 x.2.1).2) =
 true) ∧
 (((way x.1 x.2.1).2 == (2 : Int) && (sweep x.1 x.2.1).2 == (way x.1 x.2.1).2 &&
 (short x.1 x.2.1).2 == (way x.1 x.2.1).2) =
 true →
 ((way x.1 x.2.1).2 == (2 : Int) && (sweep x.1 x.2.1).2 == (way x.1 x.2.1).2 &&
 (short x.1 x.2.1).2 == (way x.1 x.2.1).2) =
 true) ∧
 (((way x.1 x.2.1).2 == (2 : Int) && (sweep x.1 x.2.1).2 == (way x.1 x.2.1).2 &&
 (short x.1 x.2.1).2 == (way x.1 x.2.1).2 &&
 (way x.1 x.2.1).1 == (0 : Int)) =
 true →
 ((way x.1 x.2.1).2 == (2 : Int) &&
 (sweep x.1 x.2.1).2 == (way x.1 x.2.1).2 &&
 (short x.1 x.2.1).2 == (way x.1 x.2.1).2 &&
 (way x.1 x.2.1).1 == (0 : Int)) =
 true) ∧
 (((way x.1 x.2.1).2 == (2 : Int) &&
 (sweep x.1 x.2.1).2 == (way x.1 x.2.1).2 &&
 (short x.1 x.2.1).2 == (way x.1 x.2.1).2 &&
 (way x.1 x.2.1).1 == (0 : Int)) =
 true →
 ((way x.1 x.2.1).2 == (2 : Int) &&
 (sweep x.1 x.2.1).2 == (way x.1 x.2.1).2 &&
 (short x.1 x.2.1).2 == (way x.1 x.2.1).2 &&
 (way x.1 x.2.1).1 == (0 : Int)) =
 true) ∧
 (((way x.1 x.2.1).2 == (2 : Int) &&
 (sweep x.1 x.2.1).2 == (way x.1 x.2.1).2 &&
 (short x.1 x.2.1).2 == (way x.1 x.2.1).2 &&
 (way x.1 x.2.1).1 == (0 : Int)) =
 true →
 (((way x.1 x.2.1).2 == (2 : Int) &&
 (sweep x.1 x.2.1).2 == (way x.1 x.2.1).2 &&
 (short x.1 x.2.1).2 == (way x.1 x.2.1).2 &&
 (way x.1 x.2.1).1 == (0 : Int)) =
 true ∧
 ((way x.1 x.2.1).2 == (2 : Int) &&
 (sweep x.1 x.2.1).2 == (way x.1 x.2.1).2 &&
 (short x.1 x.2.1).2 == (way x.1 x.2.1).2 &&
 (way x.1 x.2.1).1 == (0 : Int)) =
 true) ∧
 (-9223372036854775808 : Int) ≤
 (↑(sweep x.1 x.2.1).1.length : Int) +
 (↑(short x.1 x.2.1).1.length : Int) ∧
 (↑(sweep x.1 x.2.1).1.length : Int) + (↑(short x.1 x.2.1).1.length : Int) ≤
 (9223372036854775807 : Int)) ∧
 (((way x.1 x.2.1).2 == (2 : Int) &&
 (sweep x.1 x.2.1).2 == (way x.1 x.2.1).2 &&
 (short x.1 x.2.1).2 == (way x.1 x.2.1).2 &&
 (way x.1 x.2.1).1 == (0 : Int)) =
 true →
 ((way x.1 x.2.1).2 == (2 : Int) &&
 (sweep x.1 x.2.1).2 == (way x.1 x.2.1).2 &&
 (short x.1 x.2.1).2 == (way x.1 x.2.1).2 &&
 (way x.1 x.2.1).1 == (0 : Int)) =
 true) ∧
 (((way x.1 x.2.1).2 == (2 : Int) &&
 (sweep x.1 x.2.1).2 == (way x.1 x.2.1).2 &&
 (short x.1 x.2.1).2 == (way x.1 x.2.1).2 &&
 (way x.1 x.2.1).1 == (0 : Int)) =
 true →
 ((way x.1 x.2.1).2 == (2 : Int) &&
 (sweep x.1 x.2.1).2 == (way x.1 x.2.1).2 &&
 (short x.1 x.2.1).2 == (way x.1 x.2.1).2 &&
 (way x.1 x.2.1).1 == (0 : Int)) =
 true) ∧
 ((way x.1 x.2.1).2 == (2 : Int) &&
 (sweep x.1 x.2.1).2 == (way x.1 x.2.1).2 &&
 (short x.1 x.2.1).2 == (way x.1 x.2.1).2 &&
 (way x.1 x.2.1).1 == (0 : Int) &&
 (↑(sweep x.1 x.2.1).1.length : Int) +
 (↑(short x.1 x.2.1).1.length : Int) ==
 (0 : Int)) =
 true) ∧
 (decide (sway x.1 x.2.1 < (0 : Int)) = false →
 Holds (x.2.1.length ≤ (400 : Nat)) ∧
 (((way x.1 x.2.1).2 == (0 : Int)) = true → ((way x.1 x.2.1).2 == (0 : Int)) = true) ∧
 (((way x.1 x.2.1).2 == (0 : Int)) = true → ((way x.1 x.2.1).2 == (0 : Int)) = true) ∧
 (((way x.1 x.2.1).2 == (0 : Int) && (sweep x.1 x.2.1).2 == (0 : Int)) = true →
 ((way x.1 x.2.1).2 == (0 : Int) && (sweep x.1 x.2.1).2 == (0 : Int)) = true) ∧
 (((way x.1 x.2.1).2 == (0 : Int) && (sweep x.1 x.2.1).2 == (0 : Int)) = true →
 ((way x.1 x.2.1).2 == (0 : Int) && (sweep x.1 x.2.1).2 == (0 : Int)) = true) ∧
 (((way x.1 x.2.1).2 == (0 : Int) && (sweep x.1 x.2.1).2 == (0 : Int) &&
 (short x.1 x.2.1).2 == (0 : Int)) =
 true →
 ((way x.1 x.2.1).2 == (0 : Int) && (sweep x.1 x.2.1).2 == (0 : Int) &&
 (short x.1 x.2.1).2 == (0 : Int)) =
 true ∧
 ((way x.1 x.2.1).2 == (0 : Int) && (sweep x.1 x.2.1).2 == (0 : Int) &&
 (short x.1 x.2.1).2 == (0 : Int)) =
 true) ∧
 (((way x.1 x.2.1).2 == (0 : Int) && (sweep x.1 x.2.1).2 == (0 : Int) &&
 (short x.1 x.2.1).2 == (0 : Int)) =
 true →
 ((way x.1 x.2.1).2 == (0 : Int) && (sweep x.1 x.2.1).2 == (0 : Int) &&
 (short x.1 x.2.1).2 == (0 : Int)) =
 true) ∧
 (((way x.1 x.2.1).2 == (0 : Int) && (sweep x.1 x.2.1).2 == (0 : Int) &&
 (short x.1 x.2.1).2 == (0 : Int) &&
 (way x.1 x.2.1).1 == sway x.1 x.2.1) =
 true →
 (((way x.1 x.2.1).2 == (0 : Int) && (sweep x.1 x.2.1).2 == (0 : Int) &&
 (short x.1 x.2.1).2 == (0 : Int) &&
 (way x.1 x.2.1).1 == sway x.1 x.2.1) =
 true ∧
 ((way x.1 x.2.1).2 == (0 : Int) && (sweep x.1 x.2.1).2 == (0 : Int) &&
 (short x.1 x.2.1).2 == (0 : Int) &&
 (way x.1 x.2.1).1 == sway x.1 x.2.1) =
 true) ∧
 Holds
 ((((([] : List Int) :: ([] : List Int) :: ([] : List (List Int))).set (0 : Nat)
 (up x.1 x.2.1)).set
 (1 : Nat) (down x.1 x.2.1)).flatten.length ≤
 (800 : Nat)) ∧
 ((way x.1 x.2.1).2 == (0 : Int) && (sweep x.1 x.2.1).2 == (0 : Int) &&
 (short x.1 x.2.1).2 == (0 : Int) &&
 (way x.1 x.2.1).1 == sway x.1 x.2.1) =
 true ∧
 Holds True ∧
 (decide
 ((sweep x.1 x.2.1).1 =
 (((([] : List Int) :: ([] : List Int) :: ([] : List (List Int))).set (0 : Nat)
 (up x.1 x.2.1)).set
 (1 : Nat) (down x.1 x.2.1)).flatten) =
 true →
 (decide
 ((sweep x.1 x.2.1).1 =
 (((([] : List Int) :: ([] : List Int) :: ([] : List (List Int))).set
 (0 : Nat) (up x.1 x.2.1)).set
 (1 : Nat) (down x.1 x.2.1)).flatten) =
 true ∧
 decide
 ((sweep x.1 x.2.1).1 =
 (((([] : List Int) :: ([] : List Int) :: ([] : List (List Int))).set
 (0 : Nat) (up x.1 x.2.1)).set
 (1 : Nat) (down x.1 x.2.1)).flatten) =
 true) ∧
 Holds
 (x.2.1.length ≤ (400 : Nat) ∧ okB x.1 = true ∧ x.2.1.all okB = true) ∧
 decide
 ((sweep x.1 x.2.1).1 =
 (((([] : List Int) :: ([] : List Int) :: ([] : List (List Int))).set
 (0 : Nat) (up x.1 x.2.1)).set
 (1 : Nat) (down x.1 x.2.1)).flatten) =
 true ∧
 Holds True ∧
 decide
 ((short x.1 x.2.1).1 =
 if x.2.1.length = (0 : Nat) then ([] : List Int)
 else order x.1 x.2.1) =
 true) ∧
 (decide
 ((sweep x.1 x.2.1).1 =
 (((([] : List Int) :: ([] : List Int) :: ([] : List (List Int))).set (0 : Nat)
 (up x.1 x.2.1)).set
 (1 : Nat) (down x.1 x.2.1)).flatten) =
 !true →
 false = true)) ∧
 (((way x.1 x.2.1).2 == (0 : Int) && (sweep x.1 x.2.1).2 == (0 : Int) &&
 (short x.1 x.2.1).2 == (0 : Int) &&
 (way x.1 x.2.1).1 == sway x.1 x.2.1) =
 !true →
 false = true)))

theorem E_law_eq (x : HL (cLaw : Ctr).as) : vc (fx_law x) 1 4 Try.f4 (cLaw) x = E_law x := by kernel_rfl

end Go.Proofs.Ytpnmfoojmodnlaa.Lifts
