/-
  The conditions that the executor comes to, written out (by a tool of ours), and that they are the conditions (by the kernel).
-/
import Derived.Test.YtpmfgdedkmddlaaRankpC
namespace Go.Proofs.Ytpmfgdedkmddlaa.Rankp
open Go.Sx
set_option maxRecDepth 100000

def E_index (x : List Int × Int × Unit) : Prop :=
 ((((0 : Int) ≤ (0 : Int) ∧ (0 : Int) ≤ (↑x.1.length : Int) ∧ List.idxOf? x.2.1 (List.take (Int.toNat (0 : Int)) x.1) = none) ∧ True) ∧
 (x.1 = x.1 ∧ x.2.1 = x.2.1 ∧ (↑x.1.length : Int) = (↑x.1.length : Int) ∧ (0 : Int) = (0 : Int) ∧ True) ∧ True ∧ True) ∧
 ∀ (g : Int × Unit),
 (0 : Int) ≤ g.1 ∧ g.1 ≤ (↑x.1.length : Int) ∧ List.idxOf? x.2.1 (List.take g.1.toNat x.1) = none →
 ((-9223372036854775808 : Int) ≤ g.1 ∧ g.1 ≤ (9223372036854775807 : Int)) ∧ True →
 (decide (g.1 < (↑x.1.length : Int)) = true →
 ((0 : Int) ≤ g.1 ∧ g.1 < (↑x.1.length : Int)) ∧
 ((x.2.1 == x.1.getD g.1.toNat (0 : Int)) = true → g.1 = idx x.1 x.2.1) ∧
 ((x.2.1 == x.1.getD g.1.toNat (0 : Int)) = false →
 ((-9223372036854775808 : Int) ≤ g.1 + (1 : Int) ∧ g.1 + (1 : Int) ≤ (9223372036854775807 : Int)) ∧
 (((0 : Int) ≤ g.1 + (1 : Int) ∧
 g.1 + (1 : Int) ≤ (↑x.1.length : Int) ∧ List.idxOf? x.2.1 (List.take (g.1 + (1 : Int)).toNat x.1) = none) ∧
 ((↑x.1.length : Int) - (g.1 + (1 : Int))).toNat < ((↑x.1.length : Int) - g.1).toNat) ∧
 (x.1 = x.1 ∧
 x.2.1 = x.2.1 ∧ (↑x.1.length : Int) = (↑x.1.length : Int) ∧ g.1 + (1 : Int) = g.1 + (1 : Int) ∧ True) ∧
 True ∧ True)) ∧
 (decide (g.1 < (↑x.1.length : Int)) = false → (-1 : Int) = idx x.1 x.2.1)

theorem E_index_eq (x : HL (cIndex : Ctr).as) : vc (fx_index x) 1 61 Try.f61 (cIndex) x = E_index x := by kernel_rfl

def E_contains (x : List Int × Int × Unit) : Prop :=
 Holds True ∧ decide ((0 : Int) ≤ idx x.1 x.2.1) = decide ((0 : Int) ≤ idx x.1 x.2.1)

theorem E_contains_eq (x : HL (cContains : Ctr).as) : vc (fx_contains x) 1 44 Try.f44 (cContains) x = E_contains x := by kernel_rfl

def E_max (x : List Int × Unit) : Prop :=
 (decide ((↑x.1.length : Int) < (1 : Int)) = true → False) ∧
 (decide ((↑x.1.length : Int) < (1 : Int)) = false →
 ((0 : Int) ≤ (0 : Int) ∧ (0 : Int) < (↑x.1.length : Int)) ∧
 ((((1 : Int) ≤ (1 : Int) ∧
 (1 : Int) ≤ (↑x.1.length : Int) ∧ x.1.getD (Int.toNat (0 : Int)) (0 : Int) = mx (List.take (Int.toNat (1 : Int)) x.1)) ∧
 True) ∧
 (x.1 = x.1 ∧ x.1.getD (Int.toNat (0 : Int)) (0 : Int) = x.1.getD (Int.toNat (0 : Int)) (0 : Int) ∧ (1 : Int) = (1 : Int) ∧ True) ∧
 True ∧ True) ∧
 ∀ (g : Int × Int × Unit),
 (1 : Int) ≤ g.2.1 ∧ g.2.1 ≤ (↑x.1.length : Int) ∧ g.1 = mx (List.take g.2.1.toNat x.1) →
 ((-9223372036854775808 : Int) ≤ g.1 ∧ g.1 ≤ (9223372036854775807 : Int)) ∧
 ((-9223372036854775808 : Int) ≤ g.2.1 ∧ g.2.1 ≤ (9223372036854775807 : Int)) ∧ True →
 (decide (g.2.1 < (↑x.1.length : Int)) = true →
 ((0 : Int) ≤ g.2.1 ∧ g.2.1 < (↑x.1.length : Int)) ∧
 ((-9223372036854775808 : Int) ≤ g.2.1 + (1 : Int) ∧ g.2.1 + (1 : Int) ≤ (9223372036854775807 : Int)) ∧
 (((1 : Int) ≤ g.2.1 + (1 : Int) ∧
 g.2.1 + (1 : Int) ≤ (↑x.1.length : Int) ∧
 max g.1 (x.1.getD g.2.1.toNat (0 : Int)) = mx (List.take (g.2.1 + (1 : Int)).toNat x.1)) ∧
 ((↑x.1.length : Int) - (g.2.1 + (1 : Int))).toNat < ((↑x.1.length : Int) - g.2.1).toNat) ∧
 (x.1 = x.1 ∧
 max g.1 (x.1.getD g.2.1.toNat (0 : Int)) = max g.1 (x.1.getD g.2.1.toNat (0 : Int)) ∧
 g.2.1 + (1 : Int) = g.2.1 + (1 : Int) ∧ True) ∧
 True ∧ True) ∧
 (decide (g.2.1 < (↑x.1.length : Int)) = false → g.1 = mx x.1))

theorem E_max_eq (x : HL (cMax : Ctr).as) : vc (fx_max x) 1 46 Try.f46 (cMax) x = E_max x := by kernel_rfl

def E_mul (x : Int × Int × Unit) : Prop :=
 (0 : Int) ≤ (32 : Int) ∧
 (0 : Int) ≤ (32 : Int) ∧
 ((0 : Int) ≤ bits BinOp.and IntKind.u64 x.1 (4294967295 : Int) * bits BinOp.and IntKind.u64 x.2.1 (4294967295 : Int) ∧
 bits BinOp.and IntKind.u64 x.1 (4294967295 : Int) * bits BinOp.and IntKind.u64 x.2.1 (4294967295 : Int) ≤
 (18446744073709551615 : Int)) ∧
 ((0 : Int) ≤ x.1 / (2 : Int) ^ min (Int.toNat (32 : Int)) IntKind.u64.bits * bits BinOp.and IntKind.u64 x.2.1 (4294967295 : Int) ∧
 x.1 / (2 : Int) ^ min (Int.toNat (32 : Int)) IntKind.u64.bits * bits BinOp.and IntKind.u64 x.2.1 (4294967295 : Int) ≤
 (18446744073709551615 : Int)) ∧
 (0 : Int) ≤ (32 : Int) ∧
 ((0 : Int) ≤
 x.1 / (2 : Int) ^ min (Int.toNat (32 : Int)) IntKind.u64.bits * bits BinOp.and IntKind.u64 x.2.1 (4294967295 : Int) +
 bits BinOp.and IntKind.u64 x.1 (4294967295 : Int) * bits BinOp.and IntKind.u64 x.2.1 (4294967295 : Int) /
 (2 : Int) ^ min (Int.toNat (32 : Int)) IntKind.u64.bits ∧
 x.1 / (2 : Int) ^ min (Int.toNat (32 : Int)) IntKind.u64.bits * bits BinOp.and IntKind.u64 x.2.1 (4294967295 : Int) +
 bits BinOp.and IntKind.u64 x.1 (4294967295 : Int) * bits BinOp.and IntKind.u64 x.2.1 (4294967295 : Int) /
 (2 : Int) ^ min (Int.toNat (32 : Int)) IntKind.u64.bits ≤
 (18446744073709551615 : Int)) ∧
 (0 : Int) ≤ (32 : Int) ∧
 ((0 : Int) ≤
 bits BinOp.and IntKind.u64 x.1 (4294967295 : Int) * (x.2.1 / (2 : Int) ^ min (Int.toNat (32 : Int)) IntKind.u64.bits) ∧
 bits BinOp.and IntKind.u64 x.1 (4294967295 : Int) * (x.2.1 / (2 : Int) ^ min (Int.toNat (32 : Int)) IntKind.u64.bits) ≤
 (18446744073709551615 : Int)) ∧
 ((0 : Int) ≤
 bits BinOp.and IntKind.u64
 (x.1 / (2 : Int) ^ min (Int.toNat (32 : Int)) IntKind.u64.bits * bits BinOp.and IntKind.u64 x.2.1 (4294967295 : Int) +
 bits BinOp.and IntKind.u64 x.1 (4294967295 : Int) * bits BinOp.and IntKind.u64 x.2.1 (4294967295 : Int) /
 (2 : Int) ^ min (Int.toNat (32 : Int)) IntKind.u64.bits)
 (4294967295 : Int) +
 bits BinOp.and IntKind.u64 x.1 (4294967295 : Int) * (x.2.1 / (2 : Int) ^ min (Int.toNat (32 : Int)) IntKind.u64.bits) ∧
 bits BinOp.and IntKind.u64
 (x.1 / (2 : Int) ^ min (Int.toNat (32 : Int)) IntKind.u64.bits * bits BinOp.and IntKind.u64 x.2.1 (4294967295 : Int) +
 bits BinOp.and IntKind.u64 x.1 (4294967295 : Int) * bits BinOp.and IntKind.u64 x.2.1 (4294967295 : Int) /
 (2 : Int) ^ min (Int.toNat (32 : Int)) IntKind.u64.bits)
 (4294967295 : Int) +
 bits BinOp.and IntKind.u64 x.1 (4294967295 : Int) * (x.2.1 / (2 : Int) ^ min (Int.toNat (32 : Int)) IntKind.u64.bits) ≤
 (18446744073709551615 : Int)) ∧
 ((0 : Int) ≤
 x.1 / (2 : Int) ^ min (Int.toNat (32 : Int)) IntKind.u64.bits *
 (x.2.1 / (2 : Int) ^ min (Int.toNat (32 : Int)) IntKind.u64.bits) ∧
 x.1 / (2 : Int) ^ min (Int.toNat (32 : Int)) IntKind.u64.bits *
 (x.2.1 / (2 : Int) ^ min (Int.toNat (32 : Int)) IntKind.u64.bits) ≤
 (18446744073709551615 : Int)) ∧
 ((0 : Int) ≤
 x.1 / (2 : Int) ^ min (Int.toNat (32 : Int)) IntKind.u64.bits *
 (x.2.1 / (2 : Int) ^ min (Int.toNat (32 : Int)) IntKind.u64.bits) +
 (x.1 / (2 : Int) ^ min (Int.toNat (32 : Int)) IntKind.u64.bits *
 bits BinOp.and IntKind.u64 x.2.1 (4294967295 : Int) +
 bits BinOp.and IntKind.u64 x.1 (4294967295 : Int) * bits BinOp.and IntKind.u64 x.2.1 (4294967295 : Int) /
 (2 : Int) ^ min (Int.toNat (32 : Int)) IntKind.u64.bits) /
 (2 : Int) ^ min (Int.toNat (32 : Int)) IntKind.u64.bits ∧
 x.1 / (2 : Int) ^ min (Int.toNat (32 : Int)) IntKind.u64.bits *
 (x.2.1 / (2 : Int) ^ min (Int.toNat (32 : Int)) IntKind.u64.bits) +
 (x.1 / (2 : Int) ^ min (Int.toNat (32 : Int)) IntKind.u64.bits *
 bits BinOp.and IntKind.u64 x.2.1 (4294967295 : Int) +
 bits BinOp.and IntKind.u64 x.1 (4294967295 : Int) * bits BinOp.and IntKind.u64 x.2.1 (4294967295 : Int) /
 (2 : Int) ^ min (Int.toNat (32 : Int)) IntKind.u64.bits) /
 (2 : Int) ^ min (Int.toNat (32 : Int)) IntKind.u64.bits ≤
 (18446744073709551615 : Int)) ∧
 (0 : Int) ≤ (32 : Int) ∧
 ((0 : Int) ≤
 x.1 / (2 : Int) ^ min (Int.toNat (32 : Int)) IntKind.u64.bits *
 (x.2.1 / (2 : Int) ^ min (Int.toNat (32 : Int)) IntKind.u64.bits) +
 (x.1 / (2 : Int) ^ min (Int.toNat (32 : Int)) IntKind.u64.bits *
 bits BinOp.and IntKind.u64 x.2.1 (4294967295 : Int) +
 bits BinOp.and IntKind.u64 x.1 (4294967295 : Int) * bits BinOp.and IntKind.u64 x.2.1 (4294967295 : Int) /
 (2 : Int) ^ min (Int.toNat (32 : Int)) IntKind.u64.bits) /
 (2 : Int) ^ min (Int.toNat (32 : Int)) IntKind.u64.bits +
 (bits BinOp.and IntKind.u64
 (x.1 / (2 : Int) ^ min (Int.toNat (32 : Int)) IntKind.u64.bits *
 bits BinOp.and IntKind.u64 x.2.1 (4294967295 : Int) +
 bits BinOp.and IntKind.u64 x.1 (4294967295 : Int) *
 bits BinOp.and IntKind.u64 x.2.1 (4294967295 : Int) /
 (2 : Int) ^ min (Int.toNat (32 : Int)) IntKind.u64.bits)
 (4294967295 : Int) +
 bits BinOp.and IntKind.u64 x.1 (4294967295 : Int) *
 (x.2.1 / (2 : Int) ^ min (Int.toNat (32 : Int)) IntKind.u64.bits)) /
 (2 : Int) ^ min (Int.toNat (32 : Int)) IntKind.u64.bits ∧
 x.1 / (2 : Int) ^ min (Int.toNat (32 : Int)) IntKind.u64.bits *
 (x.2.1 / (2 : Int) ^ min (Int.toNat (32 : Int)) IntKind.u64.bits) +
 (x.1 / (2 : Int) ^ min (Int.toNat (32 : Int)) IntKind.u64.bits *
 bits BinOp.and IntKind.u64 x.2.1 (4294967295 : Int) +
 bits BinOp.and IntKind.u64 x.1 (4294967295 : Int) * bits BinOp.and IntKind.u64 x.2.1 (4294967295 : Int) /
 (2 : Int) ^ min (Int.toNat (32 : Int)) IntKind.u64.bits) /
 (2 : Int) ^ min (Int.toNat (32 : Int)) IntKind.u64.bits +
 (bits BinOp.and IntKind.u64
 (x.1 / (2 : Int) ^ min (Int.toNat (32 : Int)) IntKind.u64.bits *
 bits BinOp.and IntKind.u64 x.2.1 (4294967295 : Int) +
 bits BinOp.and IntKind.u64 x.1 (4294967295 : Int) *
 bits BinOp.and IntKind.u64 x.2.1 (4294967295 : Int) /
 (2 : Int) ^ min (Int.toNat (32 : Int)) IntKind.u64.bits)
 (4294967295 : Int) +
 bits BinOp.and IntKind.u64 x.1 (4294967295 : Int) *
 (x.2.1 / (2 : Int) ^ min (Int.toNat (32 : Int)) IntKind.u64.bits)) /
 (2 : Int) ^ min (Int.toNat (32 : Int)) IntKind.u64.bits ≤
 (18446744073709551615 : Int)) ∧
 ((0 : Int) ≤ x.1 * x.2.1 ∧ x.1 * x.2.1 ≤ (18446744073709551615 : Int)) ∧
 x.1 / (2 : Int) ^ min (Int.toNat (32 : Int)) IntKind.u64.bits *
 (x.2.1 / (2 : Int) ^ min (Int.toNat (32 : Int)) IntKind.u64.bits) +
 (x.1 / (2 : Int) ^ min (Int.toNat (32 : Int)) IntKind.u64.bits *
 bits BinOp.and IntKind.u64 x.2.1 (4294967295 : Int) +
 bits BinOp.and IntKind.u64 x.1 (4294967295 : Int) *
 bits BinOp.and IntKind.u64 x.2.1 (4294967295 : Int) /
 (2 : Int) ^ min (Int.toNat (32 : Int)) IntKind.u64.bits) /
 (2 : Int) ^ min (Int.toNat (32 : Int)) IntKind.u64.bits +
 (bits BinOp.and IntKind.u64
 (x.1 / (2 : Int) ^ min (Int.toNat (32 : Int)) IntKind.u64.bits *
 bits BinOp.and IntKind.u64 x.2.1 (4294967295 : Int) +
 bits BinOp.and IntKind.u64 x.1 (4294967295 : Int) *
 bits BinOp.and IntKind.u64 x.2.1 (4294967295 : Int) /
 (2 : Int) ^ min (Int.toNat (32 : Int)) IntKind.u64.bits)
 (4294967295 : Int) +
 bits BinOp.and IntKind.u64 x.1 (4294967295 : Int) *
 (x.2.1 / (2 : Int) ^ min (Int.toNat (32 : Int)) IntKind.u64.bits)) /
 (2 : Int) ^ min (Int.toNat (32 : Int)) IntKind.u64.bits =
 (0 : Int) ∧
 x.1 * x.2.1 = x.2.1

theorem E_mul_eq (x : HL (cMul : Ctr).as) : vc (fx_mul x) 3 47 Try.f47 (cMul) x = E_mul x := by kernel_rfl

def E_rep (x : List Int × Int × Unit) : Prop :=
 (decide (x.2.1 < (0 : Int)) = true → False) ∧
 (decide (x.2.1 < (0 : Int)) = false →
 ((0 : Int) ≤ (↑x.1.length : Int) ∧ (↑x.1.length : Int) ≤ (18446744073709551615 : Int)) ∧
 ((0 : Int) ≤ x.2.1 ∧ x.2.1 ≤ (18446744073709551615 : Int)) ∧
 Holds ((↑x.1.length : Int) = (1 : Int) ∧ (0 : Int) ≤ x.2.1 ∧ x.2.1 ≤ (16 : Int)) ∧
 ((!decide ((0 : Int) < (0 : Int))) = true → (!decide ((0 : Int) < (0 : Int))) = true) ∧
 (decide ((0 : Int) < (0 : Int)) = false → (!decide ((0 : Int) < (0 : Int))) = true) ∧
 (decide ((9223372036854775807 : Int) < x.2.1) = true → False) ∧
 (decide ((9223372036854775807 : Int) < x.2.1) = false →
 ((-9223372036854775808 : Int) ≤ x.2.1 ∧ x.2.1 ≤ (9223372036854775807 : Int)) ∧
 (((0 : Int) ≤ x.2.1 ∧ x.2.1 ≤ x.2.1) ∧
 x.2.1 * (↑(8 : Nat) : Int) ≤ (140737488355328 : Int) ∧ x.2.1 ≤ (9223372036854775807 : Int)) ∧
 (((((1 : Int) ≤ (↑(min x.1.length (List.replicate x.2.1.toNat (0 : Int)).length) : Int) ∧
 (↑(min x.1.length (List.replicate x.2.1.toNat (0 : Int)).length) : Int) ≤ x.2.1) ∧
 (List.take (0 : Nat) (List.replicate x.2.1.toNat (0 : Int)) ++
 (List.take (min x.1.length (List.replicate x.2.1.toNat (0 : Int)).length) x.1 ++
 List.drop
 ((0 : Nat) + (List.take (min x.1.length (List.replicate x.2.1.toNat (0 : Int)).length) x.1).length)
 (List.replicate x.2.1.toNat (0 : Int)))).length =
 x.2.1.toNat ∧
 List.take (↑(min x.1.length (List.replicate x.2.1.toNat (0 : Int)).length) : Int).toNat
 (List.take (0 : Nat) (List.replicate x.2.1.toNat (0 : Int)) ++
 (List.take (min x.1.length (List.replicate x.2.1.toNat (0 : Int)).length) x.1 ++
 List.drop
 ((0 : Nat) + (List.take (min x.1.length (List.replicate x.2.1.toNat (0 : Int)).length) x.1).length)
 (List.replicate x.2.1.toNat (0 : Int)))) =
 List.replicate (↑(min x.1.length (List.replicate x.2.1.toNat (0 : Int)).length) : Int).toNat
 (x.1.getD (0 : Nat) (0 : Int))) ∧
 True) ∧
 (True ∧
 (↑(min x.1.length (List.replicate x.2.1.toNat (0 : Int)).length) : Int) =
 (↑(min x.1.length (List.replicate x.2.1.toNat (0 : Int)).length) : Int) ∧
 True) ∧
 (List.take (0 : Nat) (List.replicate x.2.1.toNat (0 : Int)) ++
 (List.take (min x.1.length (List.replicate x.2.1.toNat (0 : Int)).length) x.1 ++
 List.drop
 ((0 : Nat) + (List.take (min x.1.length (List.replicate x.2.1.toNat (0 : Int)).length) x.1).length)
 (List.replicate x.2.1.toNat (0 : Int))) =
 List.take (0 : Nat) (List.replicate x.2.1.toNat (0 : Int)) ++
 (List.take (min x.1.length (List.replicate x.2.1.toNat (0 : Int)).length) x.1 ++
 List.drop
 ((0 : Nat) + (List.take (min x.1.length (List.replicate x.2.1.toNat (0 : Int)).length) x.1).length)
 (List.replicate x.2.1.toNat (0 : Int))) ∧
 True) ∧
 True) ∧
 ∀ (g : List Int × Int × Unit),
 ((1 : Int) ≤ g.2.1 ∧ g.2.1 ≤ x.2.1) ∧
 g.1.length = x.2.1.toNat ∧
 List.take g.2.1.toNat g.1 = List.replicate g.2.1.toNat (x.1.getD (0 : Nat) (0 : Int)) →
 (g.1.length ≤ (9223372036854775807 : Nat) ∧
 ∀ (x : Int), x ∈ g.1 → (-9223372036854775808 : Int) ≤ x ∧ x ≤ (9223372036854775807 : Int)) ∧
 ((-9223372036854775808 : Int) ≤ g.2.1 ∧ g.2.1 ≤ (9223372036854775807 : Int)) ∧ True →
 (decide (g.2.1 < (↑g.1.length : Int)) = true →
 (((0 : Int) ≤ g.2.1 ∧ g.2.1 ≤ (↑g.1.length : Int)) ∧ (↑g.1.length : Int) ≤ (↑g.1.length : Int)) ∧
 (((0 : Int) ≤ (0 : Int) ∧ (0 : Int) ≤ g.2.1) ∧ g.2.1 ≤ (↑g.1.length : Int)) ∧
 ((-9223372036854775808 : Int) ≤
 g.2.1 +
 (↑(min (List.drop (nat_lit 0) (List.take g.2.1.toNat g.1)).length
 ((↑g.1.length : Int).toNat - g.2.1.toNat)) :
 Int) ∧
 g.2.1 +
 (↑(min (List.drop (nat_lit 0) (List.take g.2.1.toNat g.1)).length
 ((↑g.1.length : Int).toNat - g.2.1.toNat)) :
 Int) ≤
 (9223372036854775807 : Int)) ∧
 ((((1 : Int) ≤
 g.2.1 +
 (↑(min (List.drop (nat_lit 0) (List.take g.2.1.toNat g.1)).length
 ((↑g.1.length : Int).toNat - g.2.1.toNat)) :
 Int) ∧
 g.2.1 +
 (↑(min (List.drop (nat_lit 0) (List.take g.2.1.toNat g.1)).length
 ((↑g.1.length : Int).toNat - g.2.1.toNat)) :
 Int) ≤
 x.2.1) ∧
 (List.take g.2.1.toNat g.1 ++
 (List.take
 (min (List.drop (nat_lit 0) (List.take g.2.1.toNat g.1)).length
 ((↑g.1.length : Int).toNat - g.2.1.toNat))
 (List.drop (nat_lit 0) (List.take g.2.1.toNat g.1)) ++
 List.drop
 (g.2.1.toNat +
 (List.take
 (min (List.drop (nat_lit 0) (List.take g.2.1.toNat g.1)).length
 ((↑g.1.length : Int).toNat - g.2.1.toNat))
 (List.drop (nat_lit 0) (List.take g.2.1.toNat g.1))).length)
 g.1)).length =
 x.2.1.toNat ∧
 List.take
 (g.2.1 +
 (↑(min (List.drop (nat_lit 0) (List.take g.2.1.toNat g.1)).length
 ((↑g.1.length : Int).toNat - g.2.1.toNat)) :
 Int)).toNat
 (List.take g.2.1.toNat g.1 ++
 (List.take
 (min (List.drop (nat_lit 0) (List.take g.2.1.toNat g.1)).length
 ((↑g.1.length : Int).toNat - g.2.1.toNat))
 (List.drop (nat_lit 0) (List.take g.2.1.toNat g.1)) ++
 List.drop
 (g.2.1.toNat +
 (List.take
 (min (List.drop (nat_lit 0) (List.take g.2.1.toNat g.1)).length
 ((↑g.1.length : Int).toNat - g.2.1.toNat))
 (List.drop (nat_lit 0) (List.take g.2.1.toNat g.1))).length)
 g.1)) =
 List.replicate
 (g.2.1 +
 (↑(min (List.drop (nat_lit 0) (List.take g.2.1.toNat g.1)).length
 ((↑g.1.length : Int).toNat - g.2.1.toNat)) :
 Int)).toNat
 (x.1.getD (0 : Nat) (0 : Int))) ∧
 (x.2.1 -
 (g.2.1 +
 (↑(min (List.drop (nat_lit 0) (List.take g.2.1.toNat g.1)).length
 ((↑g.1.length : Int).toNat - g.2.1.toNat)) :
 Int))).toNat <
 (x.2.1 - g.2.1).toNat) ∧
 (True ∧
 g.2.1 +
 (↑(min (List.drop (nat_lit 0) (List.take g.2.1.toNat g.1)).length
 ((↑g.1.length : Int).toNat - g.2.1.toNat)) :
 Int) =
 g.2.1 +
 (↑(min (List.drop (nat_lit 0) (List.take g.2.1.toNat g.1)).length
 ((↑g.1.length : Int).toNat - g.2.1.toNat)) :
 Int) ∧
 True) ∧
 (List.take g.2.1.toNat g.1 ++
 (List.take
 (min (List.drop (nat_lit 0) (List.take g.2.1.toNat g.1)).length
 ((↑g.1.length : Int).toNat - g.2.1.toNat))
 (List.drop (nat_lit 0) (List.take g.2.1.toNat g.1)) ++
 List.drop
 (g.2.1.toNat +
 (List.take
 (min (List.drop (nat_lit 0) (List.take g.2.1.toNat g.1)).length
 ((↑g.1.length : Int).toNat - g.2.1.toNat))
 (List.drop (nat_lit 0) (List.take g.2.1.toNat g.1))).length)
 g.1) =
 List.take g.2.1.toNat g.1 ++
 (List.take
 (min (List.drop (nat_lit 0) (List.take g.2.1.toNat g.1)).length
 ((↑g.1.length : Int).toNat - g.2.1.toNat))
 (List.drop (nat_lit 0) (List.take g.2.1.toNat g.1)) ++
 List.drop
 (g.2.1.toNat +
 (List.take
 (min (List.drop (nat_lit 0) (List.take g.2.1.toNat g.1)).length
 ((↑g.1.length : Int).toNat - g.2.1.toNat))
 (List.drop (nat_lit 0) (List.take g.2.1.toNat g.1))).length)
 g.1) ∧
 True) ∧
 True) ∧
 (decide (g.2.1 < (↑g.1.length : Int)) = false →
 g.1 = List.replicate x.2.1.toNat (x.1.getD (0 : Nat) (0 : Int)))))

theorem E_rep_eq (x : HL (cRep : Ctr).as) : vc (fx_rep x) 1 26 Try.f26 (cRep) x = E_rep x := by kernel_rfl

def E_equale (x : List Int × List Int × Unit) : Prop :=
 (((↑x.1.length : Int) != (↑x.2.1.length : Int)) = true → false = decide (x.1 = x.2.1)) ∧
 (((↑x.1.length : Int) != (↑x.2.1.length : Int)) = false →
 ((((0 : Int) ≤ (0 : Int) ∧
 (0 : Int) ≤ (↑x.1.length : Int) ∧ List.take (Int.toNat (0 : Int)) x.1 = List.take (Int.toNat (0 : Int)) x.2.1) ∧
 True) ∧
 (x.1 = x.1 ∧ x.2.1 = x.2.1 ∧ (↑x.1.length : Int) = (↑x.1.length : Int) ∧ (0 : Int) = (0 : Int) ∧ True) ∧ True ∧ True) ∧
 ∀ (g : Int × Unit),
 (0 : Int) ≤ g.1 ∧ g.1 ≤ (↑x.1.length : Int) ∧ List.take g.1.toNat x.1 = List.take g.1.toNat x.2.1 →
 ((-9223372036854775808 : Int) ≤ g.1 ∧ g.1 ≤ (9223372036854775807 : Int)) ∧ True →
 (decide (g.1 < (↑x.1.length : Int)) = true →
 ((0 : Int) ≤ g.1 ∧ g.1 < (↑x.1.length : Int)) ∧
 ((0 : Int) ≤ g.1 ∧ g.1 < (↑x.2.1.length : Int)) ∧
 ((x.1.getD g.1.toNat (0 : Int) != x.2.1.getD g.1.toNat (0 : Int)) = true → false = decide (x.1 = x.2.1)) ∧
 ((x.1.getD g.1.toNat (0 : Int) != x.2.1.getD g.1.toNat (0 : Int)) = false →
 ((-9223372036854775808 : Int) ≤ g.1 + (1 : Int) ∧ g.1 + (1 : Int) ≤ (9223372036854775807 : Int)) ∧
 (((0 : Int) ≤ g.1 + (1 : Int) ∧
 g.1 + (1 : Int) ≤ (↑x.1.length : Int) ∧
 List.take (g.1 + (1 : Int)).toNat x.1 = List.take (g.1 + (1 : Int)).toNat x.2.1) ∧
 ((↑x.1.length : Int) - (g.1 + (1 : Int))).toNat < ((↑x.1.length : Int) - g.1).toNat) ∧
 (x.1 = x.1 ∧
 x.2.1 = x.2.1 ∧
 (↑x.1.length : Int) = (↑x.1.length : Int) ∧ g.1 + (1 : Int) = g.1 + (1 : Int) ∧ True) ∧
 True ∧ True)) ∧
 (decide (g.1 < (↑x.1.length : Int)) = false → true = decide (x.1 = x.2.1)))

theorem E_equale_eq (x : HL (cEqual : Ctr).as) : vc (fx_equale x) 1 10 Try.f10 (cEqual) x = E_equale x := by kernel_rfl

def E_equali (x : List Int × List Int × Unit) : Prop :=
 (((↑x.1.length : Int) != (↑x.2.1.length : Int)) = true → false = decide (x.1 = x.2.1)) ∧
 (((↑x.1.length : Int) != (↑x.2.1.length : Int)) = false →
 ((((0 : Int) ≤ (0 : Int) ∧
 (0 : Int) ≤ (↑x.1.length : Int) ∧ List.take (Int.toNat (0 : Int)) x.1 = List.take (Int.toNat (0 : Int)) x.2.1) ∧
 True) ∧
 (x.1 = x.1 ∧ x.2.1 = x.2.1 ∧ (↑x.1.length : Int) = (↑x.1.length : Int) ∧ (0 : Int) = (0 : Int) ∧ True) ∧ True ∧ True) ∧
 ∀ (g : Int × Unit),
 (0 : Int) ≤ g.1 ∧ g.1 ≤ (↑x.1.length : Int) ∧ List.take g.1.toNat x.1 = List.take g.1.toNat x.2.1 →
 ((-9223372036854775808 : Int) ≤ g.1 ∧ g.1 ≤ (9223372036854775807 : Int)) ∧ True →
 (decide (g.1 < (↑x.1.length : Int)) = true →
 ((0 : Int) ≤ g.1 ∧ g.1 < (↑x.1.length : Int)) ∧
 ((0 : Int) ≤ g.1 ∧ g.1 < (↑x.2.1.length : Int)) ∧
 ((x.1.getD g.1.toNat (0 : Int) != x.2.1.getD g.1.toNat (0 : Int)) = true → false = decide (x.1 = x.2.1)) ∧
 ((x.1.getD g.1.toNat (0 : Int) != x.2.1.getD g.1.toNat (0 : Int)) = false →
 ((-9223372036854775808 : Int) ≤ g.1 + (1 : Int) ∧ g.1 + (1 : Int) ≤ (9223372036854775807 : Int)) ∧
 (((0 : Int) ≤ g.1 + (1 : Int) ∧
 g.1 + (1 : Int) ≤ (↑x.1.length : Int) ∧
 List.take (g.1 + (1 : Int)).toNat x.1 = List.take (g.1 + (1 : Int)).toNat x.2.1) ∧
 ((↑x.1.length : Int) - (g.1 + (1 : Int))).toNat < ((↑x.1.length : Int) - g.1).toNat) ∧
 (x.1 = x.1 ∧
 x.2.1 = x.2.1 ∧
 (↑x.1.length : Int) = (↑x.1.length : Int) ∧ g.1 + (1 : Int) = g.1 + (1 : Int) ∧ True) ∧
 True ∧ True)) ∧
 (decide (g.1 < (↑x.1.length : Int)) = false → true = decide (x.1 = x.2.1)))

theorem E_equali_eq (x : HL (cEqual : Ctr).as) : vc (fx_equali x) 1 11 Try.f11 (cEqual) x = E_equali x := by kernel_rfl

def E_play (x : Int × Int × Bool × List (Int × Int × Int) × Unit) : Prop :=
 ((!decide (x.1 < (1 : Int))) = true → (!decide (x.1 < (1 : Int))) = true) ∧
 (decide (x.1 < (1 : Int)) = false → (!decide (x.1 < (1 : Int))) = true) ∧
 ((!(decide (x.1 < (1 : Int)) || decide ((16 : Int) < x.1))) = true → (!(decide (x.1 < (1 : Int)) || decide ((16 : Int) < x.1))) = true) ∧
 ((decide (x.1 < (1 : Int)) || decide ((16 : Int) < x.1)) = false → (!(decide (x.1 < (1 : Int)) || decide ((16 : Int) < x.1))) = true) ∧
 ((!(decide (x.1 < (1 : Int)) || decide ((16 : Int) < x.1) || decide (x.2.1 < (1 : Int)))) = true →
 (!(decide (x.1 < (1 : Int)) || decide ((16 : Int) < x.1) || decide (x.2.1 < (1 : Int)))) = true) ∧
 ((decide (x.1 < (1 : Int)) || decide ((16 : Int) < x.1) || decide (x.2.1 < (1 : Int))) = false →
 (!(decide (x.1 < (1 : Int)) || decide ((16 : Int) < x.1) || decide (x.2.1 < (1 : Int)))) = true) ∧
 ((decide (x.1 < (1 : Int)) || decide ((16 : Int) < x.1) || decide (x.2.1 < (1 : Int)) || decide ((16 : Int) < x.2.1)) = true →
 ([] : List Int) = (rplay x.1 x.2.1 x.2.2.1 x.2.2.2.1).1 ∧
 ([] : List Int) = (rplay x.1 x.2.1 x.2.2.1 x.2.2.2.1).2.1 ∧
 ([] : List Int) = (rplay x.1 x.2.1 x.2.2.1 x.2.2.2.1).2.2.1 ∧
 (2 : Int) = (rplay x.1 x.2.1 x.2.2.1 x.2.2.2.1).2.2.2.1) ∧
 ((decide (x.1 < (1 : Int)) || decide ((16 : Int) < x.1) || decide (x.2.1 < (1 : Int)) || decide ((16 : Int) < x.2.1)) =
 false →
 Holds
 ((((0 : Int) :: ([] : List Int)).set (0 : Nat) (-1 : Int)).length = (1 : Nat) ∧ (1 : Int) ≤ x.2.1 ∧ x.2.1 ≤ (16 : Int)) ∧
 Holds ((((0 : Int) :: ([] : List Int)).set (0 : Nat) (-1 : Int)).length = (1 : Nat) ∧ (1 : Int) ≤ x.1 ∧ x.1 ≤ (16 : Int)) ∧
 ((((0 : Int) ≤ (0 : Int) ∧
 (0 : Int) ≤ (↑x.2.2.2.1.length : Int) ∧
 rrun x.1 x.2.1 x.2.2.1 (List.take (Int.toNat (0 : Int)) x.2.2.2.1) =
 ((List.replicate x.2.1.toNat ((((0 : Int) :: ([] : List Int)).set (0 : Nat) (-1 : Int)).getD (0 : Nat) (0 : Int)),
 List.replicate x.1.toNat ((((0 : Int) :: ([] : List Int)).set (0 : Nat) (-1 : Int)).getD (0 : Nat) (0 : Int))),
 ([] : List Int))) ∧
 True) ∧
 (x.2.2.1 = x.2.2.1 ∧
 (True ∧ True) ∧
 True ∧
 x.2.2.2.1 = x.2.2.2.1 ∧
 (↑x.2.2.2.1.length : Int) = (↑x.2.2.2.1.length : Int) ∧ (0 : Int) = (0 : Int) ∧ True) ∧
 ((True ∧ True ∧ True) ∧
 List.replicate x.2.1.toNat ((((0 : Int) :: ([] : List Int)).set (0 : Nat) (-1 : Int)).getD (0 : Nat) (0 : Int)) =
 List.replicate x.2.1.toNat
 ((((0 : Int) :: ([] : List Int)).set (0 : Nat) (-1 : Int)).getD (0 : Nat) (0 : Int)) ∧
 List.replicate x.1.toNat ((((0 : Int) :: ([] : List Int)).set (0 : Nat) (-1 : Int)).getD (0 : Nat) (0 : Int)) =
 List.replicate x.1.toNat ((((0 : Int) :: ([] : List Int)).set (0 : Nat) (-1 : Int)).getD (0 : Nat) (0 : Int)) ∧
 ([] : List Int) = ([] : List Int) ∧ True) ∧
 True) ∧
 ∀ (g : (List Int × List Int) × List Int × Int × Unit),
 (0 : Int) ≤ g.2.2.1 ∧
 g.2.2.1 ≤ (↑x.2.2.2.1.length : Int) ∧
 rrun x.1 x.2.1 x.2.2.1 (List.take g.2.2.1.toNat x.2.2.2.1) = (g.1, g.2.1) →
 ((g.1.1.length ≤ (9223372036854775807 : Nat) ∧
 ∀ (x : Int), x ∈ g.1.1 → (-9223372036854775808 : Int) ≤ x ∧ x ≤ (9223372036854775807 : Int)) ∧
 g.1.2.length ≤ (9223372036854775807 : Nat) ∧
 ∀ (x : Int), x ∈ g.1.2 → (-9223372036854775808 : Int) ≤ x ∧ x ≤ (9223372036854775807 : Int)) ∧
 (g.2.1.length ≤ (9223372036854775807 : Nat) ∧
 ∀ (x : Int), x ∈ g.2.1 → (-9223372036854775808 : Int) ≤ x ∧ x ≤ (9223372036854775807 : Int)) ∧
 ((-9223372036854775808 : Int) ≤ g.2.2.1 ∧ g.2.2.1 ≤ (9223372036854775807 : Int)) ∧ True →
 (decide (g.2.2.1 < (↑x.2.2.2.1.length : Int)) = true →
 ((0 : Int) ≤ g.2.2.1 ∧ g.2.2.1 < (↑x.2.2.2.1.length : Int)) ∧
 (((x.2.2.2.1.getD g.2.2.1.toNat ((0 : Int), (0 : Int), (0 : Int))).1 != (1 : Int)) = true →
 ((x.2.2.2.1.getD g.2.2.1.toNat ((0 : Int), (0 : Int), (0 : Int))).1 != (1 : Int)) = true) ∧
 (((x.2.2.2.1.getD g.2.2.1.toNat ((0 : Int), (0 : Int), (0 : Int))).1 != (1 : Int)) = true →
 ((x.2.2.2.1.getD g.2.2.1.toNat ((0 : Int), (0 : Int), (0 : Int))).1 != (1 : Int)) = true) ∧
 (((x.2.2.2.1.getD g.2.2.1.toNat ((0 : Int), (0 : Int), (0 : Int))).1 != (1 : Int)) = true →
 ((x.2.2.2.1.getD g.2.2.1.toNat ((0 : Int), (0 : Int), (0 : Int))).1 != (1 : Int)) = true) ∧
 (((x.2.2.2.1.getD g.2.2.1.toNat ((0 : Int), (0 : Int), (0 : Int))).1 != (1 : Int) &&
 (x.2.2.2.1.getD g.2.2.1.toNat ((0 : Int), (0 : Int), (0 : Int))).1 != (2 : Int)) =
 true →
 (g.2.1.length + (((0 : Int) :: ([] : List Int)).set (0 : Nat) (5 : Int)).length ≤
 (9223372036854775807 : Nat) ∧
 (g.2.1.length + (((0 : Int) :: ([] : List Int)).set (0 : Nat) (5 : Int)).length +
 (g.2.1.length + (((0 : Int) :: ([] : List Int)).set (0 : Nat) (5 : Int)).length) /
 (4 : Nat) +
 (192 : Nat)) *
 (8 : Nat) ≤
 (281474976710656 : Nat)) ∧
 ((-9223372036854775808 : Int) ≤ g.2.2.1 + (1 : Int) ∧
 g.2.2.1 + (1 : Int) ≤ (9223372036854775807 : Int)) ∧
 (((0 : Int) ≤ g.2.2.1 + (1 : Int) ∧
 g.2.2.1 + (1 : Int) ≤ (↑x.2.2.2.1.length : Int) ∧
 rrun x.1 x.2.1 x.2.2.1
 (List.take (g.2.2.1 + (1 : Int)).toNat x.2.2.2.1) =
 ((g.1.1, g.1.2),
 g.2.1 ++ ((0 : Int) :: ([] : List Int)).set (0 : Nat) (5 : Int))) ∧
 ((↑x.2.2.2.1.length : Int) - (g.2.2.1 + (1 : Int))).toNat <
 ((↑x.2.2.2.1.length : Int) - g.2.2.1).toNat) ∧
 (x.2.2.1 = x.2.2.1 ∧
 (True ∧ True) ∧
 True ∧
 x.2.2.2.1 = x.2.2.2.1 ∧
 (↑x.2.2.2.1.length : Int) = (↑x.2.2.2.1.length : Int) ∧
 g.2.2.1 + (1 : Int) = g.2.2.1 + (1 : Int) ∧ True) ∧
 ((True ∧ True ∧ True) ∧
 g.1.1 = g.1.1 ∧
 g.1.2 = g.1.2 ∧
 g.2.1 ++ ((0 : Int) :: ([] : List Int)).set (0 : Nat) (5 : Int) =
 g.2.1 ++ ((0 : Int) :: ([] : List Int)).set (0 : Nat) (5 : Int) ∧
 True) ∧
 True) ∧
 (((x.2.2.2.1.getD g.2.2.1.toNat ((0 : Int), (0 : Int), (0 : Int))).1 != (1 : Int) &&
 (x.2.2.2.1.getD g.2.2.1.toNat ((0 : Int), (0 : Int), (0 : Int))).1 != (2 : Int)) =
 false →
 (decide
 ((x.2.2.2.1.getD g.2.2.1.toNat ((0 : Int), (0 : Int), (0 : Int))).2.1 <
 (0 : Int)) =
 false →
 (decide
 ((↑g.1.2.length : Int) ≤
 (x.2.2.2.1.getD g.2.2.1.toNat ((0 : Int), (0 : Int), (0 : Int))).2.1) =
 false →
 (decide
 ((x.2.2.2.1.getD g.2.2.1.toNat ((0 : Int), (0 : Int), (0 : Int))).2.2 <
 (0 : Int)) =
 false →
 (decide
 ((↑g.1.1.length : Int) ≤
 (x.2.2.2.1.getD g.2.2.1.toNat
 ((0 : Int), (0 : Int), (0 : Int))).2.2) =
 true →
 (g.2.1.length + (((0 : Int) :: ([] : List Int)).set (0 : Nat) (2 : Int)).length ≤
 (9223372036854775807 : Nat) ∧
 (g.2.1.length + (((0 : Int) :: ([] : List Int)).set (0 : Nat) (2 : Int)).length +
 (g.2.1.length +
 (((0 : Int) :: ([] : List Int)).set (0 : Nat) (2 : Int)).length) /
 (4 : Nat) +
 (192 : Nat)) *
 (8 : Nat) ≤
 (281474976710656 : Nat)) ∧
 ((-9223372036854775808 : Int) ≤ g.2.2.1 + (1 : Int) ∧
 g.2.2.1 + (1 : Int) ≤ (9223372036854775807 : Int)) ∧
 (((0 : Int) ≤ g.2.2.1 + (1 : Int) ∧
 g.2.2.1 + (1 : Int) ≤ (↑x.2.2.2.1.length : Int) ∧
 rrun x.1 x.2.1 x.2.2.1
 (List.take (g.2.2.1 + (1 : Int)).toNat x.2.2.2.1) =
 ((g.1.1, g.1.2),
 g.2.1 ++ ((0 : Int) :: ([] : List Int)).set (0 : Nat) (2 : Int))) ∧
 ((↑x.2.2.2.1.length : Int) - (g.2.2.1 + (1 : Int))).toNat <
 ((↑x.2.2.2.1.length : Int) - g.2.2.1).toNat) ∧
 (x.2.2.1 = x.2.2.1 ∧
 (True ∧ True) ∧
 True ∧
 x.2.2.2.1 = x.2.2.2.1 ∧
 (↑x.2.2.2.1.length : Int) = (↑x.2.2.2.1.length : Int) ∧
 g.2.2.1 + (1 : Int) = g.2.2.1 + (1 : Int) ∧ True) ∧
 ((True ∧ True ∧ True) ∧
 g.1.1 = g.1.1 ∧
 g.1.2 = g.1.2 ∧
 g.2.1 ++ ((0 : Int) :: ([] : List Int)).set (0 : Nat) (2 : Int) =
 g.2.1 ++ ((0 : Int) :: ([] : List Int)).set (0 : Nat) (2 : Int) ∧
 True) ∧
 True) ∧
 (decide
 ((↑g.1.1.length : Int) ≤
 (x.2.2.2.1.getD g.2.2.1.toNat
 ((0 : Int), (0 : Int), (0 : Int))).2.2) =
 false →
 ((((0 : Int) ≤ (0 : Int) ∧
 (0 : Int) ≤ (↑g.1.1.length : Int) ∧
 ([] : List Int) =
 held g.1.1
 (x.2.2.2.1.getD g.2.2.1.toNat
 ((0 : Int), (0 : Int), (0 : Int))).2.1
 (Int.toNat (0 : Int))) ∧
 True) ∧
 ((x.2.2.2.1.getD g.2.2.1.toNat
 ((0 : Int), (0 : Int), (0 : Int))).2.1 =
 (x.2.2.2.1.getD g.2.2.1.toNat
 ((0 : Int), (0 : Int), (0 : Int))).2.1 ∧
 True ∧
 True ∧
 (↑g.1.1.length : Int) = (↑g.1.1.length : Int) ∧
 (0 : Int) = (0 : Int) ∧ True) ∧
 (([] : List Int) = ([] : List Int) ∧
 (True ∧ True ∧ True) ∧
 g.1.1 = g.1.1 ∧
 g.1.2 = g.1.2 ∧
 ((x.2.2.2.1.getD g.2.2.1.toNat
 ((0 : Int), (0 : Int), (0 : Int))).1 =
 (x.2.2.2.1.getD g.2.2.1.toNat
 ((0 : Int), (0 : Int), (0 : Int))).1 ∧
 (x.2.2.2.1.getD g.2.2.1.toNat
 ((0 : Int), (0 : Int), (0 : Int))).2.1 =
 (x.2.2.2.1.getD g.2.2.1.toNat
 ((0 : Int), (0 : Int), (0 : Int))).2.1 ∧
 (x.2.2.2.1.getD g.2.2.1.toNat
 ((0 : Int), (0 : Int), (0 : Int))).2.2 =
 (x.2.2.2.1.getD g.2.2.1.toNat
 ((0 : Int), (0 : Int), (0 : Int))).2.2 ∧
 True) ∧
 g.2.1 = g.2.1 ∧
 ((x.2.2.2.1.getD g.2.2.1.toNat
 ((0 : Int), (0 : Int), (0 : Int))).1 =
 (x.2.2.2.1.getD g.2.2.1.toNat
 ((0 : Int), (0 : Int), (0 : Int))).1 ∧
 (x.2.2.2.1.getD g.2.2.1.toNat
 ((0 : Int), (0 : Int), (0 : Int))).2.1 =
 (x.2.2.2.1.getD g.2.2.1.toNat
 ((0 : Int), (0 : Int), (0 : Int))).2.1 ∧
 (x.2.2.2.1.getD g.2.2.1.toNat
 ((0 : Int), (0 : Int), (0 : Int))).2.2 =
 (x.2.2.2.1.getD g.2.2.1.toNat
 ((0 : Int), (0 : Int), (0 : Int))).2.2 ∧
 True) ∧
 True) ∧
 (True ∧ True) ∧
 ((x.2.2.2.1.getD g.2.2.1.toNat
 ((0 : Int), (0 : Int), (0 : Int))).1 =
 (x.2.2.2.1.getD g.2.2.1.toNat
 ((0 : Int), (0 : Int), (0 : Int))).1 ∧
 (x.2.2.2.1.getD g.2.2.1.toNat
 ((0 : Int), (0 : Int), (0 : Int))).2.1 =
 (x.2.2.2.1.getD g.2.2.1.toNat
 ((0 : Int), (0 : Int), (0 : Int))).2.1 ∧
 (x.2.2.2.1.getD g.2.2.1.toNat
 ((0 : Int), (0 : Int), (0 : Int))).2.2 =
 (x.2.2.2.1.getD g.2.2.1.toNat
 ((0 : Int), (0 : Int), (0 : Int))).2.2 ∧
 True) ∧
 x.2.2.1 = x.2.2.1 ∧
 True ∧
 (True ∧ True) ∧
 True ∧
 (0 : Int) = (0 : Int) ∧
 True ∧
 false = false ∧
 (True ∧ True) ∧
 (x.2.2.2.1.getD g.2.2.1.toNat
 ((0 : Int), (0 : Int), (0 : Int))).1 =
 (x.2.2.2.1.getD g.2.2.1.toNat
 ((0 : Int), (0 : Int), (0 : Int))).1 ∧
 ((x.2.2.2.1.getD g.2.2.1.toNat
 ((0 : Int), (0 : Int), (0 : Int))).1 !=
 (1 : Int)) =
 ((x.2.2.2.1.getD g.2.2.1.toNat
 ((0 : Int), (0 : Int), (0 : Int))).1 !=
 (1 : Int)) ∧
 ((x.2.2.2.1.getD g.2.2.1.toNat
 ((0 : Int), (0 : Int), (0 : Int))).1 !=
 (1 : Int)) =
 ((x.2.2.2.1.getD g.2.2.1.toNat
 ((0 : Int), (0 : Int), (0 : Int))).1 !=
 (1 : Int)) ∧
 True ∧
 True ∧
 True ∧
 ((x.2.2.2.1.getD g.2.2.1.toNat
 ((0 : Int), (0 : Int),
 (0 : Int))).1 !=
 (1 : Int) &&
 (x.2.2.2.1.getD g.2.2.1.toNat
 ((0 : Int), (0 : Int),
 (0 : Int))).1 !=
 (2 : Int)) =
 ((x.2.2.2.1.getD g.2.2.1.toNat
 ((0 : Int), (0 : Int),
 (0 : Int))).1 !=
 (1 : Int) &&
 (x.2.2.2.1.getD g.2.2.1.toNat
 ((0 : Int), (0 : Int),
 (0 : Int))).1 !=
 (2 : Int)) ∧
 false = false ∧
 (True ∧ True) ∧
 (x.2.2.2.1.getD g.2.2.1.toNat
 ((0 : Int), (0 : Int),
 (0 : Int))).2.1 =
 (x.2.2.2.1.getD
 g.2.2.1.toNat
 ((0 : Int), (0 : Int),
 (0 : Int))).2.1 ∧
 decide
 ((x.2.2.2.1.getD
 g.2.2.1.toNat
 ((0 : Int), (0 : Int),
 (0 : Int))).2.1 <
 (0 : Int)) =
 decide
 ((x.2.2.2.1.getD
 g.2.2.1.toNat
 ((0 : Int), (0 : Int),
 (0 : Int))).2.1 <
 (0 : Int)) ∧
 false = false ∧
 (True ∧ True) ∧
 (x.2.2.2.1.getD
 g.2.2.1.toNat
 ((0 : Int), (0 : Int),
 (0 : Int))).2.1 =
 (x.2.2.2.1.getD
 g.2.2.1.toNat
 ((0 : Int), (0 : Int),
 (0 : Int))).2.1 ∧
 (True ∧ True) ∧
 (True ∧ True) ∧
 (True ∧ True) ∧
 True ∧
 (↑g.1.2.length :
 Int) =
 (↑g.1.2.length :
 Int) ∧
 decide
 ((↑g.1.2.length :
 Int) ≤
 (x.2.2.2.1.getD
 g.2.2.1.toNat
 ((0 :
 Int),
 (0 :
 Int),
 (0 :
 Int))).2.1) =
 decide
 ((↑g.1.2.length :
 Int) ≤
 (x.2.2.2.1.getD
 g.2.2.1.toNat
 ((0 :
 Int),
 (0 :
 Int),
 (0 :
 Int))).2.1) ∧
 decide
 ((↑g.1.2.length :
 Int) ≤
 (x.2.2.2.1.getD
 g.2.2.1.toNat
 ((0 :
 Int),
 (0 :
 Int),
 (0 :
 Int))).2.1) =
 decide
 ((↑g.1.2.length :
 Int) ≤
 (x.2.2.2.1.getD
 g.2.2.1.toNat
 ((0 :
 Int),
 (0 :
 Int),
 (0 :
 Int))).2.1) ∧
 false = false ∧
 (True ∧ True) ∧
 (x.2.2.2.1.getD
 g.2.2.1.toNat
 ((0 :
 Int),
 (0 :
 Int),
 (0 :
 Int))).2.2 =
 (x.2.2.2.1.getD
 g.2.2.1.toNat
 ((0 :
 Int),
 (0 :
 Int),
 (0 :
 Int))).2.2 ∧
 decide
 ((x.2.2.2.1.getD
 g.2.2.1.toNat
 ((0 :
 Int),
 (0 :
 Int),
 (0 :
 Int))).2.2 <
 (0 :
 Int)) =
 decide
 ((x.2.2.2.1.getD
 g.2.2.1.toNat
 ((0 :
 Int),
 (0 :
 Int),
 (0 :
 Int))).2.2 <
 (0 :
 Int)) ∧
 decide
 ((x.2.2.2.1.getD
 g.2.2.1.toNat
 ((0 :
 Int),
 (0 :
 Int),
 (0 :
 Int))).2.2 <
 (0 :
 Int)) =
 decide
 ((x.2.2.2.1.getD
 g.2.2.1.toNat
 ((0 :
 Int),
 (0 :
 Int),
 (0 :
 Int))).2.2 <
 (0 :
 Int)) ∧
 false =
 false ∧
 (True ∧
 True) ∧
 (x.2.2.2.1.getD
 g.2.2.1.toNat
 ((0 :
 Int),
 (0 :
 Int),
 (0 :
 Int))).2.2 =
 (x.2.2.2.1.getD
 g.2.2.1.toNat
 ((0 :
 Int),
 (0 :
 Int),
 (0 :
 Int))).2.2 ∧
 (True ∧
 True) ∧
 (True ∧
 True) ∧
 (True ∧
 True) ∧
 True ∧
 (↑g.1.1.length :
 Int) =
 (↑g.1.1.length :
 Int) ∧
 decide
 ((↑g.1.1.length :
 Int) ≤
 (x.2.2.2.1.getD
 g.2.2.1.toNat
 ((0 :
 Int),
 (0 :
 Int),
 (0 :
 Int))).2.2) =
 decide
 ((↑g.1.1.length :
 Int) ≤
 (x.2.2.2.1.getD
 g.2.2.1.toNat
 ((0 :
 Int),
 (0 :
 Int),
 (0 :
 Int))).2.2) ∧
 decide
 ((↑g.1.1.length :
 Int) ≤
 (x.2.2.2.1.getD
 g.2.2.1.toNat
 ((0 :
 Int),
 (0 :
 Int),
 (0 :
 Int))).2.2) =
 decide
 ((↑g.1.1.length :
 Int) ≤
 (x.2.2.2.1.getD
 g.2.2.1.toNat
 ((0 :
 Int),
 (0 :
 Int),
 (0 :
 Int))).2.2) ∧
 (True ∧
 True) ∧
 (True ∧
 True) ∧
 (x.2.2.2.1.getD
 g.2.2.1.toNat
 ((0 :
 Int),
 (0 :
 Int),
 (0 :
 Int))).2.1 =
 (x.2.2.2.1.getD
 g.2.2.1.toNat
 ((0 :
 Int),
 (0 :
 Int),
 (0 :
 Int))).2.1 ∧
 True ∧
 True ∧
 True ∧
 True ∧
 True ∧
 True ∧
 True ∧
 True ∧
 True ∧
 True ∧
 True ∧
 True ∧
 True ∧
 True ∧
 True ∧
 True ∧
 True ∧
 True ∧
 True ∧
 True ∧
 True ∧
 True ∧
 True ∧
 True ∧
 True ∧
 True ∧
 True ∧
 True ∧
 True ∧
 True ∧
 True ∧
 True ∧
 True ∧
 True ∧
 True ∧
 True ∧
 True ∧
 True ∧
 True ∧
 True ∧
 True ∧
 True ∧
 True ∧
 True ∧
 True ∧
 True ∧
 True ∧
 True ∧
 True ∧
 True ∧
 True ∧
 True ∧
 True ∧
 True ∧
 True ∧
 True ∧
 True ∧
 True ∧
 True ∧
 True ∧
 True ∧
 True ∧
 True ∧
 True ∧
 True ∧
 True ∧
 True ∧
 True ∧
 True ∧
 True ∧
 True ∧
 True ∧
 True ∧
 True ∧
 True ∧
 True ∧
 True ∧
 True ∧
 True ∧
 True ∧
 True ∧
 True ∧
 True ∧
 True ∧
 True ∧
 True ∧
 True ∧
 True ∧
 True ∧
 True ∧
 True ∧
 True ∧
 True ∧
 True ∧
 True ∧
 True ∧
 True ∧
 True ∧
 True ∧
 True ∧
 True ∧
 True ∧
 True ∧
 True ∧
 True ∧
 True ∧
 True ∧
 True ∧
 True ∧
 True ∧
 True ∧
 True ∧
 x.2.2.1 =
 x.2.2.1 ∧
 True ∧
 True ∧
 True ∧
 True ∧
 True ∧
 True ∧
 True ∧
 True ∧
 True ∧
 (True ∧
 True) ∧
 True ∧
 True ∧
 (True ∧
 True) ∧
 True ∧
 True ∧
 True ∧
 True ∧
 True ∧
 True ∧
 True ∧
 True ∧
 True ∧
 True ∧
 True ∧
 True ∧
 True ∧
 True ∧
 True ∧
 True ∧
 True ∧
 True ∧
 True ∧
 True ∧
 True ∧
 True ∧
 x.2.2.2.1 =
 x.2.2.2.1 ∧
 (↑x.2.2.2.1.length :
 Int) =
 (↑x.2.2.2.1.length :
 Int) ∧
 g.2.2.1 =
 g.2.2.1 ∧
 true =
 true ∧
 True ∧
 ((x.2.2.2.1.getD
 g.2.2.1.toNat
 ((0 :
 Int),
 (0 :
 Int),
 (0 :
 Int))).1 =
 (x.2.2.2.1.getD
 g.2.2.1.toNat
 ((0 :
 Int),
 (0 :
 Int),
 (0 :
 Int))).1 ∧
 (x.2.2.2.1.getD
 g.2.2.1.toNat
 ((0 :
 Int),
 (0 :
 Int),
 (0 :
 Int))).2.1 =
 (x.2.2.2.1.getD
 g.2.2.1.toNat
 ((0 :
 Int),
 (0 :
 Int),
 (0 :
 Int))).2.1 ∧
 (x.2.2.2.1.getD
 g.2.2.1.toNat
 ((0 :
 Int),
 (0 :
 Int),
 (0 :
 Int))).2.2 =
 (x.2.2.2.1.getD
 g.2.2.1.toNat
 ((0 :
 Int),
 (0 :
 Int),
 (0 :
 Int))).2.2 ∧
 True) ∧
 True ∧
 (True ∧
 True) ∧
 ((x.2.2.2.1.getD
 g.2.2.1.toNat
 ((0 :
 Int),
 (0 :
 Int),
 (0 :
 Int))).1 =
 (x.2.2.2.1.getD
 g.2.2.1.toNat
 ((0 :
 Int),
 (0 :
 Int),
 (0 :
 Int))).1 ∧
 (x.2.2.2.1.getD
 g.2.2.1.toNat
 ((0 :
 Int),
 (0 :
 Int),
 (0 :
 Int))).2.1 =
 (x.2.2.2.1.getD
 g.2.2.1.toNat
 ((0 :
 Int),
 (0 :
 Int),
 (0 :
 Int))).2.1 ∧
 (x.2.2.2.1.getD
 g.2.2.1.toNat
 ((0 :
 Int),
 (0 :
 Int),
 (0 :
 Int))).2.2 =
 (x.2.2.2.1.getD
 g.2.2.1.toNat
 ((0 :
 Int),
 (0 :
 Int),
 (0 :
 Int))).2.2 ∧
 True) ∧
 x.2.2.1 =
 x.2.2.1 ∧
 True ∧
 True ∧
 True ∧
 True ∧
 True ∧
 True ∧
 True ∧
 True ∧
 True ∧
 True ∧
 True ∧
 True ∧
 True ∧
 True) ∧
 ∀ (g_1 : List Int × Int × Unit),
 (0 : Int) ≤ g_1.2.1 ∧
 g_1.2.1 ≤ (↑g.1.1.length : Int) ∧
 g_1.1 =
 held g.1.1
 (x.2.2.2.1.getD g.2.2.1.toNat
 ((0 : Int), (0 : Int), (0 : Int))).2.1
 g_1.2.1.toNat →
 (g_1.1.length ≤ (9223372036854775807 : Nat) ∧
 ∀ (x : Int),
 x ∈ g_1.1 →
 (-9223372036854775808 : Int) ≤ x ∧ x ≤ (9223372036854775807 : Int)) ∧
 ((-9223372036854775808 : Int) ≤ g_1.2.1 ∧
 g_1.2.1 ≤ (9223372036854775807 : Int)) ∧
 True →
 (decide (g_1.2.1 < (↑g.1.1.length : Int)) = true →
 ((0 : Int) ≤ g_1.2.1 ∧ g_1.2.1 < (↑g.1.1.length : Int)) ∧
 ((g.1.1.getD g_1.2.1.toNat (0 : Int) ==
 (x.2.2.2.1.getD g.2.2.1.toNat
 ((0 : Int), (0 : Int), (0 : Int))).2.1) =
 true →
 (g_1.1.length +
 (((0 : Int) :: ([] : List Int)).set (0 : Nat)
 g_1.2.1).length ≤
 (9223372036854775807 : Nat) ∧
 (g_1.1.length +
 (((0 : Int) :: ([] : List Int)).set (0 : Nat)
 g_1.2.1).length +
 (g_1.1.length +
 (((0 : Int) :: ([] : List Int)).set (0 : Nat)
 g_1.2.1).length) /
 (4 : Nat) +
 (192 : Nat)) *
 (8 : Nat) ≤
 (281474976710656 : Nat)) ∧
 ((-9223372036854775808 : Int) ≤ g_1.2.1 + (1 : Int) ∧
 g_1.2.1 + (1 : Int) ≤ (9223372036854775807 : Int)) ∧
 (((0 : Int) ≤ g_1.2.1 + (1 : Int) ∧
 g_1.2.1 + (1 : Int) ≤ (↑g.1.1.length : Int) ∧
 g_1.1 ++
 ((0 : Int) :: ([] : List Int)).set (0 : Nat)
 g_1.2.1 =
 held g.1.1
 (x.2.2.2.1.getD g.2.2.1.toNat
 ((0 : Int), (0 : Int), (0 : Int))).2.1
 (g_1.2.1 + (1 : Int)).toNat) ∧
 ((↑g.1.1.length : Int) - (g_1.2.1 + (1 : Int))).toNat <
 ((↑g.1.1.length : Int) - g_1.2.1).toNat) ∧
 ((x.2.2.2.1.getD g.2.2.1.toNat
 ((0 : Int), (0 : Int), (0 : Int))).2.1 =
 (x.2.2.2.1.getD g.2.2.1.toNat
 ((0 : Int), (0 : Int), (0 : Int))).2.1 ∧
 True ∧
 True ∧
 (↑g.1.1.length : Int) = (↑g.1.1.length : Int) ∧
 g_1.2.1 + (1 : Int) = g_1.2.1 + (1 : Int) ∧
 True) ∧
 (g_1.1 ++
 ((0 : Int) :: ([] : List Int)).set (0 : Nat)
 g_1.2.1 =
 g_1.1 ++
 ((0 : Int) :: ([] : List Int)).set (0 : Nat)
 g_1.2.1 ∧
 (True ∧ True ∧ True) ∧
 g.1.1 = g.1.1 ∧
 g.1.2 = g.1.2 ∧
 ((x.2.2.2.1.getD g.2.2.1.toNat
 ((0 : Int), (0 : Int), (0 : Int))).1 =
 (x.2.2.2.1.getD g.2.2.1.toNat
 ((0 : Int), (0 : Int), (0 : Int))).1 ∧
 (x.2.2.2.1.getD g.2.2.1.toNat
 ((0 : Int), (0 : Int),
 (0 : Int))).2.1 =
 (x.2.2.2.1.getD g.2.2.1.toNat
 ((0 : Int), (0 : Int),
 (0 : Int))).2.1 ∧
 (x.2.2.2.1.getD g.2.2.1.toNat
 ((0 : Int), (0 : Int),
 (0 : Int))).2.2 =
 (x.2.2.2.1.getD g.2.2.1.toNat
 ((0 : Int), (0 : Int),
 (0 : Int))).2.2 ∧
 True) ∧
 g.2.1 = g.2.1 ∧
 ((x.2.2.2.1.getD g.2.2.1.toNat
 ((0 : Int), (0 : Int), (0 : Int))).1 =
 (x.2.2.2.1.getD g.2.2.1.toNat
 ((0 : Int), (0 : Int), (0 : Int))).1 ∧
 (x.2.2.2.1.getD g.2.2.1.toNat
 ((0 : Int), (0 : Int),
 (0 : Int))).2.1 =
 (x.2.2.2.1.getD
 g.2.2.1.toNat
 ((0 : Int), (0 : Int),
 (0 : Int))).2.1 ∧
 (x.2.2.2.1.getD g.2.2.1.toNat
 ((0 : Int), (0 : Int),
 (0 : Int))).2.2 =
 (x.2.2.2.1.getD
 g.2.2.1.toNat
 ((0 : Int), (0 : Int),
 (0 : Int))).2.2 ∧
 True) ∧
 True) ∧
 (True ∧ True) ∧
 ((x.2.2.2.1.getD g.2.2.1.toNat
 ((0 : Int), (0 : Int), (0 : Int))).1 =
 (x.2.2.2.1.getD g.2.2.1.toNat
 ((0 : Int), (0 : Int), (0 : Int))).1 ∧
 (x.2.2.2.1.getD g.2.2.1.toNat
 ((0 : Int), (0 : Int), (0 : Int))).2.1 =
 (x.2.2.2.1.getD g.2.2.1.toNat
 ((0 : Int), (0 : Int), (0 : Int))).2.1 ∧
 (x.2.2.2.1.getD g.2.2.1.toNat
 ((0 : Int), (0 : Int), (0 : Int))).2.2 =
 (x.2.2.2.1.getD g.2.2.1.toNat
 ((0 : Int), (0 : Int), (0 : Int))).2.2 ∧
 True) ∧
 x.2.2.1 = x.2.2.1 ∧
 True ∧
 (True ∧ True) ∧
 True ∧
 (0 : Int) = (0 : Int) ∧
 True ∧
 false = false ∧
 (True ∧ True) ∧
 (x.2.2.2.1.getD
 g.2.2.1.toNat
 ((0 : Int), (0 : Int),
 (0 : Int))).1 =
 (x.2.2.2.1.getD
 g.2.2.1.toNat
 ((0 : Int), (0 : Int),
 (0 : Int))).1 ∧
 ((x.2.2.2.1.getD
 g.2.2.1.toNat
 ((0 : Int), (0 : Int),
 (0 : Int))).1 !=
 (1 : Int)) =
 ((x.2.2.2.1.getD
 g.2.2.1.toNat
 ((0 : Int), (0 : Int),
 (0 : Int))).1 !=
 (1 : Int)) ∧
 ((x.2.2.2.1.getD
 g.2.2.1.toNat
 ((0 : Int), (0 : Int),
 (0 : Int))).1 !=
 (1 : Int)) =
 ((x.2.2.2.1.getD
 g.2.2.1.toNat
 ((0 : Int), (0 : Int),
 (0 : Int))).1 !=
 (1 : Int)) ∧
 True ∧
 True ∧
 True ∧
 ((x.2.2.2.1.getD
 g.2.2.1.toNat
 ((0 : Int),
 (0 : Int),
 (0 :
 Int))).1 !=
 (1 : Int) &&
 (x.2.2.2.1.getD
 g.2.2.1.toNat
 ((0 : Int),
 (0 : Int),
 (0 :
 Int))).1 !=
 (2 : Int)) =
 ((x.2.2.2.1.getD
 g.2.2.1.toNat
 ((0 : Int),
 (0 : Int),
 (0 :
 Int))).1 !=
 (1 : Int) &&
 (x.2.2.2.1.getD
 g.2.2.1.toNat
 ((0 : Int),
 (0 : Int),
 (0 :
 Int))).1 !=
 (2 : Int)) ∧
 false = false ∧
 (True ∧ True) ∧
 (x.2.2.2.1.getD
 g.2.2.1.toNat
 ((0 : Int),
 (0 : Int),
 (0 :
 Int))).2.1 =
 (x.2.2.2.1.getD
 g.2.2.1.toNat
 ((0 : Int),
 (0 : Int),
 (0 :
 Int))).2.1 ∧
 decide
 ((x.2.2.2.1.getD
 g.2.2.1.toNat
 ((0 :
 Int),
 (0 :
 Int),
 (0 :
 Int))).2.1 <
 (0 : Int)) =
 decide
 ((x.2.2.2.1.getD
 g.2.2.1.toNat
 ((0 :
 Int),
 (0 :
 Int),
 (0 :
 Int))).2.1 <
 (0 : Int)) ∧
 false = false ∧
 (True ∧ True) ∧
 (x.2.2.2.1.getD
 g.2.2.1.toNat
 ((0 :
 Int),
 (0 :
 Int),
 (0 :
 Int))).2.1 =
 (x.2.2.2.1.getD
 g.2.2.1.toNat
 ((0 :
 Int),
 (0 :
 Int),
 (0 :
 Int))).2.1 ∧
 (True ∧
 True) ∧
 (True ∧
 True) ∧
 (True ∧
 True) ∧
 True ∧
 (↑g.1.2.length :
 Int) =
 (↑g.1.2.length :
 Int) ∧
 decide
 ((↑g.1.2.length :
 Int) ≤
 (x.2.2.2.1.getD
 g.2.2.1.toNat
 ((0 :
 Int),
 (0 :
 Int),
 (0 :
 Int))).2.1) =
 decide
 ((↑g.1.2.length :
 Int) ≤
 (x.2.2.2.1.getD
 g.2.2.1.toNat
 ((0 :
 Int),
 (0 :
 Int),
 (0 :
 Int))).2.1) ∧
 decide
 ((↑g.1.2.length :
 Int) ≤
 (x.2.2.2.1.getD
 g.2.2.1.toNat
 ((0 :
 Int),
 (0 :
 Int),
 (0 :
 Int))).2.1) =
 decide
 ((↑g.1.2.length :
 Int) ≤
 (x.2.2.2.1.getD
 g.2.2.1.toNat
 ((0 :
 Int),
 (0 :
 Int),
 (0 :
 Int))).2.1) ∧
 false =
 false ∧
 (True ∧
 True) ∧
 (x.2.2.2.1.getD
 g.2.2.1.toNat
 ((0 :
 Int),
 (0 :
 Int),
 (0 :
 Int))).2.2 =
 (x.2.2.2.1.getD
 g.2.2.1.toNat
 ((0 :
 Int),
 (0 :
 Int),
 (0 :
 Int))).2.2 ∧
 decide
 ((x.2.2.2.1.getD
 g.2.2.1.toNat
 ((0 :
 Int),
 (0 :
 Int),
 (0 :
 Int))).2.2 <
 (0 :
 Int)) =
 decide
 ((x.2.2.2.1.getD
 g.2.2.1.toNat
 ((0 :
 Int),
 (0 :
 Int),
 (0 :
 Int))).2.2 <
 (0 :
 Int)) ∧
 decide
 ((x.2.2.2.1.getD
 g.2.2.1.toNat
 ((0 :
 Int),
 (0 :
 Int),
 (0 :
 Int))).2.2 <
 (0 :
 Int)) =
 decide
 ((x.2.2.2.1.getD
 g.2.2.1.toNat
 ((0 :
 Int),
 (0 :
 Int),
 (0 :
 Int))).2.2 <
 (0 :
 Int)) ∧
 false =
 false ∧
 (True ∧
 True) ∧
 (x.2.2.2.1.getD
 g.2.2.1.toNat
 ((0 :
 Int),
 (0 :
 Int),
 (0 :
 Int))).2.2 =
 (x.2.2.2.1.getD
 g.2.2.1.toNat
 ((0 :
 Int),
 (0 :
 Int),
 (0 :
 Int))).2.2 ∧
 (True ∧
 True) ∧
 (True ∧
 True) ∧
 (True ∧
 True) ∧
 True ∧
 (↑g.1.1.length :
 Int) =
 (↑g.1.1.length :
 Int) ∧
 decide
 ((↑g.1.1.length :
 Int) ≤
 (x.2.2.2.1.getD
 g.2.2.1.toNat
 ((0 :
 Int),
 (0 :
 Int),
 (0 :
 Int))).2.2) =
 decide
 ((↑g.1.1.length :
 Int) ≤
 (x.2.2.2.1.getD
 g.2.2.1.toNat
 ((0 :
 Int),
 (0 :
 Int),
 (0 :
 Int))).2.2) ∧
 decide
 ((↑g.1.1.length :
 Int) ≤
 (x.2.2.2.1.getD
 g.2.2.1.toNat
 ((0 :
 Int),
 (0 :
 Int),
 (0 :
 Int))).2.2) =
 decide
 ((↑g.1.1.length :
 Int) ≤
 (x.2.2.2.1.getD
 g.2.2.1.toNat
 ((0 :
 Int),
 (0 :
 Int),
 (0 :
 Int))).2.2) ∧
 (True ∧
 True) ∧
 (True ∧
 True) ∧
 (x.2.2.2.1.getD
 g.2.2.1.toNat
 ((0 :
 Int),
 (0 :
 Int),
 (0 :
 Int))).2.1 =
 (x.2.2.2.1.getD
 g.2.2.1.toNat
 ((0 :
 Int),
 (0 :
 Int),
 (0 :
 Int))).2.1 ∧
 True ∧
 True ∧
 True ∧
 True ∧
 True ∧
 True ∧
 True ∧
 True ∧
 True ∧
 True ∧
 True ∧
 True ∧
 True ∧
 True ∧
 True ∧
 True ∧
 True ∧
 True ∧
 True ∧
 True ∧
 True ∧
 True ∧
 True ∧
 True ∧
 True ∧
 True ∧
 True ∧
 True ∧
 True ∧
 True ∧
 True ∧
 True ∧
 True ∧
 True ∧
 True ∧
 True ∧
 True ∧
 True ∧
 True ∧
 True ∧
 True ∧
 True ∧
 True ∧
 True ∧
 True ∧
 True ∧
 True ∧
 True ∧
 True ∧
 True ∧
 True ∧
 True ∧
 True ∧
 True ∧
 True ∧
 True ∧
 True ∧
 True ∧
 True ∧
 True ∧
 True ∧
 True ∧
 True ∧
 True ∧
 True ∧
 True ∧
 True ∧
 True ∧
 True ∧
 True ∧
 True ∧
 True ∧
 True ∧
 True ∧
 True ∧
 True ∧
 True ∧
 True ∧
 True ∧
 True ∧
 True ∧
 True ∧
 True ∧
 True ∧
 True ∧
 True ∧
 True ∧
 True ∧
 True ∧
 True ∧
 True ∧
 True ∧
 True ∧
 True ∧
 True ∧
 True ∧
 True ∧
 True ∧
 True ∧
 True ∧
 True ∧
 True ∧
 True ∧
 True ∧
 True ∧
 True ∧
 True ∧
 True ∧
 True ∧
 True ∧
 True ∧
 True ∧
 x.2.2.1 =
 x.2.2.1 ∧
 True ∧
 True ∧
 True ∧
 True ∧
 True ∧
 True ∧
 True ∧
 True ∧
 True ∧
 (True ∧
 True) ∧
 True ∧
 True ∧
 (True ∧
 True) ∧
 True ∧
 True ∧
 True ∧
 True ∧
 True ∧
 True ∧
 True ∧
 True ∧
 True ∧
 True ∧
 True ∧
 True ∧
 True ∧
 True ∧
 True ∧
 True ∧
 True ∧
 True ∧
 True ∧
 True ∧
 True ∧
 True ∧
 x.2.2.2.1 =
 x.2.2.2.1 ∧
 (↑x.2.2.2.1.length :
 Int) =
 (↑x.2.2.2.1.length :
 Int) ∧
 g.2.2.1 =
 g.2.2.1 ∧
 true =
 true ∧
 True ∧
 ((x.2.2.2.1.getD
 g.2.2.1.toNat
 ((0 :
 Int),
 (0 :
 Int),
 (0 :
 Int))).1 =
 (x.2.2.2.1.getD
 g.2.2.1.toNat
 ((0 :
 Int),
 (0 :
 Int),
 (0 :
 Int))).1 ∧
 (x.2.2.2.1.getD
 g.2.2.1.toNat
 ((0 :
 Int),
 (0 :
 Int),
 (0 :
 Int))).2.1 =
 (x.2.2.2.1.getD
 g.2.2.1.toNat
 ((0 :
 Int),
 (0 :
 Int),
 (0 :
 Int))).2.1 ∧
 (x.2.2.2.1.getD
 g.2.2.1.toNat
 ((0 :
 Int),
 (0 :
 Int),
 (0 :
 Int))).2.2 =
 (x.2.2.2.1.getD
 g.2.2.1.toNat
 ((0 :
 Int),
 (0 :
 Int),
 (0 :
 Int))).2.2 ∧
 True) ∧
 True ∧
 (True ∧
 True) ∧
 ((x.2.2.2.1.getD
 g.2.2.1.toNat
 ((0 :
 Int),
 (0 :
 Int),
 (0 :
 Int))).1 =
 (x.2.2.2.1.getD
 g.2.2.1.toNat
 ((0 :
 Int),
 (0 :
 Int),
 (0 :
 Int))).1 ∧
 (x.2.2.2.1.getD
 g.2.2.1.toNat
 ((0 :
 Int),
 (0 :
 Int),
 (0 :
 Int))).2.1 =
 (x.2.2.2.1.getD
 g.2.2.1.toNat
 ((0 :
 Int),
 (0 :
 Int),
 (0 :
 Int))).2.1 ∧
 (x.2.2.2.1.getD
 g.2.2.1.toNat
 ((0 :
 Int),
 (0 :
 Int),
 (0 :
 Int))).2.2 =
 (x.2.2.2.1.getD
 g.2.2.1.toNat
 ((0 :
 Int),
 (0 :
 Int),
 (0 :
 Int))).2.2 ∧
 True) ∧
 x.2.2.1 =
 x.2.2.1 ∧
 True ∧
 True ∧
 True ∧
 True ∧
 True ∧
 True ∧
 True ∧
 True ∧
 True ∧
 True ∧
 True ∧
 True ∧
 True ∧
 True) ∧
 ((g.1.1.getD g_1.2.1.toNat (0 : Int) ==
 (x.2.2.2.1.getD g.2.2.1.toNat
 ((0 : Int), (0 : Int), (0 : Int))).2.1) =
 false →
 ((-9223372036854775808 : Int) ≤ g_1.2.1 + (1 : Int) ∧
 g_1.2.1 + (1 : Int) ≤ (9223372036854775807 : Int)) ∧
 (((0 : Int) ≤ g_1.2.1 + (1 : Int) ∧
 g_1.2.1 + (1 : Int) ≤ (↑g.1.1.length : Int) ∧
 g_1.1 =
 held g.1.1
 (x.2.2.2.1.getD g.2.2.1.toNat
 ((0 : Int), (0 : Int), (0 : Int))).2.1
 (g_1.2.1 + (1 : Int)).toNat) ∧
 ((↑g.1.1.length : Int) - (g_1.2.1 + (1 : Int))).toNat <
 ((↑g.1.1.length : Int) - g_1.2.1).toNat) ∧
 ((x.2.2.2.1.getD g.2.2.1.toNat
 ((0 : Int), (0 : Int), (0 : Int))).2.1 =
 (x.2.2.2.1.getD g.2.2.1.toNat
 ((0 : Int), (0 : Int), (0 : Int))).2.1 ∧
 True ∧
 True ∧
 (↑g.1.1.length : Int) = (↑g.1.1.length : Int) ∧
 g_1.2.1 + (1 : Int) = g_1.2.1 + (1 : Int) ∧
 True) ∧
 (g_1.1 = g_1.1 ∧
 (True ∧ True ∧ True) ∧
 g.1.1 = g.1.1 ∧
 g.1.2 = g.1.2 ∧
 ((x.2.2.2.1.getD g.2.2.1.toNat
 ((0 : Int), (0 : Int), (0 : Int))).1 =
 (x.2.2.2.1.getD g.2.2.1.toNat
 ((0 : Int), (0 : Int), (0 : Int))).1 ∧
 (x.2.2.2.1.getD g.2.2.1.toNat
 ((0 : Int), (0 : Int),
 (0 : Int))).2.1 =
 (x.2.2.2.1.getD g.2.2.1.toNat
 ((0 : Int), (0 : Int),
 (0 : Int))).2.1 ∧
 (x.2.2.2.1.getD g.2.2.1.toNat
 ((0 : Int), (0 : Int),
 (0 : Int))).2.2 =
 (x.2.2.2.1.getD g.2.2.1.toNat
 ((0 : Int), (0 : Int),
 (0 : Int))).2.2 ∧
 True) ∧
 g.2.1 = g.2.1 ∧
 ((x.2.2.2.1.getD g.2.2.1.toNat
 ((0 : Int), (0 : Int), (0 : Int))).1 =
 (x.2.2.2.1.getD g.2.2.1.toNat
 ((0 : Int), (0 : Int), (0 : Int))).1 ∧
 (x.2.2.2.1.getD g.2.2.1.toNat
 ((0 : Int), (0 : Int),
 (0 : Int))).2.1 =
 (x.2.2.2.1.getD g.2.2.1.toNat
 ((0 : Int), (0 : Int),
 (0 : Int))).2.1 ∧
 (x.2.2.2.1.getD g.2.2.1.toNat
 ((0 : Int), (0 : Int),
 (0 : Int))).2.2 =
 (x.2.2.2.1.getD
 g.2.2.1.toNat
 ((0 : Int), (0 : Int),
 (0 : Int))).2.2 ∧
 True) ∧
 True) ∧
 (True ∧ True) ∧
 ((x.2.2.2.1.getD g.2.2.1.toNat
 ((0 : Int), (0 : Int), (0 : Int))).1 =
 (x.2.2.2.1.getD g.2.2.1.toNat
 ((0 : Int), (0 : Int), (0 : Int))).1 ∧
 (x.2.2.2.1.getD g.2.2.1.toNat
 ((0 : Int), (0 : Int), (0 : Int))).2.1 =
 (x.2.2.2.1.getD g.2.2.1.toNat
 ((0 : Int), (0 : Int), (0 : Int))).2.1 ∧
 (x.2.2.2.1.getD g.2.2.1.toNat
 ((0 : Int), (0 : Int), (0 : Int))).2.2 =
 (x.2.2.2.1.getD g.2.2.1.toNat
 ((0 : Int), (0 : Int), (0 : Int))).2.2 ∧
 True) ∧
 x.2.2.1 = x.2.2.1 ∧
 True ∧
 (True ∧ True) ∧
 True ∧
 (0 : Int) = (0 : Int) ∧
 True ∧
 false = false ∧
 (True ∧ True) ∧
 (x.2.2.2.1.getD g.2.2.1.toNat
 ((0 : Int), (0 : Int),
 (0 : Int))).1 =
 (x.2.2.2.1.getD
 g.2.2.1.toNat
 ((0 : Int), (0 : Int),
 (0 : Int))).1 ∧
 ((x.2.2.2.1.getD
 g.2.2.1.toNat
 ((0 : Int), (0 : Int),
 (0 : Int))).1 !=
 (1 : Int)) =
 ((x.2.2.2.1.getD
 g.2.2.1.toNat
 ((0 : Int), (0 : Int),
 (0 : Int))).1 !=
 (1 : Int)) ∧
 ((x.2.2.2.1.getD
 g.2.2.1.toNat
 ((0 : Int), (0 : Int),
 (0 : Int))).1 !=
 (1 : Int)) =
 ((x.2.2.2.1.getD
 g.2.2.1.toNat
 ((0 : Int), (0 : Int),
 (0 : Int))).1 !=
 (1 : Int)) ∧
 True ∧
 True ∧
 True ∧
 ((x.2.2.2.1.getD
 g.2.2.1.toNat
 ((0 : Int),
 (0 : Int),
 (0 : Int))).1 !=
 (1 : Int) &&
 (x.2.2.2.1.getD
 g.2.2.1.toNat
 ((0 : Int),
 (0 : Int),
 (0 : Int))).1 !=
 (2 : Int)) =
 ((x.2.2.2.1.getD
 g.2.2.1.toNat
 ((0 : Int),
 (0 : Int),
 (0 : Int))).1 !=
 (1 : Int) &&
 (x.2.2.2.1.getD
 g.2.2.1.toNat
 ((0 : Int),
 (0 : Int),
 (0 : Int))).1 !=
 (2 : Int)) ∧
 false = false ∧
 (True ∧ True) ∧
 (x.2.2.2.1.getD
 g.2.2.1.toNat
 ((0 : Int),
 (0 : Int),
 (0 :
 Int))).2.1 =
 (x.2.2.2.1.getD
 g.2.2.1.toNat
 ((0 : Int),
 (0 : Int),
 (0 :
 Int))).2.1 ∧
 decide
 ((x.2.2.2.1.getD
 g.2.2.1.toNat
 ((0 :
 Int),
 (0 :
 Int),
 (0 :
 Int))).2.1 <
 (0 : Int)) =
 decide
 ((x.2.2.2.1.getD
 g.2.2.1.toNat
 ((0 :
 Int),
 (0 :
 Int),
 (0 :
 Int))).2.1 <
 (0 : Int)) ∧
 false = false ∧
 (True ∧ True) ∧
 (x.2.2.2.1.getD
 g.2.2.1.toNat
 ((0 :
 Int),
 (0 :
 Int),
 (0 :
 Int))).2.1 =
 (x.2.2.2.1.getD
 g.2.2.1.toNat
 ((0 :
 Int),
 (0 :
 Int),
 (0 :
 Int))).2.1 ∧
 (True ∧ True) ∧
 (True ∧
 True) ∧
 (True ∧
 True) ∧
 True ∧
 (↑g.1.2.length :
 Int) =
 (↑g.1.2.length :
 Int) ∧
 decide
 ((↑g.1.2.length :
 Int) ≤
 (x.2.2.2.1.getD
 g.2.2.1.toNat
 ((0 :
 Int),
 (0 :
 Int),
 (0 :
 Int))).2.1) =
 decide
 ((↑g.1.2.length :
 Int) ≤
 (x.2.2.2.1.getD
 g.2.2.1.toNat
 ((0 :
 Int),
 (0 :
 Int),
 (0 :
 Int))).2.1) ∧
 decide
 ((↑g.1.2.length :
 Int) ≤
 (x.2.2.2.1.getD
 g.2.2.1.toNat
 ((0 :
 Int),
 (0 :
 Int),
 (0 :
 Int))).2.1) =
 decide
 ((↑g.1.2.length :
 Int) ≤
 (x.2.2.2.1.getD
 g.2.2.1.toNat
 ((0 :
 Int),
 (0 :
 Int),
 (0 :
 Int))).2.1) ∧
 false =
 false ∧
 (True ∧
 True) ∧
 (x.2.2.2.1.getD
 g.2.2.1.toNat
 ((0 :
 Int),
 (0 :
 Int),
 (0 :
 Int))).2.2 =
 (x.2.2.2.1.getD
 g.2.2.1.toNat
 ((0 :
 Int),
 (0 :
 Int),
 (0 :
 Int))).2.2 ∧
 decide
 ((x.2.2.2.1.getD
 g.2.2.1.toNat
 ((0 :
 Int),
 (0 :
 Int),
 (0 :
 Int))).2.2 <
 (0 :
 Int)) =
 decide
 ((x.2.2.2.1.getD
 g.2.2.1.toNat
 ((0 :
 Int),
 (0 :
 Int),
 (0 :
 Int))).2.2 <
 (0 :
 Int)) ∧
 decide
 ((x.2.2.2.1.getD
 g.2.2.1.toNat
 ((0 :
 Int),
 (0 :
 Int),
 (0 :
 Int))).2.2 <
 (0 :
 Int)) =
 decide
 ((x.2.2.2.1.getD
 g.2.2.1.toNat
 ((0 :
 Int),
 (0 :
 Int),
 (0 :
 Int))).2.2 <
 (0 :
 Int)) ∧
 false =
 false ∧
 (True ∧
 True) ∧
 (x.2.2.2.1.getD
 g.2.2.1.toNat
 ((0 :
 Int),
 (0 :
 Int),
 (0 :
 Int))).2.2 =
 (x.2.2.2.1.getD
 g.2.2.1.toNat
 ((0 :
 Int),
 (0 :
 Int),
 (0 :
 Int))).2.2 ∧
 (True ∧
 True) ∧
 (True ∧
 True) ∧
 (True ∧
 True) ∧
 True ∧
 (↑g.1.1.length :
 Int) =
 (↑g.1.1.length :
 Int) ∧
 decide
 ((↑g.1.1.length :
 Int) ≤
 (x.2.2.2.1.getD
 g.2.2.1.toNat
 ((0 :
 Int),
 (0 :
 Int),
 (0 :
 Int))).2.2) =
 decide
 ((↑g.1.1.length :
 Int) ≤
 (x.2.2.2.1.getD
 g.2.2.1.toNat
 ((0 :
 Int),
 (0 :
 Int),
 (0 :
 Int))).2.2) ∧
 decide
 ((↑g.1.1.length :
 Int) ≤
 (x.2.2.2.1.getD
 g.2.2.1.toNat
 ((0 :
 Int),
 (0 :
 Int),
 (0 :
 Int))).2.2) =
 decide
 ((↑g.1.1.length :
 Int) ≤
 (x.2.2.2.1.getD
 g.2.2.1.toNat
 ((0 :
 Int),
 (0 :
 Int),
 (0 :
 Int))).2.2) ∧
 (True ∧
 True) ∧
 (True ∧
 True) ∧
 (x.2.2.2.1.getD
 g.2.2.1.toNat
 ((0 :
 Int),
 (0 :
 Int),
 (0 :
 Int))).2.1 =
 (x.2.2.2.1.getD
 g.2.2.1.toNat
 ((0 :
 Int),
 (0 :
 Int),
 (0 :
 Int))).2.1 ∧
 True ∧
 True ∧
 True ∧
 True ∧
 True ∧
 True ∧
 True ∧
 True ∧
 True ∧
 True ∧
 True ∧
 True ∧
 True ∧
 True ∧
 True ∧
 True ∧
 True ∧
 True ∧
 True ∧
 True ∧
 True ∧
 True ∧
 True ∧
 True ∧
 True ∧
 True ∧
 True ∧
 True ∧
 True ∧
 True ∧
 True ∧
 True ∧
 True ∧
 True ∧
 True ∧
 True ∧
 True ∧
 True ∧
 True ∧
 True ∧
 True ∧
 True ∧
 True ∧
 True ∧
 True ∧
 True ∧
 True ∧
 True ∧
 True ∧
 True ∧
 True ∧
 True ∧
 True ∧
 True ∧
 True ∧
 True ∧
 True ∧
 True ∧
 True ∧
 True ∧
 True ∧
 True ∧
 True ∧
 True ∧
 True ∧
 True ∧
 True ∧
 True ∧
 True ∧
 True ∧
 True ∧
 True ∧
 True ∧
 True ∧
 True ∧
 True ∧
 True ∧
 True ∧
 True ∧
 True ∧
 True ∧
 True ∧
 True ∧
 True ∧
 True ∧
 True ∧
 True ∧
 True ∧
 True ∧
 True ∧
 True ∧
 True ∧
 True ∧
 True ∧
 True ∧
 True ∧
 True ∧
 True ∧
 True ∧
 True ∧
 True ∧
 True ∧
 True ∧
 True ∧
 True ∧
 True ∧
 True ∧
 True ∧
 True ∧
 True ∧
 True ∧
 True ∧
 x.2.2.1 =
 x.2.2.1 ∧
 True ∧
 True ∧
 True ∧
 True ∧
 True ∧
 True ∧
 True ∧
 True ∧
 True ∧
 (True ∧
 True) ∧
 True ∧
 True ∧
 (True ∧
 True) ∧
 True ∧
 True ∧
 True ∧
 True ∧
 True ∧
 True ∧
 True ∧
 True ∧
 True ∧
 True ∧
 True ∧
 True ∧
 True ∧
 True ∧
 True ∧
 True ∧
 True ∧
 True ∧
 True ∧
 True ∧
 True ∧
 True ∧
 x.2.2.2.1 =
 x.2.2.2.1 ∧
 (↑x.2.2.2.1.length :
 Int) =
 (↑x.2.2.2.1.length :
 Int) ∧
 g.2.2.1 =
 g.2.2.1 ∧
 true =
 true ∧
 True ∧
 ((x.2.2.2.1.getD
 g.2.2.1.toNat
 ((0 :
 Int),
 (0 :
 Int),
 (0 :
 Int))).1 =
 (x.2.2.2.1.getD
 g.2.2.1.toNat
 ((0 :
 Int),
 (0 :
 Int),
 (0 :
 Int))).1 ∧
 (x.2.2.2.1.getD
 g.2.2.1.toNat
 ((0 :
 Int),
 (0 :
 Int),
 (0 :
 Int))).2.1 =
 (x.2.2.2.1.getD
 g.2.2.1.toNat
 ((0 :
 Int),
 (0 :
 Int),
 (0 :
 Int))).2.1 ∧
 (x.2.2.2.1.getD
 g.2.2.1.toNat
 ((0 :
 Int),
 (0 :
 Int),
 (0 :
 Int))).2.2 =
 (x.2.2.2.1.getD
 g.2.2.1.toNat
 ((0 :
 Int),
 (0 :
 Int),
 (0 :
 Int))).2.2 ∧
 True) ∧
 True ∧
 (True ∧
 True) ∧
 ((x.2.2.2.1.getD
 g.2.2.1.toNat
 ((0 :
 Int),
 (0 :
 Int),
 (0 :
 Int))).1 =
 (x.2.2.2.1.getD
 g.2.2.1.toNat
 ((0 :
 Int),
 (0 :
 Int),
 (0 :
 Int))).1 ∧
 (x.2.2.2.1.getD
 g.2.2.1.toNat
 ((0 :
 Int),
 (0 :
 Int),
 (0 :
 Int))).2.1 =
 (x.2.2.2.1.getD
 g.2.2.1.toNat
 ((0 :
 Int),
 (0 :
 Int),
 (0 :
 Int))).2.1 ∧
 (x.2.2.2.1.getD
 g.2.2.1.toNat
 ((0 :
 Int),
 (0 :
 Int),
 (0 :
 Int))).2.2 =
 (x.2.2.2.1.getD
 g.2.2.1.toNat
 ((0 :
 Int),
 (0 :
 Int),
 (0 :
 Int))).2.2 ∧
 True) ∧
 x.2.2.1 =
 x.2.2.1 ∧
 True ∧
 True ∧
 True ∧
 True ∧
 True ∧
 True ∧
 True ∧
 True ∧
 True ∧
 True ∧
 True ∧
 True ∧
 True ∧
 True)) ∧
 (decide (g_1.2.1 < (↑g.1.1.length : Int)) = false →
 (((x.2.2.2.1.getD g.2.2.1.toNat
 ((0 : Int), (0 : Int), (0 : Int))).1 ==
 (2 : Int)) =
 true →
 ((0 : Int) ≤
 (x.2.2.2.1.getD g.2.2.1.toNat
 ((0 : Int), (0 : Int), (0 : Int))).2.2 ∧
 (x.2.2.2.1.getD g.2.2.1.toNat
 ((0 : Int), (0 : Int), (0 : Int))).2.2 <
 (↑g.1.1.length : Int)) ∧
 ((g.1.1.getD
 (x.2.2.2.1.getD g.2.2.1.toNat
 ((0 : Int), (0 : Int), (0 : Int))).2.2.toNat
 (0 : Int) !=
 (x.2.2.2.1.getD g.2.2.1.toNat
 ((0 : Int), (0 : Int), (0 : Int))).2.1) =
 false →
 ((0 : Int) ≤
 (x.2.2.2.1.getD g.2.2.1.toNat
 ((0 : Int), (0 : Int), (0 : Int))).2.1 ∧
 (x.2.2.2.1.getD g.2.2.1.toNat
 ((0 : Int), (0 : Int), (0 : Int))).2.1 <
 (↑g.1.2.length : Int)) ∧
 (decide
 ((0 : Int) ≤
 g.1.2.getD
 (x.2.2.2.1.getD g.2.2.1.toNat
 ((0 : Int), (0 : Int),
 (0 : Int))).2.1.toNat
 (0 : Int)) =
 true →
 (g.2.1.length +
 (((0 : Int) :: ([] : List Int)).set (0 : Nat)
 (3 : Int)).length ≤
 (9223372036854775807 : Nat) ∧
 (g.2.1.length +
 (((0 : Int) :: ([] : List Int)).set (0 : Nat)
 (3 : Int)).length +
 (g.2.1.length +
 (((0 : Int) :: ([] : List Int)).set (0 : Nat)
 (3 : Int)).length) /
 (4 : Nat) +
 (192 : Nat)) *
 (8 : Nat) ≤
 (281474976710656 : Nat)) ∧
 ((-9223372036854775808 : Int) ≤ g.2.2.1 + (1 : Int) ∧
 g.2.2.1 + (1 : Int) ≤
 (9223372036854775807 : Int)) ∧
 (((0 : Int) ≤ g.2.2.1 + (1 : Int) ∧
 g.2.2.1 + (1 : Int) ≤
 (↑x.2.2.2.1.length : Int) ∧
 rrun x.1 x.2.1 x.2.2.1
 (List.take (g.2.2.1 + (1 : Int)).toNat
 x.2.2.2.1) =
 ((g.1.1, g.1.2),
 g.2.1 ++
 ((0 : Int) :: ([] : List Int)).set (0 : Nat)
 (3 : Int))) ∧
 ((↑x.2.2.2.1.length : Int) -
 (g.2.2.1 + (1 : Int))).toNat <
 ((↑x.2.2.2.1.length : Int) -
 g.2.2.1).toNat) ∧
 (x.2.2.1 = x.2.2.1 ∧
 (True ∧ True) ∧
 True ∧
 x.2.2.2.1 = x.2.2.2.1 ∧
 (↑x.2.2.2.1.length : Int) =
 (↑x.2.2.2.1.length : Int) ∧
 g.2.2.1 + (1 : Int) =
 g.2.2.1 + (1 : Int) ∧
 True) ∧
 ((True ∧ True ∧ True) ∧
 g.1.1 = g.1.1 ∧
 g.1.2 = g.1.2 ∧
 g.2.1 ++
 ((0 : Int) :: ([] : List Int)).set
 (0 : Nat) (3 : Int) =
 g.2.1 ++
 ((0 : Int) :: ([] : List Int)).set
 (0 : Nat) (3 : Int) ∧
 True) ∧
 True) ∧
 (decide
 ((0 : Int) ≤
 g.1.2.getD
 (x.2.2.2.1.getD g.2.2.1.toNat
 ((0 : Int), (0 : Int),
 (0 : Int))).2.1.toNat
 (0 : Int)) =
 false →
 ((0 : Int) ≤
 (x.2.2.2.1.getD g.2.2.1.toNat
 ((0 : Int), (0 : Int), (0 : Int))).2.2 ∧
 (x.2.2.2.1.getD g.2.2.1.toNat
 ((0 : Int), (0 : Int), (0 : Int))).2.2 <
 (↑g.1.1.length : Int)) ∧
 (g.2.1.length +
 (((0 : Int) :: ([] : List Int)).set (0 : Nat)
 (0 : Int)).length ≤
 (9223372036854775807 : Nat) ∧
 (g.2.1.length +
 (((0 : Int) :: ([] : List Int)).set (0 : Nat)
 (0 : Int)).length +
 (g.2.1.length +
 (((0 : Int) :: ([] : List Int)).set
 (0 : Nat) (0 : Int)).length) /
 (4 : Nat) +
 (192 : Nat)) *
 (8 : Nat) ≤
 (281474976710656 : Nat)) ∧
 ((-9223372036854775808 : Int) ≤
 g.2.2.1 + (1 : Int) ∧
 g.2.2.1 + (1 : Int) ≤
 (9223372036854775807 : Int)) ∧
 (((0 : Int) ≤ g.2.2.1 + (1 : Int) ∧
 g.2.2.1 + (1 : Int) ≤
 (↑x.2.2.2.1.length : Int) ∧
 rrun x.1 x.2.1 x.2.2.1
 (List.take (g.2.2.1 + (1 : Int)).toNat
 x.2.2.2.1) =
 ((g.1.1.set
 (x.2.2.2.1.getD
 g.2.2.1.toNat
 ((0 : Int), (0 : Int),
 (0 : Int))).2.2.toNat
 (-1 : Int),
 g.1.2),
 g.2.1 ++
 ((0 : Int) :: ([] : List Int)).set
 (0 : Nat) (0 : Int))) ∧
 ((↑x.2.2.2.1.length : Int) -
 (g.2.2.1 + (1 : Int))).toNat <
 ((↑x.2.2.2.1.length : Int) -
 g.2.2.1).toNat) ∧
 (x.2.2.1 = x.2.2.1 ∧
 (True ∧ True) ∧
 True ∧
 x.2.2.2.1 = x.2.2.2.1 ∧
 (↑x.2.2.2.1.length : Int) =
 (↑x.2.2.2.1.length : Int) ∧
 g.2.2.1 + (1 : Int) =
 g.2.2.1 + (1 : Int) ∧
 True) ∧
 ((True ∧ True ∧ True) ∧
 g.1.1.set
 (x.2.2.2.1.getD
 g.2.2.1.toNat
 ((0 : Int), (0 : Int),
 (0 : Int))).2.2.toNat
 (-1 : Int) =
 g.1.1.set
 (x.2.2.2.1.getD
 g.2.2.1.toNat
 ((0 : Int), (0 : Int),
 (0 : Int))).2.2.toNat
 (-1 : Int) ∧
 g.1.2 = g.1.2 ∧
 g.2.1 ++
 ((0 : Int) :: ([] : List Int)).set
 (0 : Nat) (0 : Int) =
 g.2.1 ++
 ((0 : Int) :: ([] : List Int)).set
 (0 : Nat) (0 : Int) ∧
 True) ∧
 True)) ∧
 ((g.1.1.getD
 (x.2.2.2.1.getD g.2.2.1.toNat
 ((0 : Int), (0 : Int), (0 : Int))).2.2.toNat
 (0 : Int) !=
 (x.2.2.2.1.getD g.2.2.1.toNat
 ((0 : Int), (0 : Int), (0 : Int))).2.1) =
 !false →
 (g.2.1.length +
 (((0 : Int) :: ([] : List Int)).set (0 : Nat)
 (3 : Int)).length ≤
 (9223372036854775807 : Nat) ∧
 (g.2.1.length +
 (((0 : Int) :: ([] : List Int)).set (0 : Nat)
 (3 : Int)).length +
 (g.2.1.length +
 (((0 : Int) :: ([] : List Int)).set (0 : Nat)
 (3 : Int)).length) /
 (4 : Nat) +
 (192 : Nat)) *
 (8 : Nat) ≤
 (281474976710656 : Nat)) ∧
 ((-9223372036854775808 : Int) ≤ g.2.2.1 + (1 : Int) ∧
 g.2.2.1 + (1 : Int) ≤ (9223372036854775807 : Int)) ∧
 (((0 : Int) ≤ g.2.2.1 + (1 : Int) ∧
 g.2.2.1 + (1 : Int) ≤
 (↑x.2.2.2.1.length : Int) ∧
 rrun x.1 x.2.1 x.2.2.1
 (List.take (g.2.2.1 + (1 : Int)).toNat
 x.2.2.2.1) =
 ((g.1.1, g.1.2),
 g.2.1 ++
 ((0 : Int) :: ([] : List Int)).set (0 : Nat)
 (3 : Int))) ∧
 ((↑x.2.2.2.1.length : Int) -
 (g.2.2.1 + (1 : Int))).toNat <
 ((↑x.2.2.2.1.length : Int) -
 g.2.2.1).toNat) ∧
 (x.2.2.1 = x.2.2.1 ∧
 (True ∧ True) ∧
 True ∧
 x.2.2.2.1 = x.2.2.2.1 ∧
 (↑x.2.2.2.1.length : Int) =
 (↑x.2.2.2.1.length : Int) ∧
 g.2.2.1 + (1 : Int) =
 g.2.2.1 + (1 : Int) ∧
 True) ∧
 ((True ∧ True ∧ True) ∧
 g.1.1 = g.1.1 ∧
 g.1.2 = g.1.2 ∧
 g.2.1 ++
 ((0 : Int) :: ([] : List Int)).set (0 : Nat)
 (3 : Int) =
 g.2.1 ++
 ((0 : Int) :: ([] : List Int)).set (0 : Nat)
 (3 : Int) ∧
 True) ∧
 True)) ∧
 (((x.2.2.2.1.getD g.2.2.1.toNat
 ((0 : Int), (0 : Int), (0 : Int))).1 ==
 (2 : Int)) =
 false →
 Holds True ∧
 (decide
 ((0 : Int) ≤
 idx g_1.1
 (x.2.2.2.1.getD g.2.2.1.toNat
 ((0 : Int), (0 : Int), (0 : Int))).2.2) =
 true →
 (g.2.1.length +
 (((0 : Int) :: ([] : List Int)).set (0 : Nat)
 (6 : Int)).length ≤
 (9223372036854775807 : Nat) ∧
 (g.2.1.length +
 (((0 : Int) :: ([] : List Int)).set (0 : Nat)
 (6 : Int)).length +
 (g.2.1.length +
 (((0 : Int) :: ([] : List Int)).set (0 : Nat)
 (6 : Int)).length) /
 (4 : Nat) +
 (192 : Nat)) *
 (8 : Nat) ≤
 (281474976710656 : Nat)) ∧
 ((-9223372036854775808 : Int) ≤ g.2.2.1 + (1 : Int) ∧
 g.2.2.1 + (1 : Int) ≤ (9223372036854775807 : Int)) ∧
 (((0 : Int) ≤ g.2.2.1 + (1 : Int) ∧
 g.2.2.1 + (1 : Int) ≤
 (↑x.2.2.2.1.length : Int) ∧
 rrun x.1 x.2.1 x.2.2.1
 (List.take (g.2.2.1 + (1 : Int)).toNat
 x.2.2.2.1) =
 ((g.1.1, g.1.2),
 g.2.1 ++
 ((0 : Int) :: ([] : List Int)).set (0 : Nat)
 (6 : Int))) ∧
 ((↑x.2.2.2.1.length : Int) -
 (g.2.2.1 + (1 : Int))).toNat <
 ((↑x.2.2.2.1.length : Int) -
 g.2.2.1).toNat) ∧
 (x.2.2.1 = x.2.2.1 ∧
 (True ∧ True) ∧
 True ∧
 x.2.2.2.1 = x.2.2.2.1 ∧
 (↑x.2.2.2.1.length : Int) =
 (↑x.2.2.2.1.length : Int) ∧
 g.2.2.1 + (1 : Int) =
 g.2.2.1 + (1 : Int) ∧
 True) ∧
 ((True ∧ True ∧ True) ∧
 g.1.1 = g.1.1 ∧
 g.1.2 = g.1.2 ∧
 g.2.1 ++
 ((0 : Int) :: ([] : List Int)).set (0 : Nat)
 (6 : Int) =
 g.2.1 ++
 ((0 : Int) :: ([] : List Int)).set (0 : Nat)
 (6 : Int) ∧
 True) ∧
 True) ∧
 (decide
 ((0 : Int) ≤
 idx g_1.1
 (x.2.2.2.1.getD g.2.2.1.toNat
 ((0 : Int), (0 : Int), (0 : Int))).2.2) =
 false →
 (x.2.2.1 = true →
 (decide ((0 : Int) < (↑g_1.1.length : Int)) = true →
 Holds ((0 : Nat) < g_1.1.length) ∧
 (decide
 ((x.2.2.2.1.getD g.2.2.1.toNat
 ((0 : Int), (0 : Int),
 (0 : Int))).2.2 <
 mx g_1.1) =
 true →
 (g.2.1.length +
 (((0 : Int) :: ([] : List Int)).set (0 : Nat)
 (8 : Int)).length ≤
 (9223372036854775807 : Nat) ∧
 (g.2.1.length +
 (((0 : Int) :: ([] : List Int)).set
 (0 : Nat) (8 : Int)).length +
 (g.2.1.length +
 (((0 : Int) :: ([] : List Int)).set
 (0 : Nat) (8 : Int)).length) /
 (4 : Nat) +
 (192 : Nat)) *
 (8 : Nat) ≤
 (281474976710656 : Nat)) ∧
 ((-9223372036854775808 : Int) ≤
 g.2.2.1 + (1 : Int) ∧
 g.2.2.1 + (1 : Int) ≤
 (9223372036854775807 : Int)) ∧
 (((0 : Int) ≤ g.2.2.1 + (1 : Int) ∧
 g.2.2.1 + (1 : Int) ≤
 (↑x.2.2.2.1.length : Int) ∧
 rrun x.1 x.2.1 x.2.2.1
 (List.take
 (g.2.2.1 + (1 : Int)).toNat
 x.2.2.2.1) =
 ((g.1.1, g.1.2),
 g.2.1 ++
 ((0 : Int) :: ([] : List Int)).set
 (0 : Nat) (8 : Int))) ∧
 ((↑x.2.2.2.1.length : Int) -
 (g.2.2.1 + (1 : Int))).toNat <
 ((↑x.2.2.2.1.length : Int) -
 g.2.2.1).toNat) ∧
 (x.2.2.1 = x.2.2.1 ∧
 (True ∧ True) ∧
 True ∧
 x.2.2.2.1 = x.2.2.2.1 ∧
 (↑x.2.2.2.1.length : Int) =
 (↑x.2.2.2.1.length :
 Int) ∧
 g.2.2.1 + (1 : Int) =
 g.2.2.1 + (1 : Int) ∧
 True) ∧
 ((True ∧ True ∧ True) ∧
 g.1.1 = g.1.1 ∧
 g.1.2 = g.1.2 ∧
 g.2.1 ++
 ((0 : Int) ::
 ([] : List Int)).set
 (0 : Nat) (8 : Int) =
 g.2.1 ++
 ((0 : Int) ::
 ([] : List Int)).set
 (0 : Nat) (8 : Int) ∧
 True) ∧
 True) ∧
 (decide
 ((x.2.2.2.1.getD g.2.2.1.toNat
 ((0 : Int), (0 : Int),
 (0 : Int))).2.2 <
 mx g_1.1) =
 false →
 ((0 : Int) ≤
 (x.2.2.2.1.getD g.2.2.1.toNat
 ((0 : Int), (0 : Int),
 (0 : Int))).2.1 ∧
 (x.2.2.2.1.getD g.2.2.1.toNat
 ((0 : Int), (0 : Int),
 (0 : Int))).2.1 <
 (↑g.1.2.length : Int)) ∧
 (decide
 ((0 : Int) ≤
 g.1.2.getD
 (x.2.2.2.1.getD
 g.2.2.1.toNat
 ((0 : Int), (0 : Int),
 (0 : Int))).2.1.toNat
 (0 : Int)) =
 true →
 ((0 : Int) ≤
 (x.2.2.2.1.getD
 g.2.2.1.toNat
 ((0 : Int), (0 : Int),
 (0 : Int))).2.1 ∧
 (x.2.2.2.1.getD g.2.2.1.toNat
 ((0 : Int), (0 : Int),
 (0 : Int))).2.1 <
 (↑g.1.2.length : Int)) ∧
 ((g.1.2.getD
 (x.2.2.2.1.getD
 g.2.2.1.toNat
 ((0 : Int), (0 : Int),
 (0 : Int))).2.1.toNat
 (0 : Int) !=
 (x.2.2.2.1.getD
 g.2.2.1.toNat
 ((0 : Int), (0 : Int),
 (0 : Int))).2.2) =
 true →
 (g.2.1.length +
 (((0 : Int) ::
 ([] : List Int)).set
 (0 : Nat) (3 : Int)).length ≤
 (9223372036854775807 : Nat) ∧
 (g.2.1.length +
 (((0 : Int) ::
 ([] : List Int)).set
 (0 : Nat)
 (3 : Int)).length +
 (g.2.1.length +
 (((0 : Int) ::
 ([] :
 List Int)).set
 (0 : Nat)
 (3 : Int)).length) /
 (4 : Nat) +
 (192 : Nat)) *
 (8 : Nat) ≤
 (281474976710656 : Nat)) ∧
 ((-9223372036854775808 : Int) ≤
 g.2.2.1 + (1 : Int) ∧
 g.2.2.1 + (1 : Int) ≤
 (9223372036854775807 : Int)) ∧
 (((0 : Int) ≤
 g.2.2.1 + (1 : Int) ∧
 g.2.2.1 + (1 : Int) ≤
 (↑x.2.2.2.1.length :
 Int) ∧
 rrun x.1 x.2.1
 x.2.2.1
 (List.take
 (g.2.2.1 +
 (1 : Int)).toNat
 x.2.2.2.1) =
 ((g.1.1, g.1.2),
 g.2.1 ++
 ((0 : Int) ::
 ([] :
 List Int)).set
 (0 : Nat)
 (3 : Int))) ∧
 ((↑x.2.2.2.1.length :
 Int) -
 (g.2.2.1 +
 (1 : Int))).toNat <
 ((↑x.2.2.2.1.length :
 Int) -
 g.2.2.1).toNat) ∧
 (x.2.2.1 = x.2.2.1 ∧
 (True ∧ True) ∧
 True ∧
 x.2.2.2.1 =
 x.2.2.2.1 ∧
 (↑x.2.2.2.1.length :
 Int) =
 (↑x.2.2.2.1.length :
 Int) ∧
 g.2.2.1 +
 (1 : Int) =
 g.2.2.1 +
 (1 : Int) ∧
 True) ∧
 ((True ∧ True ∧ True) ∧
 g.1.1 = g.1.1 ∧
 g.1.2 = g.1.2 ∧
 g.2.1 ++
 ((0 : Int) ::
 ([] :
 List
 Int)).set
 (0 : Nat)
 (3 : Int) =
 g.2.1 ++
 ((0 : Int) ::
 ([] :
 List
 Int)).set
 (0 : Nat)
 (3 : Int) ∧
 True) ∧
 True) ∧
 ((g.1.2.getD
 (x.2.2.2.1.getD
 g.2.2.1.toNat
 ((0 : Int), (0 : Int),
 (0 : Int))).2.1.toNat
 (0 : Int) !=
 (x.2.2.2.1.getD
 g.2.2.1.toNat
 ((0 : Int), (0 : Int),
 (0 : Int))).2.2) =
 false →
 ((0 : Int) ≤
 (x.2.2.2.1.getD
 g.2.2.1.toNat
 ((0 : Int), (0 : Int),
 (0 : Int))).2.2 ∧
 (x.2.2.2.1.getD
 g.2.2.1.toNat
 ((0 : Int), (0 : Int),
 (0 : Int))).2.2 <
 (↑g.1.1.length : Int)) ∧
 (decide
 ((0 : Int) ≤
 g.1.1.getD
 (x.2.2.2.1.getD
 g.2.2.1.toNat
 ((0 : Int),
 (0 : Int),
 (0 :
 Int))).2.2.toNat
 (0 : Int)) =
 true →
 ((0 : Int) ≤
 (x.2.2.2.1.getD
 g.2.2.1.toNat
 ((0 : Int), (0 : Int),
 (0 : Int))).2.1 ∧
 (x.2.2.2.1.getD
 g.2.2.1.toNat
 ((0 : Int), (0 : Int),
 (0 : Int))).2.1 <
 (↑g.1.2.length : Int)) ∧
 (g.2.1.length +
 (((0 : Int) ::
 ([] :
 List Int)).set
 (0 : Nat)
 (7 : Int)).length ≤
 (9223372036854775807 :
 Nat) ∧
 (g.2.1.length +
 (((0 : Int) ::
 ([] :
 List
 Int)).set
 (0 : Nat)
 (7 :
 Int)).length +
 (g.2.1.length +
 (((0 : Int) ::
 ([] :
 List
 Int)).set
 (0 : Nat)
 (7 :
 Int)).length) /
 (4 : Nat) +
 (192 : Nat)) *
 (8 : Nat) ≤
 (281474976710656 : Nat)) ∧
 ((-9223372036854775808 : Int) ≤
 g.2.2.1 +
 (1 : Int) ∧
 g.2.2.1 + (1 : Int) ≤
 (9223372036854775807 :
 Int)) ∧
 (((0 : Int) ≤
 g.2.2.1 +
 (1 : Int) ∧
 g.2.2.1 +
 (1 : Int) ≤
 (↑x.2.2.2.1.length :
 Int) ∧
 rrun x.1 x.2.1
 x.2.2.1
 (List.take
 (g.2.2.1 +
 (1 :
 Int)).toNat
 x.2.2.2.1) =
 ((g.1.1,
 g.1.2.set
 (x.2.2.2.1.getD
 g.2.2.1.toNat
 ((0 :
 Int),
 (0 :
 Int),
 (0 :
 Int))).2.1.toNat
 (x.2.2.2.1.getD
 g.2.2.1.toNat
 ((0 :
 Int),
 (0 :
 Int),
 (0 :
 Int))).2.2),
 g.2.1 ++
 ((0 : Int) ::
 ([] :
 List
 Int)).set
 (0 : Nat)
 (7 : Int))) ∧
 ((↑x.2.2.2.1.length :
 Int) -
 (g.2.2.1 +
 (1 :
 Int))).toNat <
 ((↑x.2.2.2.1.length :
 Int) -
 g.2.2.1).toNat) ∧
 (x.2.2.1 =
 x.2.2.1 ∧
 (True ∧ True) ∧
 True ∧
 x.2.2.2.1 =
 x.2.2.2.1 ∧
 (↑x.2.2.2.1.length :
 Int) =
 (↑x.2.2.2.1.length :
 Int) ∧
 g.2.2.1 +
 (1 :
 Int) =
 g.2.2.1 +
 (1 :
 Int) ∧
 True) ∧
 ((True ∧ True ∧ True) ∧
 g.1.1 =
 g.1.1 ∧
 g.1.2.set
 (x.2.2.2.1.getD
 g.2.2.1.toNat
 ((0 :
 Int),
 (0 :
 Int),
 (0 :
 Int))).2.1.toNat
 (x.2.2.2.1.getD
 g.2.2.1.toNat
 ((0 :
 Int),
 (0 :
 Int),
 (0 :
 Int))).2.2 =
 g.1.2.set
 (x.2.2.2.1.getD
 g.2.2.1.toNat
 ((0 :
 Int),
 (0 :
 Int),
 (0 :
 Int))).2.1.toNat
 (x.2.2.2.1.getD
 g.2.2.1.toNat
 ((0 :
 Int),
 (0 :
 Int),
 (0 :
 Int))).2.2 ∧
 g.2.1 ++
 ((0 :
 Int) ::
 ([] :
 List
 Int)).set
 (0 : Nat)
 (7 :
 Int) =
 g.2.1 ++
 ((0 :
 Int) ::
 ([] :
 List
 Int)).set
 (0 : Nat)
 (7 :
 Int) ∧
 True) ∧
 True) ∧
 (decide
 ((0 : Int) ≤
 g.1.1.getD
 (x.2.2.2.1.getD
 g.2.2.1.toNat
 ((0 : Int),
 (0 : Int),
 (0 :
 Int))).2.2.toNat
 (0 : Int)) =
 false →
 ((0 : Int) ≤
 (x.2.2.2.1.getD
 g.2.2.1.toNat
 ((0 : Int), (0 : Int),
 (0 : Int))).2.2 ∧
 (x.2.2.2.1.getD
 g.2.2.1.toNat
 ((0 : Int), (0 : Int),
 (0 : Int))).2.2 <
 (↑g.1.1.length : Int)) ∧
 ((0 : Int) ≤
 (x.2.2.2.1.getD
 g.2.2.1.toNat
 ((0 : Int), (0 : Int),
 (0 :
 Int))).2.1 ∧
 (x.2.2.2.1.getD
 g.2.2.1.toNat
 ((0 : Int), (0 : Int),
 (0 :
 Int))).2.1 <
 (↑g.1.2.length : Int)) ∧
 (g.2.1.length +
 (((0 : Int) ::
 ([] :
 List Int)).set
 (0 : Nat)
 (0 : Int)).length ≤
 (9223372036854775807 :
 Nat) ∧
 (g.2.1.length +
 (((0 : Int) ::
 ([] :
 List
 Int)).set
 (0 : Nat)
 (0 :
 Int)).length +
 (g.2.1.length +
 (((0 : Int) ::
 ([] :
 List
 Int)).set
 (0 : Nat)
 (0 :
 Int)).length) /
 (4 : Nat) +
 (192 : Nat)) *
 (8 : Nat) ≤
 (281474976710656 : Nat)) ∧
 ((-9223372036854775808 :
 Int) ≤
 g.2.2.1 +
 (1 : Int) ∧
 g.2.2.1 +
 (1 : Int) ≤
 (9223372036854775807 :
 Int)) ∧
 (((0 : Int) ≤
 g.2.2.1 +
 (1 : Int) ∧
 g.2.2.1 +
 (1 : Int) ≤
 (↑x.2.2.2.1.length :
 Int) ∧
 rrun x.1 x.2.1
 x.2.2.1
 (List.take
 (g.2.2.1 +
 (1 :
 Int)).toNat
 x.2.2.2.1) =
 ((g.1.1.set
 (x.2.2.2.1.getD
 g.2.2.1.toNat
 ((0 :
 Int),
 (0 :
 Int),
 (0 :
 Int))).2.2.toNat
 (x.2.2.2.1.getD
 g.2.2.1.toNat
 ((0 :
 Int),
 (0 :
 Int),
 (0 :
 Int))).2.1,
 g.1.2.set
 (x.2.2.2.1.getD
 g.2.2.1.toNat
 ((0 :
 Int),
 (0 :
 Int),
 (0 :
 Int))).2.1.toNat
 (-1 : Int)),
 g.2.1 ++
 ((0 : Int) ::
 ([] :
 List
 Int)).set
 (0 : Nat)
 (0 :
 Int))) ∧
 ((↑x.2.2.2.1.length :
 Int) -
 (g.2.2.1 +
 (1 :
 Int))).toNat <
 ((↑x.2.2.2.1.length :
 Int) -
 g.2.2.1).toNat) ∧
 (x.2.2.1 =
 x.2.2.1 ∧
 (True ∧ True) ∧
 True ∧
 x.2.2.2.1 =
 x.2.2.2.1 ∧
 (↑x.2.2.2.1.length :
 Int) =
 (↑x.2.2.2.1.length :
 Int) ∧
 g.2.2.1 +
 (1 :
 Int) =
 g.2.2.1 +
 (1 :
 Int) ∧
 True) ∧
 ((True ∧ True ∧ True) ∧
 g.1.1.set
 (x.2.2.2.1.getD
 g.2.2.1.toNat
 ((0 :
 Int),
 (0 :
 Int),
 (0 :
 Int))).2.2.toNat
 (x.2.2.2.1.getD
 g.2.2.1.toNat
 ((0 :
 Int),
 (0 :
 Int),
 (0 :
 Int))).2.1 =
 g.1.1.set
 (x.2.2.2.1.getD
 g.2.2.1.toNat
 ((0 :
 Int),
 (0 :
 Int),
 (0 :
 Int))).2.2.toNat
 (x.2.2.2.1.getD
 g.2.2.1.toNat
 ((0 :
 Int),
 (0 :
 Int),
 (0 :
 Int))).2.1 ∧
 g.1.2.set
 (x.2.2.2.1.getD
 g.2.2.1.toNat
 ((0 :
 Int),
 (0 :
 Int),
 (0 :
 Int))).2.1.toNat
 (-1 : Int) =
 g.1.2.set
 (x.2.2.2.1.getD
 g.2.2.1.toNat
 ((0 :
 Int),
 (0 :
 Int),
 (0 :
 Int))).2.1.toNat
 (-1 : Int) ∧
 g.2.1 ++
 ((0 :
 Int) ::
 ([] :
 List
 Int)).set
 (0 :
 Nat)
 (0 :
 Int) =
 g.2.1 ++
 ((0 :
 Int) ::
 ([] :
 List
 Int)).set
 (0 :
 Nat)
 (0 :
 Int) ∧
 True) ∧
 True))) ∧
 (decide
 ((0 : Int) ≤
 g.1.2.getD
 (x.2.2.2.1.getD
 g.2.2.1.toNat
 ((0 : Int), (0 : Int),
 (0 : Int))).2.1.toNat
 (0 : Int)) =
 !true →
 ((0 : Int) ≤
 (x.2.2.2.1.getD
 g.2.2.1.toNat
 ((0 : Int), (0 : Int),
 (0 : Int))).2.2 ∧
 (x.2.2.2.1.getD g.2.2.1.toNat
 ((0 : Int), (0 : Int),
 (0 : Int))).2.2 <
 (↑g.1.1.length : Int)) ∧
 (decide
 ((0 : Int) ≤
 g.1.1.getD
 (x.2.2.2.1.getD
 g.2.2.1.toNat
 ((0 : Int), (0 : Int),
 (0 :
 Int))).2.2.toNat
 (0 : Int)) =
 true →
 ((0 : Int) ≤
 (x.2.2.2.1.getD
 g.2.2.1.toNat
 ((0 : Int), (0 : Int),
 (0 : Int))).2.1 ∧
 (x.2.2.2.1.getD
 g.2.2.1.toNat
 ((0 : Int), (0 : Int),
 (0 : Int))).2.1 <
 (↑g.1.2.length : Int)) ∧
 (g.2.1.length +
 (((0 : Int) ::
 ([] : List Int)).set
 (0 : Nat)
 (7 : Int)).length ≤
 (9223372036854775807 : Nat) ∧
 (g.2.1.length +
 (((0 : Int) ::
 ([] :
 List Int)).set
 (0 : Nat)
 (7 : Int)).length +
 (g.2.1.length +
 (((0 : Int) ::
 ([] :
 List Int)).set
 (0 : Nat)
 (7 : Int)).length) /
 (4 : Nat) +
 (192 : Nat)) *
 (8 : Nat) ≤
 (281474976710656 : Nat)) ∧
 ((-9223372036854775808 : Int) ≤
 g.2.2.1 + (1 : Int) ∧
 g.2.2.1 + (1 : Int) ≤
 (9223372036854775807 : Int)) ∧
 (((0 : Int) ≤
 g.2.2.1 + (1 : Int) ∧
 g.2.2.1 + (1 : Int) ≤
 (↑x.2.2.2.1.length :
 Int) ∧
 rrun x.1 x.2.1
 x.2.2.1
 (List.take
 (g.2.2.1 +
 (1 : Int)).toNat
 x.2.2.2.1) =
 ((g.1.1,
 g.1.2.set
 (x.2.2.2.1.getD
 g.2.2.1.toNat
 ((0 : Int),
 (0 : Int),
 (0 :
 Int))).2.1.toNat
 (x.2.2.2.1.getD
 g.2.2.1.toNat
 ((0 : Int),
 (0 : Int),
 (0 :
 Int))).2.2),
 g.2.1 ++
 ((0 : Int) ::
 ([] :
 List Int)).set
 (0 : Nat)
 (7 : Int))) ∧
 ((↑x.2.2.2.1.length :
 Int) -
 (g.2.2.1 +
 (1 : Int))).toNat <
 ((↑x.2.2.2.1.length :
 Int) -
 g.2.2.1).toNat) ∧
 (x.2.2.1 = x.2.2.1 ∧
 (True ∧ True) ∧
 True ∧
 x.2.2.2.1 =
 x.2.2.2.1 ∧
 (↑x.2.2.2.1.length :
 Int) =
 (↑x.2.2.2.1.length :
 Int) ∧
 g.2.2.1 +
 (1 : Int) =
 g.2.2.1 +
 (1 : Int) ∧
 True) ∧
 ((True ∧ True ∧ True) ∧
 g.1.1 = g.1.1 ∧
 g.1.2.set
 (x.2.2.2.1.getD
 g.2.2.1.toNat
 ((0 : Int),
 (0 : Int),
 (0 :
 Int))).2.1.toNat
 (x.2.2.2.1.getD
 g.2.2.1.toNat
 ((0 : Int),
 (0 : Int),
 (0 :
 Int))).2.2 =
 g.1.2.set
 (x.2.2.2.1.getD
 g.2.2.1.toNat
 ((0 : Int),
 (0 : Int),
 (0 :
 Int))).2.1.toNat
 (x.2.2.2.1.getD
 g.2.2.1.toNat
 ((0 : Int),
 (0 : Int),
 (0 :
 Int))).2.2 ∧
 g.2.1 ++
 ((0 : Int) ::
 ([] :
 List
 Int)).set
 (0 : Nat)
 (7 : Int) =
 g.2.1 ++
 ((0 : Int) ::
 ([] :
 List
 Int)).set
 (0 : Nat)
 (7 : Int) ∧
 True) ∧
 True) ∧
 (decide
 ((0 : Int) ≤
 g.1.1.getD
 (x.2.2.2.1.getD
 g.2.2.1.toNat
 ((0 : Int), (0 : Int),
 (0 :
 Int))).2.2.toNat
 (0 : Int)) =
 false →
 ((0 : Int) ≤
 (x.2.2.2.1.getD
 g.2.2.1.toNat
 ((0 : Int), (0 : Int),
 (0 : Int))).2.2 ∧
 (x.2.2.2.1.getD
 g.2.2.1.toNat
 ((0 : Int), (0 : Int),
 (0 : Int))).2.2 <
 (↑g.1.1.length : Int)) ∧
 ((0 : Int) ≤
 (x.2.2.2.1.getD
 g.2.2.1.toNat
 ((0 : Int), (0 : Int),
 (0 : Int))).2.1 ∧
 (x.2.2.2.1.getD
 g.2.2.1.toNat
 ((0 : Int), (0 : Int),
 (0 : Int))).2.1 <
 (↑g.1.2.length : Int)) ∧
 (g.2.1.length +
 (((0 : Int) ::
 ([] : List Int)).set
 (0 : Nat)
 (0 : Int)).length ≤
 (9223372036854775807 : Nat) ∧
 (g.2.1.length +
 (((0 : Int) ::
 ([] :
 List Int)).set
 (0 : Nat)
 (0 : Int)).length +
 (g.2.1.length +
 (((0 : Int) ::
 ([] :
 List
 Int)).set
 (0 : Nat)
 (0 :
 Int)).length) /
 (4 : Nat) +
 (192 : Nat)) *
 (8 : Nat) ≤
 (281474976710656 : Nat)) ∧
 ((-9223372036854775808 : Int) ≤
 g.2.2.1 + (1 : Int) ∧
 g.2.2.1 + (1 : Int) ≤
 (9223372036854775807 : Int)) ∧
 (((0 : Int) ≤
 g.2.2.1 +
 (1 : Int) ∧
 g.2.2.1 + (1 : Int) ≤
 (↑x.2.2.2.1.length :
 Int) ∧
 rrun x.1 x.2.1
 x.2.2.1
 (List.take
 (g.2.2.1 +
 (1 : Int)).toNat
 x.2.2.2.1) =
 ((g.1.1.set
 (x.2.2.2.1.getD
 g.2.2.1.toNat
 ((0 :
 Int),
 (0 :
 Int),
 (0 :
 Int))).2.2.toNat
 (x.2.2.2.1.getD
 g.2.2.1.toNat
 ((0 : Int),
 (0 : Int),
 (0 :
 Int))).2.1,
 g.1.2.set
 (x.2.2.2.1.getD
 g.2.2.1.toNat
 ((0 :
 Int),
 (0 :
 Int),
 (0 :
 Int))).2.1.toNat
 (-1 : Int)),
 g.2.1 ++
 ((0 : Int) ::
 ([] :
 List
 Int)).set
 (0 : Nat)
 (0 : Int))) ∧
 ((↑x.2.2.2.1.length :
 Int) -
 (g.2.2.1 +
 (1 : Int))).toNat <
 ((↑x.2.2.2.1.length :
 Int) -
 g.2.2.1).toNat) ∧
 (x.2.2.1 = x.2.2.1 ∧
 (True ∧ True) ∧
 True ∧
 x.2.2.2.1 =
 x.2.2.2.1 ∧
 (↑x.2.2.2.1.length :
 Int) =
 (↑x.2.2.2.1.length :
 Int) ∧
 g.2.2.1 +
 (1 : Int) =
 g.2.2.1 +
 (1 : Int) ∧
 True) ∧
 ((True ∧ True ∧ True) ∧
 g.1.1.set
 (x.2.2.2.1.getD
 g.2.2.1.toNat
 ((0 : Int),
 (0 : Int),
 (0 :
 Int))).2.2.toNat
 (x.2.2.2.1.getD
 g.2.2.1.toNat
 ((0 : Int),
 (0 : Int),
 (0 :
 Int))).2.1 =
 g.1.1.set
 (x.2.2.2.1.getD
 g.2.2.1.toNat
 ((0 : Int),
 (0 : Int),
 (0 :
 Int))).2.2.toNat
 (x.2.2.2.1.getD
 g.2.2.1.toNat
 ((0 : Int),
 (0 : Int),
 (0 :
 Int))).2.1 ∧
 g.1.2.set
 (x.2.2.2.1.getD
 g.2.2.1.toNat
 ((0 :
 Int),
 (0 :
 Int),
 (0 :
 Int))).2.1.toNat
 (-1 : Int) =
 g.1.2.set
 (x.2.2.2.1.getD
 g.2.2.1.toNat
 ((0 :
 Int),
 (0 :
 Int),
 (0 :
 Int))).2.1.toNat
 (-1 : Int) ∧
 g.2.1 ++
 ((0 : Int) ::
 ([] :
 List
 Int)).set
 (0 : Nat)
 (0 : Int) =
 g.2.1 ++
 ((0 : Int) ::
 ([] :
 List
 Int)).set
 (0 : Nat)
 (0 : Int) ∧
 True) ∧
 True)))) ∧
 (decide ((0 : Int) < (↑g_1.1.length : Int)) = !true →
 ((0 : Int) ≤
 (x.2.2.2.1.getD g.2.2.1.toNat
 ((0 : Int), (0 : Int), (0 : Int))).2.1 ∧
 (x.2.2.2.1.getD g.2.2.1.toNat
 ((0 : Int), (0 : Int), (0 : Int))).2.1 <
 (↑g.1.2.length : Int)) ∧
 (decide
 ((0 : Int) ≤
 g.1.2.getD
 (x.2.2.2.1.getD g.2.2.1.toNat
 ((0 : Int), (0 : Int),
 (0 : Int))).2.1.toNat
 (0 : Int)) =
 true →
 ((0 : Int) ≤
 (x.2.2.2.1.getD g.2.2.1.toNat
 ((0 : Int), (0 : Int),
 (0 : Int))).2.1 ∧
 (x.2.2.2.1.getD g.2.2.1.toNat
 ((0 : Int), (0 : Int),
 (0 : Int))).2.1 <
 (↑g.1.2.length : Int)) ∧
 ((g.1.2.getD
 (x.2.2.2.1.getD
 g.2.2.1.toNat
 ((0 : Int), (0 : Int),
 (0 : Int))).2.1.toNat
 (0 : Int) !=
 (x.2.2.2.1.getD g.2.2.1.toNat
 ((0 : Int), (0 : Int),
 (0 : Int))).2.2) =
 true →
 (g.2.1.length +
 (((0 : Int) :: ([] : List Int)).set
 (0 : Nat) (3 : Int)).length ≤
 (9223372036854775807 : Nat) ∧
 (g.2.1.length +
 (((0 : Int) ::
 ([] : List Int)).set
 (0 : Nat) (3 : Int)).length +
 (g.2.1.length +
 (((0 : Int) ::
 ([] : List Int)).set
 (0 : Nat)
 (3 : Int)).length) /
 (4 : Nat) +
 (192 : Nat)) *
 (8 : Nat) ≤
 (281474976710656 : Nat)) ∧
 ((-9223372036854775808 : Int) ≤
 g.2.2.1 + (1 : Int) ∧
 g.2.2.1 + (1 : Int) ≤
 (9223372036854775807 : Int)) ∧
 (((0 : Int) ≤ g.2.2.1 + (1 : Int) ∧
 g.2.2.1 + (1 : Int) ≤
 (↑x.2.2.2.1.length :
 Int) ∧
 rrun x.1 x.2.1 x.2.2.1
 (List.take
 (g.2.2.1 +
 (1 : Int)).toNat
 x.2.2.2.1) =
 ((g.1.1, g.1.2),
 g.2.1 ++
 ((0 : Int) ::
 ([] : List Int)).set
 (0 : Nat) (3 : Int))) ∧
 ((↑x.2.2.2.1.length : Int) -
 (g.2.2.1 +
 (1 : Int))).toNat <
 ((↑x.2.2.2.1.length : Int) -
 g.2.2.1).toNat) ∧
 (x.2.2.1 = x.2.2.1 ∧
 (True ∧ True) ∧
 True ∧
 x.2.2.2.1 =
 x.2.2.2.1 ∧
 (↑x.2.2.2.1.length :
 Int) =
 (↑x.2.2.2.1.length :
 Int) ∧
 g.2.2.1 + (1 : Int) =
 g.2.2.1 +
 (1 : Int) ∧
 True) ∧
 ((True ∧ True ∧ True) ∧
 g.1.1 = g.1.1 ∧
 g.1.2 = g.1.2 ∧
 g.2.1 ++
 ((0 : Int) ::
 ([] : List Int)).set
 (0 : Nat) (3 : Int) =
 g.2.1 ++
 ((0 : Int) ::
 ([] : List Int)).set
 (0 : Nat) (3 : Int) ∧
 True) ∧
 True) ∧
 ((g.1.2.getD
 (x.2.2.2.1.getD
 g.2.2.1.toNat
 ((0 : Int), (0 : Int),
 (0 : Int))).2.1.toNat
 (0 : Int) !=
 (x.2.2.2.1.getD g.2.2.1.toNat
 ((0 : Int), (0 : Int),
 (0 : Int))).2.2) =
 false →
 ((0 : Int) ≤
 (x.2.2.2.1.getD
 g.2.2.1.toNat
 ((0 : Int), (0 : Int),
 (0 : Int))).2.2 ∧
 (x.2.2.2.1.getD g.2.2.1.toNat
 ((0 : Int), (0 : Int),
 (0 : Int))).2.2 <
 (↑g.1.1.length : Int)) ∧
 (decide
 ((0 : Int) ≤
 g.1.1.getD
 (x.2.2.2.1.getD
 g.2.2.1.toNat
 ((0 : Int), (0 : Int),
 (0 :
 Int))).2.2.toNat
 (0 : Int)) =
 true →
 ((0 : Int) ≤
 (x.2.2.2.1.getD
 g.2.2.1.toNat
 ((0 : Int), (0 : Int),
 (0 : Int))).2.1 ∧
 (x.2.2.2.1.getD
 g.2.2.1.toNat
 ((0 : Int), (0 : Int),
 (0 : Int))).2.1 <
 (↑g.1.2.length : Int)) ∧
 (g.2.1.length +
 (((0 : Int) ::
 ([] : List Int)).set
 (0 : Nat)
 (7 : Int)).length ≤
 (9223372036854775807 : Nat) ∧
 (g.2.1.length +
 (((0 : Int) ::
 ([] :
 List Int)).set
 (0 : Nat)
 (7 : Int)).length +
 (g.2.1.length +
 (((0 : Int) ::
 ([] :
 List Int)).set
 (0 : Nat)
 (7 : Int)).length) /
 (4 : Nat) +
 (192 : Nat)) *
 (8 : Nat) ≤
 (281474976710656 : Nat)) ∧
 ((-9223372036854775808 : Int) ≤
 g.2.2.1 + (1 : Int) ∧
 g.2.2.1 + (1 : Int) ≤
 (9223372036854775807 : Int)) ∧
 (((0 : Int) ≤
 g.2.2.1 + (1 : Int) ∧
 g.2.2.1 + (1 : Int) ≤
 (↑x.2.2.2.1.length :
 Int) ∧
 rrun x.1 x.2.1
 x.2.2.1
 (List.take
 (g.2.2.1 +
 (1 : Int)).toNat
 x.2.2.2.1) =
 ((g.1.1,
 g.1.2.set
 (x.2.2.2.1.getD
 g.2.2.1.toNat
 ((0 : Int),
 (0 : Int),
 (0 :
 Int))).2.1.toNat
 (x.2.2.2.1.getD
 g.2.2.1.toNat
 ((0 : Int),
 (0 : Int),
 (0 :
 Int))).2.2),
 g.2.1 ++
 ((0 : Int) ::
 ([] :
 List Int)).set
 (0 : Nat)
 (7 : Int))) ∧
 ((↑x.2.2.2.1.length :
 Int) -
 (g.2.2.1 +
 (1 : Int))).toNat <
 ((↑x.2.2.2.1.length :
 Int) -
 g.2.2.1).toNat) ∧
 (x.2.2.1 = x.2.2.1 ∧
 (True ∧ True) ∧
 True ∧
 x.2.2.2.1 =
 x.2.2.2.1 ∧
 (↑x.2.2.2.1.length :
 Int) =
 (↑x.2.2.2.1.length :
 Int) ∧
 g.2.2.1 +
 (1 : Int) =
 g.2.2.1 +
 (1 : Int) ∧
 True) ∧
 ((True ∧ True ∧ True) ∧
 g.1.1 = g.1.1 ∧
 g.1.2.set
 (x.2.2.2.1.getD
 g.2.2.1.toNat
 ((0 : Int),
 (0 : Int),
 (0 :
 Int))).2.1.toNat
 (x.2.2.2.1.getD
 g.2.2.1.toNat
 ((0 : Int),
 (0 : Int),
 (0 :
 Int))).2.2 =
 g.1.2.set
 (x.2.2.2.1.getD
 g.2.2.1.toNat
 ((0 : Int),
 (0 : Int),
 (0 :
 Int))).2.1.toNat
 (x.2.2.2.1.getD
 g.2.2.1.toNat
 ((0 : Int),
 (0 : Int),
 (0 :
 Int))).2.2 ∧
 g.2.1 ++
 ((0 : Int) ::
 ([] :
 List
 Int)).set
 (0 : Nat)
 (7 : Int) =
 g.2.1 ++
 ((0 : Int) ::
 ([] :
 List
 Int)).set
 (0 : Nat)
 (7 : Int) ∧
 True) ∧
 True) ∧
 (decide
 ((0 : Int) ≤
 g.1.1.getD
 (x.2.2.2.1.getD
 g.2.2.1.toNat
 ((0 : Int), (0 : Int),
 (0 :
 Int))).2.2.toNat
 (0 : Int)) =
 false →
 ((0 : Int) ≤
 (x.2.2.2.1.getD
 g.2.2.1.toNat
 ((0 : Int), (0 : Int),
 (0 : Int))).2.2 ∧
 (x.2.2.2.1.getD
 g.2.2.1.toNat
 ((0 : Int), (0 : Int),
 (0 : Int))).2.2 <
 (↑g.1.1.length : Int)) ∧
 ((0 : Int) ≤
 (x.2.2.2.1.getD
 g.2.2.1.toNat
 ((0 : Int), (0 : Int),
 (0 : Int))).2.1 ∧
 (x.2.2.2.1.getD
 g.2.2.1.toNat
 ((0 : Int), (0 : Int),
 (0 : Int))).2.1 <
 (↑g.1.2.length : Int)) ∧
 (g.2.1.length +
 (((0 : Int) ::
 ([] : List Int)).set
 (0 : Nat)
 (0 : Int)).length ≤
 (9223372036854775807 : Nat) ∧
 (g.2.1.length +
 (((0 : Int) ::
 ([] :
 List Int)).set
 (0 : Nat)
 (0 : Int)).length +
 (g.2.1.length +
 (((0 : Int) ::
 ([] :
 List
 Int)).set
 (0 : Nat)
 (0 :
 Int)).length) /
 (4 : Nat) +
 (192 : Nat)) *
 (8 : Nat) ≤
 (281474976710656 : Nat)) ∧
 ((-9223372036854775808 : Int) ≤
 g.2.2.1 + (1 : Int) ∧
 g.2.2.1 + (1 : Int) ≤
 (9223372036854775807 : Int)) ∧
 (((0 : Int) ≤
 g.2.2.1 +
 (1 : Int) ∧
 g.2.2.1 + (1 : Int) ≤
 (↑x.2.2.2.1.length :
 Int) ∧
 rrun x.1 x.2.1
 x.2.2.1
 (List.take
 (g.2.2.1 +
 (1 : Int)).toNat
 x.2.2.2.1) =
 ((g.1.1.set
 (x.2.2.2.1.getD
 g.2.2.1.toNat
 ((0 :
 Int),
 (0 :
 Int),
 (0 :
 Int))).2.2.toNat
 (x.2.2.2.1.getD
 g.2.2.1.toNat
 ((0 : Int),
 (0 : Int),
 (0 :
 Int))).2.1,
 g.1.2.set
 (x.2.2.2.1.getD
 g.2.2.1.toNat
 ((0 :
 Int),
 (0 :
 Int),
 (0 :
 Int))).2.1.toNat
 (-1 : Int)),
 g.2.1 ++
 ((0 : Int) ::
 ([] :
 List
 Int)).set
 (0 : Nat)
 (0 : Int))) ∧
 ((↑x.2.2.2.1.length :
 Int) -
 (g.2.2.1 +
 (1 : Int))).toNat <
 ((↑x.2.2.2.1.length :
 Int) -
 g.2.2.1).toNat) ∧
 (x.2.2.1 = x.2.2.1 ∧
 (True ∧ True) ∧
 True ∧
 x.2.2.2.1 =
 x.2.2.2.1 ∧
 (↑x.2.2.2.1.length :
 Int) =
 (↑x.2.2.2.1.length :
 Int) ∧
 g.2.2.1 +
 (1 : Int) =
 g.2.2.1 +
 (1 : Int) ∧
 True) ∧
 ((True ∧ True ∧ True) ∧
 g.1.1.set
 (x.2.2.2.1.getD
 g.2.2.1.toNat
 ((0 : Int),
 (0 : Int),
 (0 :
 Int))).2.2.toNat
 (x.2.2.2.1.getD
 g.2.2.1.toNat
 ((0 : Int),
 (0 : Int),
 (0 :
 Int))).2.1 =
 g.1.1.set
 (x.2.2.2.1.getD
 g.2.2.1.toNat
 ((0 : Int),
 (0 : Int),
 (0 :
 Int))).2.2.toNat
 (x.2.2.2.1.getD
 g.2.2.1.toNat
 ((0 : Int),
 (0 : Int),
 (0 :
 Int))).2.1 ∧
 g.1.2.set
 (x.2.2.2.1.getD
 g.2.2.1.toNat
 ((0 :
 Int),
 (0 :
 Int),
 (0 :
 Int))).2.1.toNat
 (-1 : Int) =
 g.1.2.set
 (x.2.2.2.1.getD
 g.2.2.1.toNat
 ((0 :
 Int),
 (0 :
 Int),
 (0 :
 Int))).2.1.toNat
 (-1 : Int) ∧
 g.2.1 ++
 ((0 : Int) ::
 ([] :
 List
 Int)).set
 (0 : Nat)
 (0 : Int) =
 g.2.1 ++
 ((0 : Int) ::
 ([] :
 List
 Int)).set
 (0 : Nat)
 (0 : Int) ∧
 True) ∧
 True))) ∧
 (decide
 ((0 : Int) ≤
 g.1.2.getD
 (x.2.2.2.1.getD g.2.2.1.toNat
 ((0 : Int), (0 : Int),
 (0 : Int))).2.1.toNat
 (0 : Int)) =
 !true →
 ((0 : Int) ≤
 (x.2.2.2.1.getD g.2.2.1.toNat
 ((0 : Int), (0 : Int),
 (0 : Int))).2.2 ∧
 (x.2.2.2.1.getD g.2.2.1.toNat
 ((0 : Int), (0 : Int),
 (0 : Int))).2.2 <
 (↑g.1.1.length : Int)) ∧
 (decide
 ((0 : Int) ≤
 g.1.1.getD
 (x.2.2.2.1.getD
 g.2.2.1.toNat
 ((0 : Int), (0 : Int),
 (0 : Int))).2.2.toNat
 (0 : Int)) =
 true →
 ((0 : Int) ≤
 (x.2.2.2.1.getD
 g.2.2.1.toNat
 ((0 : Int), (0 : Int),
 (0 : Int))).2.1 ∧
 (x.2.2.2.1.getD g.2.2.1.toNat
 ((0 : Int), (0 : Int),
 (0 : Int))).2.1 <
 (↑g.1.2.length : Int)) ∧
 (g.2.1.length +
 (((0 : Int) :: ([] : List Int)).set
 (0 : Nat) (7 : Int)).length ≤
 (9223372036854775807 : Nat) ∧
 (g.2.1.length +
 (((0 : Int) ::
 ([] : List Int)).set
 (0 : Nat)
 (7 : Int)).length +
 (g.2.1.length +
 (((0 : Int) ::
 ([] : List Int)).set
 (0 : Nat)
 (7 : Int)).length) /
 (4 : Nat) +
 (192 : Nat)) *
 (8 : Nat) ≤
 (281474976710656 : Nat)) ∧
 ((-9223372036854775808 : Int) ≤
 g.2.2.1 + (1 : Int) ∧
 g.2.2.1 + (1 : Int) ≤
 (9223372036854775807 : Int)) ∧
 (((0 : Int) ≤ g.2.2.1 + (1 : Int) ∧
 g.2.2.1 + (1 : Int) ≤
 (↑x.2.2.2.1.length :
 Int) ∧
 rrun x.1 x.2.1 x.2.2.1
 (List.take
 (g.2.2.1 +
 (1 : Int)).toNat
 x.2.2.2.1) =
 ((g.1.1,
 g.1.2.set
 (x.2.2.2.1.getD
 g.2.2.1.toNat
 ((0 : Int),
 (0 : Int),
 (0 :
 Int))).2.1.toNat
 (x.2.2.2.1.getD
 g.2.2.1.toNat
 ((0 : Int),
 (0 : Int),
 (0 :
 Int))).2.2),
 g.2.1 ++
 ((0 : Int) ::
 ([] : List Int)).set
 (0 : Nat) (7 : Int))) ∧
 ((↑x.2.2.2.1.length : Int) -
 (g.2.2.1 +
 (1 : Int))).toNat <
 ((↑x.2.2.2.1.length : Int) -
 g.2.2.1).toNat) ∧
 (x.2.2.1 = x.2.2.1 ∧
 (True ∧ True) ∧
 True ∧
 x.2.2.2.1 =
 x.2.2.2.1 ∧
 (↑x.2.2.2.1.length :
 Int) =
 (↑x.2.2.2.1.length :
 Int) ∧
 g.2.2.1 + (1 : Int) =
 g.2.2.1 +
 (1 : Int) ∧
 True) ∧
 ((True ∧ True ∧ True) ∧
 g.1.1 = g.1.1 ∧
 g.1.2.set
 (x.2.2.2.1.getD
 g.2.2.1.toNat
 ((0 : Int),
 (0 : Int),
 (0 :
 Int))).2.1.toNat
 (x.2.2.2.1.getD
 g.2.2.1.toNat
 ((0 : Int),
 (0 : Int),
 (0 :
 Int))).2.2 =
 g.1.2.set
 (x.2.2.2.1.getD
 g.2.2.1.toNat
 ((0 : Int),
 (0 : Int),
 (0 :
 Int))).2.1.toNat
 (x.2.2.2.1.getD
 g.2.2.1.toNat
 ((0 : Int),
 (0 : Int),
 (0 :
 Int))).2.2 ∧
 g.2.1 ++
 ((0 : Int) ::
 ([] :
 List Int)).set
 (0 : Nat) (7 : Int) =
 g.2.1 ++
 ((0 : Int) ::
 ([] :
 List Int)).set
 (0 : Nat) (7 : Int) ∧
 True) ∧
 True) ∧
 (decide
 ((0 : Int) ≤
 g.1.1.getD
 (x.2.2.2.1.getD
 g.2.2.1.toNat
 ((0 : Int), (0 : Int),
 (0 : Int))).2.2.toNat
 (0 : Int)) =
 false →
 ((0 : Int) ≤
 (x.2.2.2.1.getD
 g.2.2.1.toNat
 ((0 : Int), (0 : Int),
 (0 : Int))).2.2 ∧
 (x.2.2.2.1.getD g.2.2.1.toNat
 ((0 : Int), (0 : Int),
 (0 : Int))).2.2 <
 (↑g.1.1.length : Int)) ∧
 ((0 : Int) ≤
 (x.2.2.2.1.getD
 g.2.2.1.toNat
 ((0 : Int), (0 : Int),
 (0 : Int))).2.1 ∧
 (x.2.2.2.1.getD
 g.2.2.1.toNat
 ((0 : Int), (0 : Int),
 (0 : Int))).2.1 <
 (↑g.1.2.length : Int)) ∧
 (g.2.1.length +
 (((0 : Int) :: ([] : List Int)).set
 (0 : Nat) (0 : Int)).length ≤
 (9223372036854775807 : Nat) ∧
 (g.2.1.length +
 (((0 : Int) ::
 ([] : List Int)).set
 (0 : Nat)
 (0 : Int)).length +
 (g.2.1.length +
 (((0 : Int) ::
 ([] : List Int)).set
 (0 : Nat)
 (0 : Int)).length) /
 (4 : Nat) +
 (192 : Nat)) *
 (8 : Nat) ≤
 (281474976710656 : Nat)) ∧
 ((-9223372036854775808 : Int) ≤
 g.2.2.1 + (1 : Int) ∧
 g.2.2.1 + (1 : Int) ≤
 (9223372036854775807 : Int)) ∧
 (((0 : Int) ≤
 g.2.2.1 + (1 : Int) ∧
 g.2.2.1 + (1 : Int) ≤
 (↑x.2.2.2.1.length :
 Int) ∧
 rrun x.1 x.2.1
 x.2.2.1
 (List.take
 (g.2.2.1 +
 (1 : Int)).toNat
 x.2.2.2.1) =
 ((g.1.1.set
 (x.2.2.2.1.getD
 g.2.2.1.toNat
 ((0 : Int),
 (0 : Int),
 (0 :
 Int))).2.2.toNat
 (x.2.2.2.1.getD
 g.2.2.1.toNat
 ((0 : Int),
 (0 : Int),
 (0 :
 Int))).2.1,
 g.1.2.set
 (x.2.2.2.1.getD
 g.2.2.1.toNat
 ((0 : Int),
 (0 : Int),
 (0 :
 Int))).2.1.toNat
 (-1 : Int)),
 g.2.1 ++
 ((0 : Int) ::
 ([] : List Int)).set
 (0 : Nat) (0 : Int))) ∧
 ((↑x.2.2.2.1.length : Int) -
 (g.2.2.1 +
 (1 : Int))).toNat <
 ((↑x.2.2.2.1.length :
 Int) -
 g.2.2.1).toNat) ∧
 (x.2.2.1 = x.2.2.1 ∧
 (True ∧ True) ∧
 True ∧
 x.2.2.2.1 =
 x.2.2.2.1 ∧
 (↑x.2.2.2.1.length :
 Int) =
 (↑x.2.2.2.1.length :
 Int) ∧
 g.2.2.1 +
 (1 : Int) =
 g.2.2.1 +
 (1 : Int) ∧
 True) ∧
 ((True ∧ True ∧ True) ∧
 g.1.1.set
 (x.2.2.2.1.getD
 g.2.2.1.toNat
 ((0 : Int),
 (0 : Int),
 (0 :
 Int))).2.2.toNat
 (x.2.2.2.1.getD
 g.2.2.1.toNat
 ((0 : Int),
 (0 : Int),
 (0 :
 Int))).2.1 =
 g.1.1.set
 (x.2.2.2.1.getD
 g.2.2.1.toNat
 ((0 : Int),
 (0 : Int),
 (0 :
 Int))).2.2.toNat
 (x.2.2.2.1.getD
 g.2.2.1.toNat
 ((0 : Int),
 (0 : Int),
 (0 :
 Int))).2.1 ∧
 g.1.2.set
 (x.2.2.2.1.getD
 g.2.2.1.toNat
 ((0 : Int),
 (0 : Int),
 (0 :
 Int))).2.1.toNat
 (-1 : Int) =
 g.1.2.set
 (x.2.2.2.1.getD
 g.2.2.1.toNat
 ((0 : Int),
 (0 : Int),
 (0 :
 Int))).2.1.toNat
 (-1 : Int) ∧
 g.2.1 ++
 ((0 : Int) ::
 ([] :
 List Int)).set
 (0 : Nat)
 (0 : Int) =
 g.2.1 ++
 ((0 : Int) ::
 ([] :
 List Int)).set
 (0 : Nat)
 (0 : Int) ∧
 True) ∧
 True)))) ∧
 (x.2.2.1 = !true →
 ((0 : Int) ≤
 (x.2.2.2.1.getD g.2.2.1.toNat
 ((0 : Int), (0 : Int), (0 : Int))).2.1 ∧
 (x.2.2.2.1.getD g.2.2.1.toNat
 ((0 : Int), (0 : Int), (0 : Int))).2.1 <
 (↑g.1.2.length : Int)) ∧
 (decide
 ((0 : Int) ≤
 g.1.2.getD
 (x.2.2.2.1.getD g.2.2.1.toNat
 ((0 : Int), (0 : Int),
 (0 : Int))).2.1.toNat
 (0 : Int)) =
 true →
 ((0 : Int) ≤
 (x.2.2.2.1.getD g.2.2.1.toNat
 ((0 : Int), (0 : Int), (0 : Int))).2.1 ∧
 (x.2.2.2.1.getD g.2.2.1.toNat
 ((0 : Int), (0 : Int), (0 : Int))).2.1 <
 (↑g.1.2.length : Int)) ∧
 ((g.1.2.getD
 (x.2.2.2.1.getD g.2.2.1.toNat
 ((0 : Int), (0 : Int),
 (0 : Int))).2.1.toNat
 (0 : Int) !=
 (x.2.2.2.1.getD g.2.2.1.toNat
 ((0 : Int), (0 : Int),
 (0 : Int))).2.2) =
 true →
 (g.2.1.length +
 (((0 : Int) :: ([] : List Int)).set
 (0 : Nat) (3 : Int)).length ≤
 (9223372036854775807 : Nat) ∧
 (g.2.1.length +
 (((0 : Int) :: ([] : List Int)).set
 (0 : Nat) (3 : Int)).length +
 (g.2.1.length +
 (((0 : Int) :: ([] : List Int)).set
 (0 : Nat) (3 : Int)).length) /
 (4 : Nat) +
 (192 : Nat)) *
 (8 : Nat) ≤
 (281474976710656 : Nat)) ∧
 ((-9223372036854775808 : Int) ≤
 g.2.2.1 + (1 : Int) ∧
 g.2.2.1 + (1 : Int) ≤
 (9223372036854775807 : Int)) ∧
 (((0 : Int) ≤ g.2.2.1 + (1 : Int) ∧
 g.2.2.1 + (1 : Int) ≤
 (↑x.2.2.2.1.length : Int) ∧
 rrun x.1 x.2.1 x.2.2.1
 (List.take
 (g.2.2.1 + (1 : Int)).toNat
 x.2.2.2.1) =
 ((g.1.1, g.1.2),
 g.2.1 ++
 ((0 : Int) :: ([] : List Int)).set
 (0 : Nat) (3 : Int))) ∧
 ((↑x.2.2.2.1.length : Int) -
 (g.2.2.1 + (1 : Int))).toNat <
 ((↑x.2.2.2.1.length : Int) -
 g.2.2.1).toNat) ∧
 (x.2.2.1 = x.2.2.1 ∧
 (True ∧ True) ∧
 True ∧
 x.2.2.2.1 =
 x.2.2.2.1 ∧
 (↑x.2.2.2.1.length : Int) =
 (↑x.2.2.2.1.length :
 Int) ∧
 g.2.2.1 + (1 : Int) =
 g.2.2.1 + (1 : Int) ∧
 True) ∧
 ((True ∧ True ∧ True) ∧
 g.1.1 = g.1.1 ∧
 g.1.2 = g.1.2 ∧
 g.2.1 ++
 ((0 : Int) ::
 ([] : List Int)).set
 (0 : Nat) (3 : Int) =
 g.2.1 ++
 ((0 : Int) ::
 ([] : List Int)).set
 (0 : Nat) (3 : Int) ∧
 True) ∧
 True) ∧
 ((g.1.2.getD
 (x.2.2.2.1.getD g.2.2.1.toNat
 ((0 : Int), (0 : Int),
 (0 : Int))).2.1.toNat
 (0 : Int) !=
 (x.2.2.2.1.getD g.2.2.1.toNat
 ((0 : Int), (0 : Int),
 (0 : Int))).2.2) =
 false →
 ((0 : Int) ≤
 (x.2.2.2.1.getD g.2.2.1.toNat
 ((0 : Int), (0 : Int),
 (0 : Int))).2.2 ∧
 (x.2.2.2.1.getD g.2.2.1.toNat
 ((0 : Int), (0 : Int),
 (0 : Int))).2.2 <
 (↑g.1.1.length : Int)) ∧
 (decide
 ((0 : Int) ≤
 g.1.1.getD
 (x.2.2.2.1.getD
 g.2.2.1.toNat
 ((0 : Int), (0 : Int),
 (0 : Int))).2.2.toNat
 (0 : Int)) =
 true →
 ((0 : Int) ≤
 (x.2.2.2.1.getD
 g.2.2.1.toNat
 ((0 : Int), (0 : Int),
 (0 : Int))).2.1 ∧
 (x.2.2.2.1.getD
 g.2.2.1.toNat
 ((0 : Int), (0 : Int),
 (0 : Int))).2.1 <
 (↑g.1.2.length : Int)) ∧
 (g.2.1.length +
 (((0 : Int) :: ([] : List Int)).set
 (0 : Nat) (7 : Int)).length ≤
 (9223372036854775807 : Nat) ∧
 (g.2.1.length +
 (((0 : Int) ::
 ([] : List Int)).set
 (0 : Nat)
 (7 : Int)).length +
 (g.2.1.length +
 (((0 : Int) ::
 ([] : List Int)).set
 (0 : Nat)
 (7 : Int)).length) /
 (4 : Nat) +
 (192 : Nat)) *
 (8 : Nat) ≤
 (281474976710656 : Nat)) ∧
 ((-9223372036854775808 : Int) ≤
 g.2.2.1 + (1 : Int) ∧
 g.2.2.1 + (1 : Int) ≤
 (9223372036854775807 : Int)) ∧
 (((0 : Int) ≤
 g.2.2.1 + (1 : Int) ∧
 g.2.2.1 + (1 : Int) ≤
 (↑x.2.2.2.1.length :
 Int) ∧
 rrun x.1 x.2.1
 x.2.2.1
 (List.take
 (g.2.2.1 +
 (1 : Int)).toNat
 x.2.2.2.1) =
 ((g.1.1,
 g.1.2.set
 (x.2.2.2.1.getD
 g.2.2.1.toNat
 ((0 : Int),
 (0 : Int),
 (0 :
 Int))).2.1.toNat
 (x.2.2.2.1.getD
 g.2.2.1.toNat
 ((0 : Int),
 (0 : Int),
 (0 :
 Int))).2.2),
 g.2.1 ++
 ((0 : Int) ::
 ([] : List Int)).set
 (0 : Nat) (7 : Int))) ∧
 ((↑x.2.2.2.1.length : Int) -
 (g.2.2.1 +
 (1 : Int))).toNat <
 ((↑x.2.2.2.1.length :
 Int) -
 g.2.2.1).toNat) ∧
 (x.2.2.1 = x.2.2.1 ∧
 (True ∧ True) ∧
 True ∧
 x.2.2.2.1 =
 x.2.2.2.1 ∧
 (↑x.2.2.2.1.length :
 Int) =
 (↑x.2.2.2.1.length :
 Int) ∧
 g.2.2.1 +
 (1 : Int) =
 g.2.2.1 +
 (1 : Int) ∧
 True) ∧
 ((True ∧ True ∧ True) ∧
 g.1.1 = g.1.1 ∧
 g.1.2.set
 (x.2.2.2.1.getD
 g.2.2.1.toNat
 ((0 : Int),
 (0 : Int),
 (0 :
 Int))).2.1.toNat
 (x.2.2.2.1.getD
 g.2.2.1.toNat
 ((0 : Int),
 (0 : Int),
 (0 :
 Int))).2.2 =
 g.1.2.set
 (x.2.2.2.1.getD
 g.2.2.1.toNat
 ((0 : Int),
 (0 : Int),
 (0 :
 Int))).2.1.toNat
 (x.2.2.2.1.getD
 g.2.2.1.toNat
 ((0 : Int),
 (0 : Int),
 (0 :
 Int))).2.2 ∧
 g.2.1 ++
 ((0 : Int) ::
 ([] :
 List Int)).set
 (0 : Nat)
 (7 : Int) =
 g.2.1 ++
 ((0 : Int) ::
 ([] :
 List Int)).set
 (0 : Nat)
 (7 : Int) ∧
 True) ∧
 True) ∧
 (decide
 ((0 : Int) ≤
 g.1.1.getD
 (x.2.2.2.1.getD
 g.2.2.1.toNat
 ((0 : Int), (0 : Int),
 (0 : Int))).2.2.toNat
 (0 : Int)) =
 false →
 ((0 : Int) ≤
 (x.2.2.2.1.getD
 g.2.2.1.toNat
 ((0 : Int), (0 : Int),
 (0 : Int))).2.2 ∧
 (x.2.2.2.1.getD
 g.2.2.1.toNat
 ((0 : Int), (0 : Int),
 (0 : Int))).2.2 <
 (↑g.1.1.length : Int)) ∧
 ((0 : Int) ≤
 (x.2.2.2.1.getD
 g.2.2.1.toNat
 ((0 : Int), (0 : Int),
 (0 : Int))).2.1 ∧
 (x.2.2.2.1.getD
 g.2.2.1.toNat
 ((0 : Int), (0 : Int),
 (0 : Int))).2.1 <
 (↑g.1.2.length : Int)) ∧
 (g.2.1.length +
 (((0 : Int) ::
 ([] : List Int)).set
 (0 : Nat) (0 : Int)).length ≤
 (9223372036854775807 : Nat) ∧
 (g.2.1.length +
 (((0 : Int) ::
 ([] : List Int)).set
 (0 : Nat)
 (0 : Int)).length +
 (g.2.1.length +
 (((0 : Int) ::
 ([] :
 List Int)).set
 (0 : Nat)
 (0 : Int)).length) /
 (4 : Nat) +
 (192 : Nat)) *
 (8 : Nat) ≤
 (281474976710656 : Nat)) ∧
 ((-9223372036854775808 : Int) ≤
 g.2.2.1 + (1 : Int) ∧
 g.2.2.1 + (1 : Int) ≤
 (9223372036854775807 : Int)) ∧
 (((0 : Int) ≤
 g.2.2.1 + (1 : Int) ∧
 g.2.2.1 + (1 : Int) ≤
 (↑x.2.2.2.1.length :
 Int) ∧
 rrun x.1 x.2.1
 x.2.2.1
 (List.take
 (g.2.2.1 +
 (1 : Int)).toNat
 x.2.2.2.1) =
 ((g.1.1.set
 (x.2.2.2.1.getD
 g.2.2.1.toNat
 ((0 : Int),
 (0 : Int),
 (0 :
 Int))).2.2.toNat
 (x.2.2.2.1.getD
 g.2.2.1.toNat
 ((0 : Int),
 (0 : Int),
 (0 :
 Int))).2.1,
 g.1.2.set
 (x.2.2.2.1.getD
 g.2.2.1.toNat
 ((0 : Int),
 (0 : Int),
 (0 :
 Int))).2.1.toNat
 (-1 : Int)),
 g.2.1 ++
 ((0 : Int) ::
 ([] :
 List Int)).set
 (0 : Nat)
 (0 : Int))) ∧
 ((↑x.2.2.2.1.length :
 Int) -
 (g.2.2.1 +
 (1 : Int))).toNat <
 ((↑x.2.2.2.1.length :
 Int) -
 g.2.2.1).toNat) ∧
 (x.2.2.1 = x.2.2.1 ∧
 (True ∧ True) ∧
 True ∧
 x.2.2.2.1 =
 x.2.2.2.1 ∧
 (↑x.2.2.2.1.length :
 Int) =
 (↑x.2.2.2.1.length :
 Int) ∧
 g.2.2.1 +
 (1 : Int) =
 g.2.2.1 +
 (1 : Int) ∧
 True) ∧
 ((True ∧ True ∧ True) ∧
 g.1.1.set
 (x.2.2.2.1.getD
 g.2.2.1.toNat
 ((0 : Int),
 (0 : Int),
 (0 :
 Int))).2.2.toNat
 (x.2.2.2.1.getD
 g.2.2.1.toNat
 ((0 : Int),
 (0 : Int),
 (0 :
 Int))).2.1 =
 g.1.1.set
 (x.2.2.2.1.getD
 g.2.2.1.toNat
 ((0 : Int),
 (0 : Int),
 (0 :
 Int))).2.2.toNat
 (x.2.2.2.1.getD
 g.2.2.1.toNat
 ((0 : Int),
 (0 : Int),
 (0 :
 Int))).2.1 ∧
 g.1.2.set
 (x.2.2.2.1.getD
 g.2.2.1.toNat
 ((0 : Int),
 (0 : Int),
 (0 :
 Int))).2.1.toNat
 (-1 : Int) =
 g.1.2.set
 (x.2.2.2.1.getD
 g.2.2.1.toNat
 ((0 : Int),
 (0 : Int),
 (0 :
 Int))).2.1.toNat
 (-1 : Int) ∧
 g.2.1 ++
 ((0 : Int) ::
 ([] :
 List
 Int)).set
 (0 : Nat)
 (0 : Int) =
 g.2.1 ++
 ((0 : Int) ::
 ([] :
 List
 Int)).set
 (0 : Nat)
 (0 : Int) ∧
 True) ∧
 True))) ∧
 (decide
 ((0 : Int) ≤
 g.1.2.getD
 (x.2.2.2.1.getD g.2.2.1.toNat
 ((0 : Int), (0 : Int),
 (0 : Int))).2.1.toNat
 (0 : Int)) =
 !true →
 ((0 : Int) ≤
 (x.2.2.2.1.getD g.2.2.1.toNat
 ((0 : Int), (0 : Int), (0 : Int))).2.2 ∧
 (x.2.2.2.1.getD g.2.2.1.toNat
 ((0 : Int), (0 : Int), (0 : Int))).2.2 <
 (↑g.1.1.length : Int)) ∧
 (decide
 ((0 : Int) ≤
 g.1.1.getD
 (x.2.2.2.1.getD g.2.2.1.toNat
 ((0 : Int), (0 : Int),
 (0 : Int))).2.2.toNat
 (0 : Int)) =
 true →
 ((0 : Int) ≤
 (x.2.2.2.1.getD g.2.2.1.toNat
 ((0 : Int), (0 : Int),
 (0 : Int))).2.1 ∧
 (x.2.2.2.1.getD g.2.2.1.toNat
 ((0 : Int), (0 : Int),
 (0 : Int))).2.1 <
 (↑g.1.2.length : Int)) ∧
 (g.2.1.length +
 (((0 : Int) :: ([] : List Int)).set
 (0 : Nat) (7 : Int)).length ≤
 (9223372036854775807 : Nat) ∧
 (g.2.1.length +
 (((0 : Int) :: ([] : List Int)).set
 (0 : Nat) (7 : Int)).length +
 (g.2.1.length +
 (((0 : Int) ::
 ([] : List Int)).set
 (0 : Nat) (7 : Int)).length) /
 (4 : Nat) +
 (192 : Nat)) *
 (8 : Nat) ≤
 (281474976710656 : Nat)) ∧
 ((-9223372036854775808 : Int) ≤
 g.2.2.1 + (1 : Int) ∧
 g.2.2.1 + (1 : Int) ≤
 (9223372036854775807 : Int)) ∧
 (((0 : Int) ≤ g.2.2.1 + (1 : Int) ∧
 g.2.2.1 + (1 : Int) ≤
 (↑x.2.2.2.1.length : Int) ∧
 rrun x.1 x.2.1 x.2.2.1
 (List.take
 (g.2.2.1 +
 (1 : Int)).toNat
 x.2.2.2.1) =
 ((g.1.1,
 g.1.2.set
 (x.2.2.2.1.getD
 g.2.2.1.toNat
 ((0 : Int), (0 : Int),
 (0 :
 Int))).2.1.toNat
 (x.2.2.2.1.getD
 g.2.2.1.toNat
 ((0 : Int), (0 : Int),
 (0 : Int))).2.2),
 g.2.1 ++
 ((0 : Int) ::
 ([] : List Int)).set
 (0 : Nat) (7 : Int))) ∧
 ((↑x.2.2.2.1.length : Int) -
 (g.2.2.1 + (1 : Int))).toNat <
 ((↑x.2.2.2.1.length : Int) -
 g.2.2.1).toNat) ∧
 (x.2.2.1 = x.2.2.1 ∧
 (True ∧ True) ∧
 True ∧
 x.2.2.2.1 =
 x.2.2.2.1 ∧
 (↑x.2.2.2.1.length :
 Int) =
 (↑x.2.2.2.1.length :
 Int) ∧
 g.2.2.1 + (1 : Int) =
 g.2.2.1 + (1 : Int) ∧
 True) ∧
 ((True ∧ True ∧ True) ∧
 g.1.1 = g.1.1 ∧
 g.1.2.set
 (x.2.2.2.1.getD
 g.2.2.1.toNat
 ((0 : Int), (0 : Int),
 (0 :
 Int))).2.1.toNat
 (x.2.2.2.1.getD
 g.2.2.1.toNat
 ((0 : Int), (0 : Int),
 (0 : Int))).2.2 =
 g.1.2.set
 (x.2.2.2.1.getD
 g.2.2.1.toNat
 ((0 : Int), (0 : Int),
 (0 :
 Int))).2.1.toNat
 (x.2.2.2.1.getD
 g.2.2.1.toNat
 ((0 : Int), (0 : Int),
 (0 : Int))).2.2 ∧
 g.2.1 ++
 ((0 : Int) ::
 ([] : List Int)).set
 (0 : Nat) (7 : Int) =
 g.2.1 ++
 ((0 : Int) ::
 ([] : List Int)).set
 (0 : Nat) (7 : Int) ∧
 True) ∧
 True) ∧
 (decide
 ((0 : Int) ≤
 g.1.1.getD
 (x.2.2.2.1.getD g.2.2.1.toNat
 ((0 : Int), (0 : Int),
 (0 : Int))).2.2.toNat
 (0 : Int)) =
 false →
 ((0 : Int) ≤
 (x.2.2.2.1.getD g.2.2.1.toNat
 ((0 : Int), (0 : Int),
 (0 : Int))).2.2 ∧
 (x.2.2.2.1.getD g.2.2.1.toNat
 ((0 : Int), (0 : Int),
 (0 : Int))).2.2 <
 (↑g.1.1.length : Int)) ∧
 ((0 : Int) ≤
 (x.2.2.2.1.getD g.2.2.1.toNat
 ((0 : Int), (0 : Int),
 (0 : Int))).2.1 ∧
 (x.2.2.2.1.getD g.2.2.1.toNat
 ((0 : Int), (0 : Int),
 (0 : Int))).2.1 <
 (↑g.1.2.length : Int)) ∧
 (g.2.1.length +
 (((0 : Int) :: ([] : List Int)).set
 (0 : Nat) (0 : Int)).length ≤
 (9223372036854775807 : Nat) ∧
 (g.2.1.length +
 (((0 : Int) ::
 ([] : List Int)).set
 (0 : Nat) (0 : Int)).length +
 (g.2.1.length +
 (((0 : Int) ::
 ([] : List Int)).set
 (0 : Nat)
 (0 : Int)).length) /
 (4 : Nat) +
 (192 : Nat)) *
 (8 : Nat) ≤
 (281474976710656 : Nat)) ∧
 ((-9223372036854775808 : Int) ≤
 g.2.2.1 + (1 : Int) ∧
 g.2.2.1 + (1 : Int) ≤
 (9223372036854775807 : Int)) ∧
 (((0 : Int) ≤ g.2.2.1 + (1 : Int) ∧
 g.2.2.1 + (1 : Int) ≤
 (↑x.2.2.2.1.length :
 Int) ∧
 rrun x.1 x.2.1 x.2.2.1
 (List.take
 (g.2.2.1 +
 (1 : Int)).toNat
 x.2.2.2.1) =
 ((g.1.1.set
 (x.2.2.2.1.getD
 g.2.2.1.toNat
 ((0 : Int),
 (0 : Int),
 (0 :
 Int))).2.2.toNat
 (x.2.2.2.1.getD
 g.2.2.1.toNat
 ((0 : Int), (0 : Int),
 (0 : Int))).2.1,
 g.1.2.set
 (x.2.2.2.1.getD
 g.2.2.1.toNat
 ((0 : Int),
 (0 : Int),
 (0 :
 Int))).2.1.toNat
 (-1 : Int)),
 g.2.1 ++
 ((0 : Int) ::
 ([] : List Int)).set
 (0 : Nat) (0 : Int))) ∧
 ((↑x.2.2.2.1.length : Int) -
 (g.2.2.1 +
 (1 : Int))).toNat <
 ((↑x.2.2.2.1.length : Int) -
 g.2.2.1).toNat) ∧
 (x.2.2.1 = x.2.2.1 ∧
 (True ∧ True) ∧
 True ∧
 x.2.2.2.1 =
 x.2.2.2.1 ∧
 (↑x.2.2.2.1.length :
 Int) =
 (↑x.2.2.2.1.length :
 Int) ∧
 g.2.2.1 + (1 : Int) =
 g.2.2.1 +
 (1 : Int) ∧
 True) ∧
 ((True ∧ True ∧ True) ∧
 g.1.1.set
 (x.2.2.2.1.getD
 g.2.2.1.toNat
 ((0 : Int), (0 : Int),
 (0 :
 Int))).2.2.toNat
 (x.2.2.2.1.getD
 g.2.2.1.toNat
 ((0 : Int), (0 : Int),
 (0 : Int))).2.1 =
 g.1.1.set
 (x.2.2.2.1.getD
 g.2.2.1.toNat
 ((0 : Int), (0 : Int),
 (0 :
 Int))).2.2.toNat
 (x.2.2.2.1.getD
 g.2.2.1.toNat
 ((0 : Int), (0 : Int),
 (0 : Int))).2.1 ∧
 g.1.2.set
 (x.2.2.2.1.getD
 g.2.2.1.toNat
 ((0 : Int),
 (0 : Int),
 (0 :
 Int))).2.1.toNat
 (-1 : Int) =
 g.1.2.set
 (x.2.2.2.1.getD
 g.2.2.1.toNat
 ((0 : Int),
 (0 : Int),
 (0 :
 Int))).2.1.toNat
 (-1 : Int) ∧
 g.2.1 ++
 ((0 : Int) ::
 ([] : List Int)).set
 (0 : Nat) (0 : Int) =
 g.2.1 ++
 ((0 : Int) ::
 ([] : List Int)).set
 (0 : Nat) (0 : Int) ∧
 True) ∧
 True)))))))) ∧
 (decide
 ((x.2.2.2.1.getD g.2.2.1.toNat ((0 : Int), (0 : Int), (0 : Int))).2.2 <
 (0 : Int)) =
 !false →
 (g.2.1.length + (((0 : Int) :: ([] : List Int)).set (0 : Nat) (2 : Int)).length ≤
 (9223372036854775807 : Nat) ∧
 (g.2.1.length + (((0 : Int) :: ([] : List Int)).set (0 : Nat) (2 : Int)).length +
 (g.2.1.length +
 (((0 : Int) :: ([] : List Int)).set (0 : Nat) (2 : Int)).length) /
 (4 : Nat) +
 (192 : Nat)) *
 (8 : Nat) ≤
 (281474976710656 : Nat)) ∧
 ((-9223372036854775808 : Int) ≤ g.2.2.1 + (1 : Int) ∧
 g.2.2.1 + (1 : Int) ≤ (9223372036854775807 : Int)) ∧
 (((0 : Int) ≤ g.2.2.1 + (1 : Int) ∧
 g.2.2.1 + (1 : Int) ≤ (↑x.2.2.2.1.length : Int) ∧
 rrun x.1 x.2.1 x.2.2.1
 (List.take (g.2.2.1 + (1 : Int)).toNat x.2.2.2.1) =
 ((g.1.1, g.1.2),
 g.2.1 ++ ((0 : Int) :: ([] : List Int)).set (0 : Nat) (2 : Int))) ∧
 ((↑x.2.2.2.1.length : Int) - (g.2.2.1 + (1 : Int))).toNat <
 ((↑x.2.2.2.1.length : Int) - g.2.2.1).toNat) ∧
 (x.2.2.1 = x.2.2.1 ∧
 (True ∧ True) ∧
 True ∧
 x.2.2.2.1 = x.2.2.2.1 ∧
 (↑x.2.2.2.1.length : Int) = (↑x.2.2.2.1.length : Int) ∧
 g.2.2.1 + (1 : Int) = g.2.2.1 + (1 : Int) ∧ True) ∧
 ((True ∧ True ∧ True) ∧
 g.1.1 = g.1.1 ∧
 g.1.2 = g.1.2 ∧
 g.2.1 ++ ((0 : Int) :: ([] : List Int)).set (0 : Nat) (2 : Int) =
 g.2.1 ++ ((0 : Int) :: ([] : List Int)).set (0 : Nat) (2 : Int) ∧
 True) ∧
 True)) ∧
 (decide
 ((↑g.1.2.length : Int) ≤
 (x.2.2.2.1.getD g.2.2.1.toNat ((0 : Int), (0 : Int), (0 : Int))).2.1) =
 !false →
 (g.2.1.length + (((0 : Int) :: ([] : List Int)).set (0 : Nat) (2 : Int)).length ≤
 (9223372036854775807 : Nat) ∧
 (g.2.1.length + (((0 : Int) :: ([] : List Int)).set (0 : Nat) (2 : Int)).length +
 (g.2.1.length + (((0 : Int) :: ([] : List Int)).set (0 : Nat) (2 : Int)).length) /
 (4 : Nat) +
 (192 : Nat)) *
 (8 : Nat) ≤
 (281474976710656 : Nat)) ∧
 ((-9223372036854775808 : Int) ≤ g.2.2.1 + (1 : Int) ∧
 g.2.2.1 + (1 : Int) ≤ (9223372036854775807 : Int)) ∧
 (((0 : Int) ≤ g.2.2.1 + (1 : Int) ∧
 g.2.2.1 + (1 : Int) ≤ (↑x.2.2.2.1.length : Int) ∧
 rrun x.1 x.2.1 x.2.2.1
 (List.take (g.2.2.1 + (1 : Int)).toNat x.2.2.2.1) =
 ((g.1.1, g.1.2),
 g.2.1 ++ ((0 : Int) :: ([] : List Int)).set (0 : Nat) (2 : Int))) ∧
 ((↑x.2.2.2.1.length : Int) - (g.2.2.1 + (1 : Int))).toNat <
 ((↑x.2.2.2.1.length : Int) - g.2.2.1).toNat) ∧
 (x.2.2.1 = x.2.2.1 ∧
 (True ∧ True) ∧
 True ∧
 x.2.2.2.1 = x.2.2.2.1 ∧
 (↑x.2.2.2.1.length : Int) = (↑x.2.2.2.1.length : Int) ∧
 g.2.2.1 + (1 : Int) = g.2.2.1 + (1 : Int) ∧ True) ∧
 ((True ∧ True ∧ True) ∧
 g.1.1 = g.1.1 ∧
 g.1.2 = g.1.2 ∧
 g.2.1 ++ ((0 : Int) :: ([] : List Int)).set (0 : Nat) (2 : Int) =
 g.2.1 ++ ((0 : Int) :: ([] : List Int)).set (0 : Nat) (2 : Int) ∧
 True) ∧
 True)) ∧
 (decide
 ((x.2.2.2.1.getD g.2.2.1.toNat ((0 : Int), (0 : Int), (0 : Int))).2.1 <
 (0 : Int)) =
 !false →
 (g.2.1.length + (((0 : Int) :: ([] : List Int)).set (0 : Nat) (2 : Int)).length ≤
 (9223372036854775807 : Nat) ∧
 (g.2.1.length + (((0 : Int) :: ([] : List Int)).set (0 : Nat) (2 : Int)).length +
 (g.2.1.length + (((0 : Int) :: ([] : List Int)).set (0 : Nat) (2 : Int)).length) /
 (4 : Nat) +
 (192 : Nat)) *
 (8 : Nat) ≤
 (281474976710656 : Nat)) ∧
 ((-9223372036854775808 : Int) ≤ g.2.2.1 + (1 : Int) ∧
 g.2.2.1 + (1 : Int) ≤ (9223372036854775807 : Int)) ∧
 (((0 : Int) ≤ g.2.2.1 + (1 : Int) ∧
 g.2.2.1 + (1 : Int) ≤ (↑x.2.2.2.1.length : Int) ∧
 rrun x.1 x.2.1 x.2.2.1
 (List.take (g.2.2.1 + (1 : Int)).toNat x.2.2.2.1) =
 ((g.1.1, g.1.2),
 g.2.1 ++ ((0 : Int) :: ([] : List Int)).set (0 : Nat) (2 : Int))) ∧
 ((↑x.2.2.2.1.length : Int) - (g.2.2.1 + (1 : Int))).toNat <
 ((↑x.2.2.2.1.length : Int) - g.2.2.1).toNat) ∧
 (x.2.2.1 = x.2.2.1 ∧
 (True ∧ True) ∧
 True ∧
 x.2.2.2.1 = x.2.2.2.1 ∧
 (↑x.2.2.2.1.length : Int) = (↑x.2.2.2.1.length : Int) ∧
 g.2.2.1 + (1 : Int) = g.2.2.1 + (1 : Int) ∧ True) ∧
 ((True ∧ True ∧ True) ∧
 g.1.1 = g.1.1 ∧
 g.1.2 = g.1.2 ∧
 g.2.1 ++ ((0 : Int) :: ([] : List Int)).set (0 : Nat) (2 : Int) =
 g.2.1 ++ ((0 : Int) :: ([] : List Int)).set (0 : Nat) (2 : Int) ∧
 True) ∧
 True))) ∧
 (decide (g.2.2.1 < (↑x.2.2.2.1.length : Int)) = false →
 g.2.1 = (rplay x.1 x.2.1 x.2.2.1 x.2.2.2.1).1 ∧
 g.1.1 = (rplay x.1 x.2.1 x.2.2.1 x.2.2.2.1).2.1 ∧
 g.1.2 = (rplay x.1 x.2.1 x.2.2.1 x.2.2.2.1).2.2.1 ∧
 (0 : Int) = (rplay x.1 x.2.1 x.2.2.1 x.2.2.2.1).2.2.2.1))

theorem E_play_eq (x : HL (cPlay : Ctr).as) : vc (fx_play x) 4 8 Try.f8 (cPlay) x = E_play x := by kernel_rfl

def E_rows (x : List (Int × Int) × Int × Unit) : Prop :=
 ((((0 : Int) ≤ (0 : Int) ∧ (0 : Int) ≤ x.2.1 ∧ ([] : List Int) = lm x.1 (Int.toNat (0 : Int))) ∧ True) ∧
 (x.1 = x.1 ∧ True ∧ x.2.1 = x.2.1 ∧ (0 : Int) = (0 : Int) ∧ True) ∧ (([] : List Int) = ([] : List Int) ∧ True) ∧ True) ∧
 ∀ (g : List Int × Int × Unit),
 (0 : Int) ≤ g.2.1 ∧ g.2.1 ≤ x.2.1 ∧ g.1 = lm x.1 g.2.1.toNat →
 (g.1.length ≤ (9223372036854775807 : Nat) ∧ ∀ (x : Int), x ∈ g.1 → (-9223372036854775808 : Int) ≤ x ∧ x ≤ (9223372036854775807 : Int)) ∧
 ((-9223372036854775808 : Int) ≤ g.2.1 ∧ g.2.1 ≤ (9223372036854775807 : Int)) ∧ True →
 (decide (g.2.1 < x.2.1) = true →
 ((!mhas (Ty.int IntKind.i64) x.1 g.2.1) = true →
 (g.1.length + (((0 : Int) :: ([] : List Int)).set (0 : Nat) (-1 : Int)).length ≤ (9223372036854775807 : Nat) ∧
 (g.1.length + (((0 : Int) :: ([] : List Int)).set (0 : Nat) (-1 : Int)).length +
 (g.1.length + (((0 : Int) :: ([] : List Int)).set (0 : Nat) (-1 : Int)).length) / (4 : Nat) +
 (192 : Nat)) *
 (8 : Nat) ≤
 (281474976710656 : Nat)) ∧
 ((-9223372036854775808 : Int) ≤ g.2.1 + (1 : Int) ∧ g.2.1 + (1 : Int) ≤ (9223372036854775807 : Int)) ∧
 (((0 : Int) ≤ g.2.1 + (1 : Int) ∧
 g.2.1 + (1 : Int) ≤ x.2.1 ∧
 g.1 ++ ((0 : Int) :: ([] : List Int)).set (0 : Nat) (-1 : Int) = lm x.1 (g.2.1 + (1 : Int)).toNat) ∧
 (x.2.1 - (g.2.1 + (1 : Int))).toNat < (x.2.1 - g.2.1).toNat) ∧
 (x.1 = x.1 ∧ True ∧ x.2.1 = x.2.1 ∧ g.2.1 + (1 : Int) = g.2.1 + (1 : Int) ∧ True) ∧
 (g.1 ++ ((0 : Int) :: ([] : List Int)).set (0 : Nat) (-1 : Int) =
 g.1 ++ ((0 : Int) :: ([] : List Int)).set (0 : Nat) (-1 : Int) ∧
 True) ∧
 True) ∧
 ((!mhas (Ty.int IntKind.i64) x.1 g.2.1) = false →
 (g.1.length + (((0 : Int) :: ([] : List Int)).set (0 : Nat) (mval (Ty.int IntKind.i64) x.1 g.2.1)).length ≤
 (9223372036854775807 : Nat) ∧
 (g.1.length + (((0 : Int) :: ([] : List Int)).set (0 : Nat) (mval (Ty.int IntKind.i64) x.1 g.2.1)).length +
 (g.1.length + (((0 : Int) :: ([] : List Int)).set (0 : Nat) (mval (Ty.int IntKind.i64) x.1 g.2.1)).length) /
 (4 : Nat) +
 (192 : Nat)) *
 (8 : Nat) ≤
 (281474976710656 : Nat)) ∧
 ((-9223372036854775808 : Int) ≤ g.2.1 + (1 : Int) ∧ g.2.1 + (1 : Int) ≤ (9223372036854775807 : Int)) ∧
 (((0 : Int) ≤ g.2.1 + (1 : Int) ∧
 g.2.1 + (1 : Int) ≤ x.2.1 ∧
 g.1 ++ ((0 : Int) :: ([] : List Int)).set (0 : Nat) (mval (Ty.int IntKind.i64) x.1 g.2.1) =
 lm x.1 (g.2.1 + (1 : Int)).toNat) ∧
 (x.2.1 - (g.2.1 + (1 : Int))).toNat < (x.2.1 - g.2.1).toNat) ∧
 (x.1 = x.1 ∧ True ∧ x.2.1 = x.2.1 ∧ g.2.1 + (1 : Int) = g.2.1 + (1 : Int) ∧ True) ∧
 (g.1 ++ ((0 : Int) :: ([] : List Int)).set (0 : Nat) (mval (Ty.int IntKind.i64) x.1 g.2.1) =
 g.1 ++ ((0 : Int) :: ([] : List Int)).set (0 : Nat) (mval (Ty.int IntKind.i64) x.1 g.2.1) ∧
 True) ∧
 True)) ∧
 (decide (g.2.1 < x.2.1) = false → g.1 = lm x.1 x.2.1.toNat)

theorem E_rows_eq (x : HL (cRows : Ctr).as) : vc (fx_rows x) 1 29 Try.f29 (cRows) x = E_rows x := by kernel_rfl

def E_hplay (x : Int × Int × Bool × List (Int × Int × Int) × Unit) : Prop :=
 ((!decide (x.1 < (1 : Int))) = true → (!decide (x.1 < (1 : Int))) = true) ∧
 (decide (x.1 < (1 : Int)) = false → (!decide (x.1 < (1 : Int))) = true) ∧
 ((!(decide (x.1 < (1 : Int)) || decide ((16 : Int) < x.1))) = true → (!(decide (x.1 < (1 : Int)) || decide ((16 : Int) < x.1))) = true) ∧
 ((decide (x.1 < (1 : Int)) || decide ((16 : Int) < x.1)) = false → (!(decide (x.1 < (1 : Int)) || decide ((16 : Int) < x.1))) = true) ∧
 ((!(decide (x.1 < (1 : Int)) || decide ((16 : Int) < x.1) || decide (x.2.1 < (1 : Int)))) = true →
 (!(decide (x.1 < (1 : Int)) || decide ((16 : Int) < x.1) || decide (x.2.1 < (1 : Int)))) = true) ∧
 ((decide (x.1 < (1 : Int)) || decide ((16 : Int) < x.1) || decide (x.2.1 < (1 : Int))) = false →
 (!(decide (x.1 < (1 : Int)) || decide ((16 : Int) < x.1) || decide (x.2.1 < (1 : Int)))) = true) ∧
 ((decide (x.1 < (1 : Int)) || decide ((16 : Int) < x.1) || decide (x.2.1 < (1 : Int)) || decide ((16 : Int) < x.2.1)) = true →
 ([] : List Int) = (rplay x.1 x.2.1 x.2.2.1 x.2.2.2.1).1 ∧
 ([] : List Int) = (rplay x.1 x.2.1 x.2.2.1 x.2.2.2.1).2.1 ∧
 ([] : List Int) = (rplay x.1 x.2.1 x.2.2.1 x.2.2.2.1).2.2.1 ∧
 (2 : Int) = (rplay x.1 x.2.1 x.2.2.1 x.2.2.2.1).2.2.2.1) ∧
 ((decide (x.1 < (1 : Int)) || decide ((16 : Int) < x.1) || decide (x.2.1 < (1 : Int)) || decide ((16 : Int) < x.2.1)) =
 false →
 ((((0 : Int) ≤ (0 : Int) ∧
 (0 : Int) ≤ (↑x.2.2.2.1.length : Int) ∧
 ∃ h w,
 rrun x.1 x.2.1 x.2.2.1 (List.take (Int.toNat (0 : Int)) x.2.2.2.1) = ((h, w), ([] : List Int)) ∧
 MR ([] : List (Int × Int)) h ∧ MR ([] : List (Int × Int)) w) ∧
 True) ∧
 ((True ∧ True) ∧
 (True ∧ True) ∧
 (True ∧ True) ∧
 (True ∧ True) ∧
 True ∧
 True ∧
 x.2.2.2.1 = x.2.2.2.1 ∧
 (↑x.2.2.2.1.length : Int) = (↑x.2.2.2.1.length : Int) ∧ (0 : Int) = (0 : Int) ∧ True) ∧
 ((True ∧ True) ∧
 ([] : List (Int × Int)) = ([] : List (Int × Int)) ∧
 (True ∧ True) ∧
 ([] : List (Int × Int)) = ([] : List (Int × Int)) ∧
 ([] : List Int) = ([] : List Int) ∧
 (x.1 = x.1 ∧ True) ∧
 (x.2.1 = x.2.1 ∧ True) ∧
 (True ∧ (True ∧ True) ∧ (True ∧ True) ∧ (True ∧ True) ∧ (True ∧ True) ∧ (True ∧ True) ∧ True) ∧
 (x.2.2.1 = x.2.2.1 ∧ True) ∧ True) ∧
 True) ∧
 ∀ (g : List (Int × Int) × List (Int × Int) × List Int × Int × Unit),
 ((0 : Int) ≤ g.2.2.2.1 ∧
 g.2.2.2.1 ≤ (↑x.2.2.2.1.length : Int) ∧
 ∃ h w,
 rrun x.1 x.2.1 x.2.2.1 (List.take g.2.2.2.1.toNat x.2.2.2.1) = ((h, w), g.2.2.1) ∧
 MR g.1 h ∧ MR g.2.1 w) →
 (∀ (e : Int × Int),
 e ∈ g.1 →
 ((-9223372036854775808 : Int) ≤ e.1 ∧ e.1 ≤ (9223372036854775807 : Int)) ∧
 (-9223372036854775808 : Int) ≤ e.2 ∧ e.2 ≤ (9223372036854775807 : Int)) ∧
 (∀ (e : Int × Int),
 e ∈ g.2.1 →
 ((-9223372036854775808 : Int) ≤ e.1 ∧ e.1 ≤ (9223372036854775807 : Int)) ∧
 (-9223372036854775808 : Int) ≤ e.2 ∧ e.2 ≤ (9223372036854775807 : Int)) ∧
 (g.2.2.1.length ≤ (9223372036854775807 : Nat) ∧
 ∀ (x : Int), x ∈ g.2.2.1 → (-9223372036854775808 : Int) ≤ x ∧ x ≤ (9223372036854775807 : Int)) ∧
 ((-9223372036854775808 : Int) ≤ g.2.2.2.1 ∧ g.2.2.2.1 ≤ (9223372036854775807 : Int)) ∧ True →
 (decide (g.2.2.2.1 < (↑x.2.2.2.1.length : Int)) = true →
 ((0 : Int) ≤ g.2.2.2.1 ∧ g.2.2.2.1 < (↑x.2.2.2.1.length : Int)) ∧
 (((x.2.2.2.1.getD g.2.2.2.1.toNat ((0 : Int), (0 : Int), (0 : Int))).1 != (1 : Int)) = true →
 ((x.2.2.2.1.getD g.2.2.2.1.toNat ((0 : Int), (0 : Int), (0 : Int))).1 != (1 : Int)) = true) ∧
 (((x.2.2.2.1.getD g.2.2.2.1.toNat ((0 : Int), (0 : Int), (0 : Int))).1 != (1 : Int)) = true →
 ((x.2.2.2.1.getD g.2.2.2.1.toNat ((0 : Int), (0 : Int), (0 : Int))).1 != (1 : Int)) = true) ∧
 (((x.2.2.2.1.getD g.2.2.2.1.toNat ((0 : Int), (0 : Int), (0 : Int))).1 != (1 : Int)) = true →
 ((x.2.2.2.1.getD g.2.2.2.1.toNat ((0 : Int), (0 : Int), (0 : Int))).1 != (1 : Int)) = true) ∧
 (((x.2.2.2.1.getD g.2.2.2.1.toNat ((0 : Int), (0 : Int), (0 : Int))).1 != (1 : Int) &&
 (x.2.2.2.1.getD g.2.2.2.1.toNat ((0 : Int), (0 : Int), (0 : Int))).1 != (2 : Int)) =
 true →
 (g.2.2.1.length + (((0 : Int) :: ([] : List Int)).set (0 : Nat) (5 : Int)).length ≤
 (9223372036854775807 : Nat) ∧
 (g.2.2.1.length + (((0 : Int) :: ([] : List Int)).set (0 : Nat) (5 : Int)).length +
 (g.2.2.1.length + (((0 : Int) :: ([] : List Int)).set (0 : Nat) (5 : Int)).length) /
 (4 : Nat) +
 (192 : Nat)) *
 (8 : Nat) ≤
 (281474976710656 : Nat)) ∧
 ((-9223372036854775808 : Int) ≤ g.2.2.2.1 + (1 : Int) ∧
 g.2.2.2.1 + (1 : Int) ≤ (9223372036854775807 : Int)) ∧
 (((0 : Int) ≤ g.2.2.2.1 + (1 : Int) ∧
 g.2.2.2.1 + (1 : Int) ≤ (↑x.2.2.2.1.length : Int) ∧
 ∃ h w,
 rrun x.1 x.2.1 x.2.2.1
 (List.take (g.2.2.2.1 + (1 : Int)).toNat x.2.2.2.1) =
 ((h, w), g.2.2.1 ++ ((0 : Int) :: ([] : List Int)).set (0 : Nat) (5 : Int)) ∧
 MR g.1 h ∧ MR g.2.1 w) ∧
 ((↑x.2.2.2.1.length : Int) - (g.2.2.2.1 + (1 : Int))).toNat <
 ((↑x.2.2.2.1.length : Int) - g.2.2.2.1).toNat) ∧
 ((True ∧ True) ∧
 (True ∧ True) ∧
 (True ∧ True) ∧
 (True ∧ True) ∧
 True ∧
 True ∧
 x.2.2.2.1 = x.2.2.2.1 ∧
 (↑x.2.2.2.1.length : Int) = (↑x.2.2.2.1.length : Int) ∧
 g.2.2.2.1 + (1 : Int) = g.2.2.2.1 + (1 : Int) ∧ True) ∧
 ((True ∧ True) ∧
 g.1 = g.1 ∧
 (True ∧ True) ∧
 g.2.1 = g.2.1 ∧
 g.2.2.1 ++ ((0 : Int) :: ([] : List Int)).set (0 : Nat) (5 : Int) =
 g.2.2.1 ++ ((0 : Int) :: ([] : List Int)).set (0 : Nat) (5 : Int) ∧
 (x.1 = x.1 ∧ True) ∧
 (x.2.1 = x.2.1 ∧ True) ∧
 (True ∧
 (True ∧ True) ∧
 (True ∧ True) ∧ (True ∧ True) ∧ (True ∧ True) ∧ (True ∧ True) ∧ True) ∧
 (x.2.2.1 = x.2.2.1 ∧ True) ∧ True) ∧
 True) ∧
 (((x.2.2.2.1.getD g.2.2.2.1.toNat ((0 : Int), (0 : Int), (0 : Int))).1 != (1 : Int) &&
 (x.2.2.2.1.getD g.2.2.2.1.toNat ((0 : Int), (0 : Int), (0 : Int))).1 != (2 : Int)) =
 false →
 ((!decide
 ((x.2.2.2.1.getD g.2.2.2.1.toNat ((0 : Int), (0 : Int), (0 : Int))).2.1 <
 (0 : Int))) =
 true →
 (!decide
 ((x.2.2.2.1.getD g.2.2.2.1.toNat ((0 : Int), (0 : Int), (0 : Int))).2.1 <
 (0 : Int))) =
 true) ∧
 ((!decide
 ((x.2.2.2.1.getD g.2.2.2.1.toNat ((0 : Int), (0 : Int), (0 : Int))).2.1 <
 (0 : Int))) =
 true →
 (!decide
 ((x.2.2.2.1.getD g.2.2.2.1.toNat ((0 : Int), (0 : Int), (0 : Int))).2.1 <
 (0 : Int))) =
 true ∧
 (!decide
 ((x.2.2.2.1.getD g.2.2.2.1.toNat ((0 : Int), (0 : Int), (0 : Int))).2.1 <
 (0 : Int))) =
 true) ∧
 (decide
 ((x.2.2.2.1.getD g.2.2.2.1.toNat ((0 : Int), (0 : Int), (0 : Int))).2.1 <
 (0 : Int)) =
 false →
 (!decide
 ((x.2.2.2.1.getD g.2.2.2.1.toNat ((0 : Int), (0 : Int), (0 : Int))).2.1 <
 (0 : Int))) =
 true) ∧
 ((!(decide
 ((x.2.2.2.1.getD g.2.2.2.1.toNat
 ((0 : Int), (0 : Int), (0 : Int))).2.1 <
 (0 : Int)) ||
 decide
 (x.1 ≤
 (x.2.2.2.1.getD g.2.2.2.1.toNat
 ((0 : Int), (0 : Int), (0 : Int))).2.1))) =
 true →
 (!(decide
 ((x.2.2.2.1.getD g.2.2.2.1.toNat
 ((0 : Int), (0 : Int), (0 : Int))).2.1 <
 (0 : Int)) ||
 decide
 (x.1 ≤
 (x.2.2.2.1.getD g.2.2.2.1.toNat
 ((0 : Int), (0 : Int), (0 : Int))).2.1))) =
 true) ∧
 ((!(decide
 ((x.2.2.2.1.getD g.2.2.2.1.toNat
 ((0 : Int), (0 : Int), (0 : Int))).2.1 <
 (0 : Int)) ||
 decide
 (x.1 ≤
 (x.2.2.2.1.getD g.2.2.2.1.toNat
 ((0 : Int), (0 : Int), (0 : Int))).2.1))) =
 true →
 (!(decide
 ((x.2.2.2.1.getD g.2.2.2.1.toNat
 ((0 : Int), (0 : Int), (0 : Int))).2.1 <
 (0 : Int)) ||
 decide
 (x.1 ≤
 (x.2.2.2.1.getD g.2.2.2.1.toNat
 ((0 : Int), (0 : Int), (0 : Int))).2.1))) =
 true) ∧
 ((decide
 ((x.2.2.2.1.getD g.2.2.2.1.toNat
 ((0 : Int), (0 : Int), (0 : Int))).2.1 <
 (0 : Int)) ||
 decide
 (x.1 ≤
 (x.2.2.2.1.getD g.2.2.2.1.toNat
 ((0 : Int), (0 : Int), (0 : Int))).2.1)) =
 false →
 (!(decide
 ((x.2.2.2.1.getD g.2.2.2.1.toNat
 ((0 : Int), (0 : Int), (0 : Int))).2.1 <
 (0 : Int)) ||
 decide
 (x.1 ≤
 (x.2.2.2.1.getD g.2.2.2.1.toNat
 ((0 : Int), (0 : Int), (0 : Int))).2.1))) =
 true) ∧
 ((!(decide
 ((x.2.2.2.1.getD g.2.2.2.1.toNat
 ((0 : Int), (0 : Int), (0 : Int))).2.1 <
 (0 : Int)) ||
 decide
 (x.1 ≤
 (x.2.2.2.1.getD g.2.2.2.1.toNat
 ((0 : Int), (0 : Int), (0 : Int))).2.1) ||
 decide
 ((x.2.2.2.1.getD g.2.2.2.1.toNat
 ((0 : Int), (0 : Int), (0 : Int))).2.2 <
 (0 : Int)))) =
 true →
 (!(decide
 ((x.2.2.2.1.getD g.2.2.2.1.toNat
 ((0 : Int), (0 : Int), (0 : Int))).2.1 <
 (0 : Int)) ||
 decide
 (x.1 ≤
 (x.2.2.2.1.getD g.2.2.2.1.toNat
 ((0 : Int), (0 : Int), (0 : Int))).2.1) ||
 decide
 ((x.2.2.2.1.getD g.2.2.2.1.toNat
 ((0 : Int), (0 : Int), (0 : Int))).2.2 <
 (0 : Int)))) =
 true) ∧
 ((!(decide
 ((x.2.2.2.1.getD g.2.2.2.1.toNat
 ((0 : Int), (0 : Int), (0 : Int))).2.1 <
 (0 : Int)) ||
 decide
 (x.1 ≤
 (x.2.2.2.1.getD g.2.2.2.1.toNat
 ((0 : Int), (0 : Int), (0 : Int))).2.1) ||
 decide
 ((x.2.2.2.1.getD g.2.2.2.1.toNat
 ((0 : Int), (0 : Int), (0 : Int))).2.2 <
 (0 : Int)))) =
 true →
 (!(decide
 ((x.2.2.2.1.getD g.2.2.2.1.toNat
 ((0 : Int), (0 : Int), (0 : Int))).2.1 <
 (0 : Int)) ||
 decide
 (x.1 ≤
 (x.2.2.2.1.getD g.2.2.2.1.toNat
 ((0 : Int), (0 : Int), (0 : Int))).2.1) ||
 decide
 ((x.2.2.2.1.getD g.2.2.2.1.toNat
 ((0 : Int), (0 : Int), (0 : Int))).2.2 <
 (0 : Int)))) =
 true ∧
 (!(decide
 ((x.2.2.2.1.getD g.2.2.2.1.toNat
 ((0 : Int), (0 : Int), (0 : Int))).2.1 <
 (0 : Int)) ||
 decide
 (x.1 ≤
 (x.2.2.2.1.getD g.2.2.2.1.toNat
 ((0 : Int), (0 : Int), (0 : Int))).2.1) ||
 decide
 ((x.2.2.2.1.getD g.2.2.2.1.toNat
 ((0 : Int), (0 : Int), (0 : Int))).2.2 <
 (0 : Int)))) =
 true) ∧
 ((decide
 ((x.2.2.2.1.getD g.2.2.2.1.toNat
 ((0 : Int), (0 : Int), (0 : Int))).2.1 <
 (0 : Int)) ||
 decide
 (x.1 ≤
 (x.2.2.2.1.getD g.2.2.2.1.toNat
 ((0 : Int), (0 : Int), (0 : Int))).2.1) ||
 decide
 ((x.2.2.2.1.getD g.2.2.2.1.toNat
 ((0 : Int), (0 : Int), (0 : Int))).2.2 <
 (0 : Int))) =
 false →
 (!(decide
 ((x.2.2.2.1.getD g.2.2.2.1.toNat
 ((0 : Int), (0 : Int), (0 : Int))).2.1 <
 (0 : Int)) ||
 decide
 (x.1 ≤
 (x.2.2.2.1.getD g.2.2.2.1.toNat
 ((0 : Int), (0 : Int), (0 : Int))).2.1) ||
 decide
 ((x.2.2.2.1.getD g.2.2.2.1.toNat
 ((0 : Int), (0 : Int), (0 : Int))).2.2 <
 (0 : Int)))) =
 true) ∧
 ((decide
 ((x.2.2.2.1.getD g.2.2.2.1.toNat
 ((0 : Int), (0 : Int), (0 : Int))).2.1 <
 (0 : Int)) ||
 decide
 (x.1 ≤
 (x.2.2.2.1.getD g.2.2.2.1.toNat
 ((0 : Int), (0 : Int), (0 : Int))).2.1) ||
 decide
 ((x.2.2.2.1.getD g.2.2.2.1.toNat
 ((0 : Int), (0 : Int), (0 : Int))).2.2 <
 (0 : Int)) ||
 decide
 (x.2.1 ≤
 (x.2.2.2.1.getD g.2.2.2.1.toNat
 ((0 : Int), (0 : Int), (0 : Int))).2.2)) =
 true →
 (g.2.2.1.length +
 (((0 : Int) :: ([] : List Int)).set (0 : Nat) (2 : Int)).length ≤
 (9223372036854775807 : Nat) ∧
 (g.2.2.1.length +
 (((0 : Int) :: ([] : List Int)).set (0 : Nat) (2 : Int)).length +
 (g.2.2.1.length +
 (((0 : Int) :: ([] : List Int)).set (0 : Nat) (2 : Int)).length) /
 (4 : Nat) +
 (192 : Nat)) *
 (8 : Nat) ≤
 (281474976710656 : Nat)) ∧
 ((-9223372036854775808 : Int) ≤ g.2.2.2.1 + (1 : Int) ∧
 g.2.2.2.1 + (1 : Int) ≤ (9223372036854775807 : Int)) ∧
 (((0 : Int) ≤ g.2.2.2.1 + (1 : Int) ∧
 g.2.2.2.1 + (1 : Int) ≤ (↑x.2.2.2.1.length : Int) ∧
 ∃ h w,
 rrun x.1 x.2.1 x.2.2.1
 (List.take (g.2.2.2.1 + (1 : Int)).toNat
 x.2.2.2.1) =
 ((h, w),
 g.2.2.1 ++
 ((0 : Int) :: ([] : List Int)).set (0 : Nat) (2 : Int)) ∧
 MR g.1 h ∧ MR g.2.1 w) ∧
 ((↑x.2.2.2.1.length : Int) - (g.2.2.2.1 + (1 : Int))).toNat <
 ((↑x.2.2.2.1.length : Int) - g.2.2.2.1).toNat) ∧
 ((True ∧ True) ∧
 (True ∧ True) ∧
 (True ∧ True) ∧
 (True ∧ True) ∧
 True ∧
 True ∧
 x.2.2.2.1 = x.2.2.2.1 ∧
 (↑x.2.2.2.1.length : Int) =
 (↑x.2.2.2.1.length : Int) ∧
 g.2.2.2.1 + (1 : Int) = g.2.2.2.1 + (1 : Int) ∧
 True) ∧
 ((True ∧ True) ∧
 g.1 = g.1 ∧
 (True ∧ True) ∧
 g.2.1 = g.2.1 ∧
 g.2.2.1 ++
 ((0 : Int) :: ([] : List Int)).set (0 : Nat) (2 : Int) =
 g.2.2.1 ++
 ((0 : Int) :: ([] : List Int)).set (0 : Nat) (2 : Int) ∧
 (x.1 = x.1 ∧ True) ∧
 (x.2.1 = x.2.1 ∧ True) ∧
 (True ∧
 (True ∧ True) ∧
 (True ∧ True) ∧
 (True ∧ True) ∧ (True ∧ True) ∧ (True ∧ True) ∧ True) ∧
 (x.2.2.1 = x.2.2.1 ∧ True) ∧ True) ∧
 True) ∧
 ((decide
 ((x.2.2.2.1.getD g.2.2.2.1.toNat
 ((0 : Int), (0 : Int), (0 : Int))).2.1 <
 (0 : Int)) ||
 decide
 (x.1 ≤
 (x.2.2.2.1.getD g.2.2.2.1.toNat
 ((0 : Int), (0 : Int), (0 : Int))).2.1) ||
 decide
 ((x.2.2.2.1.getD g.2.2.2.1.toNat
 ((0 : Int), (0 : Int), (0 : Int))).2.2 <
 (0 : Int)) ||
 decide
 (x.2.1 ≤
 (x.2.2.2.1.getD g.2.2.2.1.toNat
 ((0 : Int), (0 : Int), (0 : Int))).2.2)) =
 false →
 (((x.2.2.2.1.getD g.2.2.2.1.toNat
 ((0 : Int), (0 : Int), (0 : Int))).1 ==
 (2 : Int)) =
 true →
 ((!!mhas (Ty.int IntKind.i64) g.1
 (x.2.2.2.1.getD g.2.2.2.1.toNat
 ((0 : Int), (0 : Int), (0 : Int))).2.2) =
 true →
 (!!mhas (Ty.int IntKind.i64) g.1
 (x.2.2.2.1.getD g.2.2.2.1.toNat
 ((0 : Int), (0 : Int), (0 : Int))).2.2) =
 true) ∧
 ((!!mhas (Ty.int IntKind.i64) g.1
 (x.2.2.2.1.getD g.2.2.2.1.toNat
 ((0 : Int), (0 : Int), (0 : Int))).2.2) =
 true →
 (!!mhas (Ty.int IntKind.i64) g.1
 (x.2.2.2.1.getD g.2.2.2.1.toNat
 ((0 : Int), (0 : Int), (0 : Int))).2.2) =
 true ∧
 (!!mhas (Ty.int IntKind.i64) g.1
 (x.2.2.2.1.getD g.2.2.2.1.toNat
 ((0 : Int), (0 : Int), (0 : Int))).2.2) =
 true) ∧
 ((!mhas (Ty.int IntKind.i64) g.1
 (x.2.2.2.1.getD g.2.2.2.1.toNat
 ((0 : Int), (0 : Int), (0 : Int))).2.2) =
 false →
 (!!mhas (Ty.int IntKind.i64) g.1
 (x.2.2.2.1.getD g.2.2.2.1.toNat
 ((0 : Int), (0 : Int), (0 : Int))).2.2) =
 true) ∧
 ((!mhas (Ty.int IntKind.i64) g.1
 (x.2.2.2.1.getD g.2.2.2.1.toNat
 ((0 : Int), (0 : Int), (0 : Int))).2.2 ||
 mval (Ty.int IntKind.i64) g.1
 (x.2.2.2.1.getD g.2.2.2.1.toNat
 ((0 : Int), (0 : Int), (0 : Int))).2.2 !=
 (x.2.2.2.1.getD g.2.2.2.1.toNat
 ((0 : Int), (0 : Int), (0 : Int))).2.1) =
 false →
 (!(!mhas (Ty.int IntKind.i64) g.1
 (x.2.2.2.1.getD g.2.2.2.1.toNat
 ((0 : Int), (0 : Int), (0 : Int))).2.2 ||
 mval (Ty.int IntKind.i64) g.1
 (x.2.2.2.1.getD g.2.2.2.1.toNat
 ((0 : Int), (0 : Int), (0 : Int))).2.2 !=
 (x.2.2.2.1.getD g.2.2.2.1.toNat
 ((0 : Int), (0 : Int), (0 : Int))).2.1)) =
 true) ∧
 ((!mhas (Ty.int IntKind.i64) g.1
 (x.2.2.2.1.getD g.2.2.2.1.toNat
 ((0 : Int), (0 : Int), (0 : Int))).2.2 ||
 mval (Ty.int IntKind.i64) g.1
 (x.2.2.2.1.getD g.2.2.2.1.toNat
 ((0 : Int), (0 : Int), (0 : Int))).2.2 !=
 (x.2.2.2.1.getD g.2.2.2.1.toNat
 ((0 : Int), (0 : Int), (0 : Int))).2.1 ||
 mhas (Ty.int IntKind.i64) g.2.1
 (x.2.2.2.1.getD g.2.2.2.1.toNat
 ((0 : Int), (0 : Int), (0 : Int))).2.1) =
 true →
 (g.2.2.1.length +
 (((0 : Int) :: ([] : List Int)).set (0 : Nat)
 (3 : Int)).length ≤
 (9223372036854775807 : Nat) ∧
 (g.2.2.1.length +
 (((0 : Int) :: ([] : List Int)).set (0 : Nat)
 (3 : Int)).length +
 (g.2.2.1.length +
 (((0 : Int) :: ([] : List Int)).set (0 : Nat)
 (3 : Int)).length) /
 (4 : Nat) +
 (192 : Nat)) *
 (8 : Nat) ≤
 (281474976710656 : Nat)) ∧
 ((-9223372036854775808 : Int) ≤ g.2.2.2.1 + (1 : Int) ∧
 g.2.2.2.1 + (1 : Int) ≤ (9223372036854775807 : Int)) ∧
 (((0 : Int) ≤ g.2.2.2.1 + (1 : Int) ∧
 g.2.2.2.1 + (1 : Int) ≤
 (↑x.2.2.2.1.length : Int) ∧
 ∃ h w,
 rrun x.1 x.2.1 x.2.2.1
 (List.take (g.2.2.2.1 + (1 : Int)).toNat
 x.2.2.2.1) =
 ((h, w),
 g.2.2.1 ++
 ((0 : Int) :: ([] : List Int)).set (0 : Nat)
 (3 : Int)) ∧
 MR g.1 h ∧ MR g.2.1 w) ∧
 ((↑x.2.2.2.1.length : Int) -
 (g.2.2.2.1 + (1 : Int))).toNat <
 ((↑x.2.2.2.1.length : Int) -
 g.2.2.2.1).toNat) ∧
 ((True ∧ True) ∧
 (True ∧ True) ∧
 (True ∧ True) ∧
 (True ∧ True) ∧
 True ∧
 True ∧
 x.2.2.2.1 = x.2.2.2.1 ∧
 (↑x.2.2.2.1.length : Int) =
 (↑x.2.2.2.1.length : Int) ∧
 g.2.2.2.1 + (1 : Int) =
 g.2.2.2.1 + (1 : Int) ∧
 True) ∧
 ((True ∧ True) ∧
 g.1 = g.1 ∧
 (True ∧ True) ∧
 g.2.1 = g.2.1 ∧
 g.2.2.1 ++
 ((0 : Int) :: ([] : List Int)).set (0 : Nat)
 (3 : Int) =
 g.2.2.1 ++
 ((0 : Int) :: ([] : List Int)).set (0 : Nat)
 (3 : Int) ∧
 (x.1 = x.1 ∧ True) ∧
 (x.2.1 = x.2.1 ∧ True) ∧
 (True ∧
 (True ∧ True) ∧
 (True ∧ True) ∧
 (True ∧ True) ∧
 (True ∧ True) ∧
 (True ∧ True) ∧ True) ∧
 (x.2.2.1 = x.2.2.1 ∧ True) ∧
 True) ∧
 True) ∧
 ((!mhas (Ty.int IntKind.i64) g.1
 (x.2.2.2.1.getD g.2.2.2.1.toNat
 ((0 : Int), (0 : Int), (0 : Int))).2.2 ||
 mval (Ty.int IntKind.i64) g.1
 (x.2.2.2.1.getD g.2.2.2.1.toNat
 ((0 : Int), (0 : Int), (0 : Int))).2.2 !=
 (x.2.2.2.1.getD g.2.2.2.1.toNat
 ((0 : Int), (0 : Int), (0 : Int))).2.1 ||
 mhas (Ty.int IntKind.i64) g.2.1
 (x.2.2.2.1.getD g.2.2.2.1.toNat
 ((0 : Int), (0 : Int), (0 : Int))).2.1) =
 false →
 (g.2.2.1.length +
 (((0 : Int) :: ([] : List Int)).set (0 : Nat)
 (0 : Int)).length ≤
 (9223372036854775807 : Nat) ∧
 (g.2.2.1.length +
 (((0 : Int) :: ([] : List Int)).set (0 : Nat)
 (0 : Int)).length +
 (g.2.2.1.length +
 (((0 : Int) :: ([] : List Int)).set (0 : Nat)
 (0 : Int)).length) /
 (4 : Nat) +
 (192 : Nat)) *
 (8 : Nat) ≤
 (281474976710656 : Nat)) ∧
 ((-9223372036854775808 : Int) ≤ g.2.2.2.1 + (1 : Int) ∧
 g.2.2.2.1 + (1 : Int) ≤ (9223372036854775807 : Int)) ∧
 (((0 : Int) ≤ g.2.2.2.1 + (1 : Int) ∧
 g.2.2.2.1 + (1 : Int) ≤
 (↑x.2.2.2.1.length : Int) ∧
 ∃ h w,
 rrun x.1 x.2.1 x.2.2.1
 (List.take (g.2.2.2.1 + (1 : Int)).toNat
 x.2.2.2.1) =
 ((h, w),
 g.2.2.1 ++
 ((0 : Int) :: ([] : List Int)).set (0 : Nat)
 (0 : Int)) ∧
 MR
 (mdel (Ty.int IntKind.i64) g.1
 (x.2.2.2.1.getD g.2.2.2.1.toNat
 ((0 : Int), (0 : Int), (0 : Int))).2.2)
 h ∧
 MR g.2.1 w) ∧
 ((↑x.2.2.2.1.length : Int) -
 (g.2.2.2.1 + (1 : Int))).toNat <
 ((↑x.2.2.2.1.length : Int) -
 g.2.2.2.1).toNat) ∧
 ((True ∧ True) ∧
 (True ∧ True) ∧
 (True ∧ True) ∧
 (True ∧ True) ∧
 True ∧
 True ∧
 x.2.2.2.1 = x.2.2.2.1 ∧
 (↑x.2.2.2.1.length : Int) =
 (↑x.2.2.2.1.length : Int) ∧
 g.2.2.2.1 + (1 : Int) =
 g.2.2.2.1 + (1 : Int) ∧
 True) ∧
 ((True ∧ True) ∧
 mdel (Ty.int IntKind.i64) g.1
 (x.2.2.2.1.getD g.2.2.2.1.toNat
 ((0 : Int), (0 : Int), (0 : Int))).2.2 =
 mdel (Ty.int IntKind.i64) g.1
 (x.2.2.2.1.getD g.2.2.2.1.toNat
 ((0 : Int), (0 : Int), (0 : Int))).2.2 ∧
 (True ∧ True) ∧
 g.2.1 = g.2.1 ∧
 g.2.2.1 ++
 ((0 : Int) :: ([] : List Int)).set (0 : Nat)
 (0 : Int) =
 g.2.2.1 ++
 ((0 : Int) :: ([] : List Int)).set (0 : Nat)
 (0 : Int) ∧
 (x.1 = x.1 ∧ True) ∧
 (x.2.1 = x.2.1 ∧ True) ∧
 (True ∧
 (True ∧ True) ∧
 (True ∧ True) ∧
 (True ∧ True) ∧
 (True ∧ True) ∧
 (True ∧ True) ∧ True) ∧
 (x.2.2.1 = x.2.2.1 ∧ True) ∧
 True) ∧
 True)) ∧
 (((x.2.2.2.1.getD g.2.2.2.1.toNat
 ((0 : Int), (0 : Int), (0 : Int))).1 ==
 (2 : Int)) =
 false →
 (mhas (Ty.int IntKind.i64) g.1
 (x.2.2.2.1.getD g.2.2.2.1.toNat
 ((0 : Int), (0 : Int), (0 : Int))).2.2 =
 true →
 mhas (Ty.int IntKind.i64) g.1
 (x.2.2.2.1.getD g.2.2.2.1.toNat
 ((0 : Int), (0 : Int), (0 : Int))).2.2 =
 true) ∧
 (mhas (Ty.int IntKind.i64) g.1
 (x.2.2.2.1.getD g.2.2.2.1.toNat
 ((0 : Int), (0 : Int), (0 : Int))).2.2 =
 true →
 mhas (Ty.int IntKind.i64) g.1
 (x.2.2.2.1.getD g.2.2.2.1.toNat
 ((0 : Int), (0 : Int), (0 : Int))).2.2 =
 true ∧
 mhas (Ty.int IntKind.i64) g.1
 (x.2.2.2.1.getD g.2.2.2.1.toNat
 ((0 : Int), (0 : Int), (0 : Int))).2.2 =
 true) ∧
 (mhas (Ty.int IntKind.i64) g.1
 (x.2.2.2.1.getD g.2.2.2.1.toNat
 ((0 : Int), (0 : Int), (0 : Int))).2.2 =
 true →
 mhas (Ty.int IntKind.i64) g.1
 (x.2.2.2.1.getD g.2.2.2.1.toNat
 ((0 : Int), (0 : Int), (0 : Int))).2.2 =
 true) ∧
 ((mhas (Ty.int IntKind.i64) g.1
 (x.2.2.2.1.getD g.2.2.2.1.toNat
 ((0 : Int), (0 : Int), (0 : Int))).2.2 &&
 mval (Ty.int IntKind.i64) g.1
 (x.2.2.2.1.getD g.2.2.2.1.toNat
 ((0 : Int), (0 : Int), (0 : Int))).2.2 ==
 (x.2.2.2.1.getD g.2.2.2.1.toNat
 ((0 : Int), (0 : Int), (0 : Int))).2.1) =
 true →
 (g.2.2.1.length +
 (((0 : Int) :: ([] : List Int)).set (0 : Nat) (6 : Int)).length ≤
 (9223372036854775807 : Nat) ∧
 (g.2.2.1.length +
 (((0 : Int) :: ([] : List Int)).set (0 : Nat)
 (6 : Int)).length +
 (g.2.2.1.length +
 (((0 : Int) :: ([] : List Int)).set (0 : Nat)
 (6 : Int)).length) /
 (4 : Nat) +
 (192 : Nat)) *
 (8 : Nat) ≤
 (281474976710656 : Nat)) ∧
 ((-9223372036854775808 : Int) ≤ g.2.2.2.1 + (1 : Int) ∧
 g.2.2.2.1 + (1 : Int) ≤ (9223372036854775807 : Int)) ∧
 (((0 : Int) ≤ g.2.2.2.1 + (1 : Int) ∧
 g.2.2.2.1 + (1 : Int) ≤
 (↑x.2.2.2.1.length : Int) ∧
 ∃ h w,
 rrun x.1 x.2.1 x.2.2.1
 (List.take (g.2.2.2.1 + (1 : Int)).toNat
 x.2.2.2.1) =
 ((h, w),
 g.2.2.1 ++
 ((0 : Int) :: ([] : List Int)).set (0 : Nat)
 (6 : Int)) ∧
 MR g.1 h ∧ MR g.2.1 w) ∧
 ((↑x.2.2.2.1.length : Int) -
 (g.2.2.2.1 + (1 : Int))).toNat <
 ((↑x.2.2.2.1.length : Int) - g.2.2.2.1).toNat) ∧
 ((True ∧ True) ∧
 (True ∧ True) ∧
 (True ∧ True) ∧
 (True ∧ True) ∧
 True ∧
 True ∧
 x.2.2.2.1 = x.2.2.2.1 ∧
 (↑x.2.2.2.1.length : Int) =
 (↑x.2.2.2.1.length : Int) ∧
 g.2.2.2.1 + (1 : Int) =
 g.2.2.2.1 + (1 : Int) ∧
 True) ∧
 ((True ∧ True) ∧
 g.1 = g.1 ∧
 (True ∧ True) ∧
 g.2.1 = g.2.1 ∧
 g.2.2.1 ++
 ((0 : Int) :: ([] : List Int)).set (0 : Nat)
 (6 : Int) =
 g.2.2.1 ++
 ((0 : Int) :: ([] : List Int)).set (0 : Nat)
 (6 : Int) ∧
 (x.1 = x.1 ∧ True) ∧
 (x.2.1 = x.2.1 ∧ True) ∧
 (True ∧
 (True ∧ True) ∧
 (True ∧ True) ∧
 (True ∧ True) ∧
 (True ∧ True) ∧ (True ∧ True) ∧ True) ∧
 (x.2.2.1 = x.2.2.1 ∧ True) ∧ True) ∧
 True) ∧
 ((mhas (Ty.int IntKind.i64) g.1
 (x.2.2.2.1.getD g.2.2.2.1.toNat
 ((0 : Int), (0 : Int), (0 : Int))).2.2 &&
 mval (Ty.int IntKind.i64) g.1
 (x.2.2.2.1.getD g.2.2.2.1.toNat
 ((0 : Int), (0 : Int), (0 : Int))).2.2 ==
 (x.2.2.2.1.getD g.2.2.2.1.toNat
 ((0 : Int), (0 : Int), (0 : Int))).2.1) =
 false →
 ∀ (r : Nat),
 ((((∀ (e : Int × Int), e ∈ g.1 → e ∈ g.1) ∧
 ∀ (e : Int × Int),
 e ∈ g.1 →
 e ∈ g.1 ∨
 ¬bad x.2.2.1
 ((x.2.2.2.1.getD g.2.2.2.1.toNat
 ((0 : Int), (0 : Int), (0 : Int))).1,
 (x.2.2.2.1.getD g.2.2.2.1.toNat
 ((0 : Int), (0 : Int), (0 : Int))).2.1,
 (x.2.2.2.1.getD g.2.2.2.1.toNat
 ((0 : Int), (0 : Int), (0 : Int))).2.2)
 e) ∧
 True) ∧
 ((True ∧ True) ∧
 (True ∧ True) ∧
 (True ∧ True) ∧
 (True ∧ True) ∧
 mhas (Ty.int IntKind.i64) g.1
 (x.2.2.2.1.getD g.2.2.2.1.toNat
 ((0 : Int), (0 : Int), (0 : Int))).2.2 =
 mhas (Ty.int IntKind.i64) g.1
 (x.2.2.2.1.getD g.2.2.2.1.toNat
 ((0 : Int), (0 : Int), (0 : Int))).2.2 ∧
 mval (Ty.int IntKind.i64) g.2.1
 (x.2.2.2.1.getD g.2.2.2.1.toNat
 ((0 : Int), (0 : Int), (0 : Int))).2.1 =
 mval (Ty.int IntKind.i64) g.2.1
 (x.2.2.2.1.getD g.2.2.2.1.toNat
 ((0 : Int), (0 : Int), (0 : Int))).2.1 ∧
 mhas (Ty.int IntKind.i64) g.2.1
 (x.2.2.2.1.getD g.2.2.2.1.toNat
 ((0 : Int), (0 : Int),
 (0 : Int))).2.1 =
 mhas (Ty.int IntKind.i64) g.2.1
 (x.2.2.2.1.getD g.2.2.2.1.toNat
 ((0 : Int), (0 : Int),
 (0 : Int))).2.1 ∧
 (True ∧ r = r) ∧ True) ∧
 ((r = r ∧ g.1 = g.1 ∧ g.1 = g.1) ∧
 (x.1 = x.1 ∧ True) ∧
 (x.2.1 = x.2.1 ∧ True) ∧
 (True ∧ True) ∧
 (True ∧ True) ∧
 g.2.1 = g.2.1 ∧
 (True ∧
 (True ∧ True) ∧
 (True ∧ True) ∧
 (True ∧ True) ∧
 (True ∧ True) ∧ (True ∧ True) ∧ True) ∧
 (x.2.2.1 = x.2.2.1 ∧ True) ∧
 g.2.2.1 = g.2.2.1 ∧
 ((x.2.2.2.1.getD
 g.2.2.2.1.toNat
 ((0 : Int), (0 : Int),
 (0 : Int))).1 =
 (x.2.2.2.1.getD
 g.2.2.2.1.toNat
 ((0 : Int), (0 : Int),
 (0 : Int))).1 ∧
 (x.2.2.2.1.getD
 g.2.2.2.1.toNat
 ((0 : Int), (0 : Int),
 (0 : Int))).2.1 =
 (x.2.2.2.1.getD
 g.2.2.2.1.toNat
 ((0 : Int), (0 : Int),
 (0 : Int))).2.1 ∧
 (x.2.2.2.1.getD
 g.2.2.2.1.toNat
 ((0 : Int), (0 : Int),
 (0 : Int))).2.2 =
 (x.2.2.2.1.getD
 g.2.2.2.1.toNat
 ((0 : Int), (0 : Int),
 (0 : Int))).2.2 ∧
 True) ∧
 ((x.2.2.2.1.getD
 g.2.2.2.1.toNat
 ((0 : Int), (0 : Int),
 (0 : Int))).1 =
 (x.2.2.2.1.getD
 g.2.2.2.1.toNat
 ((0 : Int), (0 : Int),
 (0 : Int))).1 ∧
 (x.2.2.2.1.getD
 g.2.2.2.1.toNat
 ((0 : Int), (0 : Int),
 (0 : Int))).2.1 =
 (x.2.2.2.1.getD
 g.2.2.2.1.toNat
 ((0 : Int), (0 : Int),
 (0 : Int))).2.1 ∧
 (x.2.2.2.1.getD
 g.2.2.2.1.toNat
 ((0 : Int), (0 : Int),
 (0 : Int))).2.2 =
 (x.2.2.2.1.getD
 g.2.2.2.1.toNat
 ((0 : Int), (0 : Int),
 (0 : Int))).2.2 ∧
 True) ∧
 True) ∧
 True ∧
 True ∧
 True ∧
 True ∧
 (True ∧ True) ∧
 (True ∧ True) ∧
 True ∧
 True ∧
 True ∧
 True ∧
 True ∧
 True ∧
 (True ∧ True) ∧
 (True ∧ True) ∧
 True ∧
 True ∧
 True ∧
 (True ∧ True) ∧
 True ∧
 True ∧
 True ∧
 True ∧
 True ∧
 True ∧
 True ∧
 True ∧
 True ∧
 True ∧
 True ∧
 True ∧
 True ∧
 True ∧
 True ∧
 True ∧
 True ∧
 True ∧
 x.2.2.2.1 =
 x.2.2.2.1 ∧
 (↑x.2.2.2.1.length :
 Int) =
 (↑x.2.2.2.1.length :
 Int) ∧
 g.2.2.2.1 =
 g.2.2.2.1 ∧
 true =
 true ∧
 True ∧
 ((x.2.2.2.1.getD
 g.2.2.2.1.toNat
 ((0 :
 Int),
 (0 :
 Int),
 (0 :
 Int))).1 =
 (x.2.2.2.1.getD
 g.2.2.2.1.toNat
 ((0 :
 Int),
 (0 :
 Int),
 (0 :
 Int))).1 ∧
 (x.2.2.2.1.getD
 g.2.2.2.1.toNat
 ((0 :
 Int),
 (0 :
 Int),
 (0 :
 Int))).2.1 =
 (x.2.2.2.1.getD
 g.2.2.2.1.toNat
 ((0 :
 Int),
 (0 :
 Int),
 (0 :
 Int))).2.1 ∧
 (x.2.2.2.1.getD
 g.2.2.2.1.toNat
 ((0 :
 Int),
 (0 :
 Int),
 (0 :
 Int))).2.2 =
 (x.2.2.2.1.getD
 g.2.2.2.1.toNat
 ((0 :
 Int),
 (0 :
 Int),
 (0 :
 Int))).2.2 ∧
 True) ∧
 True ∧
 True ∧
 ((x.2.2.2.1.getD
 g.2.2.2.1.toNat
 ((0 :
 Int),
 (0 :
 Int),
 (0 :
 Int))).1 =
 (x.2.2.2.1.getD
 g.2.2.2.1.toNat
 ((0 :
 Int),
 (0 :
 Int),
 (0 :
 Int))).1 ∧
 (x.2.2.2.1.getD
 g.2.2.2.1.toNat
 ((0 :
 Int),
 (0 :
 Int),
 (0 :
 Int))).2.1 =
 (x.2.2.2.1.getD
 g.2.2.2.1.toNat
 ((0 :
 Int),
 (0 :
 Int),
 (0 :
 Int))).2.1 ∧
 (x.2.2.2.1.getD
 g.2.2.2.1.toNat
 ((0 :
 Int),
 (0 :
 Int),
 (0 :
 Int))).2.2 =
 (x.2.2.2.1.getD
 g.2.2.2.1.toNat
 ((0 :
 Int),
 (0 :
 Int),
 (0 :
 Int))).2.2 ∧
 True) ∧
 True ∧
 True ∧
 True ∧
 True ∧
 True ∧
 True ∧
 True ∧
 True ∧
 True ∧
 True ∧
 True ∧
 True ∧
 True ∧
 True) ∧
 ∀ (g_1 : List (Int × Int) × Unit),
 ((∀ (e : Int × Int), e ∈ g_1.1 → e ∈ g.1) ∧
 ∀ (e : Int × Int),
 e ∈ g.1 →
 e ∈ g_1.1 ∨
 ¬bad x.2.2.1
 ((x.2.2.2.1.getD g.2.2.2.1.toNat
 ((0 : Int), (0 : Int), (0 : Int))).1,
 (x.2.2.2.1.getD g.2.2.2.1.toNat
 ((0 : Int), (0 : Int), (0 : Int))).2.1,
 (x.2.2.2.1.getD g.2.2.2.1.toNat
 ((0 : Int), (0 : Int), (0 : Int))).2.2)
 e) →
 (∀ (e : Int × Int),
 e ∈ g_1.1 →
 ((-9223372036854775808 : Int) ≤ e.1 ∧
 e.1 ≤ (9223372036854775807 : Int)) ∧
 (-9223372036854775808 : Int) ≤ e.2 ∧
 e.2 ≤ (9223372036854775807 : Int)) ∧
 True →
 r = r ∧
 (g_1.1 = ([] : List (Int × Int)) →
 (mhas (Ty.int IntKind.i64) g.2.1
 (x.2.2.2.1.getD g.2.2.2.1.toNat
 ((0 : Int), (0 : Int), (0 : Int))).2.1 =
 true →
 mhas (Ty.int IntKind.i64) g.2.1
 (x.2.2.2.1.getD g.2.2.2.1.toNat
 ((0 : Int), (0 : Int), (0 : Int))).2.1 =
 true) ∧
 (mhas (Ty.int IntKind.i64) g.2.1
 (x.2.2.2.1.getD g.2.2.2.1.toNat
 ((0 : Int), (0 : Int),
 (0 : Int))).2.1 =
 true →
 mhas (Ty.int IntKind.i64) g.2.1
 (x.2.2.2.1.getD
 g.2.2.2.1.toNat
 ((0 : Int), (0 : Int),
 (0 : Int))).2.1 =
 true ∧
 mhas (Ty.int IntKind.i64) g.2.1
 (x.2.2.2.1.getD
 g.2.2.2.1.toNat
 ((0 : Int), (0 : Int),
 (0 : Int))).2.1 =
 true) ∧
 (mhas (Ty.int IntKind.i64) g.2.1
 (x.2.2.2.1.getD
 g.2.2.2.1.toNat
 ((0 : Int), (0 : Int),
 (0 : Int))).2.1 =
 true →
 mhas (Ty.int IntKind.i64) g.2.1
 (x.2.2.2.1.getD
 g.2.2.2.1.toNat
 ((0 : Int), (0 : Int),
 (0 : Int))).2.1 =
 true) ∧
 ((mhas (Ty.int IntKind.i64) g.2.1
 (x.2.2.2.1.getD
 g.2.2.2.1.toNat
 ((0 : Int), (0 : Int),
 (0 : Int))).2.1 &&
 mval (Ty.int IntKind.i64) g.2.1
 (x.2.2.2.1.getD
 g.2.2.2.1.toNat
 ((0 : Int), (0 : Int),
 (0 : Int))).2.1 !=
 (x.2.2.2.1.getD
 g.2.2.2.1.toNat
 ((0 : Int), (0 : Int),
 (0 : Int))).2.2) =
 true →
 (g.2.2.1.length +
 (((0 : Int) :: ([] : List Int)).set
 (0 : Nat) (3 : Int)).length ≤
 (9223372036854775807 : Nat) ∧
 (g.2.2.1.length +
 (((0 : Int) ::
 ([] : List Int)).set
 (0 : Nat) (3 : Int)).length +
 (g.2.2.1.length +
 (((0 : Int) ::
 ([] : List Int)).set
 (0 : Nat)
 (3 : Int)).length) /
 (4 : Nat) +
 (192 : Nat)) *
 (8 : Nat) ≤
 (281474976710656 : Nat)) ∧
 ((-9223372036854775808 : Int) ≤
 g.2.2.2.1 + (1 : Int) ∧
 g.2.2.2.1 + (1 : Int) ≤
 (9223372036854775807 : Int)) ∧
 (((0 : Int) ≤
 g.2.2.2.1 + (1 : Int) ∧
 g.2.2.2.1 + (1 : Int) ≤
 (↑x.2.2.2.1.length :
 Int) ∧
 ∃ h w,
 rrun x.1 x.2.1 x.2.2.1
 (List.take
 (g.2.2.2.1 +
 (1 : Int)).toNat
 x.2.2.2.1) =
 ((h, w),
 g.2.2.1 ++
 ((0 : Int) ::
 ([] : List Int)).set
 (0 : Nat) (3 : Int)) ∧
 MR g.1 h ∧ MR g.2.1 w) ∧
 ((↑x.2.2.2.1.length : Int) -
 (g.2.2.2.1 +
 (1 : Int))).toNat <
 ((↑x.2.2.2.1.length : Int) -
 g.2.2.2.1).toNat) ∧
 ((True ∧ True) ∧
 (True ∧ True) ∧
 (True ∧ True) ∧
 (True ∧ True) ∧
 True ∧
 True ∧
 x.2.2.2.1 =
 x.2.2.2.1 ∧
 (↑x.2.2.2.1.length :
 Int) =
 (↑x.2.2.2.1.length :
 Int) ∧
 g.2.2.2.1 +
 (1 : Int) =
 g.2.2.2.1 +
 (1 : Int) ∧
 True) ∧
 ((True ∧ True) ∧
 g.1 = g.1 ∧
 (True ∧ True) ∧
 g.2.1 = g.2.1 ∧
 g.2.2.1 ++
 ((0 : Int) ::
 ([] :
 List Int)).set
 (0 : Nat) (3 : Int) =
 g.2.2.1 ++
 ((0 : Int) ::
 ([] :
 List Int)).set
 (0 : Nat) (3 : Int) ∧
 (x.1 = x.1 ∧ True) ∧
 (x.2.1 = x.2.1 ∧
 True) ∧
 (True ∧
 (True ∧ True) ∧
 (True ∧ True) ∧
 (True ∧ True) ∧
 (True ∧
 True) ∧
 (True ∧
 True) ∧
 True) ∧
 (x.2.2.1 =
 x.2.2.1 ∧
 True) ∧
 True) ∧
 True) ∧
 ((mhas (Ty.int IntKind.i64) g.2.1
 (x.2.2.2.1.getD
 g.2.2.2.1.toNat
 ((0 : Int), (0 : Int),
 (0 : Int))).2.1 &&
 mval (Ty.int IntKind.i64) g.2.1
 (x.2.2.2.1.getD
 g.2.2.2.1.toNat
 ((0 : Int), (0 : Int),
 (0 : Int))).2.1 !=
 (x.2.2.2.1.getD
 g.2.2.2.1.toNat
 ((0 : Int), (0 : Int),
 (0 : Int))).2.2) =
 false →
 (mhas (Ty.int IntKind.i64) g.1
 (x.2.2.2.1.getD
 g.2.2.2.1.toNat
 ((0 : Int), (0 : Int),
 (0 : Int))).2.2 =
 true →
 (g.2.2.1.length +
 (((0 : Int) :: ([] : List Int)).set
 (0 : Nat) (7 : Int)).length ≤
 (9223372036854775807 : Nat) ∧
 (g.2.2.1.length +
 (((0 : Int) ::
 ([] : List Int)).set
 (0 : Nat)
 (7 : Int)).length +
 (g.2.2.1.length +
 (((0 : Int) ::
 ([] : List Int)).set
 (0 : Nat)
 (7 : Int)).length) /
 (4 : Nat) +
 (192 : Nat)) *
 (8 : Nat) ≤
 (281474976710656 : Nat)) ∧
 ((-9223372036854775808 : Int) ≤
 g.2.2.2.1 + (1 : Int) ∧
 g.2.2.2.1 + (1 : Int) ≤
 (9223372036854775807 : Int)) ∧
 (((0 : Int) ≤
 g.2.2.2.1 + (1 : Int) ∧
 g.2.2.2.1 + (1 : Int) ≤
 (↑x.2.2.2.1.length :
 Int) ∧
 ∃ h w,
 rrun x.1 x.2.1
 x.2.2.1
 (List.take
 (g.2.2.2.1 +
 (1 : Int)).toNat
 x.2.2.2.1) =
 ((h, w),
 g.2.2.1 ++
 ((0 : Int) ::
 ([] :
 List Int)).set
 (0 : Nat)
 (7 : Int)) ∧
 MR g.1 h ∧
 MR
 (mput
 (Ty.int IntKind.i64)
 g.2.1
 (x.2.2.2.1.getD
 g.2.2.2.1.toNat
 ((0 : Int),
 (0 : Int),
 (0 :
 Int))).2.1
 (x.2.2.2.1.getD
 g.2.2.2.1.toNat
 ((0 : Int),
 (0 : Int),
 (0 :
 Int))).2.2)
 w) ∧
 ((↑x.2.2.2.1.length : Int) -
 (g.2.2.2.1 +
 (1 : Int))).toNat <
 ((↑x.2.2.2.1.length :
 Int) -
 g.2.2.2.1).toNat) ∧
 ((True ∧ True) ∧
 (True ∧ True) ∧
 (True ∧ True) ∧
 (True ∧ True) ∧
 True ∧
 True ∧
 x.2.2.2.1 =
 x.2.2.2.1 ∧
 (↑x.2.2.2.1.length :
 Int) =
 (↑x.2.2.2.1.length :
 Int) ∧
 g.2.2.2.1 +
 (1 : Int) =
 g.2.2.2.1 +
 (1 : Int) ∧
 True) ∧
 ((True ∧ True) ∧
 g.1 = g.1 ∧
 (True ∧ True) ∧
 mput (Ty.int IntKind.i64)
 g.2.1
 (x.2.2.2.1.getD
 g.2.2.2.1.toNat
 ((0 : Int),
 (0 : Int),
 (0 :
 Int))).2.1
 (x.2.2.2.1.getD
 g.2.2.2.1.toNat
 ((0 : Int),
 (0 : Int),
 (0 :
 Int))).2.2 =
 mput
 (Ty.int IntKind.i64)
 g.2.1
 (x.2.2.2.1.getD
 g.2.2.2.1.toNat
 ((0 : Int),
 (0 : Int),
 (0 :
 Int))).2.1
 (x.2.2.2.1.getD
 g.2.2.2.1.toNat
 ((0 : Int),
 (0 : Int),
 (0 :
 Int))).2.2 ∧
 g.2.2.1 ++
 ((0 : Int) ::
 ([] :
 List
 Int)).set
 (0 : Nat)
 (7 : Int) =
 g.2.2.1 ++
 ((0 : Int) ::
 ([] :
 List
 Int)).set
 (0 : Nat)
 (7 : Int) ∧
 (x.1 = x.1 ∧ True) ∧
 (x.2.1 =
 x.2.1 ∧
 True) ∧
 (True ∧
 (True ∧ True) ∧
 (True ∧
 True) ∧
 (True ∧
 True) ∧
 (True ∧
 True) ∧
 (True ∧
 True) ∧
 True) ∧
 (x.2.2.1 =
 x.2.2.1 ∧
 True) ∧
 True) ∧
 True) ∧
 (mhas (Ty.int IntKind.i64) g.1
 (x.2.2.2.1.getD
 g.2.2.2.1.toNat
 ((0 : Int), (0 : Int),
 (0 : Int))).2.2 =
 false →
 (g.2.2.1.length +
 (((0 : Int) :: ([] : List Int)).set
 (0 : Nat) (0 : Int)).length ≤
 (9223372036854775807 : Nat) ∧
 (g.2.2.1.length +
 (((0 : Int) ::
 ([] : List Int)).set
 (0 : Nat)
 (0 : Int)).length +
 (g.2.2.1.length +
 (((0 : Int) ::
 ([] : List Int)).set
 (0 : Nat)
 (0 : Int)).length) /
 (4 : Nat) +
 (192 : Nat)) *
 (8 : Nat) ≤
 (281474976710656 : Nat)) ∧
 ((-9223372036854775808 : Int) ≤
 g.2.2.2.1 + (1 : Int) ∧
 g.2.2.2.1 + (1 : Int) ≤
 (9223372036854775807 : Int)) ∧
 (((0 : Int) ≤
 g.2.2.2.1 + (1 : Int) ∧
 g.2.2.2.1 + (1 : Int) ≤
 (↑x.2.2.2.1.length :
 Int) ∧
 ∃ h w,
 rrun x.1 x.2.1
 x.2.2.1
 (List.take
 (g.2.2.2.1 +
 (1 : Int)).toNat
 x.2.2.2.1) =
 ((h, w),
 g.2.2.1 ++
 ((0 : Int) ::
 ([] :
 List Int)).set
 (0 : Nat)
 (0 : Int)) ∧
 MR
 (mput
 (Ty.int IntKind.i64)
 g.1
 (x.2.2.2.1.getD
 g.2.2.2.1.toNat
 ((0 : Int),
 (0 : Int),
 (0 :
 Int))).2.2
 (x.2.2.2.1.getD
 g.2.2.2.1.toNat
 ((0 : Int),
 (0 : Int),
 (0 :
 Int))).2.1)
 h ∧
 MR
 (mdel
 (Ty.int IntKind.i64)
 g.2.1
 (x.2.2.2.1.getD
 g.2.2.2.1.toNat
 ((0 : Int),
 (0 : Int),
 (0 :
 Int))).2.1)
 w) ∧
 ((↑x.2.2.2.1.length : Int) -
 (g.2.2.2.1 +
 (1 : Int))).toNat <
 ((↑x.2.2.2.1.length :
 Int) -
 g.2.2.2.1).toNat) ∧
 ((True ∧ True) ∧
 (True ∧ True) ∧
 (True ∧ True) ∧
 (True ∧ True) ∧
 True ∧
 True ∧
 x.2.2.2.1 =
 x.2.2.2.1 ∧
 (↑x.2.2.2.1.length :
 Int) =
 (↑x.2.2.2.1.length :
 Int) ∧
 g.2.2.2.1 +
 (1 : Int) =
 g.2.2.2.1 +
 (1 : Int) ∧
 True) ∧
 ((True ∧ True) ∧
 mput (Ty.int IntKind.i64) g.1
 (x.2.2.2.1.getD
 g.2.2.2.1.toNat
 ((0 : Int),
 (0 : Int),
 (0 :
 Int))).2.2
 (x.2.2.2.1.getD
 g.2.2.2.1.toNat
 ((0 : Int),
 (0 : Int),
 (0 :
 Int))).2.1 =
 mput (Ty.int IntKind.i64)
 g.1
 (x.2.2.2.1.getD
 g.2.2.2.1.toNat
 ((0 : Int),
 (0 : Int),
 (0 :
 Int))).2.2
 (x.2.2.2.1.getD
 g.2.2.2.1.toNat
 ((0 : Int),
 (0 : Int),
 (0 :
 Int))).2.1 ∧
 (True ∧ True) ∧
 mdel (Ty.int IntKind.i64)
 g.2.1
 (x.2.2.2.1.getD
 g.2.2.2.1.toNat
 ((0 : Int),
 (0 : Int),
 (0 :
 Int))).2.1 =
 mdel
 (Ty.int IntKind.i64)
 g.2.1
 (x.2.2.2.1.getD
 g.2.2.2.1.toNat
 ((0 : Int),
 (0 : Int),
 (0 :
 Int))).2.1 ∧
 g.2.2.1 ++
 ((0 : Int) ::
 ([] :
 List
 Int)).set
 (0 : Nat)
 (0 : Int) =
 g.2.2.1 ++
 ((0 : Int) ::
 ([] :
 List
 Int)).set
 (0 : Nat)
 (0 : Int) ∧
 (x.1 = x.1 ∧ True) ∧
 (x.2.1 =
 x.2.1 ∧
 True) ∧
 (True ∧
 (True ∧ True) ∧
 (True ∧
 True) ∧
 (True ∧
 True) ∧
 (True ∧
 True) ∧
 (True ∧
 True) ∧
 True) ∧
 (x.2.2.1 =
 x.2.2.1 ∧
 True) ∧
 True) ∧
 True))) ∧
 ∀ (i : Nat) (e : Int × Int),
 g_1.1[i]? = some e →
 r = r ∧
 (x.2.2.1 = true → x.2.2.1 = true) ∧
 (x.2.2.1 = true →
 x.2.2.1 = true ∧ x.2.2.1 = true) ∧
 (x.2.2.1 = true → x.2.2.1 = true) ∧
 ((x.2.2.1 &&
 e.2 ==
 (x.2.2.2.1.getD
 g.2.2.2.1.toNat
 ((0 : Int), (0 : Int),
 (0 : Int))).2.1) =
 true →
 (x.2.2.1 &&
 e.2 ==
 (x.2.2.2.1.getD
 g.2.2.2.1.toNat
 ((0 : Int), (0 : Int),
 (0 : Int))).2.1) =
 true) ∧
 ((x.2.2.1 &&
 e.2 ==
 (x.2.2.2.1.getD
 g.2.2.2.1.toNat
 ((0 : Int), (0 : Int),
 (0 : Int))).2.1) =
 true →
 (x.2.2.1 &&
 e.2 ==
 (x.2.2.2.1.getD
 g.2.2.2.1.toNat
 ((0 : Int), (0 : Int),
 (0 : Int))).2.1) =
 true ∧
 (x.2.2.1 &&
 e.2 ==
 (x.2.2.2.1.getD
 g.2.2.2.1.toNat
 ((0 : Int), (0 : Int),
 (0 : Int))).2.1) =
 true) ∧
 ((x.2.2.1 &&
 e.2 ==
 (x.2.2.2.1.getD
 g.2.2.2.1.toNat
 ((0 : Int), (0 : Int),
 (0 : Int))).2.1) =
 true →
 (x.2.2.1 &&
 e.2 ==
 (x.2.2.2.1.getD
 g.2.2.2.1.toNat
 ((0 : Int), (0 : Int),
 (0 : Int))).2.1) =
 true) ∧
 ((x.2.2.1 &&
 e.2 ==
 (x.2.2.2.1.getD
 g.2.2.2.1.toNat
 ((0 : Int), (0 : Int),
 (0 : Int))).2.1 &&
 decide
 ((x.2.2.2.1.getD
 g.2.2.2.1.toNat
 ((0 : Int), (0 : Int),
 (0 : Int))).2.2 <
 e.1)) =
 true →
 (g.2.2.1.length +
 (((0 : Int) ::
 ([] : List Int)).set
 (0 : Nat)
 (8 : Int)).length ≤
 (9223372036854775807 : Nat) ∧
 (g.2.2.1.length +
 (((0 : Int) ::
 ([] :
 List Int)).set
 (0 : Nat)
 (8 : Int)).length +
 (g.2.2.1.length +
 (((0 : Int) ::
 ([] :
 List
 Int)).set
 (0 : Nat)
 (8 :
 Int)).length) /
 (4 : Nat) +
 (192 : Nat)) *
 (8 : Nat) ≤
 (281474976710656 : Nat)) ∧
 ((-9223372036854775808 : Int) ≤
 g.2.2.2.1 +
 (1 : Int) ∧
 g.2.2.2.1 + (1 : Int) ≤
 (9223372036854775807 : Int)) ∧
 (((0 : Int) ≤
 g.2.2.2.1 +
 (1 : Int) ∧
 g.2.2.2.1 +
 (1 : Int) ≤
 (↑x.2.2.2.1.length :
 Int) ∧
 ∃ h w,
 rrun x.1 x.2.1
 x.2.2.1
 (List.take
 (g.2.2.2.1 +
 (1 :
 Int)).toNat
 x.2.2.2.1) =
 ((h, w),
 g.2.2.1 ++
 ((0 : Int) ::
 ([] :
 List
 Int)).set
 (0 : Nat)
 (8 : Int)) ∧
 MR g.1 h ∧
 MR g.2.1 w) ∧
 ((↑x.2.2.2.1.length :
 Int) -
 (g.2.2.2.1 +
 (1 : Int))).toNat <
 ((↑x.2.2.2.1.length :
 Int) -
 g.2.2.2.1).toNat) ∧
 ((True ∧ True) ∧
 (True ∧ True) ∧
 (True ∧ True) ∧
 (True ∧ True) ∧
 True ∧
 True ∧
 x.2.2.2.1 =
 x.2.2.2.1 ∧
 (↑x.2.2.2.1.length :
 Int) =
 (↑x.2.2.2.1.length :
 Int) ∧
 g.2.2.2.1 +
 (1 :
 Int) =
 g.2.2.2.1 +
 (1 :
 Int) ∧
 True) ∧
 ((True ∧ True) ∧
 g.1 = g.1 ∧
 (True ∧ True) ∧
 g.2.1 =
 g.2.1 ∧
 g.2.2.1 ++
 ((0 : Int) ::
 ([] :
 List
 Int)).set
 (0 : Nat)
 (8 : Int) =
 g.2.2.1 ++
 ((0 : Int) ::
 ([] :
 List
 Int)).set
 (0 : Nat)
 (8 : Int) ∧
 (x.1 = x.1 ∧
 True) ∧
 (x.2.1 =
 x.2.1 ∧
 True) ∧
 (True ∧
 (True ∧
 True) ∧
 (True ∧
 True) ∧
 (True ∧
 True) ∧
 (True ∧
 True) ∧
 (True ∧
 True) ∧
 True) ∧
 (x.2.2.1 =
 x.2.2.1 ∧
 True) ∧
 True) ∧
 True) ∧
 ((x.2.2.1 &&
 e.2 ==
 (x.2.2.2.1.getD
 g.2.2.2.1.toNat
 ((0 : Int), (0 : Int),
 (0 : Int))).2.1 &&
 decide
 ((x.2.2.2.1.getD
 g.2.2.2.1.toNat
 ((0 : Int), (0 : Int),
 (0 : Int))).2.2 <
 e.1)) =
 false →
 (((∀ (e : Int × Int),
 e ∈ g_1.1.eraseIdx i →
 e ∈ g.1) ∧
 ∀ (e : Int × Int),
 e ∈ g.1 →
 e ∈ g_1.1.eraseIdx i ∨
 ¬bad x.2.2.1
 ((x.2.2.2.1.getD
 g.2.2.2.1.toNat
 ((0 : Int),
 (0 : Int),
 (0 :
 Int))).1,
 (x.2.2.2.1.getD
 g.2.2.2.1.toNat
 ((0 : Int),
 (0 : Int),
 (0 :
 Int))).2.1,
 (x.2.2.2.1.getD
 g.2.2.2.1.toNat
 ((0 : Int),
 (0 : Int),
 (0 :
 Int))).2.2)
 e) ∧
 (g_1.1.eraseIdx i).length <
 g_1.1.length) ∧
 ((True ∧ True) ∧
 (True ∧ True) ∧
 (True ∧ True) ∧
 (True ∧ True) ∧
 mhas (Ty.int IntKind.i64)
 g.1
 (x.2.2.2.1.getD
 g.2.2.2.1.toNat
 ((0 : Int),
 (0 : Int),
 (0 :
 Int))).2.2 =
 mhas
 (Ty.int IntKind.i64)
 g.1
 (x.2.2.2.1.getD
 g.2.2.2.1.toNat
 ((0 : Int),
 (0 : Int),
 (0 :
 Int))).2.2 ∧
 mval
 (Ty.int
 IntKind.i64)
 g.2.1
 (x.2.2.2.1.getD
 g.2.2.2.1.toNat
 ((0 : Int),
 (0 : Int),
 (0 :
 Int))).2.1 =
 mval
 (Ty.int
 IntKind.i64)
 g.2.1
 (x.2.2.2.1.getD
 g.2.2.2.1.toNat
 ((0 : Int),
 (0 : Int),
 (0 :
 Int))).2.1 ∧
 mhas
 (Ty.int
 IntKind.i64)
 g.2.1
 (x.2.2.2.1.getD
 g.2.2.2.1.toNat
 ((0 :
 Int),
 (0 :
 Int),
 (0 :
 Int))).2.1 =
 mhas
 (Ty.int
 IntKind.i64)
 g.2.1
 (x.2.2.2.1.getD
 g.2.2.2.1.toNat
 ((0 :
 Int),
 (0 :
 Int),
 (0 :
 Int))).2.1 ∧
 (True ∧ r = r) ∧
 True) ∧
 ((r = r ∧
 g.1 = g.1 ∧
 g_1.1.eraseIdx i =
 g_1.1.eraseIdx i) ∧
 (x.1 = x.1 ∧ True) ∧
 (x.2.1 = x.2.1 ∧
 True) ∧
 (True ∧ True) ∧
 (True ∧ True) ∧
 g.2.1 =
 g.2.1 ∧
 (True ∧
 (True ∧ True) ∧
 (True ∧
 True) ∧
 (True ∧
 True) ∧
 (True ∧
 True) ∧
 (True ∧
 True) ∧
 True) ∧
 (x.2.2.1 =
 x.2.2.1 ∧
 True) ∧
 g.2.2.1 =
 g.2.2.1 ∧
 ((x.2.2.2.1.getD
 g.2.2.2.1.toNat
 ((0 :
 Int),
 (0 :
 Int),
 (0 :
 Int))).1 =
 (x.2.2.2.1.getD
 g.2.2.2.1.toNat
 ((0 :
 Int),
 (0 :
 Int),
 (0 :
 Int))).1 ∧
 (x.2.2.2.1.getD
 g.2.2.2.1.toNat
 ((0 :
 Int),
 (0 :
 Int),
 (0 :
 Int))).2.1 =
 (x.2.2.2.1.getD
 g.2.2.2.1.toNat
 ((0 :
 Int),
 (0 :
 Int),
 (0 :
 Int))).2.1 ∧
 (x.2.2.2.1.getD
 g.2.2.2.1.toNat
 ((0 :
 Int),
 (0 :
 Int),
 (0 :
 Int))).2.2 =
 (x.2.2.2.1.getD
 g.2.2.2.1.toNat
 ((0 :
 Int),
 (0 :
 Int),
 (0 :
 Int))).2.2 ∧
 True) ∧
 ((x.2.2.2.1.getD
 g.2.2.2.1.toNat
 ((0 :
 Int),
 (0 :
 Int),
 (0 :
 Int))).1 =
 (x.2.2.2.1.getD
 g.2.2.2.1.toNat
 ((0 :
 Int),
 (0 :
 Int),
 (0 :
 Int))).1 ∧
 (x.2.2.2.1.getD
 g.2.2.2.1.toNat
 ((0 :
 Int),
 (0 :
 Int),
 (0 :
 Int))).2.1 =
 (x.2.2.2.1.getD
 g.2.2.2.1.toNat
 ((0 :
 Int),
 (0 :
 Int),
 (0 :
 Int))).2.1 ∧
 (x.2.2.2.1.getD
 g.2.2.2.1.toNat
 ((0 :
 Int),
 (0 :
 Int),
 (0 :
 Int))).2.2 =
 (x.2.2.2.1.getD
 g.2.2.2.1.toNat
 ((0 :
 Int),
 (0 :
 Int),
 (0 :
 Int))).2.2 ∧
 True) ∧
 True) ∧
 True ∧
 True ∧
 True ∧
 True ∧
 (True ∧ True) ∧
 (True ∧ True) ∧
 True ∧
 True ∧
 True ∧
 True ∧
 True ∧
 True ∧
 (True ∧
 True) ∧
 (True ∧
 True) ∧
 True ∧
 True ∧
 True ∧
 (True ∧
 True) ∧
 True ∧
 True ∧
 True ∧
 True ∧
 True ∧
 True ∧
 True ∧
 True ∧
 True ∧
 True ∧
 True ∧
 True ∧
 True ∧
 True ∧
 True ∧
 True ∧
 True ∧
 True ∧
 x.2.2.2.1 =
 x.2.2.2.1 ∧
 (↑x.2.2.2.1.length :
 Int) =
 (↑x.2.2.2.1.length :
 Int) ∧
 g.2.2.2.1 =
 g.2.2.2.1 ∧
 true =
 true ∧
 True ∧
 ((x.2.2.2.1.getD
 g.2.2.2.1.toNat
 ((0 :
 Int),
 (0 :
 Int),
 (0 :
 Int))).1 =
 (x.2.2.2.1.getD
 g.2.2.2.1.toNat
 ((0 :
 Int),
 (0 :
 Int),
 (0 :
 Int))).1 ∧
 (x.2.2.2.1.getD
 g.2.2.2.1.toNat
 ((0 :
 Int),
 (0 :
 Int),
 (0 :
 Int))).2.1 =
 (x.2.2.2.1.getD
 g.2.2.2.1.toNat
 ((0 :
 Int),
 (0 :
 Int),
 (0 :
 Int))).2.1 ∧
 (x.2.2.2.1.getD
 g.2.2.2.1.toNat
 ((0 :
 Int),
 (0 :
 Int),
 (0 :
 Int))).2.2 =
 (x.2.2.2.1.getD
 g.2.2.2.1.toNat
 ((0 :
 Int),
 (0 :
 Int),
 (0 :
 Int))).2.2 ∧
 True) ∧
 True ∧
 True ∧
 ((x.2.2.2.1.getD
 g.2.2.2.1.toNat
 ((0 :
 Int),
 (0 :
 Int),
 (0 :
 Int))).1 =
 (x.2.2.2.1.getD
 g.2.2.2.1.toNat
 ((0 :
 Int),
 (0 :
 Int),
 (0 :
 Int))).1 ∧
 (x.2.2.2.1.getD
 g.2.2.2.1.toNat
 ((0 :
 Int),
 (0 :
 Int),
 (0 :
 Int))).2.1 =
 (x.2.2.2.1.getD
 g.2.2.2.1.toNat
 ((0 :
 Int),
 (0 :
 Int),
 (0 :
 Int))).2.1 ∧
 (x.2.2.2.1.getD
 g.2.2.2.1.toNat
 ((0 :
 Int),
 (0 :
 Int),
 (0 :
 Int))).2.2 =
 (x.2.2.2.1.getD
 g.2.2.2.1.toNat
 ((0 :
 Int),
 (0 :
 Int),
 (0 :
 Int))).2.2 ∧
 True) ∧
 True ∧
 True ∧
 True ∧
 True ∧
 True ∧
 True ∧
 True ∧
 True ∧
 True ∧
 True ∧
 True ∧
 True ∧
 True ∧
 True)))))) ∧
 (decide (g.2.2.2.1 < (↑x.2.2.2.1.length : Int)) = false →
 Holds ((1 : Int) ≤ x.2.1 ∧ x.2.1 ≤ (16 : Int)) ∧
 Holds ((1 : Int) ≤ x.1 ∧ x.1 ≤ (16 : Int)) ∧
 g.2.2.1 = (rplay x.1 x.2.1 x.2.2.1 x.2.2.2.1).1 ∧
 lm g.1 x.2.1.toNat = (rplay x.1 x.2.1 x.2.2.1 x.2.2.2.1).2.1 ∧
 lm g.2.1 x.1.toNat = (rplay x.1 x.2.1 x.2.2.1 x.2.2.2.1).2.2.1 ∧
 (0 : Int) = (rplay x.1 x.2.1 x.2.2.1 x.2.2.2.1).2.2.2.1))

theorem E_hplay_eq (x : HL (cPlay : Ctr).as) : vc (fx_hplay x) 2 9 Try.f9 (cPlay) x = E_hplay x := by kernel_rfl

def E_ranks (x : Int × Int × Bool × List (Int × Int × Int) × Unit) : Prop :=
 Holds (x.2.2.2.1.length * (24 : Nat) ≤ (140737488355328 : Nat)) ∧
 Holds (x.2.2.2.1.length * (24 : Nat) ≤ (140737488355328 : Nat)) ∧
 (((rplay x.1 x.2.1 x.2.2.1 x.2.2.2.1).2.2.2.1 ==
 (rplay x.1 x.2.1 x.2.2.1 x.2.2.2.1).2.2.2.1) =
 true →
 (((rplay x.1 x.2.1 x.2.2.1 x.2.2.2.1).2.2.2.1 ==
 (rplay x.1 x.2.1 x.2.2.1 x.2.2.2.1).2.2.2.1) =
 true ∧
 ((rplay x.1 x.2.1 x.2.2.1 x.2.2.2.1).2.2.2.1 ==
 (rplay x.1 x.2.1 x.2.2.1 x.2.2.2.1).2.2.2.1) =
 true) ∧
 Holds True) ∧
 (((rplay x.1 x.2.1 x.2.2.1 x.2.2.2.1).2.2.2.1 ==
 (rplay x.1 x.2.1 x.2.2.1 x.2.2.2.1).2.2.2.1) =
 true →
 ((rplay x.1 x.2.1 x.2.2.1 x.2.2.2.1).2.2.2.1 ==
 (rplay x.1 x.2.1 x.2.2.1 x.2.2.2.1).2.2.2.1) =
 true) ∧
 (((rplay x.1 x.2.1 x.2.2.1 x.2.2.2.1).2.2.2.1 ==
 (rplay x.1 x.2.1 x.2.2.1 x.2.2.2.1).2.2.2.1 &&
 decide ((rplay x.1 x.2.1 x.2.2.1 x.2.2.2.1).1 = (rplay x.1 x.2.1 x.2.2.1 x.2.2.2.1).1)) =
 true →
 (((rplay x.1 x.2.1 x.2.2.1 x.2.2.2.1).2.2.2.1 ==
 (rplay x.1 x.2.1 x.2.2.1 x.2.2.2.1).2.2.2.1 &&
 decide
 ((rplay x.1 x.2.1 x.2.2.1 x.2.2.2.1).1 = (rplay x.1 x.2.1 x.2.2.1 x.2.2.2.1).1)) =
 true ∧
 ((rplay x.1 x.2.1 x.2.2.1 x.2.2.2.1).2.2.2.1 ==
 (rplay x.1 x.2.1 x.2.2.1 x.2.2.2.1).2.2.2.1 &&
 decide
 ((rplay x.1 x.2.1 x.2.2.1 x.2.2.2.1).1 = (rplay x.1 x.2.1 x.2.2.1 x.2.2.2.1).1)) =
 true) ∧
 Holds True) ∧
 (((rplay x.1 x.2.1 x.2.2.1 x.2.2.2.1).2.2.2.1 ==
 (rplay x.1 x.2.1 x.2.2.1 x.2.2.2.1).2.2.2.1 &&
 decide
 ((rplay x.1 x.2.1 x.2.2.1 x.2.2.2.1).1 = (rplay x.1 x.2.1 x.2.2.1 x.2.2.2.1).1)) =
 true →
 ((rplay x.1 x.2.1 x.2.2.1 x.2.2.2.1).2.2.2.1 ==
 (rplay x.1 x.2.1 x.2.2.1 x.2.2.2.1).2.2.2.1 &&
 decide
 ((rplay x.1 x.2.1 x.2.2.1 x.2.2.2.1).1 = (rplay x.1 x.2.1 x.2.2.1 x.2.2.2.1).1)) =
 true) ∧
 (((rplay x.1 x.2.1 x.2.2.1 x.2.2.2.1).2.2.2.1 ==
 (rplay x.1 x.2.1 x.2.2.1 x.2.2.2.1).2.2.2.1 &&
 decide
 ((rplay x.1 x.2.1 x.2.2.1 x.2.2.2.1).1 = (rplay x.1 x.2.1 x.2.2.1 x.2.2.2.1).1) &&
 decide
 ((rplay x.1 x.2.1 x.2.2.1 x.2.2.2.1).2.1 =
 (rplay x.1 x.2.1 x.2.2.1 x.2.2.2.1).2.1)) =
 true →
 (((rplay x.1 x.2.1 x.2.2.1 x.2.2.2.1).2.2.2.1 ==
 (rplay x.1 x.2.1 x.2.2.1 x.2.2.2.1).2.2.2.1 &&
 decide
 ((rplay x.1 x.2.1 x.2.2.1 x.2.2.2.1).1 =
 (rplay x.1 x.2.1 x.2.2.1 x.2.2.2.1).1) &&
 decide
 ((rplay x.1 x.2.1 x.2.2.1 x.2.2.2.1).2.1 =
 (rplay x.1 x.2.1 x.2.2.1 x.2.2.2.1).2.1)) =
 true ∧
 ((rplay x.1 x.2.1 x.2.2.1 x.2.2.2.1).2.2.2.1 ==
 (rplay x.1 x.2.1 x.2.2.1 x.2.2.2.1).2.2.2.1 &&
 decide
 ((rplay x.1 x.2.1 x.2.2.1 x.2.2.2.1).1 =
 (rplay x.1 x.2.1 x.2.2.1 x.2.2.2.1).1) &&
 decide
 ((rplay x.1 x.2.1 x.2.2.1 x.2.2.2.1).2.1 =
 (rplay x.1 x.2.1 x.2.2.1 x.2.2.2.1).2.1)) =
 true) ∧
 Holds True) ∧
 (((rplay x.1 x.2.1 x.2.2.1 x.2.2.2.1).2.2.2.1 ==
 (rplay x.1 x.2.1 x.2.2.1 x.2.2.2.1).2.2.2.1 &&
 decide
 ((rplay x.1 x.2.1 x.2.2.1 x.2.2.2.1).1 =
 (rplay x.1 x.2.1 x.2.2.1 x.2.2.2.1).1) &&
 decide
 ((rplay x.1 x.2.1 x.2.2.1 x.2.2.2.1).2.1 =
 (rplay x.1 x.2.1 x.2.2.1 x.2.2.2.1).2.1)) =
 true →
 ((rplay x.1 x.2.1 x.2.2.1 x.2.2.2.1).2.2.2.1 ==
 (rplay x.1 x.2.1 x.2.2.1 x.2.2.2.1).2.2.2.1 &&
 decide
 ((rplay x.1 x.2.1 x.2.2.1 x.2.2.2.1).1 =
 (rplay x.1 x.2.1 x.2.2.1 x.2.2.2.1).1) &&
 decide
 ((rplay x.1 x.2.1 x.2.2.1 x.2.2.2.1).2.1 =
 (rplay x.1 x.2.1 x.2.2.1 x.2.2.2.1).2.1)) =
 true) ∧
 ((rplay x.1 x.2.1 x.2.2.1 x.2.2.2.1).2.2.2.1 ==
 (rplay x.1 x.2.1 x.2.2.1 x.2.2.2.1).2.2.2.1 &&
 decide
 ((rplay x.1 x.2.1 x.2.2.1 x.2.2.2.1).1 =
 (rplay x.1 x.2.1 x.2.2.1 x.2.2.2.1).1) &&
 decide
 ((rplay x.1 x.2.1 x.2.2.1 x.2.2.2.1).2.1 =
 (rplay x.1 x.2.1 x.2.2.1 x.2.2.2.1).2.1) &&
 decide
 ((rplay x.1 x.2.1 x.2.2.1 x.2.2.2.1).2.2.1 =
 (rplay x.1 x.2.1 x.2.2.1 x.2.2.2.1).2.2.1)) =
 true

theorem E_ranks_eq (x : HL (cLaw : Ctr).as) : vc (fx_ranks x) 1 3 Try.f3 (cLaw) x = E_ranks x := by kernel_rfl

end Go.Proofs.Ytpmfgdedkmddlaa.Rankp
