/-
  The conditions that the executor comes to, written out (by a tool of ours), and that they are the conditions (by the kernel).
-/
import Derived.Test.YtlkhpbjjimjhbaaClksC
namespace Go.Proofs.Ytlkhpbjjimjhbaa.Clks
open Go.Sx
set_option maxRecDepth 100000

def E_equal (x : List Int × List Int × Unit) : Prop :=
 (((↑x.fst.length : Int) != (↑x.snd.fst.length : Int)) = true → false = decide (x.fst = x.snd.fst)) ∧
 (((↑x.fst.length : Int) != (↑x.snd.fst.length : Int)) = false →
 ((((0 : Int) ≤ (0 : Int) ∧
 (0 : Int) ≤ (↑x.fst.length : Int) ∧ List.take (Int.toNat (0 : Int)) x.fst = List.take (Int.toNat (0 : Int)) x.snd.fst) ∧
 True) ∧
 (x.fst = x.fst ∧ x.snd.fst = x.snd.fst ∧ (↑x.fst.length : Int) = (↑x.fst.length : Int) ∧ (0 : Int) = (0 : Int) ∧ True) ∧ True ∧ True) ∧
 ∀ (g : Int × Unit),
 (0 : Int) ≤ g.fst ∧ g.fst ≤ (↑x.fst.length : Int) ∧ List.take g.fst.toNat x.fst = List.take g.fst.toNat x.snd.fst →
 ((-9223372036854775808 : Int) ≤ g.fst ∧ g.fst ≤ (9223372036854775807 : Int)) ∧ True →
 (decide (g.fst < (↑x.fst.length : Int)) = true →
 ((0 : Int) ≤ g.fst ∧ g.fst < (↑x.fst.length : Int)) ∧
 ((0 : Int) ≤ g.fst ∧ g.fst < (↑x.snd.fst.length : Int)) ∧
 ((x.fst.getD g.fst.toNat (0 : Int) != x.snd.fst.getD g.fst.toNat (0 : Int)) = true → false = decide (x.fst = x.snd.fst)) ∧
 ((x.fst.getD g.fst.toNat (0 : Int) != x.snd.fst.getD g.fst.toNat (0 : Int)) = false →
 ((-9223372036854775808 : Int) ≤ g.fst + (1 : Int) ∧ g.fst + (1 : Int) ≤ (9223372036854775807 : Int)) ∧
 (((0 : Int) ≤ g.fst + (1 : Int) ∧
 g.fst + (1 : Int) ≤ (↑x.fst.length : Int) ∧
 List.take (g.fst + (1 : Int)).toNat x.fst = List.take (g.fst + (1 : Int)).toNat x.snd.fst) ∧
 ((↑x.fst.length : Int) - (g.fst + (1 : Int))).toNat < ((↑x.fst.length : Int) - g.fst).toNat) ∧
 (x.fst = x.fst ∧
 x.snd.fst = x.snd.fst ∧
 (↑x.fst.length : Int) = (↑x.fst.length : Int) ∧ g.fst + (1 : Int) = g.fst + (1 : Int) ∧ True) ∧
 True ∧ True)) ∧
 (decide (g.fst < (↑x.fst.length : Int)) = false → true = decide (x.fst = x.snd.fst)))

theorem E_equal_eq (x : HL (cEqual : Ctr).as) : vc (fx_equal x) 1 18 Try.f18 (cEqual) x = E_equal x := by kernel_rfl

def E_wrong (x : (Int × Int) × Unit) : Prop :=
 ((!decide (x.fst.fst < (1 : Int))) = true → (!decide (x.fst.fst < (1 : Int))) = true) ∧
 ((!decide (x.fst.fst < (1 : Int))) = true → (!decide (x.fst.fst < (1 : Int))) = true) ∧
 (decide (x.fst.fst < (1 : Int)) = false → (!decide (x.fst.fst < (1 : Int))) = true) ∧
 ((!(decide (x.fst.fst < (1 : Int)) || decide ((1048576 : Int) < x.fst.fst))) = true →
 (!(decide (x.fst.fst < (1 : Int)) || decide ((1048576 : Int) < x.fst.fst))) = true) ∧
 ((!(decide (x.fst.fst < (1 : Int)) || decide ((1048576 : Int) < x.fst.fst))) = true →
 (!(decide (x.fst.fst < (1 : Int)) || decide ((1048576 : Int) < x.fst.fst))) = true) ∧
 ((decide (x.fst.fst < (1 : Int)) || decide ((1048576 : Int) < x.fst.fst)) = false →
 (!(decide (x.fst.fst < (1 : Int)) || decide ((1048576 : Int) < x.fst.fst))) = true) ∧
 ((!(decide (x.fst.fst < (1 : Int)) || decide ((1048576 : Int) < x.fst.fst) || decide (x.fst.snd < (1 : Int)))) = true →
 (!(decide (x.fst.fst < (1 : Int)) || decide ((1048576 : Int) < x.fst.fst) || decide (x.fst.snd < (1 : Int)))) = true) ∧
 ((!(decide (x.fst.fst < (1 : Int)) || decide ((1048576 : Int) < x.fst.fst) || decide (x.fst.snd < (1 : Int)))) = true →
 (!(decide (x.fst.fst < (1 : Int)) || decide ((1048576 : Int) < x.fst.fst) || decide (x.fst.snd < (1 : Int)))) = true) ∧
 ((decide (x.fst.fst < (1 : Int)) || decide ((1048576 : Int) < x.fst.fst) || decide (x.fst.snd < (1 : Int))) = false →
 (!(decide (x.fst.fst < (1 : Int)) || decide ((1048576 : Int) < x.fst.fst) || decide (x.fst.snd < (1 : Int)))) = true) ∧
 ((decide (x.fst.fst < (1 : Int)) || decide ((1048576 : Int) < x.fst.fst) || decide (x.fst.snd < (1 : Int)) ||
 decide ((1048576 : Int) < x.fst.snd)) =
 true →
 (2 : Int) = wrong x.fst.fst x.fst.snd) ∧
 ((decide (x.fst.fst < (1 : Int)) || decide ((1048576 : Int) < x.fst.fst) || decide (x.fst.snd < (1 : Int)) ||
 decide ((1048576 : Int) < x.fst.snd)) =
 false →
 (0 : Int) = wrong x.fst.fst x.fst.snd)

theorem E_wrong_eq (x : HL (cWrong : Ctr).as) : vc (fx_wrong x) 1 69 Try.f69 (cWrong) x = E_wrong x := by kernel_rfl

def E_wwrong (x : (Int × Int) × Unit) : Prop :=
 ((!decide (min x.fst.fst x.fst.snd < (1 : Int))) = true → (!decide (min x.fst.fst x.fst.snd < (1 : Int))) = true) ∧
 ((!decide (min x.fst.fst x.fst.snd < (1 : Int))) = true → (!decide (min x.fst.fst x.fst.snd < (1 : Int))) = true) ∧
 ((!decide (min x.fst.fst x.fst.snd < (1 : Int))) = true →
 (!decide (min x.fst.fst x.fst.snd < (1 : Int))) = true ∧ (!decide (min x.fst.fst x.fst.snd < (1 : Int))) = true) ∧
 ((!decide (min x.fst.fst x.fst.snd < (1 : Int))) = true → (!decide (min x.fst.fst x.fst.snd < (1 : Int))) = true) ∧
 (decide (min x.fst.fst x.fst.snd < (1 : Int)) = false → (!decide (min x.fst.fst x.fst.snd < (1 : Int))) = true) ∧
 ((decide (min x.fst.fst x.fst.snd < (1 : Int)) || decide ((1048576 : Int) < max x.fst.fst x.fst.snd)) = true →
 (2 : Int) = wrong x.fst.fst x.fst.snd) ∧
 ((decide (min x.fst.fst x.fst.snd < (1 : Int)) || decide ((1048576 : Int) < max x.fst.fst x.fst.snd)) = false →
 (0 : Int) = wrong x.fst.fst x.fst.snd)

theorem E_wwrong_eq (x : HL (cWrong : Ctr).as) : vc (fx_wwrong x) 1 37 Try.f37 (cWrong) x = E_wwrong x := by kernel_rfl

def E_mul (x : Int × Int × Unit) : Prop :=
 (0 : Int) ≤ (32 : Int) ∧
 (0 : Int) ≤ (32 : Int) ∧
 ((0 : Int) ≤ bits BinOp.and IntKind.u64 x.fst (4294967295 : Int) * bits BinOp.and IntKind.u64 x.snd.fst (4294967295 : Int) ∧
 bits BinOp.and IntKind.u64 x.fst (4294967295 : Int) * bits BinOp.and IntKind.u64 x.snd.fst (4294967295 : Int) ≤
 (18446744073709551615 : Int)) ∧
 ((0 : Int) ≤ x.fst / (2 : Int) ^ min (Int.toNat (32 : Int)) IntKind.u64.bits * bits BinOp.and IntKind.u64 x.snd.fst (4294967295 : Int) ∧
 x.fst / (2 : Int) ^ min (Int.toNat (32 : Int)) IntKind.u64.bits * bits BinOp.and IntKind.u64 x.snd.fst (4294967295 : Int) ≤
 (18446744073709551615 : Int)) ∧
 (0 : Int) ≤ (32 : Int) ∧
 ((0 : Int) ≤
 x.fst / (2 : Int) ^ min (Int.toNat (32 : Int)) IntKind.u64.bits * bits BinOp.and IntKind.u64 x.snd.fst (4294967295 : Int) +
 bits BinOp.and IntKind.u64 x.fst (4294967295 : Int) * bits BinOp.and IntKind.u64 x.snd.fst (4294967295 : Int) /
 (2 : Int) ^ min (Int.toNat (32 : Int)) IntKind.u64.bits ∧
 x.fst / (2 : Int) ^ min (Int.toNat (32 : Int)) IntKind.u64.bits * bits BinOp.and IntKind.u64 x.snd.fst (4294967295 : Int) +
 bits BinOp.and IntKind.u64 x.fst (4294967295 : Int) * bits BinOp.and IntKind.u64 x.snd.fst (4294967295 : Int) /
 (2 : Int) ^ min (Int.toNat (32 : Int)) IntKind.u64.bits ≤
 (18446744073709551615 : Int)) ∧
 (0 : Int) ≤ (32 : Int) ∧
 ((0 : Int) ≤
 bits BinOp.and IntKind.u64 x.fst (4294967295 : Int) * (x.snd.fst / (2 : Int) ^ min (Int.toNat (32 : Int)) IntKind.u64.bits) ∧
 bits BinOp.and IntKind.u64 x.fst (4294967295 : Int) * (x.snd.fst / (2 : Int) ^ min (Int.toNat (32 : Int)) IntKind.u64.bits) ≤
 (18446744073709551615 : Int)) ∧
 ((0 : Int) ≤
 bits BinOp.and IntKind.u64
 (x.fst / (2 : Int) ^ min (Int.toNat (32 : Int)) IntKind.u64.bits * bits BinOp.and IntKind.u64 x.snd.fst (4294967295 : Int) +
 bits BinOp.and IntKind.u64 x.fst (4294967295 : Int) * bits BinOp.and IntKind.u64 x.snd.fst (4294967295 : Int) /
 (2 : Int) ^ min (Int.toNat (32 : Int)) IntKind.u64.bits)
 (4294967295 : Int) +
 bits BinOp.and IntKind.u64 x.fst (4294967295 : Int) * (x.snd.fst / (2 : Int) ^ min (Int.toNat (32 : Int)) IntKind.u64.bits) ∧
 bits BinOp.and IntKind.u64
 (x.fst / (2 : Int) ^ min (Int.toNat (32 : Int)) IntKind.u64.bits * bits BinOp.and IntKind.u64 x.snd.fst (4294967295 : Int) +
 bits BinOp.and IntKind.u64 x.fst (4294967295 : Int) * bits BinOp.and IntKind.u64 x.snd.fst (4294967295 : Int) /
 (2 : Int) ^ min (Int.toNat (32 : Int)) IntKind.u64.bits)
 (4294967295 : Int) +
 bits BinOp.and IntKind.u64 x.fst (4294967295 : Int) * (x.snd.fst / (2 : Int) ^ min (Int.toNat (32 : Int)) IntKind.u64.bits) ≤
 (18446744073709551615 : Int)) ∧
 ((0 : Int) ≤
 x.fst / (2 : Int) ^ min (Int.toNat (32 : Int)) IntKind.u64.bits *
 (x.snd.fst / (2 : Int) ^ min (Int.toNat (32 : Int)) IntKind.u64.bits) ∧
 x.fst / (2 : Int) ^ min (Int.toNat (32 : Int)) IntKind.u64.bits *
 (x.snd.fst / (2 : Int) ^ min (Int.toNat (32 : Int)) IntKind.u64.bits) ≤
 (18446744073709551615 : Int)) ∧
 ((0 : Int) ≤
 x.fst / (2 : Int) ^ min (Int.toNat (32 : Int)) IntKind.u64.bits *
 (x.snd.fst / (2 : Int) ^ min (Int.toNat (32 : Int)) IntKind.u64.bits) +
 (x.fst / (2 : Int) ^ min (Int.toNat (32 : Int)) IntKind.u64.bits *
 bits BinOp.and IntKind.u64 x.snd.fst (4294967295 : Int) +
 bits BinOp.and IntKind.u64 x.fst (4294967295 : Int) * bits BinOp.and IntKind.u64 x.snd.fst (4294967295 : Int) /
 (2 : Int) ^ min (Int.toNat (32 : Int)) IntKind.u64.bits) /
 (2 : Int) ^ min (Int.toNat (32 : Int)) IntKind.u64.bits ∧
 x.fst / (2 : Int) ^ min (Int.toNat (32 : Int)) IntKind.u64.bits *
 (x.snd.fst / (2 : Int) ^ min (Int.toNat (32 : Int)) IntKind.u64.bits) +
 (x.fst / (2 : Int) ^ min (Int.toNat (32 : Int)) IntKind.u64.bits *
 bits BinOp.and IntKind.u64 x.snd.fst (4294967295 : Int) +
 bits BinOp.and IntKind.u64 x.fst (4294967295 : Int) * bits BinOp.and IntKind.u64 x.snd.fst (4294967295 : Int) /
 (2 : Int) ^ min (Int.toNat (32 : Int)) IntKind.u64.bits) /
 (2 : Int) ^ min (Int.toNat (32 : Int)) IntKind.u64.bits ≤
 (18446744073709551615 : Int)) ∧
 (0 : Int) ≤ (32 : Int) ∧
 ((0 : Int) ≤
 x.fst / (2 : Int) ^ min (Int.toNat (32 : Int)) IntKind.u64.bits *
 (x.snd.fst / (2 : Int) ^ min (Int.toNat (32 : Int)) IntKind.u64.bits) +
 (x.fst / (2 : Int) ^ min (Int.toNat (32 : Int)) IntKind.u64.bits *
 bits BinOp.and IntKind.u64 x.snd.fst (4294967295 : Int) +
 bits BinOp.and IntKind.u64 x.fst (4294967295 : Int) * bits BinOp.and IntKind.u64 x.snd.fst (4294967295 : Int) /
 (2 : Int) ^ min (Int.toNat (32 : Int)) IntKind.u64.bits) /
 (2 : Int) ^ min (Int.toNat (32 : Int)) IntKind.u64.bits +
 (bits BinOp.and IntKind.u64
 (x.fst / (2 : Int) ^ min (Int.toNat (32 : Int)) IntKind.u64.bits *
 bits BinOp.and IntKind.u64 x.snd.fst (4294967295 : Int) +
 bits BinOp.and IntKind.u64 x.fst (4294967295 : Int) *
 bits BinOp.and IntKind.u64 x.snd.fst (4294967295 : Int) /
 (2 : Int) ^ min (Int.toNat (32 : Int)) IntKind.u64.bits)
 (4294967295 : Int) +
 bits BinOp.and IntKind.u64 x.fst (4294967295 : Int) *
 (x.snd.fst / (2 : Int) ^ min (Int.toNat (32 : Int)) IntKind.u64.bits)) /
 (2 : Int) ^ min (Int.toNat (32 : Int)) IntKind.u64.bits ∧
 x.fst / (2 : Int) ^ min (Int.toNat (32 : Int)) IntKind.u64.bits *
 (x.snd.fst / (2 : Int) ^ min (Int.toNat (32 : Int)) IntKind.u64.bits) +
 (x.fst / (2 : Int) ^ min (Int.toNat (32 : Int)) IntKind.u64.bits *
 bits BinOp.and IntKind.u64 x.snd.fst (4294967295 : Int) +
 bits BinOp.and IntKind.u64 x.fst (4294967295 : Int) * bits BinOp.and IntKind.u64 x.snd.fst (4294967295 : Int) /
 (2 : Int) ^ min (Int.toNat (32 : Int)) IntKind.u64.bits) /
 (2 : Int) ^ min (Int.toNat (32 : Int)) IntKind.u64.bits +
 (bits BinOp.and IntKind.u64
 (x.fst / (2 : Int) ^ min (Int.toNat (32 : Int)) IntKind.u64.bits *
 bits BinOp.and IntKind.u64 x.snd.fst (4294967295 : Int) +
 bits BinOp.and IntKind.u64 x.fst (4294967295 : Int) *
 bits BinOp.and IntKind.u64 x.snd.fst (4294967295 : Int) /
 (2 : Int) ^ min (Int.toNat (32 : Int)) IntKind.u64.bits)
 (4294967295 : Int) +
 bits BinOp.and IntKind.u64 x.fst (4294967295 : Int) *
 (x.snd.fst / (2 : Int) ^ min (Int.toNat (32 : Int)) IntKind.u64.bits)) /
 (2 : Int) ^ min (Int.toNat (32 : Int)) IntKind.u64.bits ≤
 (18446744073709551615 : Int)) ∧
 ((0 : Int) ≤ x.fst * x.snd.fst ∧ x.fst * x.snd.fst ≤ (18446744073709551615 : Int)) ∧
 x.fst / (2 : Int) ^ min (Int.toNat (32 : Int)) IntKind.u64.bits *
 (x.snd.fst / (2 : Int) ^ min (Int.toNat (32 : Int)) IntKind.u64.bits) +
 (x.fst / (2 : Int) ^ min (Int.toNat (32 : Int)) IntKind.u64.bits *
 bits BinOp.and IntKind.u64 x.snd.fst (4294967295 : Int) +
 bits BinOp.and IntKind.u64 x.fst (4294967295 : Int) *
 bits BinOp.and IntKind.u64 x.snd.fst (4294967295 : Int) /
 (2 : Int) ^ min (Int.toNat (32 : Int)) IntKind.u64.bits) /
 (2 : Int) ^ min (Int.toNat (32 : Int)) IntKind.u64.bits +
 (bits BinOp.and IntKind.u64
 (x.fst / (2 : Int) ^ min (Int.toNat (32 : Int)) IntKind.u64.bits *
 bits BinOp.and IntKind.u64 x.snd.fst (4294967295 : Int) +
 bits BinOp.and IntKind.u64 x.fst (4294967295 : Int) *
 bits BinOp.and IntKind.u64 x.snd.fst (4294967295 : Int) /
 (2 : Int) ^ min (Int.toNat (32 : Int)) IntKind.u64.bits)
 (4294967295 : Int) +
 bits BinOp.and IntKind.u64 x.fst (4294967295 : Int) *
 (x.snd.fst / (2 : Int) ^ min (Int.toNat (32 : Int)) IntKind.u64.bits)) /
 (2 : Int) ^ min (Int.toNat (32 : Int)) IntKind.u64.bits =
 (0 : Int) ∧
 x.fst * x.snd.fst = x.fst * x.snd.fst

theorem E_mul_eq (x : HL (cMul : Ctr).as) : vc (fx_mul x) 1 72 Try.f72 (cMul) x = E_mul x := by kernel_rfl

def E_div (x : Int × Int × Int × Unit) : Prop :=
 ((x.snd.snd.fst == (0 : Int)) = true → False) ∧
 ((x.snd.snd.fst == (0 : Int)) = false →
 (decide (x.snd.snd.fst ≤ x.fst) = true → False) ∧
 (decide (x.snd.snd.fst ≤ x.fst) = false →
 ((x.fst == (0 : Int)) = true →
 ((0 : Int) ≤ x.snd.fst ∧ (0 : Int) < x.snd.snd.fst) ∧
 ((0 : Int) ≤ x.snd.fst ∧ (0 : Int) < x.snd.snd.fst) ∧
 x.snd.fst / x.snd.snd.fst = x.snd.fst / x.snd.snd.fst ∧ x.snd.fst % x.snd.snd.fst = x.snd.fst % x.snd.snd.fst) ∧
 ((x.fst == (0 : Int)) = false → False)))

theorem E_div_eq (x : HL (cDiv : Ctr).as) : vc (fx_div x) 1 73 Try.f73 (cDiv) x = E_div x := by kernel_rfl

def E_thr (x : Int × Int × Int × Bool × Unit) : Prop :=
 ((0 : Int) ≤ x.fst ∧ x.fst ≤ (18446744073709551615 : Int)) ∧
 ((0 : Int) ≤ x.snd.fst ∧ x.snd.fst ≤ (18446744073709551615 : Int)) ∧
 Holds
 (((0 : Int) ≤ x.fst ∧ x.fst < (18446744073709551616 : Int)) ∧
 ((0 : Int) ≤ x.snd.fst ∧ x.snd.fst < (18446744073709551616 : Int)) ∧ x.fst * x.snd.fst < (18446744073709551616 : Int)) ∧
 ((0 : Int) ≤ x.snd.snd.fst ∧ x.snd.snd.fst ≤ (18446744073709551615 : Int)) ∧
 Holds ((0 : Int) = (0 : Int) ∧ (0 : Int) ≤ x.fst * x.snd.fst ∧ (1 : Int) ≤ x.snd.snd.fst) ∧
 (x.snd.snd.snd.fst = true → x.snd.snd.snd.fst = true) ∧
 (x.snd.snd.snd.fst = true → x.snd.snd.snd.fst = true) ∧
 ((x.snd.snd.snd.fst && decide ((0 : Int) < x.fst * x.snd.fst % x.snd.snd.fst)) = true →
 ((0 : Int) ≤ x.fst * x.snd.fst / x.snd.snd.fst + (1 : Int) ∧
 x.fst * x.snd.fst / x.snd.snd.fst + (1 : Int) ≤ (18446744073709551615 : Int)) ∧
 ((-9223372036854775808 : Int) ≤ x.fst * x.snd.fst / x.snd.snd.fst + (1 : Int) ∧
 x.fst * x.snd.fst / x.snd.snd.fst + (1 : Int) ≤ (9223372036854775807 : Int)) ∧
 x.fst * x.snd.fst / x.snd.snd.fst + (1 : Int) = thr x.fst x.snd.fst x.snd.snd.fst x.snd.snd.snd.fst) ∧
 ((x.snd.snd.snd.fst && decide ((0 : Int) < x.fst * x.snd.fst % x.snd.snd.fst)) = false →
 ((-9223372036854775808 : Int) ≤ x.fst * x.snd.fst / x.snd.snd.fst ∧
 x.fst * x.snd.fst / x.snd.snd.fst ≤ (9223372036854775807 : Int)) ∧
 x.fst * x.snd.fst / x.snd.snd.fst = thr x.fst x.snd.fst x.snd.snd.fst x.snd.snd.snd.fst)

theorem E_thr_eq (x : HL (cThr : Ctr).as) : vc (fx_thr x) 1 38 Try.f38 (cThr) x = E_thr x := by kernel_rfl

def E_scale (x : (Int × Int) × Int × Unit) : Prop :=
 Holds True ∧
 ((!wrong x.fst.fst x.fst.snd != (0 : Int)) = true → (!wrong x.fst.fst x.fst.snd != (0 : Int)) = true) ∧
 ((wrong x.fst.fst x.fst.snd != (0 : Int)) = false → (!wrong x.fst.fst x.fst.snd != (0 : Int)) = true) ∧
 ((!(wrong x.fst.fst x.fst.snd != (0 : Int) || decide (x.snd.fst < (0 : Int)))) = true →
 (!(wrong x.fst.fst x.fst.snd != (0 : Int) || decide (x.snd.fst < (0 : Int)))) = true) ∧
 ((wrong x.fst.fst x.fst.snd != (0 : Int) || decide (x.snd.fst < (0 : Int))) = false →
 (!(wrong x.fst.fst x.fst.snd != (0 : Int) || decide (x.snd.fst < (0 : Int)))) = true) ∧
 ((wrong x.fst.fst x.fst.snd != (0 : Int) || decide (x.snd.fst < (0 : Int)) || decide ((1099511627776 : Int) < x.snd.fst)) = true →
 (0 : Int) = (scale x.fst.fst x.fst.snd x.snd.fst).fst ∧ (2 : Int) = (scale x.fst.fst x.fst.snd x.snd.fst).snd.fst) ∧
 ((wrong x.fst.fst x.fst.snd != (0 : Int) || decide (x.snd.fst < (0 : Int)) || decide ((1099511627776 : Int) < x.snd.fst)) = false →
 ((0 : Int) ≤ x.snd.fst ∧ (0 : Int) < x.fst.snd) ∧
 ((-9223372036854775808 : Int) ≤ x.snd.fst / x.fst.snd * x.fst.fst ∧ x.snd.fst / x.fst.snd * x.fst.fst ≤ (9223372036854775807 : Int)) ∧
 ((0 : Int) ≤ x.snd.fst ∧ (0 : Int) < x.fst.snd) ∧
 ((-9223372036854775808 : Int) ≤ x.snd.fst % x.fst.snd * x.fst.fst ∧
 x.snd.fst % x.fst.snd * x.fst.fst ≤ (9223372036854775807 : Int)) ∧
 ((0 : Int) ≤ x.snd.fst % x.fst.snd * x.fst.fst ∧ (0 : Int) < x.fst.snd) ∧
 ((-9223372036854775808 : Int) ≤ x.snd.fst / x.fst.snd * x.fst.fst + x.snd.fst % x.fst.snd * x.fst.fst / x.fst.snd ∧
 x.snd.fst / x.fst.snd * x.fst.fst + x.snd.fst % x.fst.snd * x.fst.fst / x.fst.snd ≤ (9223372036854775807 : Int)) ∧
 x.snd.fst / x.fst.snd * x.fst.fst + x.snd.fst % x.fst.snd * x.fst.fst / x.fst.snd =
 (scale x.fst.fst x.fst.snd x.snd.fst).fst ∧
 (0 : Int) = (scale x.fst.fst x.fst.snd x.snd.fst).snd.fst)

theorem E_scale_eq (x : HL (cScale : Ctr).as) : vc (fx_scale x) 1 32 Try.f32 (cScale) x = E_scale x := by kernel_rfl

def E_wscale (x : (Int × Int) × Int × Unit) : Prop :=
 Holds True ∧
 ((!wrong x.fst.fst x.fst.snd != (0 : Int)) = true → (!wrong x.fst.fst x.fst.snd != (0 : Int)) = true) ∧
 ((wrong x.fst.fst x.fst.snd != (0 : Int)) = false → (!wrong x.fst.fst x.fst.snd != (0 : Int)) = true) ∧
 ((!(wrong x.fst.fst x.fst.snd != (0 : Int) || decide (x.snd.fst < (0 : Int)))) = true →
 (!(wrong x.fst.fst x.fst.snd != (0 : Int) || decide (x.snd.fst < (0 : Int)))) = true) ∧
 ((wrong x.fst.fst x.fst.snd != (0 : Int) || decide (x.snd.fst < (0 : Int))) = false →
 (!(wrong x.fst.fst x.fst.snd != (0 : Int) || decide (x.snd.fst < (0 : Int)))) = true) ∧
 ((wrong x.fst.fst x.fst.snd != (0 : Int) || decide (x.snd.fst < (0 : Int)) || decide ((1099511627776 : Int) < x.snd.fst)) = true →
 (0 : Int) = (scale x.fst.fst x.fst.snd x.snd.fst).fst ∧ (2 : Int) = (scale x.fst.fst x.fst.snd x.snd.fst).snd.fst) ∧
 ((wrong x.fst.fst x.fst.snd != (0 : Int) || decide (x.snd.fst < (0 : Int)) || decide ((1099511627776 : Int) < x.snd.fst)) = false →
 Holds
 (((0 : Int) ≤ x.snd.fst ∧ x.snd.fst < (9223372036854775807 : Int)) ∧
 ((0 : Int) ≤ x.fst.fst ∧ x.fst.fst < (9223372036854775807 : Int)) ∧
 ((1 : Int) ≤ x.fst.snd ∧ x.fst.snd < (9223372036854775807 : Int)) ∧ x.snd.fst * x.fst.fst < (9223372036854775807 : Int)) ∧
 thr x.snd.fst x.fst.fst x.fst.snd false = (scale x.fst.fst x.fst.snd x.snd.fst).fst ∧
 (0 : Int) = (scale x.fst.fst x.fst.snd x.snd.fst).snd.fst)

theorem E_wscale_eq (x : HL (cScale : Ctr).as) : vc (fx_wscale x) 1 33 Try.f33 (cScale) x = E_wscale x := by kernel_rfl

def E_any (x : List Int × Unit) : Prop :=
 ((((0 : Int) ≤ (0 : Int) ∧ (0 : Int) ≤ (↑x.fst.length : Int) ∧ (List.take (Int.toNat (0 : Int)) x.fst).all inS = true) ∧ True) ∧
 (x.fst = x.fst ∧
 Value.func (Fn.func (71 : Nat)) ([] : List Value).toArray ([] : List Value).toArray =
 Value.func (Fn.func (71 : Nat)) ([] : List Value).toArray ([] : List Value).toArray ∧
 (↑x.fst.length : Int) = (↑x.fst.length : Int) ∧ (0 : Int) = (0 : Int) ∧ True) ∧
 True ∧
 x.fst = x.fst ∧
 Value.func (Fn.func (71 : Nat)) ([] : List Value).toArray ([] : List Value).toArray =
 Value.func (Fn.func (71 : Nat)) ([] : List Value).toArray ([] : List Value).toArray ∧
 True ∧
 True ∧
 false = false ∧
 x.fst = x.fst ∧
 Value.func (Fn.func (71 : Nat)) ([] : List Value).toArray ([] : List Value).toArray =
 Value.func (Fn.func (71 : Nat)) ([] : List Value).toArray ([] : List Value).toArray ∧
 True ∧ True ∧ True) ∧
 ∀ (g : Int × Unit),
 (0 : Int) ≤ g.fst ∧ g.fst ≤ (↑x.fst.length : Int) ∧ (List.take g.fst.toNat x.fst).all inS = true →
 ((-9223372036854775808 : Int) ≤ g.fst ∧ g.fst ≤ (9223372036854775807 : Int)) ∧ True →
 (decide (g.fst < (↑x.fst.length : Int)) = true →
 ((0 : Int) ≤ g.fst ∧ g.fst < (↑x.fst.length : Int)) ∧
 ((!decide (x.fst.getD g.fst.toNat (0 : Int) < (0 : Int))) = true → (!decide (x.fst.getD g.fst.toNat (0 : Int) < (0 : Int))) = true) ∧
 (decide (x.fst.getD g.fst.toNat (0 : Int) < (0 : Int)) = false → (!decide (x.fst.getD g.fst.toNat (0 : Int) < (0 : Int))) = true) ∧
 ((decide (x.fst.getD g.fst.toNat (0 : Int) < (0 : Int)) || decide ((1073741824 : Int) < x.fst.getD g.fst.toNat (0 : Int))) = true →
 decide ((0 : Int) ≤ g.fst) = !x.fst.all inS) ∧
 ((decide (x.fst.getD g.fst.toNat (0 : Int) < (0 : Int)) || decide ((1073741824 : Int) < x.fst.getD g.fst.toNat (0 : Int))) =
 false →
 ((-9223372036854775808 : Int) ≤ g.fst + (1 : Int) ∧ g.fst + (1 : Int) ≤ (9223372036854775807 : Int)) ∧
 (((0 : Int) ≤ g.fst + (1 : Int) ∧
 g.fst + (1 : Int) ≤ (↑x.fst.length : Int) ∧ (List.take (g.fst + (1 : Int)).toNat x.fst).all inS = true) ∧
 ((↑x.fst.length : Int) - (g.fst + (1 : Int))).toNat < ((↑x.fst.length : Int) - g.fst).toNat) ∧
 (x.fst = x.fst ∧
 Value.func (Fn.func (71 : Nat)) ([] : List Value).toArray ([] : List Value).toArray =
 Value.func (Fn.func (71 : Nat)) ([] : List Value).toArray ([] : List Value).toArray ∧
 (↑x.fst.length : Int) = (↑x.fst.length : Int) ∧ g.fst + (1 : Int) = g.fst + (1 : Int) ∧ True) ∧
 True ∧
 x.fst = x.fst ∧
 Value.func (Fn.func (71 : Nat)) ([] : List Value).toArray ([] : List Value).toArray =
 Value.func (Fn.func (71 : Nat)) ([] : List Value).toArray ([] : List Value).toArray ∧
 True ∧
 True ∧
 false = false ∧
 x.fst = x.fst ∧
 Value.func (Fn.func (71 : Nat)) ([] : List Value).toArray ([] : List Value).toArray =
 Value.func (Fn.func (71 : Nat)) ([] : List Value).toArray ([] : List Value).toArray ∧
 True ∧ True ∧ True)) ∧
 (decide (g.fst < (↑x.fst.length : Int)) = false → decide ((0 : Int) ≤ (-1 : Int)) = !x.fst.all inS)

theorem E_any_eq (x : HL (cAny : Ctr).as) : vcF (fx_any x) 3 70 71 Try.f70 (cAny) x = E_any x := by kernel_rfl

def E_steps (x : (Int × Int) × List Int × Unit) : Prop :=
 Holds True ∧
 ((wrong x.fst.fst x.fst.snd != (0 : Int)) = true →
 ([] : List Int) = (steps x.fst.fst x.fst.snd x.snd.fst).fst ∧ wrong x.fst.fst x.fst.snd = (steps x.fst.fst x.fst.snd x.snd.fst).snd.fst) ∧
 ((wrong x.fst.fst x.fst.snd != (0 : Int)) = false →
 (decide ((400 : Int) < (↑x.snd.fst.length : Int)) = false →
 (!decide ((400 : Int) < (↑x.snd.fst.length : Int))) = true ∧
 Holds True ∧
 ((!x.snd.fst.all inS) = true →
 ([] : List Int) = (steps x.fst.fst x.fst.snd x.snd.fst).fst ∧ (2 : Int) = (steps x.fst.fst x.fst.snd x.snd.fst).snd.fst) ∧
 ((!x.snd.fst.all inS) = false →
 ((((0 : Int) ≤ (0 : Int) ∧
 (0 : Int) ≤ (↑x.snd.fst.length : Int) ∧
 (↑([] : List Int).length : Int) = (0 : Int) ∧
 (x.fst.fst, x.fst.snd) = x.fst ∧
 ([] : List Int) = (stp x.fst.fst x.fst.snd (List.take (Int.toNat (0 : Int)) x.snd.fst)).snd ∧
 (0 : Int) = (stp x.fst.fst x.fst.snd (List.take (Int.toNat (0 : Int)) x.snd.fst)).fst * x.fst.fst % x.fst.snd) ∧
 True) ∧
 ((True ∧ True) ∧
 True ∧
 (0 : Int) = (0 : Int) ∧
 x.snd.fst = x.snd.fst ∧ (↑x.snd.fst.length : Int) = (↑x.snd.fst.length : Int) ∧ (0 : Int) = (0 : Int) ∧ True) ∧
 ((x.fst.fst = x.fst.fst ∧ x.fst.snd = x.fst.snd ∧ True) ∧ ([] : List Int) = ([] : List Int) ∧ True) ∧ True) ∧
 ∀ (g : (Int × Int) × List Int × Int × Int × Unit),
 (0 : Int) ≤ g.snd.snd.snd.fst ∧
 g.snd.snd.snd.fst ≤ (↑x.snd.fst.length : Int) ∧
 (↑g.snd.fst.length : Int) = g.snd.snd.snd.fst ∧
 g.fst = x.fst ∧
 g.snd.fst = (stp g.fst.fst g.fst.snd (List.take g.snd.snd.snd.fst.toNat x.snd.fst)).snd ∧
 g.snd.snd.fst =
 (stp g.fst.fst g.fst.snd (List.take g.snd.snd.snd.fst.toNat x.snd.fst)).fst * g.fst.fst % g.fst.snd →
 (((-9223372036854775808 : Int) ≤ g.fst.fst ∧ g.fst.fst ≤ (9223372036854775807 : Int)) ∧
 (-9223372036854775808 : Int) ≤ g.fst.snd ∧ g.fst.snd ≤ (9223372036854775807 : Int)) ∧
 (g.snd.fst.length ≤ (9223372036854775807 : Nat) ∧
 ∀ (x : Int), x ∈ g.snd.fst → (-9223372036854775808 : Int) ≤ x ∧ x ≤ (9223372036854775807 : Int)) ∧
 ((-9223372036854775808 : Int) ≤ g.snd.snd.fst ∧ g.snd.snd.fst ≤ (9223372036854775807 : Int)) ∧
 ((-9223372036854775808 : Int) ≤ g.snd.snd.snd.fst ∧ g.snd.snd.snd.fst ≤ (9223372036854775807 : Int)) ∧ True →
 (decide (g.snd.snd.snd.fst < (↑x.snd.fst.length : Int)) = true →
 ((0 : Int) ≤ g.snd.snd.snd.fst ∧ g.snd.snd.snd.fst < (↑x.snd.fst.length : Int)) ∧
 ((-9223372036854775808 : Int) ≤ x.snd.fst.getD g.snd.snd.snd.fst.toNat (0 : Int) * g.fst.fst ∧
 x.snd.fst.getD g.snd.snd.snd.fst.toNat (0 : Int) * g.fst.fst ≤ (9223372036854775807 : Int)) ∧
 ((-9223372036854775808 : Int) ≤ x.snd.fst.getD g.snd.snd.snd.fst.toNat (0 : Int) * g.fst.fst + g.snd.snd.fst ∧
 x.snd.fst.getD g.snd.snd.snd.fst.toNat (0 : Int) * g.fst.fst + g.snd.snd.fst ≤ (9223372036854775807 : Int)) ∧
 ((0 : Int) ≤ x.snd.fst.getD g.snd.snd.snd.fst.toNat (0 : Int) * g.fst.fst + g.snd.snd.fst ∧
 (0 : Int) < g.fst.snd) ∧
 (g.snd.fst.length +
 (((0 : Int) :: ([] : List Int)).set (0 : Nat)
 ((x.snd.fst.getD g.snd.snd.snd.fst.toNat (0 : Int) * g.fst.fst + g.snd.snd.fst) /
 g.fst.snd)).length ≤
 (9223372036854775807 : Nat) ∧
 (g.snd.fst.length +
 (((0 : Int) :: ([] : List Int)).set (0 : Nat)
 ((x.snd.fst.getD g.snd.snd.snd.fst.toNat (0 : Int) * g.fst.fst + g.snd.snd.fst) /
 g.fst.snd)).length +
 (g.snd.fst.length +
 (((0 : Int) :: ([] : List Int)).set (0 : Nat)
 ((x.snd.fst.getD g.snd.snd.snd.fst.toNat (0 : Int) * g.fst.fst + g.snd.snd.fst) /
 g.fst.snd)).length) /
 (4 : Nat) +
 (192 : Nat)) *
 (8 : Nat) ≤
 (281474976710656 : Nat)) ∧
 ((0 : Int) ≤ x.snd.fst.getD g.snd.snd.snd.fst.toNat (0 : Int) * g.fst.fst + g.snd.snd.fst ∧
 (0 : Int) < g.fst.snd) ∧
 ((-9223372036854775808 : Int) ≤ g.snd.snd.snd.fst + (1 : Int) ∧
 g.snd.snd.snd.fst + (1 : Int) ≤ (9223372036854775807 : Int)) ∧
 (((0 : Int) ≤ g.snd.snd.snd.fst + (1 : Int) ∧
 g.snd.snd.snd.fst + (1 : Int) ≤ (↑x.snd.fst.length : Int) ∧
 (↑(g.snd.fst ++
 ((0 : Int) :: ([] : List Int)).set (0 : Nat)
 ((x.snd.fst.getD g.snd.snd.snd.fst.toNat (0 : Int) * g.fst.fst + g.snd.snd.fst) /
 g.fst.snd)).length :
 Int) =
 g.snd.snd.snd.fst + (1 : Int) ∧
 (g.fst.fst, g.fst.snd) = x.fst ∧
 g.snd.fst ++
 ((0 : Int) :: ([] : List Int)).set (0 : Nat)
 ((x.snd.fst.getD g.snd.snd.snd.fst.toNat (0 : Int) * g.fst.fst + g.snd.snd.fst) /
 g.fst.snd) =
 (stp g.fst.fst g.fst.snd
 (List.take (g.snd.snd.snd.fst + (1 : Int)).toNat x.snd.fst)).snd ∧
 (x.snd.fst.getD g.snd.snd.snd.fst.toNat (0 : Int) * g.fst.fst + g.snd.snd.fst) % g.fst.snd =
 (stp g.fst.fst g.fst.snd
 (List.take (g.snd.snd.snd.fst + (1 : Int)).toNat x.snd.fst)).fst *
 g.fst.fst %
 g.fst.snd) ∧
 ((↑x.snd.fst.length : Int) - (g.snd.snd.snd.fst + (1 : Int))).toNat <
 ((↑x.snd.fst.length : Int) - g.snd.snd.snd.fst).toNat) ∧
 ((True ∧ True) ∧
 True ∧
 (x.snd.fst.getD g.snd.snd.snd.fst.toNat (0 : Int) * g.fst.fst + g.snd.snd.fst) % g.fst.snd =
 (x.snd.fst.getD g.snd.snd.snd.fst.toNat (0 : Int) * g.fst.fst + g.snd.snd.fst) % g.fst.snd ∧
 x.snd.fst = x.snd.fst ∧
 (↑x.snd.fst.length : Int) = (↑x.snd.fst.length : Int) ∧
 g.snd.snd.snd.fst + (1 : Int) = g.snd.snd.snd.fst + (1 : Int) ∧ True) ∧
 ((g.fst.fst = g.fst.fst ∧ g.fst.snd = g.fst.snd ∧ True) ∧
 g.snd.fst ++
 ((0 : Int) :: ([] : List Int)).set (0 : Nat)
 ((x.snd.fst.getD g.snd.snd.snd.fst.toNat (0 : Int) * g.fst.fst + g.snd.snd.fst) /
 g.fst.snd) =
 g.snd.fst ++
 ((0 : Int) :: ([] : List Int)).set (0 : Nat)
 ((x.snd.fst.getD g.snd.snd.snd.fst.toNat (0 : Int) * g.fst.fst + g.snd.snd.fst) /
 g.fst.snd) ∧
 True) ∧
 True) ∧
 (decide (g.snd.snd.snd.fst < (↑x.snd.fst.length : Int)) = false →
 g.snd.fst = (steps x.fst.fst x.fst.snd x.snd.fst).fst ∧ (0 : Int) = (steps x.fst.fst x.fst.snd x.snd.fst).snd.fst))) ∧
 (decide ((400 : Int) < (↑x.snd.fst.length : Int)) = !false →
 ([] : List Int) = (steps x.fst.fst x.fst.snd x.snd.fst).fst ∧ (2 : Int) = (steps x.fst.fst x.fst.snd x.snd.fst).snd.fst))

theorem E_steps_eq (x : HL (cSteps : Ctr).as) : vc (fx_steps x) 1 34 Try.f34 (cSteps) x = E_steps x := by kernel_rfl

def E_wsteps (x : (Int × Int) × List Int × Unit) : Prop :=
 Holds True ∧
 ((wrong x.fst.fst x.fst.snd != (0 : Int)) = true →
 ([] : List Int) = (steps x.fst.fst x.fst.snd x.snd.fst).fst ∧ wrong x.fst.fst x.fst.snd = (steps x.fst.fst x.fst.snd x.snd.fst).snd.fst) ∧
 ((wrong x.fst.fst x.fst.snd != (0 : Int)) = false →
 (decide ((400 : Int) < (↑x.snd.fst.length : Int)) = true →
 ([] : List Int) = (steps x.fst.fst x.fst.snd x.snd.fst).fst ∧ (2 : Int) = (steps x.fst.fst x.fst.snd x.snd.fst).snd.fst) ∧
 (decide ((400 : Int) < (↑x.snd.fst.length : Int)) = false →
 ((((0 : Int) ≤ (0 : Int) ∧
 (0 : Int) ≤ (↑x.snd.fst.length : Int) ∧
 (↑([] : List Int).length : Int) = (0 : Int) ∧
 (x.fst.fst, x.fst.snd) = x.fst ∧
 (List.take (Int.toNat (0 : Int)) x.snd.fst).all inS = true ∧
 ([] : List Int) = (stp x.fst.fst x.fst.snd (List.take (Int.toNat (0 : Int)) x.snd.fst)).snd ∧
 (0 : Int) = (stp x.fst.fst x.fst.snd (List.take (Int.toNat (0 : Int)) x.snd.fst)).fst ∧
 (0 : Int) = (0 : Int) * x.fst.fst / x.fst.snd) ∧
 True) ∧
 ((True ∧ True) ∧
 True ∧
 (0 : Int) = (0 : Int) ∧
 (0 : Int) = (0 : Int) ∧
 x.snd.fst = x.snd.fst ∧ (↑x.snd.fst.length : Int) = (↑x.snd.fst.length : Int) ∧ (0 : Int) = (0 : Int) ∧ True) ∧
 ((x.fst.fst = x.fst.fst ∧ x.fst.snd = x.fst.snd ∧ True) ∧ ([] : List Int) = ([] : List Int) ∧ True) ∧ True) ∧
 ∀ (g : (Int × Int) × List Int × Int × Int × Int × Unit),
 (0 : Int) ≤ g.snd.snd.snd.snd.fst ∧
 g.snd.snd.snd.snd.fst ≤ (↑x.snd.fst.length : Int) ∧
 (↑g.snd.fst.length : Int) = g.snd.snd.snd.snd.fst ∧
 g.fst = x.fst ∧
 (List.take g.snd.snd.snd.snd.fst.toNat x.snd.fst).all inS = true ∧
 g.snd.fst = (stp g.fst.fst g.fst.snd (List.take g.snd.snd.snd.snd.fst.toNat x.snd.fst)).snd ∧
 g.snd.snd.fst = (stp g.fst.fst g.fst.snd (List.take g.snd.snd.snd.snd.fst.toNat x.snd.fst)).fst ∧
 g.snd.snd.snd.fst = g.snd.snd.fst * g.fst.fst / g.fst.snd →
 (((-9223372036854775808 : Int) ≤ g.fst.fst ∧ g.fst.fst ≤ (9223372036854775807 : Int)) ∧
 (-9223372036854775808 : Int) ≤ g.fst.snd ∧ g.fst.snd ≤ (9223372036854775807 : Int)) ∧
 (g.snd.fst.length ≤ (9223372036854775807 : Nat) ∧
 ∀ (x : Int), x ∈ g.snd.fst → (-9223372036854775808 : Int) ≤ x ∧ x ≤ (9223372036854775807 : Int)) ∧
 ((-9223372036854775808 : Int) ≤ g.snd.snd.fst ∧ g.snd.snd.fst ≤ (9223372036854775807 : Int)) ∧
 ((-9223372036854775808 : Int) ≤ g.snd.snd.snd.fst ∧ g.snd.snd.snd.fst ≤ (9223372036854775807 : Int)) ∧
 ((-9223372036854775808 : Int) ≤ g.snd.snd.snd.snd.fst ∧ g.snd.snd.snd.snd.fst ≤ (9223372036854775807 : Int)) ∧ True →
 (decide (g.snd.snd.snd.snd.fst < (↑x.snd.fst.length : Int)) = true →
 ((0 : Int) ≤ g.snd.snd.snd.snd.fst ∧ g.snd.snd.snd.snd.fst < (↑x.snd.fst.length : Int)) ∧
 ((!decide (x.snd.fst.getD g.snd.snd.snd.snd.fst.toNat (0 : Int) < (0 : Int))) = true →
 (!decide (x.snd.fst.getD g.snd.snd.snd.snd.fst.toNat (0 : Int) < (0 : Int))) = true) ∧
 (decide (x.snd.fst.getD g.snd.snd.snd.snd.fst.toNat (0 : Int) < (0 : Int)) = false →
 (!decide (x.snd.fst.getD g.snd.snd.snd.snd.fst.toNat (0 : Int) < (0 : Int))) = true) ∧
 ((decide (x.snd.fst.getD g.snd.snd.snd.snd.fst.toNat (0 : Int) < (0 : Int)) ||
 decide ((1073741824 : Int) < x.snd.fst.getD g.snd.snd.snd.snd.fst.toNat (0 : Int))) =
 true →
 ([] : List Int) = (steps x.fst.fst x.fst.snd x.snd.fst).fst ∧
 (2 : Int) = (steps x.fst.fst x.fst.snd x.snd.fst).snd.fst) ∧
 ((decide (x.snd.fst.getD g.snd.snd.snd.snd.fst.toNat (0 : Int) < (0 : Int)) ||
 decide ((1073741824 : Int) < x.snd.fst.getD g.snd.snd.snd.snd.fst.toNat (0 : Int))) =
 false →
 ((-9223372036854775808 : Int) ≤ g.snd.snd.fst + x.snd.fst.getD g.snd.snd.snd.snd.fst.toNat (0 : Int) ∧
 g.snd.snd.fst + x.snd.fst.getD g.snd.snd.snd.snd.fst.toNat (0 : Int) ≤ (9223372036854775807 : Int)) ∧
 Holds
 (((0 : Int) ≤ g.snd.snd.fst + x.snd.fst.getD g.snd.snd.snd.snd.fst.toNat (0 : Int) ∧
 g.snd.snd.fst + x.snd.fst.getD g.snd.snd.snd.snd.fst.toNat (0 : Int) < (9223372036854775807 : Int)) ∧
 ((0 : Int) ≤ g.fst.fst ∧ g.fst.fst < (9223372036854775807 : Int)) ∧
 ((1 : Int) ≤ g.fst.snd ∧ g.fst.snd < (9223372036854775807 : Int)) ∧
 (g.snd.snd.fst + x.snd.fst.getD g.snd.snd.snd.snd.fst.toNat (0 : Int)) * g.fst.fst <
 (9223372036854775807 : Int)) ∧
 ((-9223372036854775808 : Int) ≤
 thr (g.snd.snd.fst + x.snd.fst.getD g.snd.snd.snd.snd.fst.toNat (0 : Int)) g.fst.fst g.fst.snd false -
 g.snd.snd.snd.fst ∧
 thr (g.snd.snd.fst + x.snd.fst.getD g.snd.snd.snd.snd.fst.toNat (0 : Int)) g.fst.fst g.fst.snd false -
 g.snd.snd.snd.fst ≤
 (9223372036854775807 : Int)) ∧
 (g.snd.fst.length +
 (((0 : Int) :: ([] : List Int)).set (0 : Nat)
 (thr (g.snd.snd.fst + x.snd.fst.getD g.snd.snd.snd.snd.fst.toNat (0 : Int)) g.fst.fst g.fst.snd
 false -
 g.snd.snd.snd.fst)).length ≤
 (9223372036854775807 : Nat) ∧
 (g.snd.fst.length +
 (((0 : Int) :: ([] : List Int)).set (0 : Nat)
 (thr (g.snd.snd.fst + x.snd.fst.getD g.snd.snd.snd.snd.fst.toNat (0 : Int)) g.fst.fst
 g.fst.snd false -
 g.snd.snd.snd.fst)).length +
 (g.snd.fst.length +
 (((0 : Int) :: ([] : List Int)).set (0 : Nat)
 (thr (g.snd.snd.fst + x.snd.fst.getD g.snd.snd.snd.snd.fst.toNat (0 : Int)) g.fst.fst
 g.fst.snd false -
 g.snd.snd.snd.fst)).length) /
 (4 : Nat) +
 (192 : Nat)) *
 (8 : Nat) ≤
 (281474976710656 : Nat)) ∧
 ((-9223372036854775808 : Int) ≤ g.snd.snd.snd.snd.fst + (1 : Int) ∧
 g.snd.snd.snd.snd.fst + (1 : Int) ≤ (9223372036854775807 : Int)) ∧
 (((0 : Int) ≤ g.snd.snd.snd.snd.fst + (1 : Int) ∧
 g.snd.snd.snd.snd.fst + (1 : Int) ≤ (↑x.snd.fst.length : Int) ∧
 (↑(g.snd.fst ++
 ((0 : Int) :: ([] : List Int)).set (0 : Nat)
 (thr (g.snd.snd.fst + x.snd.fst.getD g.snd.snd.snd.snd.fst.toNat (0 : Int)) g.fst.fst
 g.fst.snd false -
 g.snd.snd.snd.fst)).length :
 Int) =
 g.snd.snd.snd.snd.fst + (1 : Int) ∧
 (g.fst.fst, g.fst.snd) = x.fst ∧
 (List.take (g.snd.snd.snd.snd.fst + (1 : Int)).toNat x.snd.fst).all inS = true ∧
 g.snd.fst ++
 ((0 : Int) :: ([] : List Int)).set (0 : Nat)
 (thr (g.snd.snd.fst + x.snd.fst.getD g.snd.snd.snd.snd.fst.toNat (0 : Int)) g.fst.fst
 g.fst.snd false -
 g.snd.snd.snd.fst) =
 (stp g.fst.fst g.fst.snd
 (List.take (g.snd.snd.snd.snd.fst + (1 : Int)).toNat x.snd.fst)).snd ∧
 g.snd.snd.fst + x.snd.fst.getD g.snd.snd.snd.snd.fst.toNat (0 : Int) =
 (stp g.fst.fst g.fst.snd
 (List.take (g.snd.snd.snd.snd.fst + (1 : Int)).toNat x.snd.fst)).fst ∧
 thr (g.snd.snd.fst + x.snd.fst.getD g.snd.snd.snd.snd.fst.toNat (0 : Int)) g.fst.fst
 g.fst.snd false =
 (g.snd.snd.fst + x.snd.fst.getD g.snd.snd.snd.snd.fst.toNat (0 : Int)) * g.fst.fst /
 g.fst.snd) ∧
 ((↑x.snd.fst.length : Int) - (g.snd.snd.snd.snd.fst + (1 : Int))).toNat <
 ((↑x.snd.fst.length : Int) - g.snd.snd.snd.snd.fst).toNat) ∧
 ((True ∧ True) ∧
 True ∧
 g.snd.snd.fst + x.snd.fst.getD g.snd.snd.snd.snd.fst.toNat (0 : Int) =
 g.snd.snd.fst + x.snd.fst.getD g.snd.snd.snd.snd.fst.toNat (0 : Int) ∧
 thr (g.snd.snd.fst + x.snd.fst.getD g.snd.snd.snd.snd.fst.toNat (0 : Int)) g.fst.fst g.fst.snd
 false =
 thr (g.snd.snd.fst + x.snd.fst.getD g.snd.snd.snd.snd.fst.toNat (0 : Int)) g.fst.fst g.fst.snd
 false ∧
 x.snd.fst = x.snd.fst ∧
 (↑x.snd.fst.length : Int) = (↑x.snd.fst.length : Int) ∧
 g.snd.snd.snd.snd.fst + (1 : Int) = g.snd.snd.snd.snd.fst + (1 : Int) ∧ True) ∧
 ((g.fst.fst = g.fst.fst ∧ g.fst.snd = g.fst.snd ∧ True) ∧
 g.snd.fst ++
 ((0 : Int) :: ([] : List Int)).set (0 : Nat)
 (thr (g.snd.snd.fst + x.snd.fst.getD g.snd.snd.snd.snd.fst.toNat (0 : Int)) g.fst.fst
 g.fst.snd false -
 g.snd.snd.snd.fst) =
 g.snd.fst ++
 ((0 : Int) :: ([] : List Int)).set (0 : Nat)
 (thr (g.snd.snd.fst + x.snd.fst.getD g.snd.snd.snd.snd.fst.toNat (0 : Int)) g.fst.fst
 g.fst.snd false -
 g.snd.snd.snd.fst) ∧
 True) ∧
 True)) ∧
 (decide (g.snd.snd.snd.snd.fst < (↑x.snd.fst.length : Int)) = false →
 g.snd.fst = (steps x.fst.fst x.fst.snd x.snd.fst).fst ∧ (0 : Int) = (steps x.fst.fst x.fst.snd x.snd.fst).snd.fst)))

theorem E_wsteps_eq (x : HL (cSteps : Ctr).as) : vc (fx_wsteps x) 1 35 Try.f35 (cSteps) x = E_wsteps x := by kernel_rfl

def E_ticks (x : (Int × Int) × Int × Unit) : Prop :=
 Holds True ∧
 ((!wrong x.fst.fst x.fst.snd != (0 : Int)) = true → (!wrong x.fst.fst x.fst.snd != (0 : Int)) = true) ∧
 ((wrong x.fst.fst x.fst.snd != (0 : Int)) = false → (!wrong x.fst.fst x.fst.snd != (0 : Int)) = true) ∧
 ((!(wrong x.fst.fst x.fst.snd != (0 : Int) || decide (x.snd.fst < (0 : Int)))) = true →
 (!(wrong x.fst.fst x.fst.snd != (0 : Int) || decide (x.snd.fst < (0 : Int)))) = true) ∧
 ((wrong x.fst.fst x.fst.snd != (0 : Int) || decide (x.snd.fst < (0 : Int))) = false →
 (!(wrong x.fst.fst x.fst.snd != (0 : Int) || decide (x.snd.fst < (0 : Int)))) = true) ∧
 ((wrong x.fst.fst x.fst.snd != (0 : Int) || decide (x.snd.fst < (0 : Int)) || decide ((1099511627776 : Int) < x.snd.fst)) = true →
 (0 : Int) = (ticks x.fst.fst x.fst.snd x.snd.fst).fst ∧ (2 : Int) = (ticks x.fst.fst x.fst.snd x.snd.fst).snd.fst) ∧
 ((wrong x.fst.fst x.fst.snd != (0 : Int) || decide (x.snd.fst < (0 : Int)) || decide ((1099511627776 : Int) < x.snd.fst)) = false →
 ((0 : Int) ≤ x.snd.fst ∧ (0 : Int) < x.fst.fst) ∧
 ((-9223372036854775808 : Int) ≤ x.snd.fst / x.fst.fst * x.fst.snd ∧ x.snd.fst / x.fst.fst * x.fst.snd ≤ (9223372036854775807 : Int)) ∧
 ((0 : Int) ≤ x.snd.fst ∧ (0 : Int) < x.fst.fst) ∧
 ((-9223372036854775808 : Int) ≤ x.snd.fst % x.fst.fst * x.fst.snd ∧
 x.snd.fst % x.fst.fst * x.fst.snd ≤ (9223372036854775807 : Int)) ∧
 ((-9223372036854775808 : Int) ≤ x.snd.fst % x.fst.fst * x.fst.snd + x.fst.fst ∧
 x.snd.fst % x.fst.fst * x.fst.snd + x.fst.fst ≤ (9223372036854775807 : Int)) ∧
 ((-9223372036854775808 : Int) ≤ x.snd.fst % x.fst.fst * x.fst.snd + x.fst.fst - (1 : Int) ∧
 x.snd.fst % x.fst.fst * x.fst.snd + x.fst.fst - (1 : Int) ≤ (9223372036854775807 : Int)) ∧
 ((0 : Int) ≤ x.snd.fst % x.fst.fst * x.fst.snd + x.fst.fst - (1 : Int) ∧ (0 : Int) < x.fst.fst) ∧
 ((-9223372036854775808 : Int) ≤
 x.snd.fst / x.fst.fst * x.fst.snd + (x.snd.fst % x.fst.fst * x.fst.snd + x.fst.fst - (1 : Int)) / x.fst.fst ∧
 x.snd.fst / x.fst.fst * x.fst.snd + (x.snd.fst % x.fst.fst * x.fst.snd + x.fst.fst - (1 : Int)) / x.fst.fst ≤
 (9223372036854775807 : Int)) ∧
 x.snd.fst / x.fst.fst * x.fst.snd + (x.snd.fst % x.fst.fst * x.fst.snd + x.fst.fst - (1 : Int)) / x.fst.fst =
 (ticks x.fst.fst x.fst.snd x.snd.fst).fst ∧
 (0 : Int) = (ticks x.fst.fst x.fst.snd x.snd.fst).snd.fst)

theorem E_ticks_eq (x : HL (cTicks : Ctr).as) : vc (fx_ticks x) 1 36 Try.f36 (cTicks) x = E_ticks x := by kernel_rfl

def E_scales (x : (Int × Int) × Int × Int × List Int × Unit) : Prop :=
 Holds True ∧
 Holds True ∧
 Holds True ∧
 Holds True ∧
 Holds True ∧
 ((!(scale x.fst.fst x.fst.snd x.snd.fst).snd.fst != (scale x.fst.fst x.fst.snd x.snd.fst).snd.fst) = true →
 (!(scale x.fst.fst x.fst.snd x.snd.fst).snd.fst != (scale x.fst.fst x.fst.snd x.snd.fst).snd.fst) = true ∧
 (!(scale x.fst.fst x.fst.snd x.snd.fst).snd.fst != (scale x.fst.fst x.fst.snd x.snd.fst).snd.fst) = true) ∧
 (((scale x.fst.fst x.fst.snd x.snd.fst).snd.fst != (scale x.fst.fst x.fst.snd x.snd.fst).snd.fst) = false →
 (!(scale x.fst.fst x.fst.snd x.snd.fst).snd.fst != (scale x.fst.fst x.fst.snd x.snd.fst).snd.fst) = true) ∧
 ((!((scale x.fst.fst x.fst.snd x.snd.fst).snd.fst != (scale x.fst.fst x.fst.snd x.snd.fst).snd.fst ||
 (scale x.fst.fst x.fst.snd x.snd.fst).fst != (scale x.fst.fst x.fst.snd x.snd.fst).fst)) =
 true →
 (!((scale x.fst.fst x.fst.snd x.snd.fst).snd.fst != (scale x.fst.fst x.fst.snd x.snd.fst).snd.fst ||
 (scale x.fst.fst x.fst.snd x.snd.fst).fst != (scale x.fst.fst x.fst.snd x.snd.fst).fst)) =
 true ∧
 (!((scale x.fst.fst x.fst.snd x.snd.fst).snd.fst != (scale x.fst.fst x.fst.snd x.snd.fst).snd.fst ||
 (scale x.fst.fst x.fst.snd x.snd.fst).fst != (scale x.fst.fst x.fst.snd x.snd.fst).fst)) =
 true) ∧
 (((scale x.fst.fst x.fst.snd x.snd.fst).snd.fst != (scale x.fst.fst x.fst.snd x.snd.fst).snd.fst ||
 (scale x.fst.fst x.fst.snd x.snd.fst).fst != (scale x.fst.fst x.fst.snd x.snd.fst).fst) =
 false →
 (!((scale x.fst.fst x.fst.snd x.snd.fst).snd.fst != (scale x.fst.fst x.fst.snd x.snd.fst).snd.fst ||
 (scale x.fst.fst x.fst.snd x.snd.fst).fst != (scale x.fst.fst x.fst.snd x.snd.fst).fst)) =
 true) ∧
 ((!((scale x.fst.fst x.fst.snd x.snd.fst).snd.fst != (scale x.fst.fst x.fst.snd x.snd.fst).snd.fst ||
 (scale x.fst.fst x.fst.snd x.snd.fst).fst != (scale x.fst.fst x.fst.snd x.snd.fst).fst ||
 (steps x.fst.fst x.fst.snd x.snd.snd.snd.fst).snd.fst != (steps x.fst.fst x.fst.snd x.snd.snd.snd.fst).snd.fst)) =
 true →
 ((!((scale x.fst.fst x.fst.snd x.snd.fst).snd.fst != (scale x.fst.fst x.fst.snd x.snd.fst).snd.fst ||
 (scale x.fst.fst x.fst.snd x.snd.fst).fst != (scale x.fst.fst x.fst.snd x.snd.fst).fst ||
 (steps x.fst.fst x.fst.snd x.snd.snd.snd.fst).snd.fst != (steps x.fst.fst x.fst.snd x.snd.snd.snd.fst).snd.fst)) =
 true ∧
 (!((scale x.fst.fst x.fst.snd x.snd.fst).snd.fst != (scale x.fst.fst x.fst.snd x.snd.fst).snd.fst ||
 (scale x.fst.fst x.fst.snd x.snd.fst).fst != (scale x.fst.fst x.fst.snd x.snd.fst).fst ||
 (steps x.fst.fst x.fst.snd x.snd.snd.snd.fst).snd.fst != (steps x.fst.fst x.fst.snd x.snd.snd.snd.fst).snd.fst)) =
 true) ∧
 Holds True) ∧
 ((!((scale x.fst.fst x.fst.snd x.snd.fst).snd.fst != (scale x.fst.fst x.fst.snd x.snd.fst).snd.fst ||
 (scale x.fst.fst x.fst.snd x.snd.fst).fst != (scale x.fst.fst x.fst.snd x.snd.fst).fst ||
 (steps x.fst.fst x.fst.snd x.snd.snd.snd.fst).snd.fst != (steps x.fst.fst x.fst.snd x.snd.snd.snd.fst).snd.fst)) =
 true →
 (!((scale x.fst.fst x.fst.snd x.snd.fst).snd.fst != (scale x.fst.fst x.fst.snd x.snd.fst).snd.fst ||
 (scale x.fst.fst x.fst.snd x.snd.fst).fst != (scale x.fst.fst x.fst.snd x.snd.fst).fst ||
 (steps x.fst.fst x.fst.snd x.snd.snd.snd.fst).snd.fst != (steps x.fst.fst x.fst.snd x.snd.snd.snd.fst).snd.fst)) =
 true) ∧
 (((scale x.fst.fst x.fst.snd x.snd.fst).snd.fst != (scale x.fst.fst x.fst.snd x.snd.fst).snd.fst ||
 (scale x.fst.fst x.fst.snd x.snd.fst).fst != (scale x.fst.fst x.fst.snd x.snd.fst).fst ||
 (steps x.fst.fst x.fst.snd x.snd.snd.snd.fst).snd.fst != (steps x.fst.fst x.fst.snd x.snd.snd.snd.fst).snd.fst) =
 false →
 (!((scale x.fst.fst x.fst.snd x.snd.fst).snd.fst != (scale x.fst.fst x.fst.snd x.snd.fst).snd.fst ||
 (scale x.fst.fst x.fst.snd x.snd.fst).fst != (scale x.fst.fst x.fst.snd x.snd.fst).fst ||
 (steps x.fst.fst x.fst.snd x.snd.snd.snd.fst).snd.fst != (steps x.fst.fst x.fst.snd x.snd.snd.snd.fst).snd.fst)) =
 true) ∧
 (((scale x.fst.fst x.fst.snd x.snd.fst).snd.fst != (scale x.fst.fst x.fst.snd x.snd.fst).snd.fst ||
 (scale x.fst.fst x.fst.snd x.snd.fst).fst != (scale x.fst.fst x.fst.snd x.snd.fst).fst ||
 (steps x.fst.fst x.fst.snd x.snd.snd.snd.fst).snd.fst != (steps x.fst.fst x.fst.snd x.snd.snd.snd.fst).snd.fst ||
 !decide ((steps x.fst.fst x.fst.snd x.snd.snd.snd.fst).fst = (steps x.fst.fst x.fst.snd x.snd.snd.snd.fst).fst)) =
 true →
 false = true) ∧
 (((scale x.fst.fst x.fst.snd x.snd.fst).snd.fst != (scale x.fst.fst x.fst.snd x.snd.fst).snd.fst ||
 (scale x.fst.fst x.fst.snd x.snd.fst).fst != (scale x.fst.fst x.fst.snd x.snd.fst).fst ||
 (steps x.fst.fst x.fst.snd x.snd.snd.snd.fst).snd.fst != (steps x.fst.fst x.fst.snd x.snd.snd.snd.fst).snd.fst ||
 !decide ((steps x.fst.fst x.fst.snd x.snd.snd.snd.fst).fst = (steps x.fst.fst x.fst.snd x.snd.snd.snd.fst).fst)) =
 false →
 Holds True ∧
 ((!wrong x.fst.fst x.fst.snd != (0 : Int)) = true → (!wrong x.fst.fst x.fst.snd != (0 : Int)) = true) ∧
 ((wrong x.fst.fst x.fst.snd != (0 : Int)) = false → (!wrong x.fst.fst x.fst.snd != (0 : Int)) = true) ∧
 ((!(wrong x.fst.fst x.fst.snd != (0 : Int) || decide (x.snd.snd.fst < (0 : Int)))) = true →
 (!(wrong x.fst.fst x.fst.snd != (0 : Int) || decide (x.snd.snd.fst < (0 : Int)))) = true) ∧
 ((wrong x.fst.fst x.fst.snd != (0 : Int) || decide (x.snd.snd.fst < (0 : Int))) = false →
 (!(wrong x.fst.fst x.fst.snd != (0 : Int) || decide (x.snd.snd.fst < (0 : Int)))) = true) ∧
 ((wrong x.fst.fst x.fst.snd != (0 : Int) || decide (x.snd.snd.fst < (0 : Int)) ||
 decide ((1099511627776 : Int) < x.snd.snd.fst)) =
 true →
 (((ticks x.fst.fst x.fst.snd x.snd.snd.fst).snd.fst == (2 : Int)) = true →
 ((ticks x.fst.fst x.fst.snd x.snd.snd.fst).snd.fst == (2 : Int)) = true) ∧
 (((ticks x.fst.fst x.fst.snd x.snd.snd.fst).snd.fst == (2 : Int)) = true →
 ((ticks x.fst.fst x.fst.snd x.snd.snd.fst).snd.fst == (2 : Int)) = true) ∧
 ((ticks x.fst.fst x.fst.snd x.snd.snd.fst).snd.fst == (2 : Int) &&
 (ticks x.fst.fst x.fst.snd x.snd.snd.fst).fst == (0 : Int)) =
 true) ∧
 ((wrong x.fst.fst x.fst.snd != (0 : Int) || decide (x.snd.snd.fst < (0 : Int)) ||
 decide ((1099511627776 : Int) < x.snd.snd.fst)) =
 false →
 (((ticks x.fst.fst x.fst.snd x.snd.snd.fst).snd.fst == (0 : Int)) = true →
 ((ticks x.fst.fst x.fst.snd x.snd.snd.fst).snd.fst == (0 : Int)) = true) ∧
 (((ticks x.fst.fst x.fst.snd x.snd.snd.fst).snd.fst == (0 : Int)) = true →
 ((ticks x.fst.fst x.fst.snd x.snd.snd.fst).snd.fst == (0 : Int)) = true) ∧
 (((ticks x.fst.fst x.fst.snd x.snd.snd.fst).snd.fst == (0 : Int)) = true →
 (((ticks x.fst.fst x.fst.snd x.snd.snd.fst).snd.fst == (0 : Int)) = true ∧
 ((ticks x.fst.fst x.fst.snd x.snd.snd.fst).snd.fst == (0 : Int)) = true ∧
 ((ticks x.fst.fst x.fst.snd x.snd.snd.fst).snd.fst == (0 : Int)) = true) ∧
 Holds
 (((0 : Int) ≤ x.snd.snd.fst ∧ x.snd.snd.fst < (9223372036854775807 : Int)) ∧
 ((0 : Int) ≤ x.fst.snd ∧ x.fst.snd < (9223372036854775807 : Int)) ∧
 ((1 : Int) ≤ x.fst.fst ∧ x.fst.fst < (9223372036854775807 : Int)) ∧
 x.snd.snd.fst * x.fst.snd < (9223372036854775807 : Int))) ∧
 (((ticks x.fst.fst x.fst.snd x.snd.snd.fst).snd.fst == (0 : Int)) = true →
 ((ticks x.fst.fst x.fst.snd x.snd.snd.fst).snd.fst == (0 : Int)) = true ∧
 ((ticks x.fst.fst x.fst.snd x.snd.snd.fst).snd.fst == (0 : Int)) = true) ∧
 (((ticks x.fst.fst x.fst.snd x.snd.snd.fst).snd.fst == (0 : Int)) = true →
 ((ticks x.fst.fst x.fst.snd x.snd.snd.fst).snd.fst == (0 : Int)) = true) ∧
 ((ticks x.fst.fst x.fst.snd x.snd.snd.fst).snd.fst == (0 : Int) &&
 (ticks x.fst.fst x.fst.snd x.snd.snd.fst).fst == thr x.snd.snd.fst x.fst.snd x.fst.fst true) =
 true))

theorem E_scales_eq (x : HL (cLaw : Ctr).as) : vc (fx_scales x) 1 9 Try.f9 (cLaw) x = E_scales x := by kernel_rfl

end Go.Proofs.Ytlkhpbjjimjhbaa.Clks
