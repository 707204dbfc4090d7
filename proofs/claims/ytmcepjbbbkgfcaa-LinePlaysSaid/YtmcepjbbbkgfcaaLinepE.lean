/-
  The conditions that the executor comes to, written out (by a tool of ours), and that they are the conditions (by the kernel).
-/
import Derived.Test.YtmcepjbbbkgfcaaLinepC
namespace Go.Proofs.Ytmcepjbbbkgfcaa.Linep
open Go.Sx
set_option maxRecDepth 100000
set_option maxHeartbeats 4000000

def E_eqp (x : List (Int × Int × Bool × Bool × Bool × Bool × Bool) × List (Int × Int × Bool × Bool × Bool × Bool × Bool) × Unit) : Prop :=
 (((↑x.fst.length : Int) != (↑x.snd.fst.length : Int)) = true → false = deq tyPin.sl x.fst x.snd.fst) ∧
 (((↑x.fst.length : Int) != (↑x.snd.fst.length : Int)) = false →
 ((((0 : Int) ≤ (0 : Int) ∧
 (0 : Int) ≤ (↑x.fst.length : Int) ∧ List.take (Int.toNat (0 : Int)) x.fst = List.take (Int.toNat (0 : Int)) x.snd.fst) ∧
 True) ∧
 (x.fst = x.fst ∧ x.snd.fst = x.snd.fst ∧ (↑x.fst.length : Int) = (↑x.fst.length : Int) ∧ (0 : Int) = (0 : Int) ∧ True) ∧ True ∧ True) ∧
 ∀ (g : Int × Unit),
 (0 : Int) ≤ g.fst ∧ g.fst ≤ (↑x.fst.length : Int) ∧ List.take g.fst.toNat x.fst = List.take g.fst.toNat x.snd.fst →
 ((-9223372036854775808 : Int) ≤ g.fst ∧ g.fst ≤ (9223372036854775807 : Int)) ∧ True →
 (decide (g.fst < (↑x.fst.length : Int)) = true →
 ((0 : Int) ≤ g.fst ∧ g.fst < (↑x.fst.length : Int)) ∧
 ((0 : Int) ≤ g.fst ∧ g.fst < (↑x.snd.fst.length : Int)) ∧
 ((!deq ((Ty.int IntKind.i64).pair ((Ty.int IntKind.i64).pair (Ty.bool.pair (Ty.bool.pair (Ty.bool.pair (Ty.bool.pair Ty.bool))))))
 ((x.fst.getD g.fst.toNat ((0 : Int), (0 : Int), false, false, false, false, false)).fst,
 (x.fst.getD g.fst.toNat ((0 : Int), (0 : Int), false, false, false, false, false)).snd.fst,
 (x.fst.getD g.fst.toNat ((0 : Int), (0 : Int), false, false, false, false, false)).snd.snd.fst,
 (x.fst.getD g.fst.toNat ((0 : Int), (0 : Int), false, false, false, false, false)).snd.snd.snd.fst,
 (x.fst.getD g.fst.toNat ((0 : Int), (0 : Int), false, false, false, false, false)).snd.snd.snd.snd.fst,
 (x.fst.getD g.fst.toNat ((0 : Int), (0 : Int), false, false, false, false, false)).snd.snd.snd.snd.snd.fst,
 (x.fst.getD g.fst.toNat ((0 : Int), (0 : Int), false, false, false, false, false)).snd.snd.snd.snd.snd.snd)
 ((x.snd.fst.getD g.fst.toNat ((0 : Int), (0 : Int), false, false, false, false, false)).fst,
 (x.snd.fst.getD g.fst.toNat ((0 : Int), (0 : Int), false, false, false, false, false)).snd.fst,
 (x.snd.fst.getD g.fst.toNat ((0 : Int), (0 : Int), false, false, false, false, false)).snd.snd.fst,
 (x.snd.fst.getD g.fst.toNat ((0 : Int), (0 : Int), false, false, false, false, false)).snd.snd.snd.fst,
 (x.snd.fst.getD g.fst.toNat ((0 : Int), (0 : Int), false, false, false, false, false)).snd.snd.snd.snd.fst,
 (x.snd.fst.getD g.fst.toNat ((0 : Int), (0 : Int), false, false, false, false, false)).snd.snd.snd.snd.snd.fst,
 (x.snd.fst.getD g.fst.toNat ((0 : Int), (0 : Int), false, false, false, false, false)).snd.snd.snd.snd.snd.snd)) =
 true →
 false = deq tyPin.sl x.fst x.snd.fst) ∧
 ((!deq
 ((Ty.int IntKind.i64).pair
 ((Ty.int IntKind.i64).pair (Ty.bool.pair (Ty.bool.pair (Ty.bool.pair (Ty.bool.pair Ty.bool))))))
 ((x.fst.getD g.fst.toNat ((0 : Int), (0 : Int), false, false, false, false, false)).fst,
 (x.fst.getD g.fst.toNat ((0 : Int), (0 : Int), false, false, false, false, false)).snd.fst,
 (x.fst.getD g.fst.toNat ((0 : Int), (0 : Int), false, false, false, false, false)).snd.snd.fst,
 (x.fst.getD g.fst.toNat ((0 : Int), (0 : Int), false, false, false, false, false)).snd.snd.snd.fst,
 (x.fst.getD g.fst.toNat ((0 : Int), (0 : Int), false, false, false, false, false)).snd.snd.snd.snd.fst,
 (x.fst.getD g.fst.toNat ((0 : Int), (0 : Int), false, false, false, false, false)).snd.snd.snd.snd.snd.fst,
 (x.fst.getD g.fst.toNat ((0 : Int), (0 : Int), false, false, false, false, false)).snd.snd.snd.snd.snd.snd)
 ((x.snd.fst.getD g.fst.toNat ((0 : Int), (0 : Int), false, false, false, false, false)).fst,
 (x.snd.fst.getD g.fst.toNat ((0 : Int), (0 : Int), false, false, false, false, false)).snd.fst,
 (x.snd.fst.getD g.fst.toNat ((0 : Int), (0 : Int), false, false, false, false, false)).snd.snd.fst,
 (x.snd.fst.getD g.fst.toNat ((0 : Int), (0 : Int), false, false, false, false, false)).snd.snd.snd.fst,
 (x.snd.fst.getD g.fst.toNat ((0 : Int), (0 : Int), false, false, false, false, false)).snd.snd.snd.snd.fst,
 (x.snd.fst.getD g.fst.toNat ((0 : Int), (0 : Int), false, false, false, false, false)).snd.snd.snd.snd.snd.fst,
 (x.snd.fst.getD g.fst.toNat ((0 : Int), (0 : Int), false, false, false, false, false)).snd.snd.snd.snd.snd.snd)) =
 false →
 ((-9223372036854775808 : Int) ≤ g.fst + (1 : Int) ∧ g.fst + (1 : Int) ≤ (9223372036854775807 : Int)) ∧
 (((0 : Int) ≤ g.fst + (1 : Int) ∧
 g.fst + (1 : Int) ≤ (↑x.fst.length : Int) ∧
 List.take (g.fst + (1 : Int)).toNat x.fst = List.take (g.fst + (1 : Int)).toNat x.snd.fst) ∧
 ((↑x.fst.length : Int) - (g.fst + (1 : Int))).toNat < ((↑x.fst.length : Int) - g.fst).toNat) ∧
 (x.fst = x.fst ∧
 x.snd.fst = x.snd.fst ∧
 (↑x.fst.length : Int) = (↑x.fst.length : Int) ∧ g.fst + (1 : Int) = g.fst + (1 : Int) ∧ True) ∧
 True ∧ True)) ∧
 (decide (g.fst < (↑x.fst.length : Int)) = false → true = deq tyPin.sl x.fst x.snd.fst))

theorem E_eqp_eq (x : HL (cEqP : Ctr).as) : vc (fx_eqp x) 1 30 Try.f30 (cEqP) x = E_eqp x := by kernel_rfl

def E_eqs (x : List (Int × Int × Int) × List (Int × Int × Int) × Unit) : Prop :=
 (((↑x.fst.length : Int) != (↑x.snd.fst.length : Int)) = true → false = deq tySent.sl x.fst x.snd.fst) ∧
 (((↑x.fst.length : Int) != (↑x.snd.fst.length : Int)) = false →
 ((((0 : Int) ≤ (0 : Int) ∧
 (0 : Int) ≤ (↑x.fst.length : Int) ∧ List.take (Int.toNat (0 : Int)) x.fst = List.take (Int.toNat (0 : Int)) x.snd.fst) ∧
 True) ∧
 (x.fst = x.fst ∧ x.snd.fst = x.snd.fst ∧ (↑x.fst.length : Int) = (↑x.fst.length : Int) ∧ (0 : Int) = (0 : Int) ∧ True) ∧ True ∧ True) ∧
 ∀ (g : Int × Unit),
 (0 : Int) ≤ g.fst ∧ g.fst ≤ (↑x.fst.length : Int) ∧ List.take g.fst.toNat x.fst = List.take g.fst.toNat x.snd.fst →
 ((-9223372036854775808 : Int) ≤ g.fst ∧ g.fst ≤ (9223372036854775807 : Int)) ∧ True →
 (decide (g.fst < (↑x.fst.length : Int)) = true →
 ((0 : Int) ≤ g.fst ∧ g.fst < (↑x.fst.length : Int)) ∧
 ((0 : Int) ≤ g.fst ∧ g.fst < (↑x.snd.fst.length : Int)) ∧
 ((!deq ((Ty.int IntKind.i64).pair ((Ty.int IntKind.i64).pair (Ty.int IntKind.i64)))
 ((x.fst.getD g.fst.toNat ((0 : Int), (0 : Int), (0 : Int))).fst,
 (x.fst.getD g.fst.toNat ((0 : Int), (0 : Int), (0 : Int))).snd.fst,
 (x.fst.getD g.fst.toNat ((0 : Int), (0 : Int), (0 : Int))).snd.snd)
 ((x.snd.fst.getD g.fst.toNat ((0 : Int), (0 : Int), (0 : Int))).fst,
 (x.snd.fst.getD g.fst.toNat ((0 : Int), (0 : Int), (0 : Int))).snd.fst,
 (x.snd.fst.getD g.fst.toNat ((0 : Int), (0 : Int), (0 : Int))).snd.snd)) =
 true →
 false = deq tySent.sl x.fst x.snd.fst) ∧
 ((!deq ((Ty.int IntKind.i64).pair ((Ty.int IntKind.i64).pair (Ty.int IntKind.i64)))
 ((x.fst.getD g.fst.toNat ((0 : Int), (0 : Int), (0 : Int))).fst,
 (x.fst.getD g.fst.toNat ((0 : Int), (0 : Int), (0 : Int))).snd.fst,
 (x.fst.getD g.fst.toNat ((0 : Int), (0 : Int), (0 : Int))).snd.snd)
 ((x.snd.fst.getD g.fst.toNat ((0 : Int), (0 : Int), (0 : Int))).fst,
 (x.snd.fst.getD g.fst.toNat ((0 : Int), (0 : Int), (0 : Int))).snd.fst,
 (x.snd.fst.getD g.fst.toNat ((0 : Int), (0 : Int), (0 : Int))).snd.snd)) =
 false →
 ((-9223372036854775808 : Int) ≤ g.fst + (1 : Int) ∧ g.fst + (1 : Int) ≤ (9223372036854775807 : Int)) ∧
 (((0 : Int) ≤ g.fst + (1 : Int) ∧
 g.fst + (1 : Int) ≤ (↑x.fst.length : Int) ∧
 List.take (g.fst + (1 : Int)).toNat x.fst = List.take (g.fst + (1 : Int)).toNat x.snd.fst) ∧
 ((↑x.fst.length : Int) - (g.fst + (1 : Int))).toNat < ((↑x.fst.length : Int) - g.fst).toNat) ∧
 (x.fst = x.fst ∧
 x.snd.fst = x.snd.fst ∧
 (↑x.fst.length : Int) = (↑x.fst.length : Int) ∧ g.fst + (1 : Int) = g.fst + (1 : Int) ∧ True) ∧
 True ∧ True)) ∧
 (decide (g.fst < (↑x.fst.length : Int)) = false → true = deq tySent.sl x.fst x.snd.fst))

theorem E_eqs_eq (x : HL (cEqS : Ctr).as) : vc (fx_eqs x) 1 31 Try.f31 (cEqS) x = E_eqs x := by kernel_rfl

def E_clone (x : List (Int × Int × Bool × Bool × Bool × Bool × Bool) × Unit) : Prop :=
 ∀ (b : Bool),
 (b = true → x.fst = ([] : List (Int × Int × Bool × Bool × Bool × Bool × Bool))) →
 (b = true → ([] : List (Int × Int × Bool × Bool × Bool × Bool × Bool)) = x.fst) ∧
 (b = false →
 (([] : List (Int × Int × Bool × Bool × Bool × Bool × Bool)).length + x.fst.length ≤ (9223372036854775807 : Nat) ∧
 (([] : List (Int × Int × Bool × Bool × Bool × Bool × Bool)).length + x.fst.length +
 (([] : List (Int × Int × Bool × Bool × Bool × Bool × Bool)).length + x.fst.length) / (4 : Nat) +
 (192 : Nat)) *
 (24 : Nat) ≤
 (281474976710656 : Nat)) ∧
 ([] : List (Int × Int × Bool × Bool × Bool × Bool × Bool)) ++ x.fst = x.fst)

theorem E_clone_eq (x : HL (cClone : Ctr).as) : vc (fx_clone x) 1 59 Try.f59 (cClone) x = E_clone x := by kernel_rfl

def E_badp (x : (Int × Int × Bool × Bool × Bool × Bool × Bool) × Unit) : Prop :=
 ((!decide (x.fst.fst < (0 : Int))) = true → (!decide (x.fst.fst < (0 : Int))) = true) ∧
 ((!decide (x.fst.fst < (0 : Int))) = true → (!decide (x.fst.fst < (0 : Int))) = true) ∧
 (decide (x.fst.fst < (0 : Int)) = false → (!decide (x.fst.fst < (0 : Int))) = true) ∧
 ((!(decide (x.fst.fst < (0 : Int)) || decide ((8 : Int) ≤ x.fst.fst))) = true →
 (!(decide (x.fst.fst < (0 : Int)) || decide ((8 : Int) ≤ x.fst.fst))) = true) ∧
 ((!(decide (x.fst.fst < (0 : Int)) || decide ((8 : Int) ≤ x.fst.fst))) = true →
 (!(decide (x.fst.fst < (0 : Int)) || decide ((8 : Int) ≤ x.fst.fst))) = true) ∧
 ((decide (x.fst.fst < (0 : Int)) || decide ((8 : Int) ≤ x.fst.fst)) = false →
 (!(decide (x.fst.fst < (0 : Int)) || decide ((8 : Int) ≤ x.fst.fst))) = true) ∧
 ((!(decide (x.fst.fst < (0 : Int)) || decide ((8 : Int) ≤ x.fst.fst) || decide (x.fst.snd.fst < (32 : Int)))) = true →
 (!(decide (x.fst.fst < (0 : Int)) || decide ((8 : Int) ≤ x.fst.fst) || decide (x.fst.snd.fst < (32 : Int)))) = true) ∧
 ((!(decide (x.fst.fst < (0 : Int)) || decide ((8 : Int) ≤ x.fst.fst) || decide (x.fst.snd.fst < (32 : Int)))) = true →
 (!(decide (x.fst.fst < (0 : Int)) || decide ((8 : Int) ≤ x.fst.fst) || decide (x.fst.snd.fst < (32 : Int)))) = true) ∧
 ((decide (x.fst.fst < (0 : Int)) || decide ((8 : Int) ≤ x.fst.fst) || decide (x.fst.snd.fst < (32 : Int))) = false →
 (!(decide (x.fst.fst < (0 : Int)) || decide ((8 : Int) ≤ x.fst.fst) || decide (x.fst.snd.fst < (32 : Int)))) = true) ∧
 ((!(decide (x.fst.fst < (0 : Int)) || decide ((8 : Int) ≤ x.fst.fst) || decide (x.fst.snd.fst < (32 : Int)) ||
 decide ((256 : Int) ≤ x.fst.snd.fst))) =
 true →
 (!(decide (x.fst.fst < (0 : Int)) || decide ((8 : Int) ≤ x.fst.fst) || decide (x.fst.snd.fst < (32 : Int)) ||
 decide ((256 : Int) ≤ x.fst.snd.fst))) =
 true) ∧
 ((!(decide (x.fst.fst < (0 : Int)) || decide ((8 : Int) ≤ x.fst.fst) || decide (x.fst.snd.fst < (32 : Int)) ||
 decide ((256 : Int) ≤ x.fst.snd.fst))) =
 true →
 (!(decide (x.fst.fst < (0 : Int)) || decide ((8 : Int) ≤ x.fst.fst) || decide (x.fst.snd.fst < (32 : Int)) ||
 decide ((256 : Int) ≤ x.fst.snd.fst))) =
 true) ∧
 ((!(decide (x.fst.fst < (0 : Int)) || decide ((8 : Int) ≤ x.fst.fst) || decide (x.fst.snd.fst < (32 : Int)) ||
 decide ((256 : Int) ≤ x.fst.snd.fst)) &&
 x.fst.snd.snd.fst) =
 true →
 (!(decide (x.fst.fst < (0 : Int)) || decide ((8 : Int) ≤ x.fst.fst) || decide (x.fst.snd.fst < (32 : Int)) ||
 decide ((256 : Int) ≤ x.fst.snd.fst)) &&
 x.fst.snd.snd.fst) =
 true) ∧
 ((!(decide (x.fst.fst < (0 : Int)) || decide ((8 : Int) ≤ x.fst.fst) || decide (x.fst.snd.fst < (32 : Int)) ||
 decide ((256 : Int) ≤ x.fst.snd.fst))) =
 true →
 (!(decide (x.fst.fst < (0 : Int)) || decide ((8 : Int) ≤ x.fst.fst) || decide (x.fst.snd.fst < (32 : Int)) ||
 decide ((256 : Int) ≤ x.fst.snd.fst))) =
 true ∧
 (x.fst.snd.snd.fst = true →
 (!(decide (x.fst.fst < (0 : Int)) || decide ((8 : Int) ≤ x.fst.fst) || decide (x.fst.snd.fst < (32 : Int)) ||
 decide ((256 : Int) ≤ x.fst.snd.fst)) &&
 x.fst.snd.snd.fst) =
 true)) ∧
 ((decide (x.fst.fst < (0 : Int)) || decide ((8 : Int) ≤ x.fst.fst) || decide (x.fst.snd.fst < (32 : Int)) ||
 decide ((256 : Int) ≤ x.fst.snd.fst)) =
 false →
 (!(decide (x.fst.fst < (0 : Int)) || decide ((8 : Int) ≤ x.fst.fst) || decide (x.fst.snd.fst < (32 : Int)) ||
 decide ((256 : Int) ≤ x.fst.snd.fst))) =
 true) ∧
 ((!(decide (x.fst.fst < (0 : Int)) || decide ((8 : Int) ≤ x.fst.fst) || decide (x.fst.snd.fst < (32 : Int)) ||
 decide ((256 : Int) ≤ x.fst.snd.fst) ||
 x.fst.snd.snd.fst && x.fst.snd.snd.snd.snd.snd.fst)) =
 true →
 (!(decide (x.fst.fst < (0 : Int)) || decide ((8 : Int) ≤ x.fst.fst) || decide (x.fst.snd.fst < (32 : Int)) ||
 decide ((256 : Int) ≤ x.fst.snd.fst) ||
 x.fst.snd.snd.fst && x.fst.snd.snd.snd.snd.snd.fst)) =
 true) ∧
 ((!(decide (x.fst.fst < (0 : Int)) || decide ((8 : Int) ≤ x.fst.fst) || decide (x.fst.snd.fst < (32 : Int)) ||
 decide ((256 : Int) ≤ x.fst.snd.fst) ||
 x.fst.snd.snd.fst && x.fst.snd.snd.snd.snd.snd.fst)) =
 true →
 (!(decide (x.fst.fst < (0 : Int)) || decide ((8 : Int) ≤ x.fst.fst) || decide (x.fst.snd.fst < (32 : Int)) ||
 decide ((256 : Int) ≤ x.fst.snd.fst) ||
 x.fst.snd.snd.fst && x.fst.snd.snd.snd.snd.snd.fst)) =
 true) ∧
 ((!(decide (x.fst.fst < (0 : Int)) || decide ((8 : Int) ≤ x.fst.fst) || decide (x.fst.snd.fst < (32 : Int)) ||
 decide ((256 : Int) ≤ x.fst.snd.fst) ||
 x.fst.snd.snd.fst && x.fst.snd.snd.snd.snd.snd.fst)) =
 true →
 (!(decide (x.fst.fst < (0 : Int)) || decide ((8 : Int) ≤ x.fst.fst) || decide (x.fst.snd.fst < (32 : Int)) ||
 decide ((256 : Int) ≤ x.fst.snd.fst) ||
 x.fst.snd.snd.fst && x.fst.snd.snd.snd.snd.snd.fst)) =
 true) ∧
 ((!(decide (x.fst.fst < (0 : Int)) || decide ((8 : Int) ≤ x.fst.fst) || decide (x.fst.snd.fst < (32 : Int)) ||
 decide ((256 : Int) ≤ x.fst.snd.fst) ||
 x.fst.snd.snd.fst && x.fst.snd.snd.snd.snd.snd.fst) &&
 !x.fst.snd.snd.fst) =
 true →
 (!(decide (x.fst.fst < (0 : Int)) || decide ((8 : Int) ≤ x.fst.fst) || decide (x.fst.snd.fst < (32 : Int)) ||
 decide ((256 : Int) ≤ x.fst.snd.fst) ||
 x.fst.snd.snd.fst && x.fst.snd.snd.snd.snd.snd.fst) &&
 !x.fst.snd.snd.fst) =
 true) ∧
 ((!(decide (x.fst.fst < (0 : Int)) || decide ((8 : Int) ≤ x.fst.fst) || decide (x.fst.snd.fst < (32 : Int)) ||
 decide ((256 : Int) ≤ x.fst.snd.fst) ||
 x.fst.snd.snd.fst && x.fst.snd.snd.snd.snd.snd.fst)) =
 true →
 (!(decide (x.fst.fst < (0 : Int)) || decide ((8 : Int) ≤ x.fst.fst) || decide (x.fst.snd.fst < (32 : Int)) ||
 decide ((256 : Int) ≤ x.fst.snd.fst) ||
 x.fst.snd.snd.fst && x.fst.snd.snd.snd.snd.snd.fst)) =
 true ∧
 ((!x.fst.snd.snd.fst) = true →
 (!(decide (x.fst.fst < (0 : Int)) || decide ((8 : Int) ≤ x.fst.fst) ||
 decide (x.fst.snd.fst < (32 : Int)) ||
 decide ((256 : Int) ≤ x.fst.snd.fst) ||
 x.fst.snd.snd.fst && x.fst.snd.snd.snd.snd.snd.fst) &&
 !x.fst.snd.snd.fst) =
 true)) ∧
 ((decide (x.fst.fst < (0 : Int)) || decide ((8 : Int) ≤ x.fst.fst) || decide (x.fst.snd.fst < (32 : Int)) ||
 decide ((256 : Int) ≤ x.fst.snd.fst) ||
 x.fst.snd.snd.fst && x.fst.snd.snd.snd.snd.snd.fst) =
 false →
 (!(decide (x.fst.fst < (0 : Int)) || decide ((8 : Int) ≤ x.fst.fst) ||
 decide (x.fst.snd.fst < (32 : Int)) ||
 decide ((256 : Int) ≤ x.fst.snd.fst) ||
 x.fst.snd.snd.fst && x.fst.snd.snd.snd.snd.snd.fst)) =
 true) ∧
 ((!(decide (x.fst.fst < (0 : Int)) || decide ((8 : Int) ≤ x.fst.fst) || decide (x.fst.snd.fst < (32 : Int)) ||
 decide ((256 : Int) ≤ x.fst.snd.fst) ||
 x.fst.snd.snd.fst && x.fst.snd.snd.snd.snd.snd.fst ||
 !x.fst.snd.snd.fst && x.fst.snd.snd.snd.snd.snd.snd)) =
 true →
 (!(decide (x.fst.fst < (0 : Int)) || decide ((8 : Int) ≤ x.fst.fst) ||
 decide (x.fst.snd.fst < (32 : Int)) ||
 decide ((256 : Int) ≤ x.fst.snd.fst) ||
 x.fst.snd.snd.fst && x.fst.snd.snd.snd.snd.snd.fst ||
 !x.fst.snd.snd.fst && x.fst.snd.snd.snd.snd.snd.snd)) =
 true) ∧
 ((!(decide (x.fst.fst < (0 : Int)) || decide ((8 : Int) ≤ x.fst.fst) ||
 decide (x.fst.snd.fst < (32 : Int)) ||
 decide ((256 : Int) ≤ x.fst.snd.fst) ||
 x.fst.snd.snd.fst && x.fst.snd.snd.snd.snd.snd.fst ||
 !x.fst.snd.snd.fst && x.fst.snd.snd.snd.snd.snd.snd)) =
 true →
 (!(decide (x.fst.fst < (0 : Int)) || decide ((8 : Int) ≤ x.fst.fst) ||
 decide (x.fst.snd.fst < (32 : Int)) ||
 decide ((256 : Int) ≤ x.fst.snd.fst) ||
 x.fst.snd.snd.fst && x.fst.snd.snd.snd.snd.snd.fst ||
 !x.fst.snd.snd.fst && x.fst.snd.snd.snd.snd.snd.snd)) =
 true) ∧
 ((!(decide (x.fst.fst < (0 : Int)) || decide ((8 : Int) ≤ x.fst.fst) ||
 decide (x.fst.snd.fst < (32 : Int)) ||
 decide ((256 : Int) ≤ x.fst.snd.fst) ||
 x.fst.snd.snd.fst && x.fst.snd.snd.snd.snd.snd.fst ||
 !x.fst.snd.snd.fst && x.fst.snd.snd.snd.snd.snd.snd) &&
 x.fst.snd.snd.snd.snd.snd.fst) =
 true →
 (!(decide (x.fst.fst < (0 : Int)) || decide ((8 : Int) ≤ x.fst.fst) ||
 decide (x.fst.snd.fst < (32 : Int)) ||
 decide ((256 : Int) ≤ x.fst.snd.fst) ||
 x.fst.snd.snd.fst && x.fst.snd.snd.snd.snd.snd.fst ||
 !x.fst.snd.snd.fst && x.fst.snd.snd.snd.snd.snd.snd) &&
 x.fst.snd.snd.snd.snd.snd.fst) =
 true) ∧
 ((!(decide (x.fst.fst < (0 : Int)) || decide ((8 : Int) ≤ x.fst.fst) ||
 decide (x.fst.snd.fst < (32 : Int)) ||
 decide ((256 : Int) ≤ x.fst.snd.fst) ||
 x.fst.snd.snd.fst && x.fst.snd.snd.snd.snd.snd.fst ||
 !x.fst.snd.snd.fst && x.fst.snd.snd.snd.snd.snd.snd) &&
 x.fst.snd.snd.snd.snd.snd.fst) =
 true →
 (!(decide (x.fst.fst < (0 : Int)) || decide ((8 : Int) ≤ x.fst.fst) ||
 decide (x.fst.snd.fst < (32 : Int)) ||
 decide ((256 : Int) ≤ x.fst.snd.fst) ||
 x.fst.snd.snd.fst && x.fst.snd.snd.snd.snd.snd.fst ||
 !x.fst.snd.snd.fst && x.fst.snd.snd.snd.snd.snd.snd) &&
 x.fst.snd.snd.snd.snd.snd.fst) =
 true) ∧
 ((!(decide (x.fst.fst < (0 : Int)) || decide ((8 : Int) ≤ x.fst.fst) ||
 decide (x.fst.snd.fst < (32 : Int)) ||
 decide ((256 : Int) ≤ x.fst.snd.fst) ||
 x.fst.snd.snd.fst && x.fst.snd.snd.snd.snd.snd.fst ||
 !x.fst.snd.snd.fst && x.fst.snd.snd.snd.snd.snd.snd)) =
 true →
 (!(decide (x.fst.fst < (0 : Int)) || decide ((8 : Int) ≤ x.fst.fst) ||
 decide (x.fst.snd.fst < (32 : Int)) ||
 decide ((256 : Int) ≤ x.fst.snd.fst) ||
 x.fst.snd.snd.fst && x.fst.snd.snd.snd.snd.snd.fst ||
 !x.fst.snd.snd.fst && x.fst.snd.snd.snd.snd.snd.snd)) =
 true ∧
 (x.fst.snd.snd.snd.snd.snd.fst = true →
 (!(decide (x.fst.fst < (0 : Int)) || decide ((8 : Int) ≤ x.fst.fst) ||
 decide (x.fst.snd.fst < (32 : Int)) ||
 decide ((256 : Int) ≤ x.fst.snd.fst) ||
 x.fst.snd.snd.fst && x.fst.snd.snd.snd.snd.snd.fst ||
 !x.fst.snd.snd.fst && x.fst.snd.snd.snd.snd.snd.snd) &&
 x.fst.snd.snd.snd.snd.snd.fst) =
 true)) ∧
 ((decide (x.fst.fst < (0 : Int)) || decide ((8 : Int) ≤ x.fst.fst) ||
 decide (x.fst.snd.fst < (32 : Int)) ||
 decide ((256 : Int) ≤ x.fst.snd.fst) ||
 x.fst.snd.snd.fst && x.fst.snd.snd.snd.snd.snd.fst ||
 !x.fst.snd.snd.fst && x.fst.snd.snd.snd.snd.snd.snd) =
 false →
 (!(decide (x.fst.fst < (0 : Int)) || decide ((8 : Int) ≤ x.fst.fst) ||
 decide (x.fst.snd.fst < (32 : Int)) ||
 decide ((256 : Int) ≤ x.fst.snd.fst) ||
 x.fst.snd.snd.fst && x.fst.snd.snd.snd.snd.snd.fst ||
 !x.fst.snd.snd.fst && x.fst.snd.snd.snd.snd.snd.snd)) =
 true) ∧
 ((!(decide (x.fst.fst < (0 : Int)) || decide ((8 : Int) ≤ x.fst.fst) ||
 decide (x.fst.snd.fst < (32 : Int)) ||
 decide ((256 : Int) ≤ x.fst.snd.fst) ||
 x.fst.snd.snd.fst && x.fst.snd.snd.snd.snd.snd.fst ||
 !x.fst.snd.snd.fst && x.fst.snd.snd.snd.snd.snd.snd ||
 x.fst.snd.snd.snd.snd.snd.fst && !x.fst.snd.snd.snd.fst)) =
 true →
 (!(decide (x.fst.fst < (0 : Int)) || decide ((8 : Int) ≤ x.fst.fst) ||
 decide (x.fst.snd.fst < (32 : Int)) ||
 decide ((256 : Int) ≤ x.fst.snd.fst) ||
 x.fst.snd.snd.fst && x.fst.snd.snd.snd.snd.snd.fst ||
 !x.fst.snd.snd.fst && x.fst.snd.snd.snd.snd.snd.snd ||
 x.fst.snd.snd.snd.snd.snd.fst && !x.fst.snd.snd.snd.fst)) =
 true) ∧
 ((!(decide (x.fst.fst < (0 : Int)) || decide ((8 : Int) ≤ x.fst.fst) ||
 decide (x.fst.snd.fst < (32 : Int)) ||
 decide ((256 : Int) ≤ x.fst.snd.fst) ||
 x.fst.snd.snd.fst && x.fst.snd.snd.snd.snd.snd.fst ||
 !x.fst.snd.snd.fst && x.fst.snd.snd.snd.snd.snd.snd ||
 x.fst.snd.snd.snd.snd.snd.fst && !x.fst.snd.snd.snd.fst)) =
 true →
 (!(decide (x.fst.fst < (0 : Int)) || decide ((8 : Int) ≤ x.fst.fst) ||
 decide (x.fst.snd.fst < (32 : Int)) ||
 decide ((256 : Int) ≤ x.fst.snd.fst) ||
 x.fst.snd.snd.fst && x.fst.snd.snd.snd.snd.snd.fst ||
 !x.fst.snd.snd.fst && x.fst.snd.snd.snd.snd.snd.snd ||
 x.fst.snd.snd.snd.snd.snd.fst && !x.fst.snd.snd.snd.fst)) =
 true) ∧
 ((!(decide (x.fst.fst < (0 : Int)) || decide ((8 : Int) ≤ x.fst.fst) ||
 decide (x.fst.snd.fst < (32 : Int)) ||
 decide ((256 : Int) ≤ x.fst.snd.fst) ||
 x.fst.snd.snd.fst && x.fst.snd.snd.snd.snd.snd.fst ||
 !x.fst.snd.snd.fst && x.fst.snd.snd.snd.snd.snd.snd ||
 x.fst.snd.snd.snd.snd.snd.fst && !x.fst.snd.snd.snd.fst) &&
 x.fst.snd.snd.fst) =
 true →
 (!(decide (x.fst.fst < (0 : Int)) || decide ((8 : Int) ≤ x.fst.fst) ||
 decide (x.fst.snd.fst < (32 : Int)) ||
 decide ((256 : Int) ≤ x.fst.snd.fst) ||
 x.fst.snd.snd.fst && x.fst.snd.snd.snd.snd.snd.fst ||
 !x.fst.snd.snd.fst && x.fst.snd.snd.snd.snd.snd.snd ||
 x.fst.snd.snd.snd.snd.snd.fst && !x.fst.snd.snd.snd.fst) &&
 x.fst.snd.snd.fst) =
 true) ∧
 ((!(decide (x.fst.fst < (0 : Int)) || decide ((8 : Int) ≤ x.fst.fst) ||
 decide (x.fst.snd.fst < (32 : Int)) ||
 decide ((256 : Int) ≤ x.fst.snd.fst) ||
 x.fst.snd.snd.fst && x.fst.snd.snd.snd.snd.snd.fst ||
 !x.fst.snd.snd.fst && x.fst.snd.snd.snd.snd.snd.snd ||
 x.fst.snd.snd.snd.snd.snd.fst && !x.fst.snd.snd.snd.fst)) =
 true →
 (!(decide (x.fst.fst < (0 : Int)) || decide ((8 : Int) ≤ x.fst.fst) ||
 decide (x.fst.snd.fst < (32 : Int)) ||
 decide ((256 : Int) ≤ x.fst.snd.fst) ||
 x.fst.snd.snd.fst && x.fst.snd.snd.snd.snd.snd.fst ||
 !x.fst.snd.snd.fst && x.fst.snd.snd.snd.snd.snd.snd ||
 x.fst.snd.snd.snd.snd.snd.fst && !x.fst.snd.snd.snd.fst)) =
 true ∧
 (x.fst.snd.snd.fst = true →
 (!(decide (x.fst.fst < (0 : Int)) || decide ((8 : Int) ≤ x.fst.fst) ||
 decide (x.fst.snd.fst < (32 : Int)) ||
 decide ((256 : Int) ≤ x.fst.snd.fst) ||
 x.fst.snd.snd.fst && x.fst.snd.snd.snd.snd.snd.fst ||
 !x.fst.snd.snd.fst && x.fst.snd.snd.snd.snd.snd.snd ||
 x.fst.snd.snd.snd.snd.snd.fst && !x.fst.snd.snd.snd.fst) &&
 x.fst.snd.snd.fst) =
 true)) ∧
 ((!(decide (x.fst.fst < (0 : Int)) || decide ((8 : Int) ≤ x.fst.fst) ||
 decide (x.fst.snd.fst < (32 : Int)) ||
 decide ((256 : Int) ≤ x.fst.snd.fst) ||
 x.fst.snd.snd.fst && x.fst.snd.snd.snd.snd.snd.fst ||
 !x.fst.snd.snd.fst && x.fst.snd.snd.snd.snd.snd.snd ||
 x.fst.snd.snd.snd.snd.snd.fst && !x.fst.snd.snd.snd.fst)) =
 true →
 (!(decide (x.fst.fst < (0 : Int)) || decide ((8 : Int) ≤ x.fst.fst) ||
 decide (x.fst.snd.fst < (32 : Int)) ||
 decide ((256 : Int) ≤ x.fst.snd.fst) ||
 x.fst.snd.snd.fst && x.fst.snd.snd.snd.snd.snd.fst ||
 !x.fst.snd.snd.fst && x.fst.snd.snd.snd.snd.snd.snd ||
 x.fst.snd.snd.snd.snd.snd.fst && !x.fst.snd.snd.snd.fst)) =
 true) ∧
 ((!(decide (x.fst.fst < (0 : Int)) || decide ((8 : Int) ≤ x.fst.fst) ||
 decide (x.fst.snd.fst < (32 : Int)) ||
 decide ((256 : Int) ≤ x.fst.snd.fst) ||
 x.fst.snd.snd.fst && x.fst.snd.snd.snd.snd.snd.fst ||
 !x.fst.snd.snd.fst && x.fst.snd.snd.snd.snd.snd.snd ||
 x.fst.snd.snd.snd.snd.snd.fst && !x.fst.snd.snd.snd.fst) &&
 (x.fst.snd.snd.fst && x.fst.snd.snd.snd.snd.fst)) =
 true →
 (!(decide (x.fst.fst < (0 : Int)) || decide ((8 : Int) ≤ x.fst.fst) ||
 decide (x.fst.snd.fst < (32 : Int)) ||
 decide ((256 : Int) ≤ x.fst.snd.fst) ||
 x.fst.snd.snd.fst && x.fst.snd.snd.snd.snd.snd.fst ||
 !x.fst.snd.snd.fst && x.fst.snd.snd.snd.snd.snd.snd ||
 x.fst.snd.snd.snd.snd.snd.fst && !x.fst.snd.snd.snd.fst) &&
 (x.fst.snd.snd.fst && x.fst.snd.snd.snd.snd.fst)) =
 true) ∧
 ((!(decide (x.fst.fst < (0 : Int)) || decide ((8 : Int) ≤ x.fst.fst) ||
 decide (x.fst.snd.fst < (32 : Int)) ||
 decide ((256 : Int) ≤ x.fst.snd.fst) ||
 x.fst.snd.snd.fst && x.fst.snd.snd.snd.snd.snd.fst ||
 !x.fst.snd.snd.fst && x.fst.snd.snd.snd.snd.snd.snd ||
 x.fst.snd.snd.snd.snd.snd.fst && !x.fst.snd.snd.snd.fst) &&
 (x.fst.snd.snd.fst && x.fst.snd.snd.snd.snd.fst)) =
 true →
 (!(decide (x.fst.fst < (0 : Int)) || decide ((8 : Int) ≤ x.fst.fst) ||
 decide (x.fst.snd.fst < (32 : Int)) ||
 decide ((256 : Int) ≤ x.fst.snd.fst) ||
 x.fst.snd.snd.fst && x.fst.snd.snd.snd.snd.snd.fst ||
 !x.fst.snd.snd.fst && x.fst.snd.snd.snd.snd.snd.snd ||
 x.fst.snd.snd.snd.snd.snd.fst && !x.fst.snd.snd.snd.fst) &&
 (x.fst.snd.snd.fst && x.fst.snd.snd.snd.snd.fst)) =
 true) ∧
 ((!(decide (x.fst.fst < (0 : Int)) || decide ((8 : Int) ≤ x.fst.fst) ||
 decide (x.fst.snd.fst < (32 : Int)) ||
 decide ((256 : Int) ≤ x.fst.snd.fst) ||
 x.fst.snd.snd.fst && x.fst.snd.snd.snd.snd.snd.fst ||
 !x.fst.snd.snd.fst && x.fst.snd.snd.snd.snd.snd.snd ||
 x.fst.snd.snd.snd.snd.snd.fst && !x.fst.snd.snd.snd.fst)) =
 true →
 (!(decide (x.fst.fst < (0 : Int)) || decide ((8 : Int) ≤ x.fst.fst) ||
 decide (x.fst.snd.fst < (32 : Int)) ||
 decide ((256 : Int) ≤ x.fst.snd.fst) ||
 x.fst.snd.snd.fst && x.fst.snd.snd.snd.snd.snd.fst ||
 !x.fst.snd.snd.fst && x.fst.snd.snd.snd.snd.snd.snd ||
 x.fst.snd.snd.snd.snd.snd.fst && !x.fst.snd.snd.snd.fst)) =
 true ∧
 ((x.fst.snd.snd.fst && x.fst.snd.snd.snd.snd.fst) = true →
 (!(decide (x.fst.fst < (0 : Int)) || decide ((8 : Int) ≤ x.fst.fst) ||
 decide (x.fst.snd.fst < (32 : Int)) ||
 decide ((256 : Int) ≤ x.fst.snd.fst) ||
 x.fst.snd.snd.fst && x.fst.snd.snd.snd.snd.snd.fst ||
 !x.fst.snd.snd.fst && x.fst.snd.snd.snd.snd.snd.snd ||
 x.fst.snd.snd.snd.snd.snd.fst && !x.fst.snd.snd.snd.fst) &&
 (x.fst.snd.snd.fst && x.fst.snd.snd.snd.snd.fst)) =
 true)) ∧
 ((!(decide (x.fst.fst < (0 : Int)) || decide ((8 : Int) ≤ x.fst.fst) ||
 decide (x.fst.snd.fst < (32 : Int)) ||
 decide ((256 : Int) ≤ x.fst.snd.fst) ||
 x.fst.snd.snd.fst && x.fst.snd.snd.snd.snd.snd.fst ||
 !x.fst.snd.snd.fst && x.fst.snd.snd.snd.snd.snd.snd ||
 x.fst.snd.snd.snd.snd.snd.fst && !x.fst.snd.snd.snd.fst)) =
 true →
 (!(decide (x.fst.fst < (0 : Int)) || decide ((8 : Int) ≤ x.fst.fst) ||
 decide (x.fst.snd.fst < (32 : Int)) ||
 decide ((256 : Int) ≤ x.fst.snd.fst) ||
 x.fst.snd.snd.fst && x.fst.snd.snd.snd.snd.snd.fst ||
 !x.fst.snd.snd.fst && x.fst.snd.snd.snd.snd.snd.snd ||
 x.fst.snd.snd.snd.snd.snd.fst && !x.fst.snd.snd.snd.fst)) =
 true) ∧
 ((!(decide (x.fst.fst < (0 : Int)) || decide ((8 : Int) ≤ x.fst.fst) ||
 decide (x.fst.snd.fst < (32 : Int)) ||
 decide ((256 : Int) ≤ x.fst.snd.fst) ||
 x.fst.snd.snd.fst && x.fst.snd.snd.snd.snd.snd.fst ||
 !x.fst.snd.snd.fst && x.fst.snd.snd.snd.snd.snd.snd ||
 x.fst.snd.snd.snd.snd.snd.fst && !x.fst.snd.snd.snd.fst) &&
 (x.fst.snd.snd.fst && x.fst.snd.snd.snd.snd.fst &&
 !x.fst.snd.snd.snd.fst)) =
 true →
 (!(decide (x.fst.fst < (0 : Int)) || decide ((8 : Int) ≤ x.fst.fst) ||
 decide (x.fst.snd.fst < (32 : Int)) ||
 decide ((256 : Int) ≤ x.fst.snd.fst) ||
 x.fst.snd.snd.fst && x.fst.snd.snd.snd.snd.snd.fst ||
 !x.fst.snd.snd.fst && x.fst.snd.snd.snd.snd.snd.snd ||
 x.fst.snd.snd.snd.snd.snd.fst && !x.fst.snd.snd.snd.fst) &&
 (x.fst.snd.snd.fst && x.fst.snd.snd.snd.snd.fst &&
 !x.fst.snd.snd.snd.fst)) =
 true) ∧
 ((!(decide (x.fst.fst < (0 : Int)) || decide ((8 : Int) ≤ x.fst.fst) ||
 decide (x.fst.snd.fst < (32 : Int)) ||
 decide ((256 : Int) ≤ x.fst.snd.fst) ||
 x.fst.snd.snd.fst && x.fst.snd.snd.snd.snd.snd.fst ||
 !x.fst.snd.snd.fst && x.fst.snd.snd.snd.snd.snd.snd ||
 x.fst.snd.snd.snd.snd.snd.fst && !x.fst.snd.snd.snd.fst) &&
 (x.fst.snd.snd.fst && x.fst.snd.snd.snd.snd.fst &&
 !x.fst.snd.snd.snd.fst)) =
 true →
 (!(decide (x.fst.fst < (0 : Int)) || decide ((8 : Int) ≤ x.fst.fst) ||
 decide (x.fst.snd.fst < (32 : Int)) ||
 decide ((256 : Int) ≤ x.fst.snd.fst) ||
 x.fst.snd.snd.fst && x.fst.snd.snd.snd.snd.snd.fst ||
 !x.fst.snd.snd.fst && x.fst.snd.snd.snd.snd.snd.snd ||
 x.fst.snd.snd.snd.snd.snd.fst && !x.fst.snd.snd.snd.fst) &&
 (x.fst.snd.snd.fst && x.fst.snd.snd.snd.snd.fst &&
 !x.fst.snd.snd.snd.fst)) =
 true) ∧
 ((!(decide (x.fst.fst < (0 : Int)) || decide ((8 : Int) ≤ x.fst.fst) ||
 decide (x.fst.snd.fst < (32 : Int)) ||
 decide ((256 : Int) ≤ x.fst.snd.fst) ||
 x.fst.snd.snd.fst && x.fst.snd.snd.snd.snd.snd.fst ||
 !x.fst.snd.snd.fst && x.fst.snd.snd.snd.snd.snd.snd ||
 x.fst.snd.snd.snd.snd.snd.fst && !x.fst.snd.snd.snd.fst)) =
 true →
 (!(decide (x.fst.fst < (0 : Int)) || decide ((8 : Int) ≤ x.fst.fst) ||
 decide (x.fst.snd.fst < (32 : Int)) ||
 decide ((256 : Int) ≤ x.fst.snd.fst) ||
 x.fst.snd.snd.fst && x.fst.snd.snd.snd.snd.snd.fst ||
 !x.fst.snd.snd.fst && x.fst.snd.snd.snd.snd.snd.snd ||
 x.fst.snd.snd.snd.snd.snd.fst && !x.fst.snd.snd.snd.fst)) =
 true ∧
 ((x.fst.snd.snd.fst && x.fst.snd.snd.snd.snd.fst &&
 !x.fst.snd.snd.snd.fst) =
 true →
 (!(decide (x.fst.fst < (0 : Int)) ||
 decide ((8 : Int) ≤ x.fst.fst) ||
 decide (x.fst.snd.fst < (32 : Int)) ||
 decide ((256 : Int) ≤ x.fst.snd.fst) ||
 x.fst.snd.snd.fst && x.fst.snd.snd.snd.snd.snd.fst ||
 !x.fst.snd.snd.fst && x.fst.snd.snd.snd.snd.snd.snd ||
 x.fst.snd.snd.snd.snd.snd.fst && !x.fst.snd.snd.snd.fst) &&
 (x.fst.snd.snd.fst && x.fst.snd.snd.snd.snd.fst &&
 !x.fst.snd.snd.snd.fst)) =
 true)) ∧
 ((decide (x.fst.fst < (0 : Int)) || decide ((8 : Int) ≤ x.fst.fst) ||
 decide (x.fst.snd.fst < (32 : Int)) ||
 decide ((256 : Int) ≤ x.fst.snd.fst) ||
 x.fst.snd.snd.fst && x.fst.snd.snd.snd.snd.snd.fst ||
 !x.fst.snd.snd.fst && x.fst.snd.snd.snd.snd.snd.snd ||
 x.fst.snd.snd.snd.snd.snd.fst && !x.fst.snd.snd.snd.fst) =
 false →
 (!(decide (x.fst.fst < (0 : Int)) || decide ((8 : Int) ≤ x.fst.fst) ||
 decide (x.fst.snd.fst < (32 : Int)) ||
 decide ((256 : Int) ≤ x.fst.snd.fst) ||
 x.fst.snd.snd.fst && x.fst.snd.snd.snd.snd.snd.fst ||
 !x.fst.snd.snd.fst && x.fst.snd.snd.snd.snd.snd.snd ||
 x.fst.snd.snd.snd.snd.snd.fst && !x.fst.snd.snd.snd.fst)) =
 true) ∧
 (decide (x.fst.fst < (0 : Int)) || decide ((8 : Int) ≤ x.fst.fst) ||
 decide (x.fst.snd.fst < (32 : Int)) ||
 decide ((256 : Int) ≤ x.fst.snd.fst) ||
 x.fst.snd.snd.fst && x.fst.snd.snd.snd.snd.snd.fst ||
 !x.fst.snd.snd.fst && x.fst.snd.snd.snd.snd.snd.snd ||
 x.fst.snd.snd.snd.snd.snd.fst && !x.fst.snd.snd.snd.fst ||
 x.fst.snd.snd.fst && x.fst.snd.snd.snd.snd.fst &&
 !x.fst.snd.snd.snd.fst &&
 !x.fst.snd.snd.snd.snd.snd.snd) =
 !okP x.fst

theorem E_badp_eq (x : HL (cBad : Ctr).as) : vc (fx_badp x) 1 62 Try.f62 (cBad) x = E_badp x := by kernel_rfl

def E_right (x : List (Int × Int × Bool × Bool × Bool × Bool × Bool) × Unit) : Prop :=
 (decide ((↑x.fst.length : Int) ≤ (24 : Int)) = true →
 decide ((↑x.fst.length : Int) ≤ (24 : Int)) = true ∧
 ((((0 : Int) ≤ (0 : Int) ∧ (0 : Int) ≤ (↑x.fst.length : Int) ∧ (List.take (Int.toNat (0 : Int)) x.fst).all okP = true) ∧ True) ∧
 (x.fst = x.fst ∧
 Value.func (Fn.func (62 : Nat)) ([] : List Value).toArray ([] : List Value).toArray =
 Value.func (Fn.func (62 : Nat)) ([] : List Value).toArray ([] : List Value).toArray ∧
 (↑x.fst.length : Int) = (↑x.fst.length : Int) ∧ (0 : Int) = (0 : Int) ∧ True) ∧
 True ∧
 x.fst = x.fst ∧
 Value.func (Fn.func (62 : Nat)) ([] : List Value).toArray ([] : List Value).toArray =
 Value.func (Fn.func (62 : Nat)) ([] : List Value).toArray ([] : List Value).toArray ∧
 True ∧
 True ∧
 false = false ∧
 x.fst = x.fst ∧
 Value.func (Fn.func (62 : Nat)) ([] : List Value).toArray ([] : List Value).toArray =
 Value.func (Fn.func (62 : Nat)) ([] : List Value).toArray ([] : List Value).toArray ∧
 True ∧
 True ∧
 x.fst = x.fst ∧
 True ∧
 false = false ∧
 x.fst = x.fst ∧
 (↑x.fst.length : Int) = (↑x.fst.length : Int) ∧
 decide ((↑x.fst.length : Int) ≤ (24 : Int)) = decide ((↑x.fst.length : Int) ≤ (24 : Int)) ∧
 true = true ∧ x.fst = x.fst ∧ True ∧ True ∧ True ∧ True) ∧
 ∀ (g : Int × Unit),
 (0 : Int) ≤ g.fst ∧ g.fst ≤ (↑x.fst.length : Int) ∧ (List.take g.fst.toNat x.fst).all okP = true →
 ((-9223372036854775808 : Int) ≤ g.fst ∧ g.fst ≤ (9223372036854775807 : Int)) ∧ True →
 (decide (g.fst < (↑x.fst.length : Int)) = true →
 ((0 : Int) ≤ g.fst ∧ g.fst < (↑x.fst.length : Int)) ∧
 Holds True ∧
 ((!okP
 ((x.fst.getD g.fst.toNat ((0 : Int), (0 : Int), false, false, false, false, false)).fst,
 (x.fst.getD g.fst.toNat ((0 : Int), (0 : Int), false, false, false, false, false)).snd.fst,
 (x.fst.getD g.fst.toNat ((0 : Int), (0 : Int), false, false, false, false, false)).snd.snd.fst,
 (x.fst.getD g.fst.toNat ((0 : Int), (0 : Int), false, false, false, false, false)).snd.snd.snd.fst,
 (x.fst.getD g.fst.toNat ((0 : Int), (0 : Int), false, false, false, false, false)).snd.snd.snd.snd.fst,
 (x.fst.getD g.fst.toNat ((0 : Int), (0 : Int), false, false, false, false, false)).snd.snd.snd.snd.snd.fst,
 (x.fst.getD g.fst.toNat ((0 : Int), (0 : Int), false, false, false, false, false)).snd.snd.snd.snd.snd.snd)) =
 true →
 (!decide ((0 : Int) ≤ g.fst)) = right x.fst) ∧
 ((!okP
 ((x.fst.getD g.fst.toNat ((0 : Int), (0 : Int), false, false, false, false, false)).fst,
 (x.fst.getD g.fst.toNat ((0 : Int), (0 : Int), false, false, false, false, false)).snd.fst,
 (x.fst.getD g.fst.toNat ((0 : Int), (0 : Int), false, false, false, false, false)).snd.snd.fst,
 (x.fst.getD g.fst.toNat ((0 : Int), (0 : Int), false, false, false, false, false)).snd.snd.snd.fst,
 (x.fst.getD g.fst.toNat ((0 : Int), (0 : Int), false, false, false, false, false)).snd.snd.snd.snd.fst,
 (x.fst.getD g.fst.toNat ((0 : Int), (0 : Int), false, false, false, false, false)).snd.snd.snd.snd.snd.fst,
 (x.fst.getD g.fst.toNat ((0 : Int), (0 : Int), false, false, false, false, false)).snd.snd.snd.snd.snd.snd)) =
 false →
 ((-9223372036854775808 : Int) ≤ g.fst + (1 : Int) ∧ g.fst + (1 : Int) ≤ (9223372036854775807 : Int)) ∧
 (((0 : Int) ≤ g.fst + (1 : Int) ∧
 g.fst + (1 : Int) ≤ (↑x.fst.length : Int) ∧ (List.take (g.fst + (1 : Int)).toNat x.fst).all okP = true) ∧
 ((↑x.fst.length : Int) - (g.fst + (1 : Int))).toNat < ((↑x.fst.length : Int) - g.fst).toNat) ∧
 (x.fst = x.fst ∧
 Value.func (Fn.func (62 : Nat)) ([] : List Value).toArray ([] : List Value).toArray =
 Value.func (Fn.func (62 : Nat)) ([] : List Value).toArray ([] : List Value).toArray ∧
 (↑x.fst.length : Int) = (↑x.fst.length : Int) ∧ g.fst + (1 : Int) = g.fst + (1 : Int) ∧ True) ∧
 True ∧
 x.fst = x.fst ∧
 Value.func (Fn.func (62 : Nat)) ([] : List Value).toArray ([] : List Value).toArray =
 Value.func (Fn.func (62 : Nat)) ([] : List Value).toArray ([] : List Value).toArray ∧
 True ∧
 True ∧
 false = false ∧
 x.fst = x.fst ∧
 Value.func (Fn.func (62 : Nat)) ([] : List Value).toArray ([] : List Value).toArray =
 Value.func (Fn.func (62 : Nat)) ([] : List Value).toArray ([] : List Value).toArray ∧
 True ∧
 True ∧
 x.fst = x.fst ∧
 True ∧
 false = false ∧
 x.fst = x.fst ∧
 (↑x.fst.length : Int) = (↑x.fst.length : Int) ∧
 decide ((↑x.fst.length : Int) ≤ (24 : Int)) =
 decide ((↑x.fst.length : Int) ≤ (24 : Int)) ∧
 true = true ∧ x.fst = x.fst ∧ True ∧ True ∧ True ∧ True)) ∧
 (decide (g.fst < (↑x.fst.length : Int)) = false → (!decide ((0 : Int) ≤ (-1 : Int))) = right x.fst)) ∧
 (decide ((↑x.fst.length : Int) ≤ (24 : Int)) = !true → false = right x.fst)

theorem E_right_eq (x : HL (cRight : Ctr).as) : vc (fx_right x) 3 28 Try.f28 (cRight) x = E_right x := by kernel_rfl

def E_cright (x : List (Int × Int × Bool × Bool × Bool × Bool × Bool) × Unit) : Prop :=
 (decide ((24 : Int) < (↑x.fst.length : Int)) = true → false = right x.fst) ∧
 (decide ((24 : Int) < (↑x.fst.length : Int)) = false →
 ((((0 : Int) ≤ (0 : Int) ∧ (0 : Int) ≤ (↑x.fst.length : Int) ∧ (List.take (Int.toNat (0 : Int)) x.fst).all okP = true) ∧ True) ∧
 (x.fst = x.fst ∧ (↑x.fst.length : Int) = (↑x.fst.length : Int) ∧ (0 : Int) = (0 : Int) ∧ True) ∧ True ∧ True) ∧
 ∀ (g : Int × Unit),
 (0 : Int) ≤ g.fst ∧ g.fst ≤ (↑x.fst.length : Int) ∧ (List.take g.fst.toNat x.fst).all okP = true →
 ((-9223372036854775808 : Int) ≤ g.fst ∧ g.fst ≤ (9223372036854775807 : Int)) ∧ True →
 (decide (g.fst < (↑x.fst.length : Int)) = true →
 ((0 : Int) ≤ g.fst ∧ g.fst < (↑x.fst.length : Int)) ∧
 (decide ((0 : Int) ≤ (x.fst.getD g.fst.toNat ((0 : Int), (0 : Int), false, false, false, false, false)).fst) = true →
 decide ((0 : Int) ≤ (x.fst.getD g.fst.toNat ((0 : Int), (0 : Int), false, false, false, false, false)).fst) = true) ∧
 (decide ((0 : Int) ≤ (x.fst.getD g.fst.toNat ((0 : Int), (0 : Int), false, false, false, false, false)).fst) = true →
 decide ((0 : Int) ≤ (x.fst.getD g.fst.toNat ((0 : Int), (0 : Int), false, false, false, false, false)).fst) = true) ∧
 (decide ((0 : Int) ≤ (x.fst.getD g.fst.toNat ((0 : Int), (0 : Int), false, false, false, false, false)).fst) = true →
 decide ((0 : Int) ≤ (x.fst.getD g.fst.toNat ((0 : Int), (0 : Int), false, false, false, false, false)).fst) = true) ∧
 ((decide ((0 : Int) ≤ (x.fst.getD g.fst.toNat ((0 : Int), (0 : Int), false, false, false, false, false)).fst) &&
 decide ((x.fst.getD g.fst.toNat ((0 : Int), (0 : Int), false, false, false, false, false)).fst < (8 : Int))) =
 true →
 (decide ((0 : Int) ≤ (x.fst.getD g.fst.toNat ((0 : Int), (0 : Int), false, false, false, false, false)).fst) &&
 decide ((x.fst.getD g.fst.toNat ((0 : Int), (0 : Int), false, false, false, false, false)).fst < (8 : Int))) =
 true) ∧
 ((decide ((0 : Int) ≤ (x.fst.getD g.fst.toNat ((0 : Int), (0 : Int), false, false, false, false, false)).fst) &&
 decide ((x.fst.getD g.fst.toNat ((0 : Int), (0 : Int), false, false, false, false, false)).fst < (8 : Int))) =
 true →
 (decide ((0 : Int) ≤ (x.fst.getD g.fst.toNat ((0 : Int), (0 : Int), false, false, false, false, false)).fst) &&
 decide ((x.fst.getD g.fst.toNat ((0 : Int), (0 : Int), false, false, false, false, false)).fst < (8 : Int))) =
 true) ∧
 ((decide ((0 : Int) ≤ (x.fst.getD g.fst.toNat ((0 : Int), (0 : Int), false, false, false, false, false)).fst) &&
 decide ((x.fst.getD g.fst.toNat ((0 : Int), (0 : Int), false, false, false, false, false)).fst < (8 : Int))) =
 true →
 (decide ((0 : Int) ≤ (x.fst.getD g.fst.toNat ((0 : Int), (0 : Int), false, false, false, false, false)).fst) &&
 decide ((x.fst.getD g.fst.toNat ((0 : Int), (0 : Int), false, false, false, false, false)).fst < (8 : Int))) =
 true) ∧
 ((decide ((0 : Int) ≤ (x.fst.getD g.fst.toNat ((0 : Int), (0 : Int), false, false, false, false, false)).fst) &&
 decide ((x.fst.getD g.fst.toNat ((0 : Int), (0 : Int), false, false, false, false, false)).fst < (8 : Int)) &&
 decide
 ((32 : Int) ≤ (x.fst.getD g.fst.toNat ((0 : Int), (0 : Int), false, false, false, false, false)).snd.fst)) =
 true →
 (decide ((0 : Int) ≤ (x.fst.getD g.fst.toNat ((0 : Int), (0 : Int), false, false, false, false, false)).fst) &&
 decide ((x.fst.getD g.fst.toNat ((0 : Int), (0 : Int), false, false, false, false, false)).fst < (8 : Int)) &&
 decide
 ((32 : Int) ≤ (x.fst.getD g.fst.toNat ((0 : Int), (0 : Int), false, false, false, false, false)).snd.fst)) =
 true) ∧
 ((decide ((0 : Int) ≤ (x.fst.getD g.fst.toNat ((0 : Int), (0 : Int), false, false, false, false, false)).fst) &&
 decide
 ((x.fst.getD g.fst.toNat ((0 : Int), (0 : Int), false, false, false, false, false)).fst < (8 : Int)) &&
 decide
 ((32 : Int) ≤ (x.fst.getD g.fst.toNat ((0 : Int), (0 : Int), false, false, false, false, false)).snd.fst)) =
 true →
 (decide ((0 : Int) ≤ (x.fst.getD g.fst.toNat ((0 : Int), (0 : Int), false, false, false, false, false)).fst) &&
 decide
 ((x.fst.getD g.fst.toNat ((0 : Int), (0 : Int), false, false, false, false, false)).fst < (8 : Int)) &&
 decide
 ((32 : Int) ≤ (x.fst.getD g.fst.toNat ((0 : Int), (0 : Int), false, false, false, false, false)).snd.fst)) =
 true) ∧
 ((decide ((0 : Int) ≤ (x.fst.getD g.fst.toNat ((0 : Int), (0 : Int), false, false, false, false, false)).fst) &&
 decide
 ((x.fst.getD g.fst.toNat ((0 : Int), (0 : Int), false, false, false, false, false)).fst < (8 : Int)) &&
 decide
 ((32 : Int) ≤
 (x.fst.getD g.fst.toNat ((0 : Int), (0 : Int), false, false, false, false, false)).snd.fst)) =
 true →
 (decide ((0 : Int) ≤ (x.fst.getD g.fst.toNat ((0 : Int), (0 : Int), false, false, false, false, false)).fst) &&
 decide
 ((x.fst.getD g.fst.toNat ((0 : Int), (0 : Int), false, false, false, false, false)).fst < (8 : Int)) &&
 decide
 ((32 : Int) ≤
 (x.fst.getD g.fst.toNat ((0 : Int), (0 : Int), false, false, false, false, false)).snd.fst)) =
 true) ∧
 ((x.fst.getD g.fst.toNat ((0 : Int), (0 : Int), false, false, false, false, false)).snd.snd.fst = true →
 ((decide
 ((0 : Int) ≤
 (x.fst.getD g.fst.toNat ((0 : Int), (0 : Int), false, false, false, false, false)).fst) &&
 decide
 ((x.fst.getD g.fst.toNat ((0 : Int), (0 : Int), false, false, false, false, false)).fst <
 (8 : Int)) &&
 decide
 ((32 : Int) ≤
 (x.fst.getD g.fst.toNat ((0 : Int), (0 : Int), false, false, false, false, false)).snd.fst) &&
 decide
 ((x.fst.getD g.fst.toNat ((0 : Int), (0 : Int), false, false, false, false, false)).snd.fst <
 (256 : Int))) =
 true →
 (decide
 ((0 : Int) ≤
 (x.fst.getD g.fst.toNat ((0 : Int), (0 : Int), false, false, false, false, false)).fst) &&
 decide
 ((x.fst.getD g.fst.toNat ((0 : Int), (0 : Int), false, false, false, false, false)).fst <
 (8 : Int)) &&
 decide
 ((32 : Int) ≤
 (x.fst.getD g.fst.toNat ((0 : Int), (0 : Int), false, false, false, false, false)).snd.fst) &&
 decide
 ((x.fst.getD g.fst.toNat ((0 : Int), (0 : Int), false, false, false, false, false)).snd.fst <
 (256 : Int))) =
 true) ∧
 ((decide
 ((0 : Int) ≤
 (x.fst.getD g.fst.toNat ((0 : Int), (0 : Int), false, false, false, false, false)).fst) &&
 decide
 ((x.fst.getD g.fst.toNat ((0 : Int), (0 : Int), false, false, false, false, false)).fst <
 (8 : Int)) &&
 decide
 ((32 : Int) ≤
 (x.fst.getD g.fst.toNat ((0 : Int), (0 : Int), false, false, false, false, false)).snd.fst) &&
 decide
 ((x.fst.getD g.fst.toNat ((0 : Int), (0 : Int), false, false, false, false, false)).snd.fst <
 (256 : Int))) =
 true →
 (decide
 ((0 : Int) ≤
 (x.fst.getD g.fst.toNat ((0 : Int), (0 : Int), false, false, false, false, false)).fst) &&
 decide
 ((x.fst.getD g.fst.toNat ((0 : Int), (0 : Int), false, false, false, false, false)).fst <
 (8 : Int)) &&
 decide
 ((32 : Int) ≤
 (x.fst.getD g.fst.toNat ((0 : Int), (0 : Int), false, false, false, false, false)).snd.fst) &&
 decide
 ((x.fst.getD g.fst.toNat ((0 : Int), (0 : Int), false, false, false, false, false)).snd.fst <
 (256 : Int))) =
 true) ∧
 ((decide
 ((0 : Int) ≤
 (x.fst.getD g.fst.toNat ((0 : Int), (0 : Int), false, false, false, false, false)).fst) &&
 decide
 ((x.fst.getD g.fst.toNat ((0 : Int), (0 : Int), false, false, false, false, false)).fst <
 (8 : Int)) &&
 decide
 ((32 : Int) ≤
 (x.fst.getD g.fst.toNat
 ((0 : Int), (0 : Int), false, false, false, false, false)).snd.fst) &&
 decide
 ((x.fst.getD g.fst.toNat ((0 : Int), (0 : Int), false, false, false, false, false)).snd.fst <
 (256 : Int))) =
 true →
 (decide
 ((0 : Int) ≤
 (x.fst.getD g.fst.toNat ((0 : Int), (0 : Int), false, false, false, false, false)).fst) &&
 decide
 ((x.fst.getD g.fst.toNat ((0 : Int), (0 : Int), false, false, false, false, false)).fst <
 (8 : Int)) &&
 decide
 ((32 : Int) ≤
 (x.fst.getD g.fst.toNat
 ((0 : Int), (0 : Int), false, false, false, false, false)).snd.fst) &&
 decide
 ((x.fst.getD g.fst.toNat ((0 : Int), (0 : Int), false, false, false, false, false)).snd.fst <
 (256 : Int))) =
 true) ∧
 ((decide
 ((0 : Int) ≤
 (x.fst.getD g.fst.toNat
 ((0 : Int), (0 : Int), false, false, false, false, false)).fst) &&
 decide
 ((x.fst.getD g.fst.toNat
 ((0 : Int), (0 : Int), false, false, false, false, false)).fst <
 (8 : Int)) &&
 decide
 ((32 : Int) ≤
 (x.fst.getD g.fst.toNat
 ((0 : Int), (0 : Int), false, false, false, false, false)).snd.fst) &&
 decide
 ((x.fst.getD g.fst.toNat
 ((0 : Int), (0 : Int), false, false, false, false, false)).snd.fst <
 (256 : Int)) &&
 !(x.fst.getD g.fst.toNat
 ((0 : Int), (0 : Int), false, false, false, false,
 false)).snd.snd.snd.snd.snd.fst) =
 true →
 (decide
 ((0 : Int) ≤
 (x.fst.getD g.fst.toNat
 ((0 : Int), (0 : Int), false, false, false, false, false)).fst) &&
 decide
 ((x.fst.getD g.fst.toNat
 ((0 : Int), (0 : Int), false, false, false, false, false)).fst <
 (8 : Int)) &&
 decide
 ((32 : Int) ≤
 (x.fst.getD g.fst.toNat
 ((0 : Int), (0 : Int), false, false, false, false, false)).snd.fst) &&
 decide
 ((x.fst.getD g.fst.toNat
 ((0 : Int), (0 : Int), false, false, false, false, false)).snd.fst <
 (256 : Int)) &&
 !(x.fst.getD g.fst.toNat
 ((0 : Int), (0 : Int), false, false, false, false,
 false)).snd.snd.snd.snd.snd.fst) =
 true) ∧
 ((decide
 ((0 : Int) ≤
 (x.fst.getD g.fst.toNat
 ((0 : Int), (0 : Int), false, false, false, false, false)).fst) &&
 decide
 ((x.fst.getD g.fst.toNat
 ((0 : Int), (0 : Int), false, false, false, false, false)).fst <
 (8 : Int)) &&
 decide
 ((32 : Int) ≤
 (x.fst.getD g.fst.toNat
 ((0 : Int), (0 : Int), false, false, false, false, false)).snd.fst) &&
 decide
 ((x.fst.getD g.fst.toNat
 ((0 : Int), (0 : Int), false, false, false, false, false)).snd.fst <
 (256 : Int)) &&
 !(x.fst.getD g.fst.toNat
 ((0 : Int), (0 : Int), false, false, false, false,
 false)).snd.snd.snd.snd.snd.fst) =
 true →
 (decide
 ((0 : Int) ≤
 (x.fst.getD g.fst.toNat
 ((0 : Int), (0 : Int), false, false, false, false, false)).fst) &&
 decide
 ((x.fst.getD g.fst.toNat
 ((0 : Int), (0 : Int), false, false, false, false, false)).fst <
 (8 : Int)) &&
 decide
 ((32 : Int) ≤
 (x.fst.getD g.fst.toNat
 ((0 : Int), (0 : Int), false, false, false, false, false)).snd.fst) &&
 decide
 ((x.fst.getD g.fst.toNat
 ((0 : Int), (0 : Int), false, false, false, false, false)).snd.fst <
 (256 : Int)) &&
 !(x.fst.getD g.fst.toNat
 ((0 : Int), (0 : Int), false, false, false, false,
 false)).snd.snd.snd.snd.snd.fst) =
 true) ∧
 ((decide
 ((0 : Int) ≤
 (x.fst.getD g.fst.toNat
 ((0 : Int), (0 : Int), false, false, false, false, false)).fst) &&
 decide
 ((x.fst.getD g.fst.toNat
 ((0 : Int), (0 : Int), false, false, false, false, false)).fst <
 (8 : Int)) &&
 decide
 ((32 : Int) ≤
 (x.fst.getD g.fst.toNat
 ((0 : Int), (0 : Int), false, false, false, false, false)).snd.fst) &&
 decide
 ((x.fst.getD g.fst.toNat
 ((0 : Int), (0 : Int), false, false, false, false, false)).snd.fst <
 (256 : Int)) &&
 !(x.fst.getD g.fst.toNat
 ((0 : Int), (0 : Int), false, false, false, false,
 false)).snd.snd.snd.snd.snd.fst &&
 !(x.fst.getD g.fst.toNat
 ((0 : Int), (0 : Int), false, false, false, false,
 false)).snd.snd.snd.snd.snd.snd) =
 true →
 (decide
 ((0 : Int) ≤
 (x.fst.getD g.fst.toNat
 ((0 : Int), (0 : Int), false, false, false, false, false)).fst) &&
 decide
 ((x.fst.getD g.fst.toNat
 ((0 : Int), (0 : Int), false, false, false, false, false)).fst <
 (8 : Int)) &&
 decide
 ((32 : Int) ≤
 (x.fst.getD g.fst.toNat
 ((0 : Int), (0 : Int), false, false, false, false, false)).snd.fst) &&
 decide
 ((x.fst.getD g.fst.toNat
 ((0 : Int), (0 : Int), false, false, false, false, false)).snd.fst <
 (256 : Int)) &&
 !(x.fst.getD g.fst.toNat
 ((0 : Int), (0 : Int), false, false, false, false,
 false)).snd.snd.snd.snd.snd.fst &&
 !(x.fst.getD g.fst.toNat
 ((0 : Int), (0 : Int), false, false, false, false,
 false)).snd.snd.snd.snd.snd.snd) =
 true) ∧
 ((decide
 ((0 : Int) ≤
 (x.fst.getD g.fst.toNat
 ((0 : Int), (0 : Int), false, false, false, false, false)).fst) &&
 decide
 ((x.fst.getD g.fst.toNat
 ((0 : Int), (0 : Int), false, false, false, false, false)).fst <
 (8 : Int)) &&
 decide
 ((32 : Int) ≤
 (x.fst.getD g.fst.toNat
 ((0 : Int), (0 : Int), false, false, false, false, false)).snd.fst) &&
 decide
 ((x.fst.getD g.fst.toNat
 ((0 : Int), (0 : Int), false, false, false, false, false)).snd.fst <
 (256 : Int)) &&
 !(x.fst.getD g.fst.toNat
 ((0 : Int), (0 : Int), false, false, false, false,
 false)).snd.snd.snd.snd.snd.fst) =
 true →
 (decide
 ((0 : Int) ≤
 (x.fst.getD g.fst.toNat
 ((0 : Int), (0 : Int), false, false, false, false, false)).fst) &&
 decide
 ((x.fst.getD g.fst.toNat
 ((0 : Int), (0 : Int), false, false, false, false, false)).fst <
 (8 : Int)) &&
 decide
 ((32 : Int) ≤
 (x.fst.getD g.fst.toNat
 ((0 : Int), (0 : Int), false, false, false, false, false)).snd.fst) &&
 decide
 ((x.fst.getD g.fst.toNat
 ((0 : Int), (0 : Int), false, false, false, false, false)).snd.fst <
 (256 : Int)) &&
 !(x.fst.getD g.fst.toNat
 ((0 : Int), (0 : Int), false, false, false, false,
 false)).snd.snd.snd.snd.snd.fst) =
 true ∧
 ((x.fst.getD g.fst.toNat
 ((0 : Int), (0 : Int), false, false, false, false,
 false)).snd.snd.snd.snd.snd.snd =
 false →
 (decide
 ((0 : Int) ≤
 (x.fst.getD g.fst.toNat
 ((0 : Int), (0 : Int), false, false, false, false, false)).fst) &&
 decide
 ((x.fst.getD g.fst.toNat
 ((0 : Int), (0 : Int), false, false, false, false, false)).fst <
 (8 : Int)) &&
 decide
 ((32 : Int) ≤
 (x.fst.getD g.fst.toNat
 ((0 : Int), (0 : Int), false, false, false, false, false)).snd.fst) &&
 decide
 ((x.fst.getD g.fst.toNat
 ((0 : Int), (0 : Int), false, false, false, false, false)).snd.fst <
 (256 : Int)) &&
 !(x.fst.getD g.fst.toNat
 ((0 : Int), (0 : Int), false, false, false, false,
 false)).snd.snd.snd.snd.snd.fst &&
 !(x.fst.getD g.fst.toNat
 ((0 : Int), (0 : Int), false, false, false, false,
 false)).snd.snd.snd.snd.snd.snd) =
 true)) ∧
 ((decide
 ((0 : Int) ≤
 (x.fst.getD g.fst.toNat
 ((0 : Int), (0 : Int), false, false, false, false, false)).fst) &&
 decide
 ((x.fst.getD g.fst.toNat
 ((0 : Int), (0 : Int), false, false, false, false, false)).fst <
 (8 : Int)) &&
 decide
 ((32 : Int) ≤
 (x.fst.getD g.fst.toNat
 ((0 : Int), (0 : Int), false, false, false, false, false)).snd.fst) &&
 decide
 ((x.fst.getD g.fst.toNat
 ((0 : Int), (0 : Int), false, false, false, false, false)).snd.fst <
 (256 : Int)) &&
 !(x.fst.getD g.fst.toNat
 ((0 : Int), (0 : Int), false, false, false, false,
 false)).snd.snd.snd.snd.snd.fst) =
 true →
 (decide
 ((0 : Int) ≤
 (x.fst.getD g.fst.toNat
 ((0 : Int), (0 : Int), false, false, false, false, false)).fst) &&
 decide
 ((x.fst.getD g.fst.toNat
 ((0 : Int), (0 : Int), false, false, false, false, false)).fst <
 (8 : Int)) &&
 decide
 ((32 : Int) ≤
 (x.fst.getD g.fst.toNat
 ((0 : Int), (0 : Int), false, false, false, false, false)).snd.fst) &&
 decide
 ((x.fst.getD g.fst.toNat
 ((0 : Int), (0 : Int), false, false, false, false, false)).snd.fst <
 (256 : Int)) &&
 !(x.fst.getD g.fst.toNat
 ((0 : Int), (0 : Int), false, false, false, false,
 false)).snd.snd.snd.snd.snd.fst) =
 true) ∧
 ((decide
 ((0 : Int) ≤
 (x.fst.getD g.fst.toNat
 ((0 : Int), (0 : Int), false, false, false, false, false)).fst) &&
 decide
 ((x.fst.getD g.fst.toNat
 ((0 : Int), (0 : Int), false, false, false, false, false)).fst <
 (8 : Int)) &&
 decide
 ((32 : Int) ≤
 (x.fst.getD g.fst.toNat
 ((0 : Int), (0 : Int), false, false, false, false, false)).snd.fst) &&
 decide
 ((x.fst.getD g.fst.toNat
 ((0 : Int), (0 : Int), false, false, false, false, false)).snd.fst <
 (256 : Int)) &&
 !(x.fst.getD g.fst.toNat
 ((0 : Int), (0 : Int), false, false, false, false,
 false)).snd.snd.snd.snd.snd.fst &&
 !((x.fst.getD g.fst.toNat
 ((0 : Int), (0 : Int), false, false, false, false,
 false)).snd.snd.snd.snd.snd.snd ||
 (x.fst.getD g.fst.toNat
 ((0 : Int), (0 : Int), false, false, false, false,
 false)).snd.snd.snd.fst)) =
 true →
 (decide
 ((0 : Int) ≤
 (x.fst.getD g.fst.toNat
 ((0 : Int), (0 : Int), false, false, false, false, false)).fst) &&
 decide
 ((x.fst.getD g.fst.toNat
 ((0 : Int), (0 : Int), false, false, false, false, false)).fst <
 (8 : Int)) &&
 decide
 ((32 : Int) ≤
 (x.fst.getD g.fst.toNat
 ((0 : Int), (0 : Int), false, false, false, false, false)).snd.fst) &&
 decide
 ((x.fst.getD g.fst.toNat
 ((0 : Int), (0 : Int), false, false, false, false, false)).snd.fst <
 (256 : Int)) &&
 !(x.fst.getD g.fst.toNat
 ((0 : Int), (0 : Int), false, false, false, false,
 false)).snd.snd.snd.snd.snd.fst &&
 !((x.fst.getD g.fst.toNat
 ((0 : Int), (0 : Int), false, false, false, false,
 false)).snd.snd.snd.snd.snd.snd ||
 (x.fst.getD g.fst.toNat
 ((0 : Int), (0 : Int), false, false, false, false,
 false)).snd.snd.snd.fst)) =
 true) ∧
 ((decide
 ((0 : Int) ≤
 (x.fst.getD g.fst.toNat
 ((0 : Int), (0 : Int), false, false, false, false, false)).fst) &&
 decide
 ((x.fst.getD g.fst.toNat
 ((0 : Int), (0 : Int), false, false, false, false, false)).fst <
 (8 : Int)) &&
 decide
 ((32 : Int) ≤
 (x.fst.getD g.fst.toNat
 ((0 : Int), (0 : Int), false, false, false, false,
 false)).snd.fst) &&
 decide
 ((x.fst.getD g.fst.toNat
 ((0 : Int), (0 : Int), false, false, false, false, false)).snd.fst <
 (256 : Int)) &&
 !(x.fst.getD g.fst.toNat
 ((0 : Int), (0 : Int), false, false, false, false,
 false)).snd.snd.snd.snd.snd.fst &&
 !((x.fst.getD g.fst.toNat
 ((0 : Int), (0 : Int), false, false, false, false,
 false)).snd.snd.snd.snd.snd.snd ||
 (x.fst.getD g.fst.toNat
 ((0 : Int), (0 : Int), false, false, false, false,
 false)).snd.snd.snd.fst)) =
 true →
 (decide
 ((0 : Int) ≤
 (x.fst.getD g.fst.toNat
 ((0 : Int), (0 : Int), false, false, false, false, false)).fst) &&
 decide
 ((x.fst.getD g.fst.toNat
 ((0 : Int), (0 : Int), false, false, false, false, false)).fst <
 (8 : Int)) &&
 decide
 ((32 : Int) ≤
 (x.fst.getD g.fst.toNat
 ((0 : Int), (0 : Int), false, false, false, false,
 false)).snd.fst) &&
 decide
 ((x.fst.getD g.fst.toNat
 ((0 : Int), (0 : Int), false, false, false, false, false)).snd.fst <
 (256 : Int)) &&
 !(x.fst.getD g.fst.toNat
 ((0 : Int), (0 : Int), false, false, false, false,
 false)).snd.snd.snd.snd.snd.fst &&
 !((x.fst.getD g.fst.toNat
 ((0 : Int), (0 : Int), false, false, false, false,
 false)).snd.snd.snd.snd.snd.snd ||
 (x.fst.getD g.fst.toNat
 ((0 : Int), (0 : Int), false, false, false, false,
 false)).snd.snd.snd.fst)) =
 true) ∧
 ((decide
 ((0 : Int) ≤
 (x.fst.getD g.fst.toNat
 ((0 : Int), (0 : Int), false, false, false, false, false)).fst) &&
 decide
 ((x.fst.getD g.fst.toNat
 ((0 : Int), (0 : Int), false, false, false, false, false)).fst <
 (8 : Int)) &&
 decide
 ((32 : Int) ≤
 (x.fst.getD g.fst.toNat
 ((0 : Int), (0 : Int), false, false, false, false,
 false)).snd.fst) &&
 decide
 ((x.fst.getD g.fst.toNat
 ((0 : Int), (0 : Int), false, false, false, false, false)).snd.fst <
 (256 : Int)) &&
 !(x.fst.getD g.fst.toNat
 ((0 : Int), (0 : Int), false, false, false, false,
 false)).snd.snd.snd.snd.snd.fst) =
 true →
 (decide
 ((0 : Int) ≤
 (x.fst.getD g.fst.toNat
 ((0 : Int), (0 : Int), false, false, false, false, false)).fst) &&
 decide
 ((x.fst.getD g.fst.toNat
 ((0 : Int), (0 : Int), false, false, false, false, false)).fst <
 (8 : Int)) &&
 decide
 ((32 : Int) ≤
 (x.fst.getD g.fst.toNat
 ((0 : Int), (0 : Int), false, false, false, false,
 false)).snd.fst) &&
 decide
 ((x.fst.getD g.fst.toNat
 ((0 : Int), (0 : Int), false, false, false, false, false)).snd.fst <
 (256 : Int)) &&
 !(x.fst.getD g.fst.toNat
 ((0 : Int), (0 : Int), false, false, false, false,
 false)).snd.snd.snd.snd.snd.fst) =
 true ∧
 (((x.fst.getD g.fst.toNat
 ((0 : Int), (0 : Int), false, false, false, false,
 false)).snd.snd.snd.snd.snd.snd ||
 (x.fst.getD g.fst.toNat
 ((0 : Int), (0 : Int), false, false, false, false,
 false)).snd.snd.snd.fst) =
 false →
 (decide
 ((0 : Int) ≤
 (x.fst.getD g.fst.toNat
 ((0 : Int), (0 : Int), false, false, false, false,
 false)).fst) &&
 decide
 ((x.fst.getD g.fst.toNat
 ((0 : Int), (0 : Int), false, false, false, false,
 false)).fst <
 (8 : Int)) &&
 decide
 ((32 : Int) ≤
 (x.fst.getD g.fst.toNat
 ((0 : Int), (0 : Int), false, false, false, false,
 false)).snd.fst) &&
 decide
 ((x.fst.getD g.fst.toNat
 ((0 : Int), (0 : Int), false, false, false, false,
 false)).snd.fst <
 (256 : Int)) &&
 !(x.fst.getD g.fst.toNat
 ((0 : Int), (0 : Int), false, false, false, false,
 false)).snd.snd.snd.snd.snd.fst &&
 !((x.fst.getD g.fst.toNat
 ((0 : Int), (0 : Int), false, false, false, false,
 false)).snd.snd.snd.snd.snd.snd ||
 (x.fst.getD g.fst.toNat
 ((0 : Int), (0 : Int), false, false, false, false,
 false)).snd.snd.snd.fst)) =
 true)) ∧
 ((decide
 ((0 : Int) ≤
 (x.fst.getD g.fst.toNat
 ((0 : Int), (0 : Int), false, false, false, false, false)).fst) &&
 decide
 ((x.fst.getD g.fst.toNat
 ((0 : Int), (0 : Int), false, false, false, false, false)).fst <
 (8 : Int)) &&
 decide
 ((32 : Int) ≤
 (x.fst.getD g.fst.toNat
 ((0 : Int), (0 : Int), false, false, false, false,
 false)).snd.fst) &&
 decide
 ((x.fst.getD g.fst.toNat
 ((0 : Int), (0 : Int), false, false, false, false, false)).snd.fst <
 (256 : Int)) &&
 !(x.fst.getD g.fst.toNat
 ((0 : Int), (0 : Int), false, false, false, false,
 false)).snd.snd.snd.snd.snd.fst) =
 true →
 (decide
 ((0 : Int) ≤
 (x.fst.getD g.fst.toNat
 ((0 : Int), (0 : Int), false, false, false, false, false)).fst) &&
 decide
 ((x.fst.getD g.fst.toNat
 ((0 : Int), (0 : Int), false, false, false, false, false)).fst <
 (8 : Int)) &&
 decide
 ((32 : Int) ≤
 (x.fst.getD g.fst.toNat
 ((0 : Int), (0 : Int), false, false, false, false,
 false)).snd.fst) &&
 decide
 ((x.fst.getD g.fst.toNat
 ((0 : Int), (0 : Int), false, false, false, false, false)).snd.fst <
 (256 : Int)) &&
 !(x.fst.getD g.fst.toNat
 ((0 : Int), (0 : Int), false, false, false, false,
 false)).snd.snd.snd.snd.snd.fst) =
 true) ∧
 ((!(decide
 ((0 : Int) ≤
 (x.fst.getD g.fst.toNat
 ((0 : Int), (0 : Int), false, false, false, false,
 false)).fst) &&
 decide
 ((x.fst.getD g.fst.toNat
 ((0 : Int), (0 : Int), false, false, false, false,
 false)).fst <
 (8 : Int)) &&
 decide
 ((32 : Int) ≤
 (x.fst.getD g.fst.toNat
 ((0 : Int), (0 : Int), false, false, false, false,
 false)).snd.fst) &&
 decide
 ((x.fst.getD g.fst.toNat
 ((0 : Int), (0 : Int), false, false, false, false,
 false)).snd.fst <
 (256 : Int)) &&
 !(x.fst.getD g.fst.toNat
 ((0 : Int), (0 : Int), false, false, false, false,
 false)).snd.snd.snd.snd.snd.fst &&
 ((x.fst.getD g.fst.toNat
 ((0 : Int), (0 : Int), false, false, false, false,
 false)).snd.snd.snd.snd.snd.snd ||
 (x.fst.getD g.fst.toNat
 ((0 : Int), (0 : Int), false, false, false, false,
 false)).snd.snd.snd.fst ||
 !(x.fst.getD g.fst.toNat
 ((0 : Int), (0 : Int), false, false, false, false,
 false)).snd.snd.snd.snd.fst))) =
 true →
 false = right x.fst) ∧
 ((!(decide
 ((0 : Int) ≤
 (x.fst.getD g.fst.toNat
 ((0 : Int), (0 : Int), false, false, false, false,
 false)).fst) &&
 decide
 ((x.fst.getD g.fst.toNat
 ((0 : Int), (0 : Int), false, false, false, false,
 false)).fst <
 (8 : Int)) &&
 decide
 ((32 : Int) ≤
 (x.fst.getD g.fst.toNat
 ((0 : Int), (0 : Int), false, false, false, false,
 false)).snd.fst) &&
 decide
 ((x.fst.getD g.fst.toNat
 ((0 : Int), (0 : Int), false, false, false, false,
 false)).snd.fst <
 (256 : Int)) &&
 !(x.fst.getD g.fst.toNat
 ((0 : Int), (0 : Int), false, false, false, false,
 false)).snd.snd.snd.snd.snd.fst &&
 ((x.fst.getD g.fst.toNat
 ((0 : Int), (0 : Int), false, false, false, false,
 false)).snd.snd.snd.snd.snd.snd ||
 (x.fst.getD g.fst.toNat
 ((0 : Int), (0 : Int), false, false, false, false,
 false)).snd.snd.snd.fst ||
 !(x.fst.getD g.fst.toNat
 ((0 : Int), (0 : Int), false, false, false, false,
 false)).snd.snd.snd.snd.fst))) =
 false →
 ((-9223372036854775808 : Int) ≤ g.fst + (1 : Int) ∧
 g.fst + (1 : Int) ≤ (9223372036854775807 : Int)) ∧
 (((0 : Int) ≤ g.fst + (1 : Int) ∧
 g.fst + (1 : Int) ≤ (↑x.fst.length : Int) ∧
 (List.take (g.fst + (1 : Int)).toNat x.fst).all okP = true) ∧
 ((↑x.fst.length : Int) - (g.fst + (1 : Int))).toNat <
 ((↑x.fst.length : Int) - g.fst).toNat) ∧
 (x.fst = x.fst ∧
 (↑x.fst.length : Int) = (↑x.fst.length : Int) ∧
 g.fst + (1 : Int) = g.fst + (1 : Int) ∧ True) ∧
 True ∧ True)) ∧
 ((x.fst.getD g.fst.toNat ((0 : Int), (0 : Int), false, false, false, false, false)).snd.snd.fst = false →
 ((decide
 ((0 : Int) ≤
 (x.fst.getD g.fst.toNat ((0 : Int), (0 : Int), false, false, false, false, false)).fst) &&
 decide
 ((x.fst.getD g.fst.toNat ((0 : Int), (0 : Int), false, false, false, false, false)).fst <
 (8 : Int)) &&
 decide
 ((32 : Int) ≤
 (x.fst.getD g.fst.toNat ((0 : Int), (0 : Int), false, false, false, false, false)).snd.fst) &&
 decide
 ((x.fst.getD g.fst.toNat ((0 : Int), (0 : Int), false, false, false, false, false)).snd.fst <
 (256 : Int))) =
 true →
 (decide
 ((0 : Int) ≤
 (x.fst.getD g.fst.toNat ((0 : Int), (0 : Int), false, false, false, false, false)).fst) &&
 decide
 ((x.fst.getD g.fst.toNat ((0 : Int), (0 : Int), false, false, false, false, false)).fst <
 (8 : Int)) &&
 decide
 ((32 : Int) ≤
 (x.fst.getD g.fst.toNat ((0 : Int), (0 : Int), false, false, false, false, false)).snd.fst) &&
 decide
 ((x.fst.getD g.fst.toNat ((0 : Int), (0 : Int), false, false, false, false, false)).snd.fst <
 (256 : Int))) =
 true) ∧
 ((decide
 ((0 : Int) ≤
 (x.fst.getD g.fst.toNat ((0 : Int), (0 : Int), false, false, false, false, false)).fst) &&
 decide
 ((x.fst.getD g.fst.toNat ((0 : Int), (0 : Int), false, false, false, false, false)).fst <
 (8 : Int)) &&
 decide
 ((32 : Int) ≤
 (x.fst.getD g.fst.toNat ((0 : Int), (0 : Int), false, false, false, false, false)).snd.fst) &&
 decide
 ((x.fst.getD g.fst.toNat ((0 : Int), (0 : Int), false, false, false, false, false)).snd.fst <
 (256 : Int))) =
 true →
 (decide
 ((0 : Int) ≤
 (x.fst.getD g.fst.toNat ((0 : Int), (0 : Int), false, false, false, false, false)).fst) &&
 decide
 ((x.fst.getD g.fst.toNat ((0 : Int), (0 : Int), false, false, false, false, false)).fst <
 (8 : Int)) &&
 decide
 ((32 : Int) ≤
 (x.fst.getD g.fst.toNat ((0 : Int), (0 : Int), false, false, false, false, false)).snd.fst) &&
 decide
 ((x.fst.getD g.fst.toNat ((0 : Int), (0 : Int), false, false, false, false, false)).snd.fst <
 (256 : Int))) =
 true) ∧
 ((decide
 ((0 : Int) ≤
 (x.fst.getD g.fst.toNat ((0 : Int), (0 : Int), false, false, false, false, false)).fst) &&
 decide
 ((x.fst.getD g.fst.toNat ((0 : Int), (0 : Int), false, false, false, false, false)).fst <
 (8 : Int)) &&
 decide
 ((32 : Int) ≤
 (x.fst.getD g.fst.toNat
 ((0 : Int), (0 : Int), false, false, false, false, false)).snd.fst) &&
 decide
 ((x.fst.getD g.fst.toNat ((0 : Int), (0 : Int), false, false, false, false, false)).snd.fst <
 (256 : Int))) =
 true →
 (decide
 ((0 : Int) ≤
 (x.fst.getD g.fst.toNat ((0 : Int), (0 : Int), false, false, false, false, false)).fst) &&
 decide
 ((x.fst.getD g.fst.toNat ((0 : Int), (0 : Int), false, false, false, false, false)).fst <
 (8 : Int)) &&
 decide
 ((32 : Int) ≤
 (x.fst.getD g.fst.toNat
 ((0 : Int), (0 : Int), false, false, false, false, false)).snd.fst) &&
 decide
 ((x.fst.getD g.fst.toNat ((0 : Int), (0 : Int), false, false, false, false, false)).snd.fst <
 (256 : Int))) =
 true) ∧
 ((decide
 ((0 : Int) ≤
 (x.fst.getD g.fst.toNat
 ((0 : Int), (0 : Int), false, false, false, false, false)).fst) &&
 decide
 ((x.fst.getD g.fst.toNat
 ((0 : Int), (0 : Int), false, false, false, false, false)).fst <
 (8 : Int)) &&
 decide
 ((32 : Int) ≤
 (x.fst.getD g.fst.toNat
 ((0 : Int), (0 : Int), false, false, false, false, false)).snd.fst) &&
 decide
 ((x.fst.getD g.fst.toNat
 ((0 : Int), (0 : Int), false, false, false, false, false)).snd.fst <
 (256 : Int)) &&
 !(x.fst.getD g.fst.toNat
 ((0 : Int), (0 : Int), false, false, false, false,
 false)).snd.snd.snd.snd.snd.snd) =
 true →
 (decide
 ((0 : Int) ≤
 (x.fst.getD g.fst.toNat
 ((0 : Int), (0 : Int), false, false, false, false, false)).fst) &&
 decide
 ((x.fst.getD g.fst.toNat
 ((0 : Int), (0 : Int), false, false, false, false, false)).fst <
 (8 : Int)) &&
 decide
 ((32 : Int) ≤
 (x.fst.getD g.fst.toNat
 ((0 : Int), (0 : Int), false, false, false, false, false)).snd.fst) &&
 decide
 ((x.fst.getD g.fst.toNat
 ((0 : Int), (0 : Int), false, false, false, false, false)).snd.fst <
 (256 : Int)) &&
 !(x.fst.getD g.fst.toNat
 ((0 : Int), (0 : Int), false, false, false, false,
 false)).snd.snd.snd.snd.snd.snd) =
 true) ∧
 ((decide
 ((0 : Int) ≤
 (x.fst.getD g.fst.toNat
 ((0 : Int), (0 : Int), false, false, false, false, false)).fst) &&
 decide
 ((x.fst.getD g.fst.toNat
 ((0 : Int), (0 : Int), false, false, false, false, false)).fst <
 (8 : Int)) &&
 decide
 ((32 : Int) ≤
 (x.fst.getD g.fst.toNat
 ((0 : Int), (0 : Int), false, false, false, false, false)).snd.fst) &&
 decide
 ((x.fst.getD g.fst.toNat
 ((0 : Int), (0 : Int), false, false, false, false, false)).snd.fst <
 (256 : Int)) &&
 !(x.fst.getD g.fst.toNat
 ((0 : Int), (0 : Int), false, false, false, false,
 false)).snd.snd.snd.snd.snd.snd) =
 true →
 (decide
 ((0 : Int) ≤
 (x.fst.getD g.fst.toNat
 ((0 : Int), (0 : Int), false, false, false, false, false)).fst) &&
 decide
 ((x.fst.getD g.fst.toNat
 ((0 : Int), (0 : Int), false, false, false, false, false)).fst <
 (8 : Int)) &&
 decide
 ((32 : Int) ≤
 (x.fst.getD g.fst.toNat
 ((0 : Int), (0 : Int), false, false, false, false, false)).snd.fst) &&
 decide
 ((x.fst.getD g.fst.toNat
 ((0 : Int), (0 : Int), false, false, false, false, false)).snd.fst <
 (256 : Int)) &&
 !(x.fst.getD g.fst.toNat
 ((0 : Int), (0 : Int), false, false, false, false,
 false)).snd.snd.snd.snd.snd.snd) =
 true) ∧
 ((decide
 ((0 : Int) ≤
 (x.fst.getD g.fst.toNat
 ((0 : Int), (0 : Int), false, false, false, false, false)).fst) &&
 decide
 ((x.fst.getD g.fst.toNat
 ((0 : Int), (0 : Int), false, false, false, false, false)).fst <
 (8 : Int)) &&
 decide
 ((32 : Int) ≤
 (x.fst.getD g.fst.toNat
 ((0 : Int), (0 : Int), false, false, false, false, false)).snd.fst) &&
 decide
 ((x.fst.getD g.fst.toNat
 ((0 : Int), (0 : Int), false, false, false, false, false)).snd.fst <
 (256 : Int)) &&
 !(x.fst.getD g.fst.toNat
 ((0 : Int), (0 : Int), false, false, false, false,
 false)).snd.snd.snd.snd.snd.snd &&
 !(x.fst.getD g.fst.toNat
 ((0 : Int), (0 : Int), false, false, false, false, false)).snd.snd.snd.fst) =
 true →
 (decide
 ((0 : Int) ≤
 (x.fst.getD g.fst.toNat
 ((0 : Int), (0 : Int), false, false, false, false, false)).fst) &&
 decide
 ((x.fst.getD g.fst.toNat
 ((0 : Int), (0 : Int), false, false, false, false, false)).fst <
 (8 : Int)) &&
 decide
 ((32 : Int) ≤
 (x.fst.getD g.fst.toNat
 ((0 : Int), (0 : Int), false, false, false, false, false)).snd.fst) &&
 decide
 ((x.fst.getD g.fst.toNat
 ((0 : Int), (0 : Int), false, false, false, false, false)).snd.fst <
 (256 : Int)) &&
 !(x.fst.getD g.fst.toNat
 ((0 : Int), (0 : Int), false, false, false, false,
 false)).snd.snd.snd.snd.snd.snd &&
 !(x.fst.getD g.fst.toNat
 ((0 : Int), (0 : Int), false, false, false, false, false)).snd.snd.snd.fst) =
 true) ∧
 ((decide
 ((0 : Int) ≤
 (x.fst.getD g.fst.toNat
 ((0 : Int), (0 : Int), false, false, false, false, false)).fst) &&
 decide
 ((x.fst.getD g.fst.toNat
 ((0 : Int), (0 : Int), false, false, false, false, false)).fst <
 (8 : Int)) &&
 decide
 ((32 : Int) ≤
 (x.fst.getD g.fst.toNat
 ((0 : Int), (0 : Int), false, false, false, false, false)).snd.fst) &&
 decide
 ((x.fst.getD g.fst.toNat
 ((0 : Int), (0 : Int), false, false, false, false, false)).snd.fst <
 (256 : Int)) &&
 !(x.fst.getD g.fst.toNat
 ((0 : Int), (0 : Int), false, false, false, false,
 false)).snd.snd.snd.snd.snd.snd &&
 !(x.fst.getD g.fst.toNat
 ((0 : Int), (0 : Int), false, false, false, false, false)).snd.snd.snd.fst) =
 true →
 (decide
 ((0 : Int) ≤
 (x.fst.getD g.fst.toNat
 ((0 : Int), (0 : Int), false, false, false, false, false)).fst) &&
 decide
 ((x.fst.getD g.fst.toNat
 ((0 : Int), (0 : Int), false, false, false, false, false)).fst <
 (8 : Int)) &&
 decide
 ((32 : Int) ≤
 (x.fst.getD g.fst.toNat
 ((0 : Int), (0 : Int), false, false, false, false, false)).snd.fst) &&
 decide
 ((x.fst.getD g.fst.toNat
 ((0 : Int), (0 : Int), false, false, false, false, false)).snd.fst <
 (256 : Int)) &&
 !(x.fst.getD g.fst.toNat
 ((0 : Int), (0 : Int), false, false, false, false,
 false)).snd.snd.snd.snd.snd.snd &&
 !(x.fst.getD g.fst.toNat
 ((0 : Int), (0 : Int), false, false, false, false, false)).snd.snd.snd.fst) =
 true) ∧
 ((decide
 ((0 : Int) ≤
 (x.fst.getD g.fst.toNat
 ((0 : Int), (0 : Int), false, false, false, false, false)).fst) &&
 decide
 ((x.fst.getD g.fst.toNat
 ((0 : Int), (0 : Int), false, false, false, false, false)).fst <
 (8 : Int)) &&
 decide
 ((32 : Int) ≤
 (x.fst.getD g.fst.toNat
 ((0 : Int), (0 : Int), false, false, false, false, false)).snd.fst) &&
 decide
 ((x.fst.getD g.fst.toNat
 ((0 : Int), (0 : Int), false, false, false, false, false)).snd.fst <
 (256 : Int)) &&
 !(x.fst.getD g.fst.toNat
 ((0 : Int), (0 : Int), false, false, false, false,
 false)).snd.snd.snd.snd.snd.snd) =
 true →
 (decide
 ((0 : Int) ≤
 (x.fst.getD g.fst.toNat
 ((0 : Int), (0 : Int), false, false, false, false, false)).fst) &&
 decide
 ((x.fst.getD g.fst.toNat
 ((0 : Int), (0 : Int), false, false, false, false, false)).fst <
 (8 : Int)) &&
 decide
 ((32 : Int) ≤
 (x.fst.getD g.fst.toNat
 ((0 : Int), (0 : Int), false, false, false, false, false)).snd.fst) &&
 decide
 ((x.fst.getD g.fst.toNat
 ((0 : Int), (0 : Int), false, false, false, false, false)).snd.fst <
 (256 : Int)) &&
 !(x.fst.getD g.fst.toNat
 ((0 : Int), (0 : Int), false, false, false, false,
 false)).snd.snd.snd.snd.snd.snd) =
 true ∧
 ((x.fst.getD g.fst.toNat
 ((0 : Int), (0 : Int), false, false, false, false, false)).snd.snd.snd.fst =
 false →
 (decide
 ((0 : Int) ≤
 (x.fst.getD g.fst.toNat
 ((0 : Int), (0 : Int), false, false, false, false, false)).fst) &&
 decide
 ((x.fst.getD g.fst.toNat
 ((0 : Int), (0 : Int), false, false, false, false, false)).fst <
 (8 : Int)) &&
 decide
 ((32 : Int) ≤
 (x.fst.getD g.fst.toNat
 ((0 : Int), (0 : Int), false, false, false, false,
 false)).snd.fst) &&
 decide
 ((x.fst.getD g.fst.toNat
 ((0 : Int), (0 : Int), false, false, false, false, false)).snd.fst <
 (256 : Int)) &&
 !(x.fst.getD g.fst.toNat
 ((0 : Int), (0 : Int), false, false, false, false,
 false)).snd.snd.snd.snd.snd.snd &&
 !(x.fst.getD g.fst.toNat
 ((0 : Int), (0 : Int), false, false, false, false,
 false)).snd.snd.snd.fst) =
 true)) ∧
 ((decide
 ((0 : Int) ≤
 (x.fst.getD g.fst.toNat
 ((0 : Int), (0 : Int), false, false, false, false, false)).fst) &&
 decide
 ((x.fst.getD g.fst.toNat
 ((0 : Int), (0 : Int), false, false, false, false, false)).fst <
 (8 : Int)) &&
 decide
 ((32 : Int) ≤
 (x.fst.getD g.fst.toNat
 ((0 : Int), (0 : Int), false, false, false, false, false)).snd.fst) &&
 decide
 ((x.fst.getD g.fst.toNat
 ((0 : Int), (0 : Int), false, false, false, false, false)).snd.fst <
 (256 : Int)) &&
 !(x.fst.getD g.fst.toNat
 ((0 : Int), (0 : Int), false, false, false, false,
 false)).snd.snd.snd.snd.snd.snd) =
 true →
 (decide
 ((0 : Int) ≤
 (x.fst.getD g.fst.toNat
 ((0 : Int), (0 : Int), false, false, false, false, false)).fst) &&
 decide
 ((x.fst.getD g.fst.toNat
 ((0 : Int), (0 : Int), false, false, false, false, false)).fst <
 (8 : Int)) &&
 decide
 ((32 : Int) ≤
 (x.fst.getD g.fst.toNat
 ((0 : Int), (0 : Int), false, false, false, false, false)).snd.fst) &&
 decide
 ((x.fst.getD g.fst.toNat
 ((0 : Int), (0 : Int), false, false, false, false, false)).snd.fst <
 (256 : Int)) &&
 !(x.fst.getD g.fst.toNat
 ((0 : Int), (0 : Int), false, false, false, false,
 false)).snd.snd.snd.snd.snd.snd) =
 true) ∧
 ((!(decide
 ((0 : Int) ≤
 (x.fst.getD g.fst.toNat
 ((0 : Int), (0 : Int), false, false, false, false, false)).fst) &&
 decide
 ((x.fst.getD g.fst.toNat
 ((0 : Int), (0 : Int), false, false, false, false, false)).fst <
 (8 : Int)) &&
 decide
 ((32 : Int) ≤
 (x.fst.getD g.fst.toNat
 ((0 : Int), (0 : Int), false, false, false, false,
 false)).snd.fst) &&
 decide
 ((x.fst.getD g.fst.toNat
 ((0 : Int), (0 : Int), false, false, false, false, false)).snd.fst <
 (256 : Int)) &&
 !(x.fst.getD g.fst.toNat
 ((0 : Int), (0 : Int), false, false, false, false,
 false)).snd.snd.snd.snd.snd.snd &&
 ((x.fst.getD g.fst.toNat
 ((0 : Int), (0 : Int), false, false, false, false,
 false)).snd.snd.snd.fst ||
 !(x.fst.getD g.fst.toNat
 ((0 : Int), (0 : Int), false, false, false, false,
 false)).snd.snd.snd.snd.snd.fst))) =
 true →
 false = right x.fst) ∧
 ((!(decide
 ((0 : Int) ≤
 (x.fst.getD g.fst.toNat
 ((0 : Int), (0 : Int), false, false, false, false, false)).fst) &&
 decide
 ((x.fst.getD g.fst.toNat
 ((0 : Int), (0 : Int), false, false, false, false, false)).fst <
 (8 : Int)) &&
 decide
 ((32 : Int) ≤
 (x.fst.getD g.fst.toNat
 ((0 : Int), (0 : Int), false, false, false, false,
 false)).snd.fst) &&
 decide
 ((x.fst.getD g.fst.toNat
 ((0 : Int), (0 : Int), false, false, false, false, false)).snd.fst <
 (256 : Int)) &&
 !(x.fst.getD g.fst.toNat
 ((0 : Int), (0 : Int), false, false, false, false,
 false)).snd.snd.snd.snd.snd.snd &&
 ((x.fst.getD g.fst.toNat
 ((0 : Int), (0 : Int), false, false, false, false,
 false)).snd.snd.snd.fst ||
 !(x.fst.getD g.fst.toNat
 ((0 : Int), (0 : Int), false, false, false, false,
 false)).snd.snd.snd.snd.snd.fst))) =
 false →
 ((-9223372036854775808 : Int) ≤ g.fst + (1 : Int) ∧
 g.fst + (1 : Int) ≤ (9223372036854775807 : Int)) ∧
 (((0 : Int) ≤ g.fst + (1 : Int) ∧
 g.fst + (1 : Int) ≤ (↑x.fst.length : Int) ∧
 (List.take (g.fst + (1 : Int)).toNat x.fst).all okP = true) ∧
 ((↑x.fst.length : Int) - (g.fst + (1 : Int))).toNat <
 ((↑x.fst.length : Int) - g.fst).toNat) ∧
 (x.fst = x.fst ∧
 (↑x.fst.length : Int) = (↑x.fst.length : Int) ∧
 g.fst + (1 : Int) = g.fst + (1 : Int) ∧ True) ∧
 True ∧ True))) ∧
 (decide (g.fst < (↑x.fst.length : Int)) = false → true = right x.fst))

theorem E_cright_eq (x : HL (cRight : Ctr).as) : vc (fx_cright x) 1 27 Try.f27 (cRight) x = E_cright x := by kernel_rfl

def E_cstep (x : (Int × Int × Bool × Bool × Bool × Bool × Bool) × Int × Unit) : Prop :=
 ((x.snd.fst == (1 : Int)) = true →
 (x.fst.snd.snd.fst = true →
 ((!x.fst.snd.snd.snd.fst) = true → (!x.fst.snd.snd.snd.fst) = true) ∧
 ((!x.fst.snd.snd.snd.fst) = true → (!x.fst.snd.snd.snd.fst) = true) ∧
 ((!x.fst.snd.snd.snd.fst) = true → (!x.fst.snd.snd.snd.fst) = true) ∧
 (x.fst.snd.snd.snd.snd.snd.snd = false → (!x.fst.snd.snd.snd.snd.snd.snd) = true) ∧
 (x.fst.fst, x.fst.snd.fst, x.fst.snd.snd.fst, x.fst.snd.snd.snd.fst, true, x.fst.snd.snd.snd.snd.snd.fst,
 x.fst.snd.snd.snd.snd.snd.snd || !x.fst.snd.snd.snd.fst && !x.fst.snd.snd.snd.snd.snd.snd) =
 (cstep x.fst x.snd.fst).fst ∧
 (!x.fst.snd.snd.snd.fst && !x.fst.snd.snd.snd.snd.snd.snd) = (cstep x.fst x.snd.fst).snd) ∧
 (x.fst.snd.snd.fst = false →
 (x.fst.snd.snd.snd.snd.snd.fst = false → (!x.fst.snd.snd.snd.snd.snd.fst) = true) ∧
 ((x.fst.snd.snd.snd.snd.snd.fst || !x.fst.snd.snd.snd.snd.fst) = true →
 (x.fst.snd.snd.snd.snd.snd.fst || !x.fst.snd.snd.snd.snd.fst) = true) ∧
 ((x.fst.snd.snd.snd.snd.snd.fst || !x.fst.snd.snd.snd.snd.fst) = true →
 (x.fst.snd.snd.snd.snd.snd.fst || !x.fst.snd.snd.snd.snd.fst) = true) ∧
 ((x.fst.snd.snd.snd.snd.snd.fst || !x.fst.snd.snd.snd.snd.fst) = true →
 (x.fst.snd.snd.snd.snd.snd.fst || !x.fst.snd.snd.snd.snd.fst) = true) ∧
 (((x.fst.snd.snd.snd.snd.snd.fst || !x.fst.snd.snd.snd.snd.fst) && !x.fst.snd.snd.snd.fst) = true →
 (x.fst.fst, x.fst.snd.fst, x.fst.snd.snd.fst, x.fst.snd.snd.snd.fst, true, false, x.fst.snd.snd.snd.snd.snd.snd) =
 (cstep x.fst x.snd.fst).fst ∧
 true = (cstep x.fst x.snd.fst).snd) ∧
 (((x.fst.snd.snd.snd.snd.snd.fst || !x.fst.snd.snd.snd.snd.fst) && !x.fst.snd.snd.snd.fst) = false →
 (x.fst.fst, x.fst.snd.fst, x.fst.snd.snd.fst, x.fst.snd.snd.snd.fst, true,
 x.fst.snd.snd.snd.snd.snd.fst || !x.fst.snd.snd.snd.snd.fst, x.fst.snd.snd.snd.snd.snd.snd) =
 (cstep x.fst x.snd.fst).fst ∧
 false = (cstep x.fst x.snd.fst).snd))) ∧
 ((x.snd.fst == (1 : Int)) = false →
 ((x.snd.fst == (2 : Int)) = true →
 (x.fst.snd.snd.fst = true →
 (x.fst.snd.snd.snd.snd.snd.snd = false → (!x.fst.snd.snd.snd.snd.snd.snd) = true) ∧
 (x.fst.fst, x.fst.snd.fst, x.fst.snd.snd.fst, x.fst.snd.snd.snd.fst, false, x.fst.snd.snd.snd.snd.snd.fst,
 x.fst.snd.snd.snd.snd.snd.snd && true) =
 (cstep x.fst x.snd.fst).fst ∧
 false = (cstep x.fst x.snd.fst).snd) ∧
 (x.fst.snd.snd.fst = false →
 (x.fst.snd.snd.snd.snd.snd.fst = false → (!x.fst.snd.snd.snd.snd.snd.fst) = true) ∧
 ((x.fst.snd.snd.snd.snd.snd.fst && true) = true → (x.fst.snd.snd.snd.snd.snd.fst && true) = true) ∧
 ((x.fst.snd.snd.snd.snd.snd.fst && true) = true → (x.fst.snd.snd.snd.snd.snd.fst && true) = true) ∧
 ((x.fst.snd.snd.snd.snd.snd.fst && true) = true → (x.fst.snd.snd.snd.snd.snd.fst && true) = true) ∧
 ((x.fst.snd.snd.snd.snd.snd.fst && true && !x.fst.snd.snd.snd.fst) = true →
 (x.fst.fst, x.fst.snd.fst, x.fst.snd.snd.fst, x.fst.snd.snd.snd.fst, false, false, x.fst.snd.snd.snd.snd.snd.snd) =
 (cstep x.fst x.snd.fst).fst ∧
 true = (cstep x.fst x.snd.fst).snd) ∧
 ((x.fst.snd.snd.snd.snd.snd.fst && true && !x.fst.snd.snd.snd.fst) = false →
 (x.fst.fst, x.fst.snd.fst, x.fst.snd.snd.fst, x.fst.snd.snd.snd.fst, false, x.fst.snd.snd.snd.snd.snd.fst && true,
 x.fst.snd.snd.snd.snd.snd.snd) =
 (cstep x.fst x.snd.fst).fst ∧
 false = (cstep x.fst x.snd.fst).snd))) ∧
 ((x.snd.fst == (2 : Int)) = false →
 ((x.snd.fst == (3 : Int)) = true →
 (x.fst.snd.snd.fst = true →
 (x.fst.snd.snd.snd.snd.fst = true → x.fst.snd.snd.snd.snd.fst = true) ∧
 (x.fst.snd.snd.snd.snd.fst = true → x.fst.snd.snd.snd.snd.fst = true) ∧
 (x.fst.snd.snd.snd.snd.fst = true → x.fst.snd.snd.snd.snd.fst = true) ∧
 ((x.fst.snd.snd.snd.snd.fst && !true) = true → (x.fst.snd.snd.snd.snd.fst && !true) = true) ∧
 ((x.fst.snd.snd.snd.snd.fst && !true) = true → (x.fst.snd.snd.snd.snd.fst && !true) = true) ∧
 ((x.fst.snd.snd.snd.snd.fst && !true) = true → (x.fst.snd.snd.snd.snd.fst && !true) = true) ∧
 (x.fst.snd.snd.snd.snd.snd.snd = false → (!x.fst.snd.snd.snd.snd.snd.snd) = true) ∧
 (x.fst.fst, x.fst.snd.fst, x.fst.snd.snd.fst, true, x.fst.snd.snd.snd.snd.fst, x.fst.snd.snd.snd.snd.snd.fst,
 x.fst.snd.snd.snd.snd.snd.snd || x.fst.snd.snd.snd.snd.fst && !true && !x.fst.snd.snd.snd.snd.snd.snd) =
 (cstep x.fst x.snd.fst).fst ∧
 (x.fst.snd.snd.snd.snd.fst && !true && !x.fst.snd.snd.snd.snd.snd.snd) = (cstep x.fst x.snd.fst).snd) ∧
 (x.fst.snd.snd.fst = false →
 (x.fst.snd.snd.snd.snd.fst = true → x.fst.snd.snd.snd.snd.fst = true) ∧
 (x.fst.snd.snd.snd.snd.fst = true → x.fst.snd.snd.snd.snd.fst = true) ∧
 (x.fst.snd.snd.snd.snd.fst = true → x.fst.snd.snd.snd.snd.fst = true) ∧
 (x.fst.snd.snd.snd.snd.snd.fst = false → (!x.fst.snd.snd.snd.snd.snd.fst) = true) ∧
 ((x.fst.snd.snd.snd.snd.snd.fst || x.fst.snd.snd.snd.snd.fst && !x.fst.snd.snd.snd.snd.fst) = true →
 (x.fst.snd.snd.snd.snd.snd.fst || x.fst.snd.snd.snd.snd.fst && !x.fst.snd.snd.snd.snd.fst) = true) ∧
 ((x.fst.snd.snd.snd.snd.snd.fst || x.fst.snd.snd.snd.snd.fst && !x.fst.snd.snd.snd.snd.fst) = true →
 (x.fst.snd.snd.snd.snd.snd.fst || x.fst.snd.snd.snd.snd.fst && !x.fst.snd.snd.snd.snd.fst) = true) ∧
 ((x.fst.snd.snd.snd.snd.snd.fst || x.fst.snd.snd.snd.snd.fst && !x.fst.snd.snd.snd.snd.fst) = true →
 (x.fst.snd.snd.snd.snd.snd.fst || x.fst.snd.snd.snd.snd.fst && !x.fst.snd.snd.snd.snd.fst) = true) ∧
 (((x.fst.snd.snd.snd.snd.snd.fst || x.fst.snd.snd.snd.snd.fst && !x.fst.snd.snd.snd.snd.fst) && !true) = true →
 (x.fst.fst, x.fst.snd.fst, x.fst.snd.snd.fst, true, x.fst.snd.snd.snd.snd.fst, false,
 x.fst.snd.snd.snd.snd.snd.snd) =
 (cstep x.fst x.snd.fst).fst ∧
 true = (cstep x.fst x.snd.fst).snd) ∧
 (((x.fst.snd.snd.snd.snd.snd.fst || x.fst.snd.snd.snd.snd.fst && !x.fst.snd.snd.snd.snd.fst) && !true) = false →
 (x.fst.fst, x.fst.snd.fst, x.fst.snd.snd.fst, true, x.fst.snd.snd.snd.snd.fst,
 x.fst.snd.snd.snd.snd.snd.fst || x.fst.snd.snd.snd.snd.fst && !x.fst.snd.snd.snd.snd.fst,
 x.fst.snd.snd.snd.snd.snd.snd) =
 (cstep x.fst x.snd.fst).fst ∧
 false = (cstep x.fst x.snd.fst).snd))) ∧
 ((x.snd.fst == (3 : Int)) = false →
 ((x.snd.fst == (4 : Int)) = true →
 (x.fst.snd.snd.fst = true →
 (x.fst.snd.snd.snd.snd.fst = true → x.fst.snd.snd.snd.snd.fst = true) ∧
 (x.fst.snd.snd.snd.snd.fst = true → x.fst.snd.snd.snd.snd.fst = true) ∧
 (x.fst.snd.snd.snd.snd.fst = true → x.fst.snd.snd.snd.snd.fst = true) ∧
 ((x.fst.snd.snd.snd.snd.fst && !false) = true → (x.fst.snd.snd.snd.snd.fst && !false) = true) ∧
 ((x.fst.snd.snd.snd.snd.fst && !false) = true → (x.fst.snd.snd.snd.snd.fst && !false) = true) ∧
 ((x.fst.snd.snd.snd.snd.fst && !false) = true → (x.fst.snd.snd.snd.snd.fst && !false) = true) ∧
 (x.fst.snd.snd.snd.snd.snd.snd = false → (!x.fst.snd.snd.snd.snd.snd.snd) = true) ∧
 (x.fst.fst, x.fst.snd.fst, x.fst.snd.snd.fst, false, x.fst.snd.snd.snd.snd.fst, x.fst.snd.snd.snd.snd.snd.fst,
 x.fst.snd.snd.snd.snd.snd.snd || x.fst.snd.snd.snd.snd.fst && !false && !x.fst.snd.snd.snd.snd.snd.snd) =
 (cstep x.fst x.snd.fst).fst ∧
 (x.fst.snd.snd.snd.snd.fst && !false && !x.fst.snd.snd.snd.snd.snd.snd) = (cstep x.fst x.snd.fst).snd) ∧
 (x.fst.snd.snd.fst = false →
 (x.fst.snd.snd.snd.snd.fst = true → x.fst.snd.snd.snd.snd.fst = true) ∧
 (x.fst.snd.snd.snd.snd.fst = true → x.fst.snd.snd.snd.snd.fst = true) ∧
 (x.fst.snd.snd.snd.snd.fst = true → x.fst.snd.snd.snd.snd.fst = true) ∧
 (x.fst.snd.snd.snd.snd.snd.fst = false → (!x.fst.snd.snd.snd.snd.snd.fst) = true) ∧
 ((x.fst.snd.snd.snd.snd.snd.fst || x.fst.snd.snd.snd.snd.fst && !x.fst.snd.snd.snd.snd.fst) = true →
 (x.fst.snd.snd.snd.snd.snd.fst || x.fst.snd.snd.snd.snd.fst && !x.fst.snd.snd.snd.snd.fst) = true) ∧
 ((x.fst.snd.snd.snd.snd.snd.fst || x.fst.snd.snd.snd.snd.fst && !x.fst.snd.snd.snd.snd.fst) = true →
 (x.fst.snd.snd.snd.snd.snd.fst || x.fst.snd.snd.snd.snd.fst && !x.fst.snd.snd.snd.snd.fst) = true) ∧
 ((x.fst.snd.snd.snd.snd.snd.fst || x.fst.snd.snd.snd.snd.fst && !x.fst.snd.snd.snd.snd.fst) = true →
 (x.fst.snd.snd.snd.snd.snd.fst || x.fst.snd.snd.snd.snd.fst && !x.fst.snd.snd.snd.snd.fst) = true) ∧
 (((x.fst.snd.snd.snd.snd.snd.fst || x.fst.snd.snd.snd.snd.fst && !x.fst.snd.snd.snd.snd.fst) && !false) = true →
 (x.fst.fst, x.fst.snd.fst, x.fst.snd.snd.fst, false, x.fst.snd.snd.snd.snd.fst, false,
 x.fst.snd.snd.snd.snd.snd.snd) =
 (cstep x.fst x.snd.fst).fst ∧
 true = (cstep x.fst x.snd.fst).snd) ∧
 (((x.fst.snd.snd.snd.snd.snd.fst || x.fst.snd.snd.snd.snd.fst && !x.fst.snd.snd.snd.snd.fst) && !false) = false →
 (x.fst.fst, x.fst.snd.fst, x.fst.snd.snd.fst, false, x.fst.snd.snd.snd.snd.fst,
 x.fst.snd.snd.snd.snd.snd.fst || x.fst.snd.snd.snd.snd.fst && !x.fst.snd.snd.snd.snd.fst,
 x.fst.snd.snd.snd.snd.snd.snd) =
 (cstep x.fst x.snd.fst).fst ∧
 false = (cstep x.fst x.snd.fst).snd))) ∧
 ((x.snd.fst == (4 : Int)) = false →
 ((x.snd.fst == (5 : Int)) = true →
 (x.fst.snd.snd.fst = true →
 (x.fst.snd.snd.snd.snd.fst = true → x.fst.snd.snd.snd.snd.fst = true) ∧
 (x.fst.snd.snd.snd.snd.fst = true → x.fst.snd.snd.snd.snd.fst = true) ∧
 (x.fst.snd.snd.snd.snd.fst = true → x.fst.snd.snd.snd.snd.fst = true) ∧
 ((x.fst.snd.snd.snd.snd.fst && !x.fst.snd.snd.snd.fst) = true →
 (x.fst.snd.snd.snd.snd.fst && !x.fst.snd.snd.snd.fst) = true) ∧
 ((x.fst.snd.snd.snd.snd.fst && !x.fst.snd.snd.snd.fst) = true →
 (x.fst.snd.snd.snd.snd.fst && !x.fst.snd.snd.snd.fst) = true) ∧
 ((x.fst.snd.snd.snd.snd.fst && !x.fst.snd.snd.snd.fst) = true →
 (x.fst.snd.snd.snd.snd.fst && !x.fst.snd.snd.snd.fst) = true) ∧
 (x.fst.fst, x.fst.snd.fst, x.fst.snd.snd.fst, x.fst.snd.snd.snd.fst, x.fst.snd.snd.snd.snd.fst,
 x.fst.snd.snd.snd.snd.snd.fst, x.fst.snd.snd.snd.snd.fst && !x.fst.snd.snd.snd.fst && !false) =
 (cstep x.fst x.snd.fst).fst ∧
 (x.fst.snd.snd.snd.snd.fst && !x.fst.snd.snd.snd.fst && !false) = (cstep x.fst x.snd.fst).snd) ∧
 (x.fst.snd.snd.fst = false →
 (x.fst.snd.snd.snd.snd.fst = true → x.fst.snd.snd.snd.snd.fst = true) ∧
 (x.fst.snd.snd.snd.snd.fst = true → x.fst.snd.snd.snd.snd.fst = true) ∧
 (x.fst.snd.snd.snd.snd.fst = true → x.fst.snd.snd.snd.snd.fst = true) ∧
 (x.fst.snd.snd.snd.snd.snd.fst = false → (!x.fst.snd.snd.snd.snd.snd.fst) = true) ∧
 ((x.fst.snd.snd.snd.snd.snd.fst || x.fst.snd.snd.snd.snd.fst && !x.fst.snd.snd.snd.snd.fst) = true →
 (x.fst.snd.snd.snd.snd.snd.fst || x.fst.snd.snd.snd.snd.fst && !x.fst.snd.snd.snd.snd.fst) = true) ∧
 ((x.fst.snd.snd.snd.snd.snd.fst || x.fst.snd.snd.snd.snd.fst && !x.fst.snd.snd.snd.snd.fst) = true →
 (x.fst.snd.snd.snd.snd.snd.fst || x.fst.snd.snd.snd.snd.fst && !x.fst.snd.snd.snd.snd.fst) = true) ∧
 ((x.fst.snd.snd.snd.snd.snd.fst || x.fst.snd.snd.snd.snd.fst && !x.fst.snd.snd.snd.snd.fst) = true →
 (x.fst.snd.snd.snd.snd.snd.fst || x.fst.snd.snd.snd.snd.fst && !x.fst.snd.snd.snd.snd.fst) = true) ∧
 (((x.fst.snd.snd.snd.snd.snd.fst || x.fst.snd.snd.snd.snd.fst && !x.fst.snd.snd.snd.snd.fst) &&
 !x.fst.snd.snd.snd.fst) =
 true →
 (x.fst.fst, x.fst.snd.fst, x.fst.snd.snd.fst, x.fst.snd.snd.snd.fst, x.fst.snd.snd.snd.snd.fst, false,
 false) =
 (cstep x.fst x.snd.fst).fst ∧
 true = (cstep x.fst x.snd.fst).snd) ∧
 (((x.fst.snd.snd.snd.snd.snd.fst || x.fst.snd.snd.snd.snd.fst && !x.fst.snd.snd.snd.snd.fst) &&
 !x.fst.snd.snd.snd.fst) =
 false →
 (x.fst.fst, x.fst.snd.fst, x.fst.snd.snd.fst, x.fst.snd.snd.snd.fst, x.fst.snd.snd.snd.snd.fst,
 x.fst.snd.snd.snd.snd.snd.fst || x.fst.snd.snd.snd.snd.fst && !x.fst.snd.snd.snd.snd.fst, false) =
 (cstep x.fst x.snd.fst).fst ∧
 false = (cstep x.fst x.snd.fst).snd))) ∧
 ((x.snd.fst == (5 : Int)) = false →
 (x.fst.snd.snd.fst = true →
 (x.fst.snd.snd.snd.snd.fst = true → x.fst.snd.snd.snd.snd.fst = true) ∧
 (x.fst.snd.snd.snd.snd.fst = true → x.fst.snd.snd.snd.snd.fst = true) ∧
 (x.fst.snd.snd.snd.snd.fst = true → x.fst.snd.snd.snd.snd.fst = true) ∧
 ((x.fst.snd.snd.snd.snd.fst && !x.fst.snd.snd.snd.fst) = true →
 (x.fst.snd.snd.snd.snd.fst && !x.fst.snd.snd.snd.fst) = true) ∧
 ((x.fst.snd.snd.snd.snd.fst && !x.fst.snd.snd.snd.fst) = true →
 (x.fst.snd.snd.snd.snd.fst && !x.fst.snd.snd.snd.fst) = true) ∧
 ((x.fst.snd.snd.snd.snd.fst && !x.fst.snd.snd.snd.fst) = true →
 (x.fst.snd.snd.snd.snd.fst && !x.fst.snd.snd.snd.fst) = true) ∧
 (x.fst.snd.snd.snd.snd.snd.snd = false → (!x.fst.snd.snd.snd.snd.snd.snd) = true) ∧
 (x.fst.fst, x.fst.snd.fst, x.fst.snd.snd.fst, x.fst.snd.snd.snd.fst, x.fst.snd.snd.snd.snd.fst,
 x.fst.snd.snd.snd.snd.snd.fst,
 x.fst.snd.snd.snd.snd.snd.snd ||
 x.fst.snd.snd.snd.snd.fst && !x.fst.snd.snd.snd.fst && !x.fst.snd.snd.snd.snd.snd.snd) =
 (cstep x.fst x.snd.fst).fst ∧
 (x.fst.snd.snd.snd.snd.fst && !x.fst.snd.snd.snd.fst && !x.fst.snd.snd.snd.snd.snd.snd) =
 (cstep x.fst x.snd.fst).snd) ∧
 (x.fst.snd.snd.fst = false →
 (x.fst.snd.snd.snd.snd.fst = true → x.fst.snd.snd.snd.snd.fst = true) ∧
 (x.fst.snd.snd.snd.snd.fst = true → x.fst.snd.snd.snd.snd.fst = true) ∧
 (x.fst.snd.snd.snd.snd.fst = true → x.fst.snd.snd.snd.snd.fst = true) ∧
 (x.fst.snd.snd.snd.snd.snd.fst = false → (!x.fst.snd.snd.snd.snd.snd.fst) = true) ∧
 ((x.fst.snd.snd.snd.snd.snd.fst || x.fst.snd.snd.snd.snd.fst && !x.fst.snd.snd.snd.snd.fst) = true →
 (x.fst.snd.snd.snd.snd.snd.fst || x.fst.snd.snd.snd.snd.fst && !x.fst.snd.snd.snd.snd.fst) = true) ∧
 ((x.fst.snd.snd.snd.snd.snd.fst || x.fst.snd.snd.snd.snd.fst && !x.fst.snd.snd.snd.snd.fst) = true →
 (x.fst.snd.snd.snd.snd.snd.fst || x.fst.snd.snd.snd.snd.fst && !x.fst.snd.snd.snd.snd.fst) = true) ∧
 ((x.fst.snd.snd.snd.snd.snd.fst || x.fst.snd.snd.snd.snd.fst && !x.fst.snd.snd.snd.snd.fst) = true →
 (x.fst.snd.snd.snd.snd.snd.fst || x.fst.snd.snd.snd.snd.fst && !x.fst.snd.snd.snd.snd.fst) = true) ∧
 (((x.fst.snd.snd.snd.snd.snd.fst || x.fst.snd.snd.snd.snd.fst && !x.fst.snd.snd.snd.snd.fst) &&
 !x.fst.snd.snd.snd.fst) =
 true →
 (x.fst.fst, x.fst.snd.fst, x.fst.snd.snd.fst, x.fst.snd.snd.snd.fst, x.fst.snd.snd.snd.snd.fst, false,
 x.fst.snd.snd.snd.snd.snd.snd) =
 (cstep x.fst x.snd.fst).fst ∧
 true = (cstep x.fst x.snd.fst).snd) ∧
 (((x.fst.snd.snd.snd.snd.snd.fst || x.fst.snd.snd.snd.snd.fst && !x.fst.snd.snd.snd.snd.fst) &&
 !x.fst.snd.snd.snd.fst) =
 false →
 (x.fst.fst, x.fst.snd.fst, x.fst.snd.snd.fst, x.fst.snd.snd.snd.fst, x.fst.snd.snd.snd.snd.fst,
 x.fst.snd.snd.snd.snd.snd.fst || x.fst.snd.snd.snd.snd.fst && !x.fst.snd.snd.snd.snd.fst,
 x.fst.snd.snd.snd.snd.snd.snd) =
 (cstep x.fst x.snd.fst).fst ∧
 false = (cstep x.fst x.snd.fst).snd)))))))

theorem E_cstep_eq (x : HL (cCStep : Ctr).as) : vc (fx_cstep x) 1 63 Try.f63 (cCStep) x = E_cstep x := by kernel_rfl

def E_step (x : List (Int × Int × Bool × Bool × Bool × Bool × Bool) × (Int × Int) × Unit) : Prop :=
 Holds True ∧
 ((!right x.fst) = true →
 ([] : List (Int × Int × Bool × Bool × Bool × Bool × Bool)) = (step x.fst x.snd.fst.fst x.snd.fst.snd).fst ∧
 ([] : List (Int × Int × Int)) = (step x.fst x.snd.fst.fst x.snd.fst.snd).snd.fst ∧
 (1 : Int) = (step x.fst x.snd.fst.fst x.snd.fst.snd).snd.snd.fst) ∧
 ((!right x.fst) = false →
 ((!decide (x.snd.fst.fst < (1 : Int))) = true → (!decide (x.snd.fst.fst < (1 : Int))) = true) ∧
 ((!decide (x.snd.fst.fst < (1 : Int))) = true → (!decide (x.snd.fst.fst < (1 : Int))) = true) ∧
 (decide (x.snd.fst.fst < (1 : Int)) = false → (!decide (x.snd.fst.fst < (1 : Int))) = true) ∧
 ((decide (x.snd.fst.fst < (1 : Int)) || decide ((5 : Int) < x.snd.fst.fst)) = true →
 ([] : List (Int × Int × Bool × Bool × Bool × Bool × Bool)) = (step x.fst x.snd.fst.fst x.snd.fst.snd).fst ∧
 ([] : List (Int × Int × Int)) = (step x.fst x.snd.fst.fst x.snd.fst.snd).snd.fst ∧
 (5 : Int) = (step x.fst x.snd.fst.fst x.snd.fst.snd).snd.snd.fst) ∧
 ((decide (x.snd.fst.fst < (1 : Int)) || decide ((5 : Int) < x.snd.fst.fst)) = false →
 ((!decide (x.snd.fst.snd < (0 : Int))) = true → (!decide (x.snd.fst.snd < (0 : Int))) = true) ∧
 ((!decide (x.snd.fst.snd < (0 : Int))) = true → (!decide (x.snd.fst.snd < (0 : Int))) = true) ∧
 ((!decide (x.snd.fst.snd < (0 : Int))) = true →
 (!decide (x.snd.fst.snd < (0 : Int))) = true ∧ (!decide (x.snd.fst.snd < (0 : Int))) = true) ∧
 (decide (x.snd.fst.snd < (0 : Int)) = false → (!decide (x.snd.fst.snd < (0 : Int))) = true) ∧
 ((decide (x.snd.fst.snd < (0 : Int)) || decide ((↑x.fst.length : Int) ≤ x.snd.fst.snd)) = true →
 ([] : List (Int × Int × Bool × Bool × Bool × Bool × Bool)) = (step x.fst x.snd.fst.fst x.snd.fst.snd).fst ∧
 ([] : List (Int × Int × Int)) = (step x.fst x.snd.fst.fst x.snd.fst.snd).snd.fst ∧
 (3 : Int) = (step x.fst x.snd.fst.fst x.snd.fst.snd).snd.snd.fst) ∧
 ((decide (x.snd.fst.snd < (0 : Int)) || decide ((↑x.fst.length : Int) ≤ x.snd.fst.snd)) = false →
 Holds (x.fst.length * (24 : Nat) ≤ (140737488355328 : Nat)) ∧
 ((0 : Int) ≤ x.snd.fst.snd ∧ x.snd.fst.snd < (↑x.fst.length : Int)) ∧
 ((x.snd.fst.fst == (1 : Int)) = true → (x.snd.fst.fst == (1 : Int)) = true) ∧
 ((x.snd.fst.fst == (1 : Int)) = true → (x.snd.fst.fst == (1 : Int)) = true) ∧
 ((x.snd.fst.fst == (1 : Int)) = true → (x.snd.fst.fst == (1 : Int)) = true) ∧
 ((x.snd.fst.fst == (1 : Int)) = true → (x.snd.fst.fst == (1 : Int)) = true) ∧
 ((x.snd.fst.fst == (1 : Int)) = true → (x.snd.fst.fst == (1 : Int)) = true) ∧
 (((x.snd.fst.fst == (1 : Int)) = true →
 (x.fst.set x.snd.fst.snd.toNat
 ((x.fst.getD x.snd.fst.snd.toNat
 ((0 : Int), (0 : Int), false, false, false, false, false)).fst,
 (x.fst.getD x.snd.fst.snd.toNat
 ((0 : Int), (0 : Int), false, false, false, false, false)).snd.fst,
 (x.fst.getD x.snd.fst.snd.toNat
 ((0 : Int), (0 : Int), false, false, false, false, false)).snd.snd.fst,
 (x.fst.getD x.snd.fst.snd.toNat
 ((0 : Int), (0 : Int), false, false, false, false, false)).snd.snd.snd.fst,
 x.snd.fst.fst == (1 : Int),
 (x.fst.getD x.snd.fst.snd.toNat
 ((0 : Int), (0 : Int), false, false, false, false,
 false)).snd.snd.snd.snd.snd.fst,
 (x.fst.getD x.snd.fst.snd.toNat
 ((0 : Int), (0 : Int), false, false, false, false,
 false)).snd.snd.snd.snd.snd.snd) =
 x.fst.set x.snd.fst.snd.toNat (note (at_ x.fst x.snd.fst.snd) x.snd.fst.fst) ∧
 True) ∧
 ((True ∧ True) ∧
 True ∧
 ((True ∧ True ∧ True) ∧ x.snd.fst.snd.toNat = x.snd.fst.snd.toNat) ∧
 (x.snd.fst.fst == (1 : Int) &&
 !(x.fst.getD x.snd.fst.snd.toNat
 ((0 : Int), (0 : Int), false, false, false, false,
 false)).snd.snd.snd.snd.fst) =
 (x.snd.fst.fst == (1 : Int) &&
 !(x.fst.getD x.snd.fst.snd.toNat
 ((0 : Int), (0 : Int), false, false, false, false,
 false)).snd.snd.snd.snd.fst) ∧
 True) ∧
 (x.fst.set x.snd.fst.snd.toNat
 ((x.fst.getD x.snd.fst.snd.toNat
 ((0 : Int), (0 : Int), false, false, false, false, false)).fst,
 (x.fst.getD x.snd.fst.snd.toNat
 ((0 : Int), (0 : Int), false, false, false, false, false)).snd.fst,
 (x.fst.getD x.snd.fst.snd.toNat
 ((0 : Int), (0 : Int), false, false, false, false, false)).snd.snd.fst,
 (x.fst.getD x.snd.fst.snd.toNat
 ((0 : Int), (0 : Int), false, false, false, false, false)).snd.snd.snd.fst,
 x.snd.fst.fst == (1 : Int),
 (x.fst.getD x.snd.fst.snd.toNat
 ((0 : Int), (0 : Int), false, false, false, false,
 false)).snd.snd.snd.snd.snd.fst,
 (x.fst.getD x.snd.fst.snd.toNat
 ((0 : Int), (0 : Int), false, false, false, false,
 false)).snd.snd.snd.snd.snd.snd) =
 x.fst.set x.snd.fst.snd.toNat
 ((x.fst.getD x.snd.fst.snd.toNat
 ((0 : Int), (0 : Int), false, false, false, false, false)).fst,
 (x.fst.getD x.snd.fst.snd.toNat
 ((0 : Int), (0 : Int), false, false, false, false, false)).snd.fst,
 (x.fst.getD x.snd.fst.snd.toNat
 ((0 : Int), (0 : Int), false, false, false, false, false)).snd.snd.fst,
 (x.fst.getD x.snd.fst.snd.toNat
 ((0 : Int), (0 : Int), false, false, false, false, false)).snd.snd.snd.fst,
 x.snd.fst.fst == (1 : Int),
 (x.fst.getD x.snd.fst.snd.toNat
 ((0 : Int), (0 : Int), false, false, false, false,
 false)).snd.snd.snd.snd.snd.fst,
 (x.fst.getD x.snd.fst.snd.toNat
 ((0 : Int), (0 : Int), false, false, false, false,
 false)).snd.snd.snd.snd.snd.snd) ∧
 (x.snd.fst.fst = x.snd.fst.fst ∧ x.snd.fst.snd = x.snd.fst.snd ∧ True) ∧ True) ∧
 True) ∧
 ((x.snd.fst.fst == (1 : Int)) = false →
 ((x.snd.fst.fst == (2 : Int)) = true →
 (x.fst.set x.snd.fst.snd.toNat
 ((x.fst.getD x.snd.fst.snd.toNat
 ((0 : Int), (0 : Int), false, false, false, false, false)).fst,
 (x.fst.getD x.snd.fst.snd.toNat
 ((0 : Int), (0 : Int), false, false, false, false, false)).snd.fst,
 (x.fst.getD x.snd.fst.snd.toNat
 ((0 : Int), (0 : Int), false, false, false, false, false)).snd.snd.fst,
 (x.fst.getD x.snd.fst.snd.toNat
 ((0 : Int), (0 : Int), false, false, false, false, false)).snd.snd.snd.fst,
 x.snd.fst.fst == (1 : Int),
 (x.fst.getD x.snd.fst.snd.toNat
 ((0 : Int), (0 : Int), false, false, false, false,
 false)).snd.snd.snd.snd.snd.fst,
 (x.fst.getD x.snd.fst.snd.toNat
 ((0 : Int), (0 : Int), false, false, false, false,
 false)).snd.snd.snd.snd.snd.snd) =
 x.fst.set x.snd.fst.snd.toNat (note (at_ x.fst x.snd.fst.snd) x.snd.fst.fst) ∧
 True) ∧
 ((True ∧ True) ∧
 True ∧
 ((True ∧ True ∧ True) ∧ x.snd.fst.snd.toNat = x.snd.fst.snd.toNat) ∧
 (x.snd.fst.fst == (1 : Int) &&
 !(x.fst.getD x.snd.fst.snd.toNat
 ((0 : Int), (0 : Int), false, false, false, false,
 false)).snd.snd.snd.snd.fst) =
 (x.snd.fst.fst == (1 : Int) &&
 !(x.fst.getD x.snd.fst.snd.toNat
 ((0 : Int), (0 : Int), false, false, false, false,
 false)).snd.snd.snd.snd.fst) ∧
 True) ∧
 (x.fst.set x.snd.fst.snd.toNat
 ((x.fst.getD x.snd.fst.snd.toNat
 ((0 : Int), (0 : Int), false, false, false, false, false)).fst,
 (x.fst.getD x.snd.fst.snd.toNat
 ((0 : Int), (0 : Int), false, false, false, false, false)).snd.fst,
 (x.fst.getD x.snd.fst.snd.toNat
 ((0 : Int), (0 : Int), false, false, false, false, false)).snd.snd.fst,
 (x.fst.getD x.snd.fst.snd.toNat
 ((0 : Int), (0 : Int), false, false, false, false,
 false)).snd.snd.snd.fst,
 x.snd.fst.fst == (1 : Int),
 (x.fst.getD x.snd.fst.snd.toNat
 ((0 : Int), (0 : Int), false, false, false, false,
 false)).snd.snd.snd.snd.snd.fst,
 (x.fst.getD x.snd.fst.snd.toNat
 ((0 : Int), (0 : Int), false, false, false, false,
 false)).snd.snd.snd.snd.snd.snd) =
 x.fst.set x.snd.fst.snd.toNat
 ((x.fst.getD x.snd.fst.snd.toNat
 ((0 : Int), (0 : Int), false, false, false, false, false)).fst,
 (x.fst.getD x.snd.fst.snd.toNat
 ((0 : Int), (0 : Int), false, false, false, false, false)).snd.fst,
 (x.fst.getD x.snd.fst.snd.toNat
 ((0 : Int), (0 : Int), false, false, false, false, false)).snd.snd.fst,
 (x.fst.getD x.snd.fst.snd.toNat
 ((0 : Int), (0 : Int), false, false, false, false,
 false)).snd.snd.snd.fst,
 x.snd.fst.fst == (1 : Int),
 (x.fst.getD x.snd.fst.snd.toNat
 ((0 : Int), (0 : Int), false, false, false, false,
 false)).snd.snd.snd.snd.snd.fst,
 (x.fst.getD x.snd.fst.snd.toNat
 ((0 : Int), (0 : Int), false, false, false, false,
 false)).snd.snd.snd.snd.snd.snd) ∧
 (x.snd.fst.fst = x.snd.fst.fst ∧ x.snd.fst.snd = x.snd.fst.snd ∧ True) ∧ True) ∧
 True) ∧
 ((x.snd.fst.fst == (2 : Int)) = false →
 ((x.snd.fst.fst == (3 : Int)) = true →
 (x.fst.set x.snd.fst.snd.toNat
 ((x.fst.getD x.snd.fst.snd.toNat
 ((0 : Int), (0 : Int), false, false, false, false, false)).fst,
 (x.fst.getD x.snd.fst.snd.toNat
 ((0 : Int), (0 : Int), false, false, false, false, false)).snd.fst,
 (x.fst.getD x.snd.fst.snd.toNat
 ((0 : Int), (0 : Int), false, false, false, false, false)).snd.snd.fst,
 x.snd.fst.fst == (3 : Int),
 (x.fst.getD x.snd.fst.snd.toNat
 ((0 : Int), (0 : Int), false, false, false, false,
 false)).snd.snd.snd.snd.fst,
 (x.fst.getD x.snd.fst.snd.toNat
 ((0 : Int), (0 : Int), false, false, false, false,
 false)).snd.snd.snd.snd.snd.fst,
 (x.fst.getD x.snd.fst.snd.toNat
 ((0 : Int), (0 : Int), false, false, false, false,
 false)).snd.snd.snd.snd.snd.snd) =
 x.fst.set x.snd.fst.snd.toNat (note (at_ x.fst x.snd.fst.snd) x.snd.fst.fst) ∧
 True) ∧
 ((True ∧ True) ∧
 True ∧
 ((True ∧ True ∧ True) ∧ x.snd.fst.snd.toNat = x.snd.fst.snd.toNat) ∧
 (x.snd.fst.fst == (1 : Int) &&
 !(x.fst.getD x.snd.fst.snd.toNat
 ((0 : Int), (0 : Int), false, false, false, false,
 false)).snd.snd.snd.snd.fst) =
 (x.snd.fst.fst == (1 : Int) &&
 !(x.fst.getD x.snd.fst.snd.toNat
 ((0 : Int), (0 : Int), false, false, false, false,
 false)).snd.snd.snd.snd.fst) ∧
 True) ∧
 (x.fst.set x.snd.fst.snd.toNat
 ((x.fst.getD x.snd.fst.snd.toNat
 ((0 : Int), (0 : Int), false, false, false, false, false)).fst,
 (x.fst.getD x.snd.fst.snd.toNat
 ((0 : Int), (0 : Int), false, false, false, false, false)).snd.fst,
 (x.fst.getD x.snd.fst.snd.toNat
 ((0 : Int), (0 : Int), false, false, false, false, false)).snd.snd.fst,
 x.snd.fst.fst == (3 : Int),
 (x.fst.getD x.snd.fst.snd.toNat
 ((0 : Int), (0 : Int), false, false, false, false,
 false)).snd.snd.snd.snd.fst,
 (x.fst.getD x.snd.fst.snd.toNat
 ((0 : Int), (0 : Int), false, false, false, false,
 false)).snd.snd.snd.snd.snd.fst,
 (x.fst.getD x.snd.fst.snd.toNat
 ((0 : Int), (0 : Int), false, false, false, false,
 false)).snd.snd.snd.snd.snd.snd) =
 x.fst.set x.snd.fst.snd.toNat
 ((x.fst.getD x.snd.fst.snd.toNat
 ((0 : Int), (0 : Int), false, false, false, false, false)).fst,
 (x.fst.getD x.snd.fst.snd.toNat
 ((0 : Int), (0 : Int), false, false, false, false, false)).snd.fst,
 (x.fst.getD x.snd.fst.snd.toNat
 ((0 : Int), (0 : Int), false, false, false, false, false)).snd.snd.fst,
 x.snd.fst.fst == (3 : Int),
 (x.fst.getD x.snd.fst.snd.toNat
 ((0 : Int), (0 : Int), false, false, false, false,
 false)).snd.snd.snd.snd.fst,
 (x.fst.getD x.snd.fst.snd.toNat
 ((0 : Int), (0 : Int), false, false, false, false,
 false)).snd.snd.snd.snd.snd.fst,
 (x.fst.getD x.snd.fst.snd.toNat
 ((0 : Int), (0 : Int), false, false, false, false,
 false)).snd.snd.snd.snd.snd.snd) ∧
 (x.snd.fst.fst = x.snd.fst.fst ∧ x.snd.fst.snd = x.snd.fst.snd ∧ True) ∧ True) ∧
 True) ∧
 ((x.snd.fst.fst == (3 : Int)) = false →
 ((x.snd.fst.fst == (4 : Int)) = true →
 (x.fst.set x.snd.fst.snd.toNat
 ((x.fst.getD x.snd.fst.snd.toNat
 ((0 : Int), (0 : Int), false, false, false, false, false)).fst,
 (x.fst.getD x.snd.fst.snd.toNat
 ((0 : Int), (0 : Int), false, false, false, false, false)).snd.fst,
 (x.fst.getD x.snd.fst.snd.toNat
 ((0 : Int), (0 : Int), false, false, false, false, false)).snd.snd.fst,
 x.snd.fst.fst == (3 : Int),
 (x.fst.getD x.snd.fst.snd.toNat
 ((0 : Int), (0 : Int), false, false, false, false,
 false)).snd.snd.snd.snd.fst,
 (x.fst.getD x.snd.fst.snd.toNat
 ((0 : Int), (0 : Int), false, false, false, false,
 false)).snd.snd.snd.snd.snd.fst,
 (x.fst.getD x.snd.fst.snd.toNat
 ((0 : Int), (0 : Int), false, false, false, false,
 false)).snd.snd.snd.snd.snd.snd) =
 x.fst.set x.snd.fst.snd.toNat (note (at_ x.fst x.snd.fst.snd) x.snd.fst.fst) ∧
 True) ∧
 ((True ∧ True) ∧
 True ∧
 ((True ∧ True ∧ True) ∧ x.snd.fst.snd.toNat = x.snd.fst.snd.toNat) ∧
 (x.snd.fst.fst == (1 : Int) &&
 !(x.fst.getD x.snd.fst.snd.toNat
 ((0 : Int), (0 : Int), false, false, false, false,
 false)).snd.snd.snd.snd.fst) =
 (x.snd.fst.fst == (1 : Int) &&
 !(x.fst.getD x.snd.fst.snd.toNat
 ((0 : Int), (0 : Int), false, false, false, false,
 false)).snd.snd.snd.snd.fst) ∧
 True) ∧
 (x.fst.set x.snd.fst.snd.toNat
 ((x.fst.getD x.snd.fst.snd.toNat
 ((0 : Int), (0 : Int), false, false, false, false, false)).fst,
 (x.fst.getD x.snd.fst.snd.toNat
 ((0 : Int), (0 : Int), false, false, false, false, false)).snd.fst,
 (x.fst.getD x.snd.fst.snd.toNat
 ((0 : Int), (0 : Int), false, false, false, false,
 false)).snd.snd.fst,
 x.snd.fst.fst == (3 : Int),
 (x.fst.getD x.snd.fst.snd.toNat
 ((0 : Int), (0 : Int), false, false, false, false,
 false)).snd.snd.snd.snd.fst,
 (x.fst.getD x.snd.fst.snd.toNat
 ((0 : Int), (0 : Int), false, false, false, false,
 false)).snd.snd.snd.snd.snd.fst,
 (x.fst.getD x.snd.fst.snd.toNat
 ((0 : Int), (0 : Int), false, false, false, false,
 false)).snd.snd.snd.snd.snd.snd) =
 x.fst.set x.snd.fst.snd.toNat
 ((x.fst.getD x.snd.fst.snd.toNat
 ((0 : Int), (0 : Int), false, false, false, false, false)).fst,
 (x.fst.getD x.snd.fst.snd.toNat
 ((0 : Int), (0 : Int), false, false, false, false, false)).snd.fst,
 (x.fst.getD x.snd.fst.snd.toNat
 ((0 : Int), (0 : Int), false, false, false, false,
 false)).snd.snd.fst,
 x.snd.fst.fst == (3 : Int),
 (x.fst.getD x.snd.fst.snd.toNat
 ((0 : Int), (0 : Int), false, false, false, false,
 false)).snd.snd.snd.snd.fst,
 (x.fst.getD x.snd.fst.snd.toNat
 ((0 : Int), (0 : Int), false, false, false, false,
 false)).snd.snd.snd.snd.snd.fst,
 (x.fst.getD x.snd.fst.snd.toNat
 ((0 : Int), (0 : Int), false, false, false, false,
 false)).snd.snd.snd.snd.snd.snd) ∧
 (x.snd.fst.fst = x.snd.fst.fst ∧ x.snd.fst.snd = x.snd.fst.snd ∧ True) ∧ True) ∧
 True) ∧
 ((x.snd.fst.fst == (4 : Int)) = false →
 ((x.snd.fst.fst == (5 : Int)) = true →
 (x.fst.set x.snd.fst.snd.toNat
 ((x.fst.getD x.snd.fst.snd.toNat
 ((0 : Int), (0 : Int), false, false, false, false, false)).fst,
 (x.fst.getD x.snd.fst.snd.toNat
 ((0 : Int), (0 : Int), false, false, false, false, false)).snd.fst,
 (x.fst.getD x.snd.fst.snd.toNat
 ((0 : Int), (0 : Int), false, false, false, false,
 false)).snd.snd.fst,
 (x.fst.getD x.snd.fst.snd.toNat
 ((0 : Int), (0 : Int), false, false, false, false,
 false)).snd.snd.snd.fst,
 (x.fst.getD x.snd.fst.snd.toNat
 ((0 : Int), (0 : Int), false, false, false, false,
 false)).snd.snd.snd.snd.fst,
 (x.fst.getD x.snd.fst.snd.toNat
 ((0 : Int), (0 : Int), false, false, false, false,
 false)).snd.snd.snd.snd.snd.fst,
 false) =
 x.fst.set x.snd.fst.snd.toNat (note (at_ x.fst x.snd.fst.snd) x.snd.fst.fst) ∧
 True) ∧
 ((True ∧ True) ∧
 True ∧
 ((True ∧ True ∧ True) ∧ x.snd.fst.snd.toNat = x.snd.fst.snd.toNat) ∧
 (x.snd.fst.fst == (1 : Int) &&
 !(x.fst.getD x.snd.fst.snd.toNat
 ((0 : Int), (0 : Int), false, false, false, false,
 false)).snd.snd.snd.snd.fst) =
 (x.snd.fst.fst == (1 : Int) &&
 !(x.fst.getD x.snd.fst.snd.toNat
 ((0 : Int), (0 : Int), false, false, false, false,
 false)).snd.snd.snd.snd.fst) ∧
 True) ∧
 (x.fst.set x.snd.fst.snd.toNat
 ((x.fst.getD x.snd.fst.snd.toNat
 ((0 : Int), (0 : Int), false, false, false, false, false)).fst,
 (x.fst.getD x.snd.fst.snd.toNat
 ((0 : Int), (0 : Int), false, false, false, false,
 false)).snd.fst,
 (x.fst.getD x.snd.fst.snd.toNat
 ((0 : Int), (0 : Int), false, false, false, false,
 false)).snd.snd.fst,
 (x.fst.getD x.snd.fst.snd.toNat
 ((0 : Int), (0 : Int), false, false, false, false,
 false)).snd.snd.snd.fst,
 (x.fst.getD x.snd.fst.snd.toNat
 ((0 : Int), (0 : Int), false, false, false, false,
 false)).snd.snd.snd.snd.fst,
 (x.fst.getD x.snd.fst.snd.toNat
 ((0 : Int), (0 : Int), false, false, false, false,
 false)).snd.snd.snd.snd.snd.fst,
 false) =
 x.fst.set x.snd.fst.snd.toNat
 ((x.fst.getD x.snd.fst.snd.toNat
 ((0 : Int), (0 : Int), false, false, false, false, false)).fst,
 (x.fst.getD x.snd.fst.snd.toNat
 ((0 : Int), (0 : Int), false, false, false, false,
 false)).snd.fst,
 (x.fst.getD x.snd.fst.snd.toNat
 ((0 : Int), (0 : Int), false, false, false, false,
 false)).snd.snd.fst,
 (x.fst.getD x.snd.fst.snd.toNat
 ((0 : Int), (0 : Int), false, false, false, false,
 false)).snd.snd.snd.fst,
 (x.fst.getD x.snd.fst.snd.toNat
 ((0 : Int), (0 : Int), false, false, false, false,
 false)).snd.snd.snd.snd.fst,
 (x.fst.getD x.snd.fst.snd.toNat
 ((0 : Int), (0 : Int), false, false, false, false,
 false)).snd.snd.snd.snd.snd.fst,
 false) ∧
 (x.snd.fst.fst = x.snd.fst.fst ∧ x.snd.fst.snd = x.snd.fst.snd ∧ True) ∧
 True) ∧
 True) ∧
 ((x.snd.fst.fst == (5 : Int)) = false →
 (x.fst =
 x.fst.set x.snd.fst.snd.toNat (note (at_ x.fst x.snd.fst.snd) x.snd.fst.fst) ∧
 True) ∧
 ((True ∧ True) ∧
 True ∧
 ((True ∧ True ∧ True) ∧ x.snd.fst.snd.toNat = x.snd.fst.snd.toNat) ∧
 (x.snd.fst.fst == (1 : Int) &&
 !(x.fst.getD x.snd.fst.snd.toNat
 ((0 : Int), (0 : Int), false, false, false, false,
 false)).snd.snd.snd.snd.fst) =
 (x.snd.fst.fst == (1 : Int) &&
 !(x.fst.getD x.snd.fst.snd.toNat
 ((0 : Int), (0 : Int), false, false, false, false,
 false)).snd.snd.snd.snd.fst) ∧
 True) ∧
 (x.fst = x.fst ∧
 (x.snd.fst.fst = x.snd.fst.fst ∧ x.snd.fst.snd = x.snd.fst.snd ∧ True) ∧
 True) ∧
 True)))))) ∧
 ∀ (g : List (Int × Int × Bool × Bool × Bool × Bool × Bool) × Unit),
 g.fst = x.fst.set x.snd.fst.snd.toNat (note (at_ x.fst x.snd.fst.snd) x.snd.fst.fst) →
 (g.fst.length ≤ (9223372036854775807 : Nat) ∧
 ∀ (x : Int × Int × Bool × Bool × Bool × Bool × Bool),
 x ∈ g.fst →
 ((-9223372036854775808 : Int) ≤ x.fst ∧ x.fst ≤ (9223372036854775807 : Int)) ∧
 ((-9223372036854775808 : Int) ≤ x.snd.fst ∧ x.snd.fst ≤ (9223372036854775807 : Int)) ∧
 True ∧ True ∧ True ∧ True ∧ True) ∧
 True →
 ((g.fst.getD x.snd.fst.snd.toNat
 ((0 : Int), (0 : Int), false, false, false, false, false)).snd.snd.fst =
 true →
 ((g.fst.getD x.snd.fst.snd.toNat
 ((0 : Int), (0 : Int), false, false, false, false,
 false)).snd.snd.snd.snd.fst =
 true →
 (g.fst.getD x.snd.fst.snd.toNat
 ((0 : Int), (0 : Int), false, false, false, false,
 false)).snd.snd.snd.snd.fst =
 true) ∧
 ((g.fst.getD x.snd.fst.snd.toNat
 ((0 : Int), (0 : Int), false, false, false, false,
 false)).snd.snd.snd.snd.fst =
 true →
 (g.fst.getD x.snd.fst.snd.toNat
 ((0 : Int), (0 : Int), false, false, false, false,
 false)).snd.snd.snd.snd.fst =
 true) ∧
 ((g.fst.getD x.snd.fst.snd.toNat
 ((0 : Int), (0 : Int), false, false, false, false,
 false)).snd.snd.snd.snd.fst =
 true →
 (g.fst.getD x.snd.fst.snd.toNat
 ((0 : Int), (0 : Int), false, false, false, false,
 false)).snd.snd.snd.snd.fst =
 true) ∧
 ((g.fst.getD x.snd.fst.snd.toNat
 ((0 : Int), (0 : Int), false, false, false, false,
 false)).snd.snd.snd.snd.fst =
 true →
 (g.fst.getD x.snd.fst.snd.toNat
 ((0 : Int), (0 : Int), false, false, false, false,
 false)).snd.snd.snd.snd.fst =
 true) ∧
 ((g.fst.getD x.snd.fst.snd.toNat
 ((0 : Int), (0 : Int), false, false, false, false,
 false)).snd.snd.snd.snd.fst =
 true →
 (g.fst.getD x.snd.fst.snd.toNat
 ((0 : Int), (0 : Int), false, false, false, false,
 false)).snd.snd.snd.snd.fst =
 true) ∧
 (((g.fst.getD x.snd.fst.snd.toNat
 ((0 : Int), (0 : Int), false, false, false, false,
 false)).snd.snd.snd.snd.fst &&
 !(g.fst.getD x.snd.fst.snd.toNat
 ((0 : Int), (0 : Int), false, false, false, false,
 false)).snd.snd.snd.fst) =
 true →
 ((g.fst.getD x.snd.fst.snd.toNat
 ((0 : Int), (0 : Int), false, false, false, false,
 false)).snd.snd.snd.snd.fst &&
 !(g.fst.getD x.snd.fst.snd.toNat
 ((0 : Int), (0 : Int), false, false, false, false,
 false)).snd.snd.snd.fst) =
 true) ∧
 (((g.fst.getD x.snd.fst.snd.toNat
 ((0 : Int), (0 : Int), false, false, false, false,
 false)).snd.snd.snd.snd.fst &&
 !(g.fst.getD x.snd.fst.snd.toNat
 ((0 : Int), (0 : Int), false, false, false, false,
 false)).snd.snd.snd.fst) =
 true →
 ((g.fst.getD x.snd.fst.snd.toNat
 ((0 : Int), (0 : Int), false, false, false, false,
 false)).snd.snd.snd.snd.fst &&
 !(g.fst.getD x.snd.fst.snd.toNat
 ((0 : Int), (0 : Int), false, false, false, false,
 false)).snd.snd.snd.fst) =
 true) ∧
 (((g.fst.getD x.snd.fst.snd.toNat
 ((0 : Int), (0 : Int), false, false, false, false,
 false)).snd.snd.snd.snd.fst &&
 !(g.fst.getD x.snd.fst.snd.toNat
 ((0 : Int), (0 : Int), false, false, false, false,
 false)).snd.snd.snd.fst) =
 true →
 ((g.fst.getD x.snd.fst.snd.toNat
 ((0 : Int), (0 : Int), false, false, false, false,
 false)).snd.snd.snd.snd.fst &&
 !(g.fst.getD x.snd.fst.snd.toNat
 ((0 : Int), (0 : Int), false, false, false, false,
 false)).snd.snd.snd.fst) =
 true) ∧
 (((g.fst.getD x.snd.fst.snd.toNat
 ((0 : Int), (0 : Int), false, false, false, false,
 false)).snd.snd.snd.snd.fst &&
 !(g.fst.getD x.snd.fst.snd.toNat
 ((0 : Int), (0 : Int), false, false, false, false,
 false)).snd.snd.snd.fst) =
 true →
 ((g.fst.getD x.snd.fst.snd.toNat
 ((0 : Int), (0 : Int), false, false, false, false,
 false)).snd.snd.snd.snd.fst &&
 !(g.fst.getD x.snd.fst.snd.toNat
 ((0 : Int), (0 : Int), false, false, false, false,
 false)).snd.snd.snd.fst) =
 true) ∧
 (((g.fst.getD x.snd.fst.snd.toNat
 ((0 : Int), (0 : Int), false, false, false, false,
 false)).snd.snd.snd.snd.fst &&
 !(g.fst.getD x.snd.fst.snd.toNat
 ((0 : Int), (0 : Int), false, false, false, false,
 false)).snd.snd.snd.fst) =
 true →
 ((g.fst.getD x.snd.fst.snd.toNat
 ((0 : Int), (0 : Int), false, false, false, false,
 false)).snd.snd.snd.snd.fst &&
 !(g.fst.getD x.snd.fst.snd.toNat
 ((0 : Int), (0 : Int), false, false, false, false,
 false)).snd.snd.snd.fst) =
 true) ∧
 (((g.fst.getD x.snd.fst.snd.toNat
 ((0 : Int), (0 : Int), false, false, false, false,
 false)).snd.snd.snd.snd.fst &&
 !(g.fst.getD x.snd.fst.snd.toNat
 ((0 : Int), (0 : Int), false, false, false, false,
 false)).snd.snd.snd.fst &&
 !(g.fst.getD x.snd.fst.snd.toNat
 ((0 : Int), (0 : Int), false, false, false, false,
 false)).snd.snd.snd.snd.snd.snd) =
 true →
 g.fst.set x.snd.fst.snd.toNat
 ((g.fst.getD x.snd.fst.snd.toNat
 ((0 : Int), (0 : Int), false, false, false, false,
 false)).fst,
 (g.fst.getD x.snd.fst.snd.toNat
 ((0 : Int), (0 : Int), false, false, false, false,
 false)).snd.fst,
 (g.fst.getD x.snd.fst.snd.toNat
 ((0 : Int), (0 : Int), false, false, false, false,
 false)).snd.snd.fst,
 (g.fst.getD x.snd.fst.snd.toNat
 ((0 : Int), (0 : Int), false, false, false, false,
 false)).snd.snd.snd.fst,
 (g.fst.getD x.snd.fst.snd.toNat
 ((0 : Int), (0 : Int), false, false, false, false,
 false)).snd.snd.snd.snd.fst,
 (g.fst.getD x.snd.fst.snd.toNat
 ((0 : Int), (0 : Int), false, false, false, false,
 false)).snd.snd.snd.snd.snd.fst,
 true) =
 (step x.fst x.snd.fst.fst x.snd.fst.snd).fst ∧
 (((0 : Int), (0 : Int), (0 : Int)) ::
 ([] : List (Int × Int × Int))).set
 (0 : Nat)
 (x.snd.fst.snd,
 ((g.fst.set x.snd.fst.snd.toNat
 ((g.fst.getD x.snd.fst.snd.toNat
 ((0 : Int), (0 : Int), false, false, false,
 false, false)).fst,
 (g.fst.getD x.snd.fst.snd.toNat
 ((0 : Int), (0 : Int), false, false, false,
 false, false)).snd.fst,
 (g.fst.getD x.snd.fst.snd.toNat
 ((0 : Int), (0 : Int), false, false, false,
 false, false)).snd.snd.fst,
 (g.fst.getD x.snd.fst.snd.toNat
 ((0 : Int), (0 : Int), false, false,
 false, false, false)).snd.snd.snd.fst,
 (g.fst.getD x.snd.fst.snd.toNat
 ((0 : Int), (0 : Int), false, false,
 false, false,
 false)).snd.snd.snd.snd.fst,
 (g.fst.getD x.snd.fst.snd.toNat
 ((0 : Int), (0 : Int), false, false,
 false, false,
 false)).snd.snd.snd.snd.snd.fst,
 true)).getD
 x.snd.fst.snd.toNat
 ((0 : Int), (0 : Int), false, false, false, false,
 false)).fst,
 ((g.fst.set x.snd.fst.snd.toNat
 ((g.fst.getD x.snd.fst.snd.toNat
 ((0 : Int), (0 : Int), false, false, false,
 false, false)).fst,
 (g.fst.getD x.snd.fst.snd.toNat
 ((0 : Int), (0 : Int), false, false, false,
 false, false)).snd.fst,
 (g.fst.getD x.snd.fst.snd.toNat
 ((0 : Int), (0 : Int), false, false,
 false, false, false)).snd.snd.fst,
 (g.fst.getD x.snd.fst.snd.toNat
 ((0 : Int), (0 : Int), false, false,
 false, false, false)).snd.snd.snd.fst,
 (g.fst.getD x.snd.fst.snd.toNat
 ((0 : Int), (0 : Int), false, false,
 false, false,
 false)).snd.snd.snd.snd.fst,
 (g.fst.getD x.snd.fst.snd.toNat
 ((0 : Int), (0 : Int), false, false,
 false, false,
 false)).snd.snd.snd.snd.snd.fst,
 true)).getD
 x.snd.fst.snd.toNat
 ((0 : Int), (0 : Int), false, false, false, false,
 false)).snd.fst) =
 (step x.fst x.snd.fst.fst x.snd.fst.snd).snd.fst ∧
 (0 : Int) = (step x.fst x.snd.fst.fst x.snd.fst.snd).snd.snd.fst) ∧
 (((g.fst.getD x.snd.fst.snd.toNat
 ((0 : Int), (0 : Int), false, false, false, false,
 false)).snd.snd.snd.snd.fst &&
 !(g.fst.getD x.snd.fst.snd.toNat
 ((0 : Int), (0 : Int), false, false, false, false,
 false)).snd.snd.snd.fst &&
 !(g.fst.getD x.snd.fst.snd.toNat
 ((0 : Int), (0 : Int), false, false, false, false,
 false)).snd.snd.snd.snd.snd.snd) =
 false →
 g.fst = (step x.fst x.snd.fst.fst x.snd.fst.snd).fst ∧
 ([] : List (Int × Int × Int)) =
 (step x.fst x.snd.fst.fst x.snd.fst.snd).snd.fst ∧
 (0 : Int) = (step x.fst x.snd.fst.fst x.snd.fst.snd).snd.snd.fst)) ∧
 ((g.fst.getD x.snd.fst.snd.toNat
 ((0 : Int), (0 : Int), false, false, false, false, false)).snd.snd.fst =
 false →
 ((x.snd.fst.fst == (1 : Int) &&
 !(x.fst.getD x.snd.fst.snd.toNat
 ((0 : Int), (0 : Int), false, false, false, false,
 false)).snd.snd.snd.snd.fst) =
 true →
 (x.snd.fst.fst == (1 : Int) &&
 !(x.fst.getD x.snd.fst.snd.toNat
 ((0 : Int), (0 : Int), false, false, false, false,
 false)).snd.snd.snd.snd.fst) =
 true) ∧
 ((x.snd.fst.fst == (1 : Int) &&
 !(x.fst.getD x.snd.fst.snd.toNat
 ((0 : Int), (0 : Int), false, false, false, false,
 false)).snd.snd.snd.snd.fst) =
 true →
 (x.snd.fst.fst == (1 : Int) &&
 !(x.fst.getD x.snd.fst.snd.toNat
 ((0 : Int), (0 : Int), false, false, false, false,
 false)).snd.snd.snd.snd.fst) =
 true) ∧
 ((x.snd.fst.fst == (1 : Int) &&
 !(x.fst.getD x.snd.fst.snd.toNat
 ((0 : Int), (0 : Int), false, false, false, false,
 false)).snd.snd.snd.snd.fst) =
 true →
 (x.snd.fst.fst == (1 : Int) &&
 !(x.fst.getD x.snd.fst.snd.toNat
 ((0 : Int), (0 : Int), false, false, false, false,
 false)).snd.snd.snd.snd.fst) =
 true) ∧
 ((x.snd.fst.fst == (1 : Int) &&
 !(x.fst.getD x.snd.fst.snd.toNat
 ((0 : Int), (0 : Int), false, false, false, false,
 false)).snd.snd.snd.snd.fst) =
 true →
 (x.snd.fst.fst == (1 : Int) &&
 !(x.fst.getD x.snd.fst.snd.toNat
 ((0 : Int), (0 : Int), false, false, false, false,
 false)).snd.snd.snd.snd.fst) =
 true) ∧
 ((x.snd.fst.fst == (1 : Int) &&
 !(x.fst.getD x.snd.fst.snd.toNat
 ((0 : Int), (0 : Int), false, false, false, false,
 false)).snd.snd.snd.snd.fst &&
 (g.fst.getD x.snd.fst.snd.toNat
 ((0 : Int), (0 : Int), false, false, false, false,
 false)).snd.snd.snd.fst) =
 true →
 g.fst.set x.snd.fst.snd.toNat
 ((g.fst.getD x.snd.fst.snd.toNat
 ((0 : Int), (0 : Int), false, false, false, false, false)).fst,
 (g.fst.getD x.snd.fst.snd.toNat
 ((0 : Int), (0 : Int), false, false, false, false, false)).snd.fst,
 (g.fst.getD x.snd.fst.snd.toNat
 ((0 : Int), (0 : Int), false, false, false, false,
 false)).snd.snd.fst,
 (g.fst.getD x.snd.fst.snd.toNat
 ((0 : Int), (0 : Int), false, false, false, false,
 false)).snd.snd.snd.fst,
 (g.fst.getD x.snd.fst.snd.toNat
 ((0 : Int), (0 : Int), false, false, false, false,
 false)).snd.snd.snd.snd.fst,
 true,
 (g.fst.getD x.snd.fst.snd.toNat
 ((0 : Int), (0 : Int), false, false, false, false,
 false)).snd.snd.snd.snd.snd.snd) =
 (step x.fst x.snd.fst.fst x.snd.fst.snd).fst ∧
 ([] : List (Int × Int × Int)) = (step x.fst x.snd.fst.fst x.snd.fst.snd).snd.fst ∧
 (0 : Int) = (step x.fst x.snd.fst.fst x.snd.fst.snd).snd.snd.fst) ∧
 ((x.snd.fst.fst == (1 : Int) &&
 !(x.fst.getD x.snd.fst.snd.toNat
 ((0 : Int), (0 : Int), false, false, false, false,
 false)).snd.snd.snd.snd.fst &&
 (g.fst.getD x.snd.fst.snd.toNat
 ((0 : Int), (0 : Int), false, false, false, false,
 false)).snd.snd.snd.fst) =
 false →
 ((x.snd.fst.fst == (1 : Int) &&
 !(x.fst.getD x.snd.fst.snd.toNat
 ((0 : Int), (0 : Int), false, false, false, false,
 false)).snd.snd.snd.snd.fst) =
 true →
 g.fst.set x.snd.fst.snd.toNat
 ((g.fst.getD x.snd.fst.snd.toNat
 ((0 : Int), (0 : Int), false, false, false, false, false)).fst,
 (g.fst.getD x.snd.fst.snd.toNat
 ((0 : Int), (0 : Int), false, false, false, false,
 false)).snd.fst,
 (g.fst.getD x.snd.fst.snd.toNat
 ((0 : Int), (0 : Int), false, false, false, false,
 false)).snd.snd.fst,
 (g.fst.getD x.snd.fst.snd.toNat
 ((0 : Int), (0 : Int), false, false, false, false,
 false)).snd.snd.snd.fst,
 (g.fst.getD x.snd.fst.snd.toNat
 ((0 : Int), (0 : Int), false, false, false, false,
 false)).snd.snd.snd.snd.fst,
 false,
 (g.fst.getD x.snd.fst.snd.toNat
 ((0 : Int), (0 : Int), false, false, false, false,
 false)).snd.snd.snd.snd.snd.snd) =
 (step x.fst x.snd.fst.fst x.snd.fst.snd).fst ∧
 (((0 : Int), (0 : Int), (0 : Int)) :: ([] : List (Int × Int × Int))).set
 (0 : Nat)
 (x.snd.fst.snd,
 ((g.fst.set x.snd.fst.snd.toNat
 ((g.fst.getD x.snd.fst.snd.toNat
 ((0 : Int), (0 : Int), false, false, false, false,
 false)).fst,
 (g.fst.getD x.snd.fst.snd.toNat
 ((0 : Int), (0 : Int), false, false, false, false,
 false)).snd.fst,
 (g.fst.getD x.snd.fst.snd.toNat
 ((0 : Int), (0 : Int), false, false, false, false,
 false)).snd.snd.fst,
 (g.fst.getD x.snd.fst.snd.toNat
 ((0 : Int), (0 : Int), false, false, false, false,
 false)).snd.snd.snd.fst,
 (g.fst.getD x.snd.fst.snd.toNat
 ((0 : Int), (0 : Int), false, false, false,
 false, false)).snd.snd.snd.snd.fst,
 false,
 (g.fst.getD x.snd.fst.snd.toNat
 ((0 : Int), (0 : Int), false, false, false,
 false,
 false)).snd.snd.snd.snd.snd.snd)).getD
 x.snd.fst.snd.toNat
 ((0 : Int), (0 : Int), false, false, false, false, false)).fst,
 ((g.fst.set x.snd.fst.snd.toNat
 ((g.fst.getD x.snd.fst.snd.toNat
 ((0 : Int), (0 : Int), false, false, false, false,
 false)).fst,
 (g.fst.getD x.snd.fst.snd.toNat
 ((0 : Int), (0 : Int), false, false, false, false,
 false)).snd.fst,
 (g.fst.getD x.snd.fst.snd.toNat
 ((0 : Int), (0 : Int), false, false, false, false,
 false)).snd.snd.fst,
 (g.fst.getD x.snd.fst.snd.toNat
 ((0 : Int), (0 : Int), false, false, false,
 false, false)).snd.snd.snd.fst,
 (g.fst.getD x.snd.fst.snd.toNat
 ((0 : Int), (0 : Int), false, false, false,
 false, false)).snd.snd.snd.snd.fst,
 false,
 (g.fst.getD x.snd.fst.snd.toNat
 ((0 : Int), (0 : Int), false, false, false,
 false,
 false)).snd.snd.snd.snd.snd.snd)).getD
 x.snd.fst.snd.toNat
 ((0 : Int), (0 : Int), false, false, false, false,
 false)).snd.fst) =
 (step x.fst x.snd.fst.fst x.snd.fst.snd).snd.fst ∧
 (0 : Int) = (step x.fst x.snd.fst.fst x.snd.fst.snd).snd.snd.fst) ∧
 ((x.snd.fst.fst == (1 : Int) &&
 !(x.fst.getD x.snd.fst.snd.toNat
 ((0 : Int), (0 : Int), false, false, false, false,
 false)).snd.snd.snd.snd.fst) =
 false →
 ((g.fst.getD x.snd.fst.snd.toNat
 ((0 : Int), (0 : Int), false, false, false, false,
 false)).snd.snd.snd.snd.snd.fst =
 true →
 (g.fst.getD x.snd.fst.snd.toNat
 ((0 : Int), (0 : Int), false, false, false, false,
 false)).snd.snd.snd.snd.snd.fst =
 true) ∧
 ((g.fst.getD x.snd.fst.snd.toNat
 ((0 : Int), (0 : Int), false, false, false, false,
 false)).snd.snd.snd.snd.snd.fst =
 true →
 (g.fst.getD x.snd.fst.snd.toNat
 ((0 : Int), (0 : Int), false, false, false, false,
 false)).snd.snd.snd.snd.snd.fst =
 true) ∧
 ((g.fst.getD x.snd.fst.snd.toNat
 ((0 : Int), (0 : Int), false, false, false, false,
 false)).snd.snd.snd.snd.snd.fst =
 true →
 (g.fst.getD x.snd.fst.snd.toNat
 ((0 : Int), (0 : Int), false, false, false, false,
 false)).snd.snd.snd.snd.snd.fst =
 true) ∧
 ((g.fst.getD x.snd.fst.snd.toNat
 ((0 : Int), (0 : Int), false, false, false, false,
 false)).snd.snd.snd.snd.snd.fst =
 true →
 (g.fst.getD x.snd.fst.snd.toNat
 ((0 : Int), (0 : Int), false, false, false, false,
 false)).snd.snd.snd.snd.snd.fst =
 true) ∧
 ((g.fst.getD x.snd.fst.snd.toNat
 ((0 : Int), (0 : Int), false, false, false, false,
 false)).snd.snd.snd.snd.snd.fst =
 true →
 (g.fst.getD x.snd.fst.snd.toNat
 ((0 : Int), (0 : Int), false, false, false, false,
 false)).snd.snd.snd.snd.snd.fst =
 true) ∧
 (((g.fst.getD x.snd.fst.snd.toNat
 ((0 : Int), (0 : Int), false, false, false,
 false, false)).snd.snd.snd.snd.snd.fst &&
 !(g.fst.getD x.snd.fst.snd.toNat
 ((0 : Int), (0 : Int), false, false, false, false,
 false)).snd.snd.snd.fst) =
 true →
 g.fst.set x.snd.fst.snd.toNat
 ((g.fst.getD x.snd.fst.snd.toNat
 ((0 : Int), (0 : Int), false, false, false, false,
 false)).fst,
 (g.fst.getD x.snd.fst.snd.toNat
 ((0 : Int), (0 : Int), false, false, false, false,
 false)).snd.fst,
 (g.fst.getD x.snd.fst.snd.toNat
 ((0 : Int), (0 : Int), false, false, false, false,
 false)).snd.snd.fst,
 (g.fst.getD x.snd.fst.snd.toNat
 ((0 : Int), (0 : Int), false, false, false,
 false, false)).snd.snd.snd.fst,
 (g.fst.getD x.snd.fst.snd.toNat
 ((0 : Int), (0 : Int), false, false, false,
 false, false)).snd.snd.snd.snd.fst,
 false,
 (g.fst.getD x.snd.fst.snd.toNat
 ((0 : Int), (0 : Int), false, false, false,
 false, false)).snd.snd.snd.snd.snd.snd) =
 (step x.fst x.snd.fst.fst x.snd.fst.snd).fst ∧
 (((0 : Int), (0 : Int), (0 : Int)) ::
 ([] : List (Int × Int × Int))).set
 (0 : Nat)
 (x.snd.fst.snd,
 ((g.fst.set x.snd.fst.snd.toNat
 ((g.fst.getD x.snd.fst.snd.toNat
 ((0 : Int), (0 : Int), false, false,
 false, false, false)).fst,
 (g.fst.getD x.snd.fst.snd.toNat
 ((0 : Int), (0 : Int), false, false,
 false, false, false)).snd.fst,
 (g.fst.getD x.snd.fst.snd.toNat
 ((0 : Int), (0 : Int), false, false,
 false, false, false)).snd.snd.fst,
 (g.fst.getD x.snd.fst.snd.toNat
 ((0 : Int), (0 : Int), false, false,
 false, false,
 false)).snd.snd.snd.fst,
 (g.fst.getD x.snd.fst.snd.toNat
 ((0 : Int), (0 : Int), false,
 false, false, false,
 false)).snd.snd.snd.snd.fst,
 false,
 (g.fst.getD x.snd.fst.snd.toNat
 ((0 : Int), (0 : Int), false,
 false, false, false,
 false)).snd.snd.snd.snd.snd.snd)).getD
 x.snd.fst.snd.toNat
 ((0 : Int), (0 : Int), false, false, false, false,
 false)).fst,
 ((g.fst.set x.snd.fst.snd.toNat
 ((g.fst.getD x.snd.fst.snd.toNat
 ((0 : Int), (0 : Int), false, false,
 false, false, false)).fst,
 (g.fst.getD x.snd.fst.snd.toNat
 ((0 : Int), (0 : Int), false, false,
 false, false, false)).snd.fst,
 (g.fst.getD x.snd.fst.snd.toNat
 ((0 : Int), (0 : Int), false, false,
 false, false, false)).snd.snd.fst,
 (g.fst.getD x.snd.fst.snd.toNat
 ((0 : Int), (0 : Int), false,
 false, false, false,
 false)).snd.snd.snd.fst,
 (g.fst.getD x.snd.fst.snd.toNat
 ((0 : Int), (0 : Int), false,
 false, false, false,
 false)).snd.snd.snd.snd.fst,
 false,
 (g.fst.getD x.snd.fst.snd.toNat
 ((0 : Int), (0 : Int), false,
 false, false, false,
 false)).snd.snd.snd.snd.snd.snd)).getD
 x.snd.fst.snd.toNat
 ((0 : Int), (0 : Int), false, false, false, false,
 false)).snd.fst) =
 (step x.fst x.snd.fst.fst x.snd.fst.snd).snd.fst ∧
 (0 : Int) =
 (step x.fst x.snd.fst.fst x.snd.fst.snd).snd.snd.fst) ∧
 (((g.fst.getD x.snd.fst.snd.toNat
 ((0 : Int), (0 : Int), false, false, false,
 false, false)).snd.snd.snd.snd.snd.fst &&
 !(g.fst.getD x.snd.fst.snd.toNat
 ((0 : Int), (0 : Int), false, false, false, false,
 false)).snd.snd.snd.fst) =
 false →
 g.fst = (step x.fst x.snd.fst.fst x.snd.fst.snd).fst ∧
 ([] : List (Int × Int × Int)) =
 (step x.fst x.snd.fst.fst x.snd.fst.snd).snd.fst ∧
 (0 : Int) =
 (step x.fst x.snd.fst.fst x.snd.fst.snd).snd.snd.fst)))))))

theorem E_step_eq (x : HL (cStep : Ctr).as) : vc (fx_step x) 2 26 Try.f26 (cStep) x = E_step x := by kernel_rfl

def E_cplay (x : List (Int × Int × Bool × Bool × Bool × Bool × Bool) × List (Int × Int) × Unit) : Prop :=
 (([] : List (Int × Int × Bool × Bool × Bool × Bool × Bool)).length + x.fst.length ≤ (9223372036854775807 : Nat) ∧
 (([] : List (Int × Int × Bool × Bool × Bool × Bool × Bool)).length + x.fst.length +
 (([] : List (Int × Int × Bool × Bool × Bool × Bool × Bool)).length + x.fst.length) / (4 : Nat) +
 (192 : Nat)) *
 (24 : Nat) ≤
 (281474976710656 : Nat)) ∧
 ((((0 : Int) ≤ (0 : Int) ∧
 (0 : Int) ≤ (↑x.snd.fst.length : Int) ∧
 play x.fst (List.take (Int.toNat (0 : Int)) x.snd.fst) =
 (([] : List (Int × Int × Bool × Bool × Bool × Bool × Bool)) ++ x.fst, ([] : List (Int × Int × Int))) ∧
 (↑([] : List (Int × Int × Int)).length : Int) ≤ (0 : Int)) ∧
 True) ∧
 (True ∧ True ∧ x.snd.fst = x.snd.fst ∧ (↑x.snd.fst.length : Int) = (↑x.snd.fst.length : Int) ∧ (0 : Int) = (0 : Int) ∧ True) ∧
 (([] : List (Int × Int × Bool × Bool × Bool × Bool × Bool)) ++ x.fst = ([] : List (Int × Int × Bool × Bool × Bool × Bool × Bool)) ++ x.fst ∧
 ([] : List (Int × Int × Int)) = ([] : List (Int × Int × Int)) ∧ True) ∧
 True) ∧
 ∀ (g : List (Int × Int × Bool × Bool × Bool × Bool × Bool) × List (Int × Int × Int) × Int × Unit),
 (0 : Int) ≤ g.snd.snd.fst ∧
 g.snd.snd.fst ≤ (↑x.snd.fst.length : Int) ∧
 play x.fst (List.take g.snd.snd.fst.toNat x.snd.fst) = (g.fst, g.snd.fst) ∧ (↑g.snd.fst.length : Int) ≤ g.snd.snd.fst →
 (g.fst.length ≤ (9223372036854775807 : Nat) ∧
 ∀ (x : Int × Int × Bool × Bool × Bool × Bool × Bool),
 x ∈ g.fst →
 ((-9223372036854775808 : Int) ≤ x.fst ∧ x.fst ≤ (9223372036854775807 : Int)) ∧
 ((-9223372036854775808 : Int) ≤ x.snd.fst ∧ x.snd.fst ≤ (9223372036854775807 : Int)) ∧ True ∧ True ∧ True ∧ True ∧ True) ∧
 (g.snd.fst.length ≤ (9223372036854775807 : Nat) ∧
 ∀ (x : Int × Int × Int),
 x ∈ g.snd.fst →
 ((-9223372036854775808 : Int) ≤ x.fst ∧ x.fst ≤ (9223372036854775807 : Int)) ∧
 ((-9223372036854775808 : Int) ≤ x.snd.fst ∧ x.snd.fst ≤ (9223372036854775807 : Int)) ∧
 (-9223372036854775808 : Int) ≤ x.snd.snd ∧ x.snd.snd ≤ (9223372036854775807 : Int)) ∧
 ((-9223372036854775808 : Int) ≤ g.snd.snd.fst ∧ g.snd.snd.fst ≤ (9223372036854775807 : Int)) ∧ True →
 (decide (g.snd.snd.fst < (↑x.snd.fst.length : Int)) = true →
 ((0 : Int) ≤ g.snd.snd.fst ∧ g.snd.snd.fst < (↑x.snd.fst.length : Int)) ∧
 ((!decide ((x.snd.fst.getD g.snd.snd.fst.toNat ((0 : Int), (0 : Int))).fst < (1 : Int))) = true →
 (!decide ((x.snd.fst.getD g.snd.snd.fst.toNat ((0 : Int), (0 : Int))).fst < (1 : Int))) = true) ∧
 ((!decide ((x.snd.fst.getD g.snd.snd.fst.toNat ((0 : Int), (0 : Int))).fst < (1 : Int))) = true →
 (!decide ((x.snd.fst.getD g.snd.snd.fst.toNat ((0 : Int), (0 : Int))).fst < (1 : Int))) = true) ∧
 (decide ((x.snd.fst.getD g.snd.snd.fst.toNat ((0 : Int), (0 : Int))).fst < (1 : Int)) = false →
 (!decide ((x.snd.fst.getD g.snd.snd.fst.toNat ((0 : Int), (0 : Int))).fst < (1 : Int))) = true) ∧
 ((!(decide ((x.snd.fst.getD g.snd.snd.fst.toNat ((0 : Int), (0 : Int))).fst < (1 : Int)) ||
 decide ((5 : Int) < (x.snd.fst.getD g.snd.snd.fst.toNat ((0 : Int), (0 : Int))).fst))) =
 true →
 (!(decide ((x.snd.fst.getD g.snd.snd.fst.toNat ((0 : Int), (0 : Int))).fst < (1 : Int)) ||
 decide ((5 : Int) < (x.snd.fst.getD g.snd.snd.fst.toNat ((0 : Int), (0 : Int))).fst))) =
 true) ∧
 ((!(decide ((x.snd.fst.getD g.snd.snd.fst.toNat ((0 : Int), (0 : Int))).fst < (1 : Int)) ||
 decide ((5 : Int) < (x.snd.fst.getD g.snd.snd.fst.toNat ((0 : Int), (0 : Int))).fst))) =
 true →
 (!(decide ((x.snd.fst.getD g.snd.snd.fst.toNat ((0 : Int), (0 : Int))).fst < (1 : Int)) ||
 decide ((5 : Int) < (x.snd.fst.getD g.snd.snd.fst.toNat ((0 : Int), (0 : Int))).fst))) =
 true) ∧
 ((decide ((x.snd.fst.getD g.snd.snd.fst.toNat ((0 : Int), (0 : Int))).fst < (1 : Int)) ||
 decide ((5 : Int) < (x.snd.fst.getD g.snd.snd.fst.toNat ((0 : Int), (0 : Int))).fst)) =
 false →
 (!(decide ((x.snd.fst.getD g.snd.snd.fst.toNat ((0 : Int), (0 : Int))).fst < (1 : Int)) ||
 decide ((5 : Int) < (x.snd.fst.getD g.snd.snd.fst.toNat ((0 : Int), (0 : Int))).fst))) =
 true) ∧
 ((!(decide ((x.snd.fst.getD g.snd.snd.fst.toNat ((0 : Int), (0 : Int))).fst < (1 : Int)) ||
 decide ((5 : Int) < (x.snd.fst.getD g.snd.snd.fst.toNat ((0 : Int), (0 : Int))).fst) ||
 decide ((x.snd.fst.getD g.snd.snd.fst.toNat ((0 : Int), (0 : Int))).snd < (0 : Int)))) =
 true →
 (!(decide ((x.snd.fst.getD g.snd.snd.fst.toNat ((0 : Int), (0 : Int))).fst < (1 : Int)) ||
 decide ((5 : Int) < (x.snd.fst.getD g.snd.snd.fst.toNat ((0 : Int), (0 : Int))).fst) ||
 decide ((x.snd.fst.getD g.snd.snd.fst.toNat ((0 : Int), (0 : Int))).snd < (0 : Int)))) =
 true) ∧
 ((!(decide ((x.snd.fst.getD g.snd.snd.fst.toNat ((0 : Int), (0 : Int))).fst < (1 : Int)) ||
 decide ((5 : Int) < (x.snd.fst.getD g.snd.snd.fst.toNat ((0 : Int), (0 : Int))).fst) ||
 decide ((x.snd.fst.getD g.snd.snd.fst.toNat ((0 : Int), (0 : Int))).snd < (0 : Int)))) =
 true →
 (!(decide ((x.snd.fst.getD g.snd.snd.fst.toNat ((0 : Int), (0 : Int))).fst < (1 : Int)) ||
 decide ((5 : Int) < (x.snd.fst.getD g.snd.snd.fst.toNat ((0 : Int), (0 : Int))).fst) ||
 decide ((x.snd.fst.getD g.snd.snd.fst.toNat ((0 : Int), (0 : Int))).snd < (0 : Int)))) =
 true) ∧
 ((!(decide ((x.snd.fst.getD g.snd.snd.fst.toNat ((0 : Int), (0 : Int))).fst < (1 : Int)) ||
 decide ((5 : Int) < (x.snd.fst.getD g.snd.snd.fst.toNat ((0 : Int), (0 : Int))).fst) ||
 decide ((x.snd.fst.getD g.snd.snd.fst.toNat ((0 : Int), (0 : Int))).snd < (0 : Int)))) =
 true →
 (!(decide ((x.snd.fst.getD g.snd.snd.fst.toNat ((0 : Int), (0 : Int))).fst < (1 : Int)) ||
 decide ((5 : Int) < (x.snd.fst.getD g.snd.snd.fst.toNat ((0 : Int), (0 : Int))).fst) ||
 decide ((x.snd.fst.getD g.snd.snd.fst.toNat ((0 : Int), (0 : Int))).snd < (0 : Int)))) =
 true ∧
 (!(decide ((x.snd.fst.getD g.snd.snd.fst.toNat ((0 : Int), (0 : Int))).fst < (1 : Int)) ||
 decide ((5 : Int) < (x.snd.fst.getD g.snd.snd.fst.toNat ((0 : Int), (0 : Int))).fst) ||
 decide ((x.snd.fst.getD g.snd.snd.fst.toNat ((0 : Int), (0 : Int))).snd < (0 : Int)))) =
 true) ∧
 ((decide ((x.snd.fst.getD g.snd.snd.fst.toNat ((0 : Int), (0 : Int))).fst < (1 : Int)) ||
 decide ((5 : Int) < (x.snd.fst.getD g.snd.snd.fst.toNat ((0 : Int), (0 : Int))).fst) ||
 decide ((x.snd.fst.getD g.snd.snd.fst.toNat ((0 : Int), (0 : Int))).snd < (0 : Int))) =
 false →
 (!(decide ((x.snd.fst.getD g.snd.snd.fst.toNat ((0 : Int), (0 : Int))).fst < (1 : Int)) ||
 decide ((5 : Int) < (x.snd.fst.getD g.snd.snd.fst.toNat ((0 : Int), (0 : Int))).fst) ||
 decide ((x.snd.fst.getD g.snd.snd.fst.toNat ((0 : Int), (0 : Int))).snd < (0 : Int)))) =
 true) ∧
 ((decide ((x.snd.fst.getD g.snd.snd.fst.toNat ((0 : Int), (0 : Int))).fst < (1 : Int)) ||
 decide ((5 : Int) < (x.snd.fst.getD g.snd.snd.fst.toNat ((0 : Int), (0 : Int))).fst) ||
 decide ((x.snd.fst.getD g.snd.snd.fst.toNat ((0 : Int), (0 : Int))).snd < (0 : Int)) ||
 decide ((↑g.fst.length : Int) ≤ (x.snd.fst.getD g.snd.snd.fst.toNat ((0 : Int), (0 : Int))).snd)) =
 true →
 ((-9223372036854775808 : Int) ≤ g.snd.snd.fst + (1 : Int) ∧
 g.snd.snd.fst + (1 : Int) ≤ (9223372036854775807 : Int)) ∧
 (((0 : Int) ≤ g.snd.snd.fst + (1 : Int) ∧
 g.snd.snd.fst + (1 : Int) ≤ (↑x.snd.fst.length : Int) ∧
 play x.fst (List.take (g.snd.snd.fst + (1 : Int)).toNat x.snd.fst) = (g.fst, g.snd.fst) ∧
 (↑g.snd.fst.length : Int) ≤ g.snd.snd.fst + (1 : Int)) ∧
 ((↑x.snd.fst.length : Int) - (g.snd.snd.fst + (1 : Int))).toNat <
 ((↑x.snd.fst.length : Int) - g.snd.snd.fst).toNat) ∧
 (True ∧
 True ∧
 x.snd.fst = x.snd.fst ∧
 (↑x.snd.fst.length : Int) = (↑x.snd.fst.length : Int) ∧
 g.snd.snd.fst + (1 : Int) = g.snd.snd.fst + (1 : Int) ∧ True) ∧
 (g.fst = g.fst ∧ g.snd.fst = g.snd.fst ∧ True) ∧ True) ∧
 ((decide ((x.snd.fst.getD g.snd.snd.fst.toNat ((0 : Int), (0 : Int))).fst < (1 : Int)) ||
 decide ((5 : Int) < (x.snd.fst.getD g.snd.snd.fst.toNat ((0 : Int), (0 : Int))).fst) ||
 decide ((x.snd.fst.getD g.snd.snd.fst.toNat ((0 : Int), (0 : Int))).snd < (0 : Int)) ||
 decide ((↑g.fst.length : Int) ≤ (x.snd.fst.getD g.snd.snd.fst.toNat ((0 : Int), (0 : Int))).snd)) =
 false →
 ((0 : Int) ≤ (x.snd.fst.getD g.snd.snd.fst.toNat ((0 : Int), (0 : Int))).snd ∧
 (x.snd.fst.getD g.snd.snd.fst.toNat ((0 : Int), (0 : Int))).snd < (↑g.fst.length : Int)) ∧
 Holds True ∧
 ((0 : Int) ≤ (x.snd.fst.getD g.snd.snd.fst.toNat ((0 : Int), (0 : Int))).snd ∧
 (x.snd.fst.getD g.snd.snd.fst.toNat ((0 : Int), (0 : Int))).snd < (↑g.fst.length : Int)) ∧
 ((cstep
 ((g.fst.getD (x.snd.fst.getD g.snd.snd.fst.toNat ((0 : Int), (0 : Int))).snd.toNat
 ((0 : Int), (0 : Int), false, false, false, false, false)).fst,
 (g.fst.getD (x.snd.fst.getD g.snd.snd.fst.toNat ((0 : Int), (0 : Int))).snd.toNat
 ((0 : Int), (0 : Int), false, false, false, false, false)).snd.fst,
 (g.fst.getD (x.snd.fst.getD g.snd.snd.fst.toNat ((0 : Int), (0 : Int))).snd.toNat
 ((0 : Int), (0 : Int), false, false, false, false, false)).snd.snd.fst,
 (g.fst.getD (x.snd.fst.getD g.snd.snd.fst.toNat ((0 : Int), (0 : Int))).snd.toNat
 ((0 : Int), (0 : Int), false, false, false, false, false)).snd.snd.snd.fst,
 (g.fst.getD (x.snd.fst.getD g.snd.snd.fst.toNat ((0 : Int), (0 : Int))).snd.toNat
 ((0 : Int), (0 : Int), false, false, false, false, false)).snd.snd.snd.snd.fst,
 (g.fst.getD (x.snd.fst.getD g.snd.snd.fst.toNat ((0 : Int), (0 : Int))).snd.toNat
 ((0 : Int), (0 : Int), false, false, false, false,
 false)).snd.snd.snd.snd.snd.fst,
 (g.fst.getD (x.snd.fst.getD g.snd.snd.fst.toNat ((0 : Int), (0 : Int))).snd.toNat
 ((0 : Int), (0 : Int), false, false, false, false,
 false)).snd.snd.snd.snd.snd.snd)
 (x.snd.fst.getD g.snd.snd.fst.toNat ((0 : Int), (0 : Int))).fst).snd =
 true →
 (g.snd.fst.length +
 ((((0 : Int), (0 : Int), (0 : Int)) :: ([] : List (Int × Int × Int))).set (0 : Nat)
 ((x.snd.fst.getD g.snd.snd.fst.toNat ((0 : Int), (0 : Int))).snd,
 (cstep
 ((g.fst.getD
 (x.snd.fst.getD g.snd.snd.fst.toNat ((0 : Int), (0 : Int))).snd.toNat
 ((0 : Int), (0 : Int), false, false, false, false, false)).fst,
 (g.fst.getD
 (x.snd.fst.getD g.snd.snd.fst.toNat ((0 : Int), (0 : Int))).snd.toNat
 ((0 : Int), (0 : Int), false, false, false, false, false)).snd.fst,
 (g.fst.getD
 (x.snd.fst.getD g.snd.snd.fst.toNat ((0 : Int), (0 : Int))).snd.toNat
 ((0 : Int), (0 : Int), false, false, false, false,
 false)).snd.snd.fst,
 (g.fst.getD
 (x.snd.fst.getD g.snd.snd.fst.toNat
 ((0 : Int), (0 : Int))).snd.toNat
 ((0 : Int), (0 : Int), false, false, false, false,
 false)).snd.snd.snd.fst,
 (g.fst.getD
 (x.snd.fst.getD g.snd.snd.fst.toNat
 ((0 : Int), (0 : Int))).snd.toNat
 ((0 : Int), (0 : Int), false, false, false, false,
 false)).snd.snd.snd.snd.fst,
 (g.fst.getD
 (x.snd.fst.getD g.snd.snd.fst.toNat
 ((0 : Int), (0 : Int))).snd.toNat
 ((0 : Int), (0 : Int), false, false, false, false,
 false)).snd.snd.snd.snd.snd.fst,
 (g.fst.getD
 (x.snd.fst.getD g.snd.snd.fst.toNat
 ((0 : Int), (0 : Int))).snd.toNat
 ((0 : Int), (0 : Int), false, false, false, false,
 false)).snd.snd.snd.snd.snd.snd)
 (x.snd.fst.getD g.snd.snd.fst.toNat ((0 : Int), (0 : Int))).fst).fst.fst,
 (cstep
 ((g.fst.getD
 (x.snd.fst.getD g.snd.snd.fst.toNat ((0 : Int), (0 : Int))).snd.toNat
 ((0 : Int), (0 : Int), false, false, false, false, false)).fst,
 (g.fst.getD
 (x.snd.fst.getD g.snd.snd.fst.toNat ((0 : Int), (0 : Int))).snd.toNat
 ((0 : Int), (0 : Int), false, false, false, false, false)).snd.fst,
 (g.fst.getD
 (x.snd.fst.getD g.snd.snd.fst.toNat
 ((0 : Int), (0 : Int))).snd.toNat
 ((0 : Int), (0 : Int), false, false, false, false,
 false)).snd.snd.fst,
 (g.fst.getD
 (x.snd.fst.getD g.snd.snd.fst.toNat
 ((0 : Int), (0 : Int))).snd.toNat
 ((0 : Int), (0 : Int), false, false, false, false,
 false)).snd.snd.snd.fst,
 (g.fst.getD
 (x.snd.fst.getD g.snd.snd.fst.toNat
 ((0 : Int), (0 : Int))).snd.toNat
 ((0 : Int), (0 : Int), false, false, false, false,
 false)).snd.snd.snd.snd.fst,
 (g.fst.getD
 (x.snd.fst.getD g.snd.snd.fst.toNat
 ((0 : Int), (0 : Int))).snd.toNat
 ((0 : Int), (0 : Int), false, false, false, false,
 false)).snd.snd.snd.snd.snd.fst,
 (g.fst.getD
 (x.snd.fst.getD g.snd.snd.fst.toNat
 ((0 : Int), (0 : Int))).snd.toNat
 ((0 : Int), (0 : Int), false, false, false, false,
 false)).snd.snd.snd.snd.snd.snd)
 (x.snd.fst.getD g.snd.snd.fst.toNat
 ((0 : Int), (0 : Int))).fst).fst.snd.fst)).length ≤
 (9223372036854775807 : Nat) ∧
 (g.snd.fst.length +
 ((((0 : Int), (0 : Int), (0 : Int)) :: ([] : List (Int × Int × Int))).set (0 : Nat)
 ((x.snd.fst.getD g.snd.snd.fst.toNat ((0 : Int), (0 : Int))).snd,
 (cstep
 ((g.fst.getD
 (x.snd.fst.getD g.snd.snd.fst.toNat
 ((0 : Int), (0 : Int))).snd.toNat
 ((0 : Int), (0 : Int), false, false, false, false, false)).fst,
 (g.fst.getD
 (x.snd.fst.getD g.snd.snd.fst.toNat
 ((0 : Int), (0 : Int))).snd.toNat
 ((0 : Int), (0 : Int), false, false, false, false,
 false)).snd.fst,
 (g.fst.getD
 (x.snd.fst.getD g.snd.snd.fst.toNat
 ((0 : Int), (0 : Int))).snd.toNat
 ((0 : Int), (0 : Int), false, false, false, false,
 false)).snd.snd.fst,
 (g.fst.getD
 (x.snd.fst.getD g.snd.snd.fst.toNat
 ((0 : Int), (0 : Int))).snd.toNat
 ((0 : Int), (0 : Int), false, false, false, false,
 false)).snd.snd.snd.fst,
 (g.fst.getD
 (x.snd.fst.getD g.snd.snd.fst.toNat
 ((0 : Int), (0 : Int))).snd.toNat
 ((0 : Int), (0 : Int), false, false, false, false,
 false)).snd.snd.snd.snd.fst,
 (g.fst.getD
 (x.snd.fst.getD g.snd.snd.fst.toNat
 ((0 : Int), (0 : Int))).snd.toNat
 ((0 : Int), (0 : Int), false, false, false, false,
 false)).snd.snd.snd.snd.snd.fst,
 (g.fst.getD
 (x.snd.fst.getD g.snd.snd.fst.toNat
 ((0 : Int), (0 : Int))).snd.toNat
 ((0 : Int), (0 : Int), false, false, false, false,
 false)).snd.snd.snd.snd.snd.snd)
 (x.snd.fst.getD g.snd.snd.fst.toNat ((0 : Int), (0 : Int))).fst).fst.fst,
 (cstep
 ((g.fst.getD
 (x.snd.fst.getD g.snd.snd.fst.toNat
 ((0 : Int), (0 : Int))).snd.toNat
 ((0 : Int), (0 : Int), false, false, false, false, false)).fst,
 (g.fst.getD
 (x.snd.fst.getD g.snd.snd.fst.toNat
 ((0 : Int), (0 : Int))).snd.toNat
 ((0 : Int), (0 : Int), false, false, false, false,
 false)).snd.fst,
 (g.fst.getD
 (x.snd.fst.getD g.snd.snd.fst.toNat
 ((0 : Int), (0 : Int))).snd.toNat
 ((0 : Int), (0 : Int), false, false, false, false,
 false)).snd.snd.fst,
 (g.fst.getD
 (x.snd.fst.getD g.snd.snd.fst.toNat
 ((0 : Int), (0 : Int))).snd.toNat
 ((0 : Int), (0 : Int), false, false, false, false,
 false)).snd.snd.snd.fst,
 (g.fst.getD
 (x.snd.fst.getD g.snd.snd.fst.toNat
 ((0 : Int), (0 : Int))).snd.toNat
 ((0 : Int), (0 : Int), false, false, false, false,
 false)).snd.snd.snd.snd.fst,
 (g.fst.getD
 (x.snd.fst.getD g.snd.snd.fst.toNat
 ((0 : Int), (0 : Int))).snd.toNat
 ((0 : Int), (0 : Int), false, false, false, false,
 false)).snd.snd.snd.snd.snd.fst,
 (g.fst.getD
 (x.snd.fst.getD g.snd.snd.fst.toNat
 ((0 : Int), (0 : Int))).snd.toNat
 ((0 : Int), (0 : Int), false, false, false, false,
 false)).snd.snd.snd.snd.snd.snd)
 (x.snd.fst.getD g.snd.snd.fst.toNat
 ((0 : Int), (0 : Int))).fst).fst.snd.fst)).length +
 (g.snd.fst.length +
 ((((0 : Int), (0 : Int), (0 : Int)) :: ([] : List (Int × Int × Int))).set (0 : Nat)
 ((x.snd.fst.getD g.snd.snd.fst.toNat ((0 : Int), (0 : Int))).snd,
 (cstep
 ((g.fst.getD
 (x.snd.fst.getD g.snd.snd.fst.toNat
 ((0 : Int), (0 : Int))).snd.toNat
 ((0 : Int), (0 : Int), false, false, false, false, false)).fst,
 (g.fst.getD
 (x.snd.fst.getD g.snd.snd.fst.toNat
 ((0 : Int), (0 : Int))).snd.toNat
 ((0 : Int), (0 : Int), false, false, false, false,
 false)).snd.fst,
 (g.fst.getD
 (x.snd.fst.getD g.snd.snd.fst.toNat
 ((0 : Int), (0 : Int))).snd.toNat
 ((0 : Int), (0 : Int), false, false, false, false,
 false)).snd.snd.fst,
 (g.fst.getD
 (x.snd.fst.getD g.snd.snd.fst.toNat
 ((0 : Int), (0 : Int))).snd.toNat
 ((0 : Int), (0 : Int), false, false, false, false,
 false)).snd.snd.snd.fst,
 (g.fst.getD
 (x.snd.fst.getD g.snd.snd.fst.toNat
 ((0 : Int), (0 : Int))).snd.toNat
 ((0 : Int), (0 : Int), false, false, false, false,
 false)).snd.snd.snd.snd.fst,
 (g.fst.getD
 (x.snd.fst.getD g.snd.snd.fst.toNat
 ((0 : Int), (0 : Int))).snd.toNat
 ((0 : Int), (0 : Int), false, false, false, false,
 false)).snd.snd.snd.snd.snd.fst,
 (g.fst.getD
 (x.snd.fst.getD g.snd.snd.fst.toNat
 ((0 : Int), (0 : Int))).snd.toNat
 ((0 : Int), (0 : Int), false, false, false, false,
 false)).snd.snd.snd.snd.snd.snd)
 (x.snd.fst.getD g.snd.snd.fst.toNat
 ((0 : Int), (0 : Int))).fst).fst.fst,
 (cstep
 ((g.fst.getD
 (x.snd.fst.getD g.snd.snd.fst.toNat
 ((0 : Int), (0 : Int))).snd.toNat
 ((0 : Int), (0 : Int), false, false, false, false, false)).fst,
 (g.fst.getD
 (x.snd.fst.getD g.snd.snd.fst.toNat
 ((0 : Int), (0 : Int))).snd.toNat
 ((0 : Int), (0 : Int), false, false, false, false,
 false)).snd.fst,
 (g.fst.getD
 (x.snd.fst.getD g.snd.snd.fst.toNat
 ((0 : Int), (0 : Int))).snd.toNat
 ((0 : Int), (0 : Int), false, false, false, false,
 false)).snd.snd.fst,
 (g.fst.getD
 (x.snd.fst.getD g.snd.snd.fst.toNat
 ((0 : Int), (0 : Int))).snd.toNat
 ((0 : Int), (0 : Int), false, false, false, false,
 false)).snd.snd.snd.fst,
 (g.fst.getD
 (x.snd.fst.getD g.snd.snd.fst.toNat
 ((0 : Int), (0 : Int))).snd.toNat
 ((0 : Int), (0 : Int), false, false, false, false,
 false)).snd.snd.snd.snd.fst,
 (g.fst.getD
 (x.snd.fst.getD g.snd.snd.fst.toNat
 ((0 : Int), (0 : Int))).snd.toNat
 ((0 : Int), (0 : Int), false, false, false, false,
 false)).snd.snd.snd.snd.snd.fst,
 (g.fst.getD
 (x.snd.fst.getD g.snd.snd.fst.toNat
 ((0 : Int), (0 : Int))).snd.toNat
 ((0 : Int), (0 : Int), false, false, false, false,
 false)).snd.snd.snd.snd.snd.snd)
 (x.snd.fst.getD g.snd.snd.fst.toNat
 ((0 : Int), (0 : Int))).fst).fst.snd.fst)).length) /
 (4 : Nat) +
 (192 : Nat)) *
 (24 : Nat) ≤
 (281474976710656 : Nat)) ∧
 ((-9223372036854775808 : Int) ≤ g.snd.snd.fst + (1 : Int) ∧
 g.snd.snd.fst + (1 : Int) ≤ (9223372036854775807 : Int)) ∧
 (((0 : Int) ≤ g.snd.snd.fst + (1 : Int) ∧
 g.snd.snd.fst + (1 : Int) ≤ (↑x.snd.fst.length : Int) ∧
 play x.fst (List.take (g.snd.snd.fst + (1 : Int)).toNat x.snd.fst) =
 (g.fst.set (x.snd.fst.getD g.snd.snd.fst.toNat ((0 : Int), (0 : Int))).snd.toNat
 ((cstep
 ((g.fst.getD
 (x.snd.fst.getD g.snd.snd.fst.toNat
 ((0 : Int), (0 : Int))).snd.toNat
 ((0 : Int), (0 : Int), false, false, false, false, false)).fst,
 (g.fst.getD
 (x.snd.fst.getD g.snd.snd.fst.toNat
 ((0 : Int), (0 : Int))).snd.toNat
 ((0 : Int), (0 : Int), false, false, false, false,
 false)).snd.fst,
 (g.fst.getD
 (x.snd.fst.getD g.snd.snd.fst.toNat
 ((0 : Int), (0 : Int))).snd.toNat
 ((0 : Int), (0 : Int), false, false, false, false,
 false)).snd.snd.fst,
 (g.fst.getD
 (x.snd.fst.getD g.snd.snd.fst.toNat
 ((0 : Int), (0 : Int))).snd.toNat
 ((0 : Int), (0 : Int), false, false, false, false,
 false)).snd.snd.snd.fst,
 (g.fst.getD
 (x.snd.fst.getD g.snd.snd.fst.toNat
 ((0 : Int), (0 : Int))).snd.toNat
 ((0 : Int), (0 : Int), false, false, false, false,
 false)).snd.snd.snd.snd.fst,
 (g.fst.getD
 (x.snd.fst.getD g.snd.snd.fst.toNat
 ((0 : Int), (0 : Int))).snd.toNat
 ((0 : Int), (0 : Int), false, false, false, false,
 false)).snd.snd.snd.snd.snd.fst,
 (g.fst.getD
 (x.snd.fst.getD g.snd.snd.fst.toNat
 ((0 : Int), (0 : Int))).snd.toNat
 ((0 : Int), (0 : Int), false, false, false, false,
 false)).snd.snd.snd.snd.snd.snd)
 (x.snd.fst.getD g.snd.snd.fst.toNat
 ((0 : Int), (0 : Int))).fst).fst.fst,
 (cstep
 ((g.fst.getD
 (x.snd.fst.getD g.snd.snd.fst.toNat
 ((0 : Int), (0 : Int))).snd.toNat
 ((0 : Int), (0 : Int), false, false, false, false, false)).fst,
 (g.fst.getD
 (x.snd.fst.getD g.snd.snd.fst.toNat
 ((0 : Int), (0 : Int))).snd.toNat
 ((0 : Int), (0 : Int), false, false, false, false,
 false)).snd.fst,
 (g.fst.getD
 (x.snd.fst.getD g.snd.snd.fst.toNat
 ((0 : Int), (0 : Int))).snd.toNat
 ((0 : Int), (0 : Int), false, false, false, false,
 false)).snd.snd.fst,
 (g.fst.getD
 (x.snd.fst.getD g.snd.snd.fst.toNat
 ((0 : Int), (0 : Int))).snd.toNat
 ((0 : Int), (0 : Int), false, false, false, false,
 false)).snd.snd.snd.fst,
 (g.fst.getD
 (x.snd.fst.getD g.snd.snd.fst.toNat
 ((0 : Int), (0 : Int))).snd.toNat
 ((0 : Int), (0 : Int), false, false, false, false,
 false)).snd.snd.snd.snd.fst,
 (g.fst.getD
 (x.snd.fst.getD g.snd.snd.fst.toNat
 ((0 : Int), (0 : Int))).snd.toNat
 ((0 : Int), (0 : Int), false, false, false, false,
 false)).snd.snd.snd.snd.snd.fst,
 (g.fst.getD
 (x.snd.fst.getD g.snd.snd.fst.toNat
 ((0 : Int), (0 : Int))).snd.toNat
 ((0 : Int), (0 : Int), false, false, false, false,
 false)).snd.snd.snd.snd.snd.snd)
 (x.snd.fst.getD g.snd.snd.fst.toNat
 ((0 : Int), (0 : Int))).fst).fst.snd.fst,
 (cstep
 ((g.fst.getD
 (x.snd.fst.getD g.snd.snd.fst.toNat
 ((0 : Int), (0 : Int))).snd.toNat
 ((0 : Int), (0 : Int), false, false, false, false,
 false)).fst,
 (g.fst.getD
 (x.snd.fst.getD g.snd.snd.fst.toNat
 ((0 : Int), (0 : Int))).snd.toNat
 ((0 : Int), (0 : Int), false, false, false, false,
 false)).snd.fst,
 (g.fst.getD
 (x.snd.fst.getD g.snd.snd.fst.toNat
 ((0 : Int), (0 : Int))).snd.toNat
 ((0 : Int), (0 : Int), false, false, false, false,
 false)).snd.snd.fst,
 (g.fst.getD
 (x.snd.fst.getD g.snd.snd.fst.toNat
 ((0 : Int), (0 : Int))).snd.toNat
 ((0 : Int), (0 : Int), false, false, false, false,
 false)).snd.snd.snd.fst,
 (g.fst.getD
 (x.snd.fst.getD g.snd.snd.fst.toNat
 ((0 : Int), (0 : Int))).snd.toNat
 ((0 : Int), (0 : Int), false, false, false, false,
 false)).snd.snd.snd.snd.fst,
 (g.fst.getD
 (x.snd.fst.getD g.snd.snd.fst.toNat
 ((0 : Int), (0 : Int))).snd.toNat
 ((0 : Int), (0 : Int), false, false, false, false,
 false)).snd.snd.snd.snd.snd.fst,
 (g.fst.getD
 (x.snd.fst.getD g.snd.snd.fst.toNat
 ((0 : Int), (0 : Int))).snd.toNat
 ((0 : Int), (0 : Int), false, false, false, false,
 false)).snd.snd.snd.snd.snd.snd)
 (x.snd.fst.getD g.snd.snd.fst.toNat
 ((0 : Int), (0 : Int))).fst).fst.snd.snd.fst,
 (cstep
 ((g.fst.getD
 (x.snd.fst.getD g.snd.snd.fst.toNat
 ((0 : Int), (0 : Int))).snd.toNat
 ((0 : Int), (0 : Int), false, false, false, false,
 false)).fst,
 (g.fst.getD
 (x.snd.fst.getD g.snd.snd.fst.toNat
 ((0 : Int), (0 : Int))).snd.toNat
 ((0 : Int), (0 : Int), false, false, false, false,
 false)).snd.fst,
 (g.fst.getD
 (x.snd.fst.getD g.snd.snd.fst.toNat
 ((0 : Int), (0 : Int))).snd.toNat
 ((0 : Int), (0 : Int), false, false, false, false,
 false)).snd.snd.fst,
 (g.fst.getD
 (x.snd.fst.getD g.snd.snd.fst.toNat
 ((0 : Int), (0 : Int))).snd.toNat
 ((0 : Int), (0 : Int), false, false, false, false,
 false)).snd.snd.snd.fst,
 (g.fst.getD
 (x.snd.fst.getD g.snd.snd.fst.toNat
 ((0 : Int), (0 : Int))).snd.toNat
 ((0 : Int), (0 : Int), false, false, false, false,
 false)).snd.snd.snd.snd.fst,
 (g.fst.getD
 (x.snd.fst.getD g.snd.snd.fst.toNat
 ((0 : Int), (0 : Int))).snd.toNat
 ((0 : Int), (0 : Int), false, false, false, false,
 false)).snd.snd.snd.snd.snd.fst,
 (g.fst.getD
 (x.snd.fst.getD g.snd.snd.fst.toNat
 ((0 : Int), (0 : Int))).snd.toNat
 ((0 : Int), (0 : Int), false, false, false, false,
 false)).snd.snd.snd.snd.snd.snd)
 (x.snd.fst.getD g.snd.snd.fst.toNat
 ((0 : Int), (0 : Int))).fst).fst.snd.snd.snd.fst,
 (cstep
 ((g.fst.getD
 (x.snd.fst.getD g.snd.snd.fst.toNat
 ((0 : Int), (0 : Int))).snd.toNat
 ((0 : Int), (0 : Int), false, false, false, false,
 false)).fst,
 (g.fst.getD
 (x.snd.fst.getD g.snd.snd.fst.toNat
 ((0 : Int), (0 : Int))).snd.toNat
 ((0 : Int), (0 : Int), false, false, false, false,
 false)).snd.fst,
 (g.fst.getD
 (x.snd.fst.getD g.snd.snd.fst.toNat
 ((0 : Int), (0 : Int))).snd.toNat
 ((0 : Int), (0 : Int), false, false, false, false,
 false)).snd.snd.fst,
 (g.fst.getD
 (x.snd.fst.getD g.snd.snd.fst.toNat
 ((0 : Int), (0 : Int))).snd.toNat
 ((0 : Int), (0 : Int), false, false, false, false,
 false)).snd.snd.snd.fst,
 (g.fst.getD
 (x.snd.fst.getD g.snd.snd.fst.toNat
 ((0 : Int), (0 : Int))).snd.toNat
 ((0 : Int), (0 : Int), false, false, false, false,
 false)).snd.snd.snd.snd.fst,
 (g.fst.getD
 (x.snd.fst.getD g.snd.snd.fst.toNat
 ((0 : Int), (0 : Int))).snd.toNat
 ((0 : Int), (0 : Int), false, false, false,
 false, false)).snd.snd.snd.snd.snd.fst,
 (g.fst.getD
 (x.snd.fst.getD g.snd.snd.fst.toNat
 ((0 : Int), (0 : Int))).snd.toNat
 ((0 : Int), (0 : Int), false, false, false,
 false, false)).snd.snd.snd.snd.snd.snd)
 (x.snd.fst.getD g.snd.snd.fst.toNat
 ((0 : Int), (0 : Int))).fst).fst.snd.snd.snd.snd.fst,
 (cstep
 ((g.fst.getD
 (x.snd.fst.getD g.snd.snd.fst.toNat
 ((0 : Int), (0 : Int))).snd.toNat
 ((0 : Int), (0 : Int), false, false, false, false,
 false)).fst,
 (g.fst.getD
 (x.snd.fst.getD g.snd.snd.fst.toNat
 ((0 : Int), (0 : Int))).snd.toNat
 ((0 : Int), (0 : Int), false, false, false, false,
 false)).snd.fst,
 (g.fst.getD
 (x.snd.fst.getD g.snd.snd.fst.toNat
 ((0 : Int), (0 : Int))).snd.toNat
 ((0 : Int), (0 : Int), false, false, false, false,
 false)).snd.snd.fst,
 (g.fst.getD
 (x.snd.fst.getD g.snd.snd.fst.toNat
 ((0 : Int), (0 : Int))).snd.toNat
 ((0 : Int), (0 : Int), false, false, false, false,
 false)).snd.snd.snd.fst,
 (g.fst.getD
 (x.snd.fst.getD g.snd.snd.fst.toNat
 ((0 : Int), (0 : Int))).snd.toNat
 ((0 : Int), (0 : Int), false, false, false,
 false, false)).snd.snd.snd.snd.fst,
 (g.fst.getD
 (x.snd.fst.getD g.snd.snd.fst.toNat
 ((0 : Int), (0 : Int))).snd.toNat
 ((0 : Int), (0 : Int), false, false, false,
 false, false)).snd.snd.snd.snd.snd.fst,
 (g.fst.getD
 (x.snd.fst.getD g.snd.snd.fst.toNat
 ((0 : Int), (0 : Int))).snd.toNat
 ((0 : Int), (0 : Int), false, false, false,
 false, false)).snd.snd.snd.snd.snd.snd)
 (x.snd.fst.getD g.snd.snd.fst.toNat
 ((0 : Int), (0 : Int))).fst).fst.snd.snd.snd.snd.snd.fst,
 (cstep
 ((g.fst.getD
 (x.snd.fst.getD g.snd.snd.fst.toNat
 ((0 : Int), (0 : Int))).snd.toNat
 ((0 : Int), (0 : Int), false, false, false, false,
 false)).fst,
 (g.fst.getD
 (x.snd.fst.getD g.snd.snd.fst.toNat
 ((0 : Int), (0 : Int))).snd.toNat
 ((0 : Int), (0 : Int), false, false, false, false,
 false)).snd.fst,
 (g.fst.getD
 (x.snd.fst.getD g.snd.snd.fst.toNat
 ((0 : Int), (0 : Int))).snd.toNat
 ((0 : Int), (0 : Int), false, false, false, false,
 false)).snd.snd.fst,
 (g.fst.getD
 (x.snd.fst.getD g.snd.snd.fst.toNat
 ((0 : Int), (0 : Int))).snd.toNat
 ((0 : Int), (0 : Int), false, false, false, false,
 false)).snd.snd.snd.fst,
 (g.fst.getD
 (x.snd.fst.getD g.snd.snd.fst.toNat
 ((0 : Int), (0 : Int))).snd.toNat
 ((0 : Int), (0 : Int), false, false, false,
 false, false)).snd.snd.snd.snd.fst,
 (g.fst.getD
 (x.snd.fst.getD g.snd.snd.fst.toNat
 ((0 : Int), (0 : Int))).snd.toNat
 ((0 : Int), (0 : Int), false, false, false,
 false, false)).snd.snd.snd.snd.snd.fst,
 (g.fst.getD
 (x.snd.fst.getD g.snd.snd.fst.toNat
 ((0 : Int), (0 : Int))).snd.toNat
 ((0 : Int), (0 : Int), false, false, false,
 false, false)).snd.snd.snd.snd.snd.snd)
 (x.snd.fst.getD g.snd.snd.fst.toNat
 ((0 : Int), (0 : Int))).fst).fst.snd.snd.snd.snd.snd.snd),
 g.snd.fst ++
 (((0 : Int), (0 : Int), (0 : Int)) :: ([] : List (Int × Int × Int))).set
 (0 : Nat)
 ((x.snd.fst.getD g.snd.snd.fst.toNat ((0 : Int), (0 : Int))).snd,
 (cstep
 ((g.fst.getD
 (x.snd.fst.getD g.snd.snd.fst.toNat
 ((0 : Int), (0 : Int))).snd.toNat
 ((0 : Int), (0 : Int), false, false, false, false, false)).fst,
 (g.fst.getD
 (x.snd.fst.getD g.snd.snd.fst.toNat
 ((0 : Int), (0 : Int))).snd.toNat
 ((0 : Int), (0 : Int), false, false, false, false,
 false)).snd.fst,
 (g.fst.getD
 (x.snd.fst.getD g.snd.snd.fst.toNat
 ((0 : Int), (0 : Int))).snd.toNat
 ((0 : Int), (0 : Int), false, false, false, false,
 false)).snd.snd.fst,
 (g.fst.getD
 (x.snd.fst.getD g.snd.snd.fst.toNat
 ((0 : Int), (0 : Int))).snd.toNat
 ((0 : Int), (0 : Int), false, false, false, false,
 false)).snd.snd.snd.fst,
 (g.fst.getD
 (x.snd.fst.getD g.snd.snd.fst.toNat
 ((0 : Int), (0 : Int))).snd.toNat
 ((0 : Int), (0 : Int), false, false, false, false,
 false)).snd.snd.snd.snd.fst,
 (g.fst.getD
 (x.snd.fst.getD g.snd.snd.fst.toNat
 ((0 : Int), (0 : Int))).snd.toNat
 ((0 : Int), (0 : Int), false, false, false, false,
 false)).snd.snd.snd.snd.snd.fst,
 (g.fst.getD
 (x.snd.fst.getD g.snd.snd.fst.toNat
 ((0 : Int), (0 : Int))).snd.toNat
 ((0 : Int), (0 : Int), false, false, false, false,
 false)).snd.snd.snd.snd.snd.snd)
 (x.snd.fst.getD g.snd.snd.fst.toNat
 ((0 : Int), (0 : Int))).fst).fst.fst,
 (cstep
 ((g.fst.getD
 (x.snd.fst.getD g.snd.snd.fst.toNat
 ((0 : Int), (0 : Int))).snd.toNat
 ((0 : Int), (0 : Int), false, false, false, false,
 false)).fst,
 (g.fst.getD
 (x.snd.fst.getD g.snd.snd.fst.toNat
 ((0 : Int), (0 : Int))).snd.toNat
 ((0 : Int), (0 : Int), false, false, false, false,
 false)).snd.fst,
 (g.fst.getD
 (x.snd.fst.getD g.snd.snd.fst.toNat
 ((0 : Int), (0 : Int))).snd.toNat
 ((0 : Int), (0 : Int), false, false, false, false,
 false)).snd.snd.fst,
 (g.fst.getD
 (x.snd.fst.getD g.snd.snd.fst.toNat
 ((0 : Int), (0 : Int))).snd.toNat
 ((0 : Int), (0 : Int), false, false, false, false,
 false)).snd.snd.snd.fst,
 (g.fst.getD
 (x.snd.fst.getD g.snd.snd.fst.toNat
 ((0 : Int), (0 : Int))).snd.toNat
 ((0 : Int), (0 : Int), false, false, false, false,
 false)).snd.snd.snd.snd.fst,
 (g.fst.getD
 (x.snd.fst.getD g.snd.snd.fst.toNat
 ((0 : Int), (0 : Int))).snd.toNat
 ((0 : Int), (0 : Int), false, false, false, false,
 false)).snd.snd.snd.snd.snd.fst,
 (g.fst.getD
 (x.snd.fst.getD g.snd.snd.fst.toNat
 ((0 : Int), (0 : Int))).snd.toNat
 ((0 : Int), (0 : Int), false, false, false, false,
 false)).snd.snd.snd.snd.snd.snd)
 (x.snd.fst.getD g.snd.snd.fst.toNat
 ((0 : Int), (0 : Int))).fst).fst.snd.fst)) ∧
 (↑(g.snd.fst ++
 (((0 : Int), (0 : Int), (0 : Int)) :: ([] : List (Int × Int × Int))).set
 (0 : Nat)
 ((x.snd.fst.getD g.snd.snd.fst.toNat ((0 : Int), (0 : Int))).snd,
 (cstep
 ((g.fst.getD
 (x.snd.fst.getD g.snd.snd.fst.toNat
 ((0 : Int), (0 : Int))).snd.toNat
 ((0 : Int), (0 : Int), false, false, false, false,
 false)).fst,
 (g.fst.getD
 (x.snd.fst.getD g.snd.snd.fst.toNat
 ((0 : Int), (0 : Int))).snd.toNat
 ((0 : Int), (0 : Int), false, false, false, false,
 false)).snd.fst,
 (g.fst.getD
 (x.snd.fst.getD g.snd.snd.fst.toNat
 ((0 : Int), (0 : Int))).snd.toNat
 ((0 : Int), (0 : Int), false, false, false, false,
 false)).snd.snd.fst,
 (g.fst.getD
 (x.snd.fst.getD g.snd.snd.fst.toNat
 ((0 : Int), (0 : Int))).snd.toNat
 ((0 : Int), (0 : Int), false, false, false, false,
 false)).snd.snd.snd.fst,
 (g.fst.getD
 (x.snd.fst.getD g.snd.snd.fst.toNat
 ((0 : Int), (0 : Int))).snd.toNat
 ((0 : Int), (0 : Int), false, false, false, false,
 false)).snd.snd.snd.snd.fst,
 (g.fst.getD
 (x.snd.fst.getD g.snd.snd.fst.toNat
 ((0 : Int), (0 : Int))).snd.toNat
 ((0 : Int), (0 : Int), false, false, false, false,
 false)).snd.snd.snd.snd.snd.fst,
 (g.fst.getD
 (x.snd.fst.getD g.snd.snd.fst.toNat
 ((0 : Int), (0 : Int))).snd.toNat
 ((0 : Int), (0 : Int), false, false, false, false,
 false)).snd.snd.snd.snd.snd.snd)
 (x.snd.fst.getD g.snd.snd.fst.toNat
 ((0 : Int), (0 : Int))).fst).fst.fst,
 (cstep
 ((g.fst.getD
 (x.snd.fst.getD g.snd.snd.fst.toNat
 ((0 : Int), (0 : Int))).snd.toNat
 ((0 : Int), (0 : Int), false, false, false, false,
 false)).fst,
 (g.fst.getD
 (x.snd.fst.getD g.snd.snd.fst.toNat
 ((0 : Int), (0 : Int))).snd.toNat
 ((0 : Int), (0 : Int), false, false, false, false,
 false)).snd.fst,
 (g.fst.getD
 (x.snd.fst.getD g.snd.snd.fst.toNat
 ((0 : Int), (0 : Int))).snd.toNat
 ((0 : Int), (0 : Int), false, false, false, false,
 false)).snd.snd.fst,
 (g.fst.getD
 (x.snd.fst.getD g.snd.snd.fst.toNat
 ((0 : Int), (0 : Int))).snd.toNat
 ((0 : Int), (0 : Int), false, false, false, false,
 false)).snd.snd.snd.fst,
 (g.fst.getD
 (x.snd.fst.getD g.snd.snd.fst.toNat
 ((0 : Int), (0 : Int))).snd.toNat
 ((0 : Int), (0 : Int), false, false, false, false,
 false)).snd.snd.snd.snd.fst,
 (g.fst.getD
 (x.snd.fst.getD g.snd.snd.fst.toNat
 ((0 : Int), (0 : Int))).snd.toNat
 ((0 : Int), (0 : Int), false, false, false,
 false, false)).snd.snd.snd.snd.snd.fst,
 (g.fst.getD
 (x.snd.fst.getD g.snd.snd.fst.toNat
 ((0 : Int), (0 : Int))).snd.toNat
 ((0 : Int), (0 : Int), false, false, false,
 false, false)).snd.snd.snd.snd.snd.snd)
 (x.snd.fst.getD g.snd.snd.fst.toNat
 ((0 : Int), (0 : Int))).fst).fst.snd.fst)).length :
 Int) ≤
 g.snd.snd.fst + (1 : Int)) ∧
 ((↑x.snd.fst.length : Int) - (g.snd.snd.fst + (1 : Int))).toNat <
 ((↑x.snd.fst.length : Int) - g.snd.snd.fst).toNat) ∧
 (True ∧
 True ∧
 x.snd.fst = x.snd.fst ∧
 (↑x.snd.fst.length : Int) = (↑x.snd.fst.length : Int) ∧
 g.snd.snd.fst + (1 : Int) = g.snd.snd.fst + (1 : Int) ∧ True) ∧
 (g.fst.set (x.snd.fst.getD g.snd.snd.fst.toNat ((0 : Int), (0 : Int))).snd.toNat
 ((cstep
 ((g.fst.getD
 (x.snd.fst.getD g.snd.snd.fst.toNat ((0 : Int), (0 : Int))).snd.toNat
 ((0 : Int), (0 : Int), false, false, false, false, false)).fst,
 (g.fst.getD
 (x.snd.fst.getD g.snd.snd.fst.toNat
 ((0 : Int), (0 : Int))).snd.toNat
 ((0 : Int), (0 : Int), false, false, false, false, false)).snd.fst,
 (g.fst.getD
 (x.snd.fst.getD g.snd.snd.fst.toNat
 ((0 : Int), (0 : Int))).snd.toNat
 ((0 : Int), (0 : Int), false, false, false, false,
 false)).snd.snd.fst,
 (g.fst.getD
 (x.snd.fst.getD g.snd.snd.fst.toNat
 ((0 : Int), (0 : Int))).snd.toNat
 ((0 : Int), (0 : Int), false, false, false, false,
 false)).snd.snd.snd.fst,
 (g.fst.getD
 (x.snd.fst.getD g.snd.snd.fst.toNat
 ((0 : Int), (0 : Int))).snd.toNat
 ((0 : Int), (0 : Int), false, false, false, false,
 false)).snd.snd.snd.snd.fst,
 (g.fst.getD
 (x.snd.fst.getD g.snd.snd.fst.toNat
 ((0 : Int), (0 : Int))).snd.toNat
 ((0 : Int), (0 : Int), false, false, false, false,
 false)).snd.snd.snd.snd.snd.fst,
 (g.fst.getD
 (x.snd.fst.getD g.snd.snd.fst.toNat
 ((0 : Int), (0 : Int))).snd.toNat
 ((0 : Int), (0 : Int), false, false, false, false,
 false)).snd.snd.snd.snd.snd.snd)
 (x.snd.fst.getD g.snd.snd.fst.toNat ((0 : Int), (0 : Int))).fst).fst.fst,
 (cstep
 ((g.fst.getD
 (x.snd.fst.getD g.snd.snd.fst.toNat
 ((0 : Int), (0 : Int))).snd.toNat
 ((0 : Int), (0 : Int), false, false, false, false, false)).fst,
 (g.fst.getD
 (x.snd.fst.getD g.snd.snd.fst.toNat
 ((0 : Int), (0 : Int))).snd.toNat
 ((0 : Int), (0 : Int), false, false, false, false,
 false)).snd.fst,
 (g.fst.getD
 (x.snd.fst.getD g.snd.snd.fst.toNat
 ((0 : Int), (0 : Int))).snd.toNat
 ((0 : Int), (0 : Int), false, false, false, false,
 false)).snd.snd.fst,
 (g.fst.getD
 (x.snd.fst.getD g.snd.snd.fst.toNat
 ((0 : Int), (0 : Int))).snd.toNat
 ((0 : Int), (0 : Int), false, false, false, false,
 false)).snd.snd.snd.fst,
 (g.fst.getD
 (x.snd.fst.getD g.snd.snd.fst.toNat
 ((0 : Int), (0 : Int))).snd.toNat
 ((0 : Int), (0 : Int), false, false, false, false,
 false)).snd.snd.snd.snd.fst,
 (g.fst.getD
 (x.snd.fst.getD g.snd.snd.fst.toNat
 ((0 : Int), (0 : Int))).snd.toNat
 ((0 : Int), (0 : Int), false, false, false, false,
 false)).snd.snd.snd.snd.snd.fst,
 (g.fst.getD
 (x.snd.fst.getD g.snd.snd.fst.toNat
 ((0 : Int), (0 : Int))).snd.toNat
 ((0 : Int), (0 : Int), false, false, false, false,
 false)).snd.snd.snd.snd.snd.snd)
 (x.snd.fst.getD g.snd.snd.fst.toNat
 ((0 : Int), (0 : Int))).fst).fst.snd.fst,
 (cstep
 ((g.fst.getD
 (x.snd.fst.getD g.snd.snd.fst.toNat
 ((0 : Int), (0 : Int))).snd.toNat
 ((0 : Int), (0 : Int), false, false, false, false, false)).fst,
 (g.fst.getD
 (x.snd.fst.getD g.snd.snd.fst.toNat
 ((0 : Int), (0 : Int))).snd.toNat
 ((0 : Int), (0 : Int), false, false, false, false,
 false)).snd.fst,
 (g.fst.getD
 (x.snd.fst.getD g.snd.snd.fst.toNat
 ((0 : Int), (0 : Int))).snd.toNat
 ((0 : Int), (0 : Int), false, false, false, false,
 false)).snd.snd.fst,
 (g.fst.getD
 (x.snd.fst.getD g.snd.snd.fst.toNat
 ((0 : Int), (0 : Int))).snd.toNat
 ((0 : Int), (0 : Int), false, false, false, false,
 false)).snd.snd.snd.fst,
 (g.fst.getD
 (x.snd.fst.getD g.snd.snd.fst.toNat
 ((0 : Int), (0 : Int))).snd.toNat
 ((0 : Int), (0 : Int), false, false, false, false,
 false)).snd.snd.snd.snd.fst,
 (g.fst.getD
 (x.snd.fst.getD g.snd.snd.fst.toNat
 ((0 : Int), (0 : Int))).snd.toNat
 ((0 : Int), (0 : Int), false, false, false, false,
 false)).snd.snd.snd.snd.snd.fst,
 (g.fst.getD
 (x.snd.fst.getD g.snd.snd.fst.toNat
 ((0 : Int), (0 : Int))).snd.toNat
 ((0 : Int), (0 : Int), false, false, false, false,
 false)).snd.snd.snd.snd.snd.snd)
 (x.snd.fst.getD g.snd.snd.fst.toNat
 ((0 : Int), (0 : Int))).fst).fst.snd.snd.fst,
 (cstep
 ((g.fst.getD
 (x.snd.fst.getD g.snd.snd.fst.toNat
 ((0 : Int), (0 : Int))).snd.toNat
 ((0 : Int), (0 : Int), false, false, false, false, false)).fst,
 (g.fst.getD
 (x.snd.fst.getD g.snd.snd.fst.toNat
 ((0 : Int), (0 : Int))).snd.toNat
 ((0 : Int), (0 : Int), false, false, false, false,
 false)).snd.fst,
 (g.fst.getD
 (x.snd.fst.getD g.snd.snd.fst.toNat
 ((0 : Int), (0 : Int))).snd.toNat
 ((0 : Int), (0 : Int), false, false, false, false,
 false)).snd.snd.fst,
 (g.fst.getD
 (x.snd.fst.getD g.snd.snd.fst.toNat
 ((0 : Int), (0 : Int))).snd.toNat
 ((0 : Int), (0 : Int), false, false, false, false,
 false)).snd.snd.snd.fst,
 (g.fst.getD
 (x.snd.fst.getD g.snd.snd.fst.toNat
 ((0 : Int), (0 : Int))).snd.toNat
 ((0 : Int), (0 : Int), false, false, false, false,
 false)).snd.snd.snd.snd.fst,
 (g.fst.getD
 (x.snd.fst.getD g.snd.snd.fst.toNat
 ((0 : Int), (0 : Int))).snd.toNat
 ((0 : Int), (0 : Int), false, false, false, false,
 false)).snd.snd.snd.snd.snd.fst,
 (g.fst.getD
 (x.snd.fst.getD g.snd.snd.fst.toNat
 ((0 : Int), (0 : Int))).snd.toNat
 ((0 : Int), (0 : Int), false, false, false, false,
 false)).snd.snd.snd.snd.snd.snd)
 (x.snd.fst.getD g.snd.snd.fst.toNat
 ((0 : Int), (0 : Int))).fst).fst.snd.snd.snd.fst,
 (cstep
 ((g.fst.getD
 (x.snd.fst.getD g.snd.snd.fst.toNat
 ((0 : Int), (0 : Int))).snd.toNat
 ((0 : Int), (0 : Int), false, false, false, false,
 false)).fst,
 (g.fst.getD
 (x.snd.fst.getD g.snd.snd.fst.toNat
 ((0 : Int), (0 : Int))).snd.toNat
 ((0 : Int), (0 : Int), false, false, false, false,
 false)).snd.fst,
 (g.fst.getD
 (x.snd.fst.getD g.snd.snd.fst.toNat
 ((0 : Int), (0 : Int))).snd.toNat
 ((0 : Int), (0 : Int), false, false, false, false,
 false)).snd.snd.fst,
 (g.fst.getD
 (x.snd.fst.getD g.snd.snd.fst.toNat
 ((0 : Int), (0 : Int))).snd.toNat
 ((0 : Int), (0 : Int), false, false, false, false,
 false)).snd.snd.snd.fst,
 (g.fst.getD
 (x.snd.fst.getD g.snd.snd.fst.toNat
 ((0 : Int), (0 : Int))).snd.toNat
 ((0 : Int), (0 : Int), false, false, false, false,
 false)).snd.snd.snd.snd.fst,
 (g.fst.getD
 (x.snd.fst.getD g.snd.snd.fst.toNat
 ((0 : Int), (0 : Int))).snd.toNat
 ((0 : Int), (0 : Int), false, false, false, false,
 false)).snd.snd.snd.snd.snd.fst,
 (g.fst.getD
 (x.snd.fst.getD g.snd.snd.fst.toNat
 ((0 : Int), (0 : Int))).snd.toNat
 ((0 : Int), (0 : Int), false, false, false, false,
 false)).snd.snd.snd.snd.snd.snd)
 (x.snd.fst.getD g.snd.snd.fst.toNat
 ((0 : Int), (0 : Int))).fst).fst.snd.snd.snd.snd.fst,
 (cstep
 ((g.fst.getD
 (x.snd.fst.getD g.snd.snd.fst.toNat
 ((0 : Int), (0 : Int))).snd.toNat
 ((0 : Int), (0 : Int), false, false, false, false,
 false)).fst,
 (g.fst.getD
 (x.snd.fst.getD g.snd.snd.fst.toNat
 ((0 : Int), (0 : Int))).snd.toNat
 ((0 : Int), (0 : Int), false, false, false, false,
 false)).snd.fst,
 (g.fst.getD
 (x.snd.fst.getD g.snd.snd.fst.toNat
 ((0 : Int), (0 : Int))).snd.toNat
 ((0 : Int), (0 : Int), false, false, false, false,
 false)).snd.snd.fst,
 (g.fst.getD
 (x.snd.fst.getD g.snd.snd.fst.toNat
 ((0 : Int), (0 : Int))).snd.toNat
 ((0 : Int), (0 : Int), false, false, false, false,
 false)).snd.snd.snd.fst,
 (g.fst.getD
 (x.snd.fst.getD g.snd.snd.fst.toNat
 ((0 : Int), (0 : Int))).snd.toNat
 ((0 : Int), (0 : Int), false, false, false, false,
 false)).snd.snd.snd.snd.fst,
 (g.fst.getD
 (x.snd.fst.getD g.snd.snd.fst.toNat
 ((0 : Int), (0 : Int))).snd.toNat
 ((0 : Int), (0 : Int), false, false, false, false,
 false)).snd.snd.snd.snd.snd.fst,
 (g.fst.getD
 (x.snd.fst.getD g.snd.snd.fst.toNat
 ((0 : Int), (0 : Int))).snd.toNat
 ((0 : Int), (0 : Int), false, false, false, false,
 false)).snd.snd.snd.snd.snd.snd)
 (x.snd.fst.getD g.snd.snd.fst.toNat
 ((0 : Int), (0 : Int))).fst).fst.snd.snd.snd.snd.snd.fst,
 (cstep
 ((g.fst.getD
 (x.snd.fst.getD g.snd.snd.fst.toNat
 ((0 : Int), (0 : Int))).snd.toNat
 ((0 : Int), (0 : Int), false, false, false, false,
 false)).fst,
 (g.fst.getD
 (x.snd.fst.getD g.snd.snd.fst.toNat
 ((0 : Int), (0 : Int))).snd.toNat
 ((0 : Int), (0 : Int), false, false, false, false,
 false)).snd.fst,
 (g.fst.getD
 (x.snd.fst.getD g.snd.snd.fst.toNat
 ((0 : Int), (0 : Int))).snd.toNat
 ((0 : Int), (0 : Int), false, false, false, false,
 false)).snd.snd.fst,
 (g.fst.getD
 (x.snd.fst.getD g.snd.snd.fst.toNat
 ((0 : Int), (0 : Int))).snd.toNat
 ((0 : Int), (0 : Int), false, false, false, false,
 false)).snd.snd.snd.fst,
 (g.fst.getD
 (x.snd.fst.getD g.snd.snd.fst.toNat
 ((0 : Int), (0 : Int))).snd.toNat
 ((0 : Int), (0 : Int), false, false, false, false,
 false)).snd.snd.snd.snd.fst,
 (g.fst.getD
 (x.snd.fst.getD g.snd.snd.fst.toNat
 ((0 : Int), (0 : Int))).snd.toNat
 ((0 : Int), (0 : Int), false, false, false, false,
 false)).snd.snd.snd.snd.snd.fst,
 (g.fst.getD
 (x.snd.fst.getD g.snd.snd.fst.toNat
 ((0 : Int), (0 : Int))).snd.toNat
 ((0 : Int), (0 : Int), false, false, false, false,
 false)).snd.snd.snd.snd.snd.snd)
 (x.snd.fst.getD g.snd.snd.fst.toNat
 ((0 : Int), (0 : Int))).fst).fst.snd.snd.snd.snd.snd.snd) =
 g.fst.set (x.snd.fst.getD g.snd.snd.fst.toNat ((0 : Int), (0 : Int))).snd.toNat
 ((cstep
 ((g.fst.getD
 (x.snd.fst.getD g.snd.snd.fst.toNat ((0 : Int), (0 : Int))).snd.toNat
 ((0 : Int), (0 : Int), false, false, false, false, false)).fst,
 (g.fst.getD
 (x.snd.fst.getD g.snd.snd.fst.toNat
 ((0 : Int), (0 : Int))).snd.toNat
 ((0 : Int), (0 : Int), false, false, false, false, false)).snd.fst,
 (g.fst.getD
 (x.snd.fst.getD g.snd.snd.fst.toNat
 ((0 : Int), (0 : Int))).snd.toNat
 ((0 : Int), (0 : Int), false, false, false, false,
 false)).snd.snd.fst,
 (g.fst.getD
 (x.snd.fst.getD g.snd.snd.fst.toNat
 ((0 : Int), (0 : Int))).snd.toNat
 ((0 : Int), (0 : Int), false, false, false, false,
 false)).snd.snd.snd.fst,
 (g.fst.getD
 (x.snd.fst.getD g.snd.snd.fst.toNat
 ((0 : Int), (0 : Int))).snd.toNat
 ((0 : Int), (0 : Int), false, false, false, false,
 false)).snd.snd.snd.snd.fst,
 (g.fst.getD
 (x.snd.fst.getD g.snd.snd.fst.toNat
 ((0 : Int), (0 : Int))).snd.toNat
 ((0 : Int), (0 : Int), false, false, false, false,
 false)).snd.snd.snd.snd.snd.fst,
 (g.fst.getD
 (x.snd.fst.getD g.snd.snd.fst.toNat
 ((0 : Int), (0 : Int))).snd.toNat
 ((0 : Int), (0 : Int), false, false, false, false,
 false)).snd.snd.snd.snd.snd.snd)
 (x.snd.fst.getD g.snd.snd.fst.toNat ((0 : Int), (0 : Int))).fst).fst.fst,
 (cstep
 ((g.fst.getD
 (x.snd.fst.getD g.snd.snd.fst.toNat
 ((0 : Int), (0 : Int))).snd.toNat
 ((0 : Int), (0 : Int), false, false, false, false, false)).fst,
 (g.fst.getD
 (x.snd.fst.getD g.snd.snd.fst.toNat
 ((0 : Int), (0 : Int))).snd.toNat
 ((0 : Int), (0 : Int), false, false, false, false,
 false)).snd.fst,
 (g.fst.getD
 (x.snd.fst.getD g.snd.snd.fst.toNat
 ((0 : Int), (0 : Int))).snd.toNat
 ((0 : Int), (0 : Int), false, false, false, false,
 false)).snd.snd.fst,
 (g.fst.getD
 (x.snd.fst.getD g.snd.snd.fst.toNat
 ((0 : Int), (0 : Int))).snd.toNat
 ((0 : Int), (0 : Int), false, false, false, false,
 false)).snd.snd.snd.fst,
 (g.fst.getD
 (x.snd.fst.getD g.snd.snd.fst.toNat
 ((0 : Int), (0 : Int))).snd.toNat
 ((0 : Int), (0 : Int), false, false, false, false,
 false)).snd.snd.snd.snd.fst,
 (g.fst.getD
 (x.snd.fst.getD g.snd.snd.fst.toNat
 ((0 : Int), (0 : Int))).snd.toNat
 ((0 : Int), (0 : Int), false, false, false, false,
 false)).snd.snd.snd.snd.snd.fst,
 (g.fst.getD
 (x.snd.fst.getD g.snd.snd.fst.toNat
 ((0 : Int), (0 : Int))).snd.toNat
 ((0 : Int), (0 : Int), false, false, false, false,
 false)).snd.snd.snd.snd.snd.snd)
 (x.snd.fst.getD g.snd.snd.fst.toNat
 ((0 : Int), (0 : Int))).fst).fst.snd.fst,
 (cstep
 ((g.fst.getD
 (x.snd.fst.getD g.snd.snd.fst.toNat
 ((0 : Int), (0 : Int))).snd.toNat
 ((0 : Int), (0 : Int), false, false, false, false, false)).fst,
 (g.fst.getD
 (x.snd.fst.getD g.snd.snd.fst.toNat
 ((0 : Int), (0 : Int))).snd.toNat
 ((0 : Int), (0 : Int), false, false, false, false,
 false)).snd.fst,
 (g.fst.getD
 (x.snd.fst.getD g.snd.snd.fst.toNat
 ((0 : Int), (0 : Int))).snd.toNat
 ((0 : Int), (0 : Int), false, false, false, false,
 false)).snd.snd.fst,
 (g.fst.getD
 (x.snd.fst.getD g.snd.snd.fst.toNat
 ((0 : Int), (0 : Int))).snd.toNat
 ((0 : Int), (0 : Int), false, false, false, false,
 false)).snd.snd.snd.fst,
 (g.fst.getD
 (x.snd.fst.getD g.snd.snd.fst.toNat
 ((0 : Int), (0 : Int))).snd.toNat
 ((0 : Int), (0 : Int), false, false, false, false,
 false)).snd.snd.snd.snd.fst,
 (g.fst.getD
 (x.snd.fst.getD g.snd.snd.fst.toNat
 ((0 : Int), (0 : Int))).snd.toNat
 ((0 : Int), (0 : Int), false, false, false, false,
 false)).snd.snd.snd.snd.snd.fst,
 (g.fst.getD
 (x.snd.fst.getD g.snd.snd.fst.toNat
 ((0 : Int), (0 : Int))).snd.toNat
 ((0 : Int), (0 : Int), false, false, false, false,
 false)).snd.snd.snd.snd.snd.snd)
 (x.snd.fst.getD g.snd.snd.fst.toNat
 ((0 : Int), (0 : Int))).fst).fst.snd.snd.fst,
 (cstep
 ((g.fst.getD
 (x.snd.fst.getD g.snd.snd.fst.toNat
 ((0 : Int), (0 : Int))).snd.toNat
 ((0 : Int), (0 : Int), false, false, false, false, false)).fst,
 (g.fst.getD
 (x.snd.fst.getD g.snd.snd.fst.toNat
 ((0 : Int), (0 : Int))).snd.toNat
 ((0 : Int), (0 : Int), false, false, false, false,
 false)).snd.fst,
 (g.fst.getD
 (x.snd.fst.getD g.snd.snd.fst.toNat
 ((0 : Int), (0 : Int))).snd.toNat
 ((0 : Int), (0 : Int), false, false, false, false,
 false)).snd.snd.fst,
 (g.fst.getD
 (x.snd.fst.getD g.snd.snd.fst.toNat
 ((0 : Int), (0 : Int))).snd.toNat
 ((0 : Int), (0 : Int), false, false, false, false,
 false)).snd.snd.snd.fst,
 (g.fst.getD
 (x.snd.fst.getD g.snd.snd.fst.toNat
 ((0 : Int), (0 : Int))).snd.toNat
 ((0 : Int), (0 : Int), false, false, false, false,
 false)).snd.snd.snd.snd.fst,
 (g.fst.getD
 (x.snd.fst.getD g.snd.snd.fst.toNat
 ((0 : Int), (0 : Int))).snd.toNat
 ((0 : Int), (0 : Int), false, false, false, false,
 false)).snd.snd.snd.snd.snd.fst,
 (g.fst.getD
 (x.snd.fst.getD g.snd.snd.fst.toNat
 ((0 : Int), (0 : Int))).snd.toNat
 ((0 : Int), (0 : Int), false, false, false, false,
 false)).snd.snd.snd.snd.snd.snd)
 (x.snd.fst.getD g.snd.snd.fst.toNat
 ((0 : Int), (0 : Int))).fst).fst.snd.snd.snd.fst,
 (cstep
 ((g.fst.getD
 (x.snd.fst.getD g.snd.snd.fst.toNat
 ((0 : Int), (0 : Int))).snd.toNat
 ((0 : Int), (0 : Int), false, false, false, false,
 false)).fst,
 (g.fst.getD
 (x.snd.fst.getD g.snd.snd.fst.toNat
 ((0 : Int), (0 : Int))).snd.toNat
 ((0 : Int), (0 : Int), false, false, false, false,
 false)).snd.fst,
 (g.fst.getD
 (x.snd.fst.getD g.snd.snd.fst.toNat
 ((0 : Int), (0 : Int))).snd.toNat
 ((0 : Int), (0 : Int), false, false, false, false,
 false)).snd.snd.fst,
 (g.fst.getD
 (x.snd.fst.getD g.snd.snd.fst.toNat
 ((0 : Int), (0 : Int))).snd.toNat
 ((0 : Int), (0 : Int), false, false, false, false,
 false)).snd.snd.snd.fst,
 (g.fst.getD
 (x.snd.fst.getD g.snd.snd.fst.toNat
 ((0 : Int), (0 : Int))).snd.toNat
 ((0 : Int), (0 : Int), false, false, false, false,
 false)).snd.snd.snd.snd.fst,
 (g.fst.getD
 (x.snd.fst.getD g.snd.snd.fst.toNat
 ((0 : Int), (0 : Int))).snd.toNat
 ((0 : Int), (0 : Int), false, false, false, false,
 false)).snd.snd.snd.snd.snd.fst,
 (g.fst.getD
 (x.snd.fst.getD g.snd.snd.fst.toNat
 ((0 : Int), (0 : Int))).snd.toNat
 ((0 : Int), (0 : Int), false, false, false, false,
 false)).snd.snd.snd.snd.snd.snd)
 (x.snd.fst.getD g.snd.snd.fst.toNat
 ((0 : Int), (0 : Int))).fst).fst.snd.snd.snd.snd.fst,
 (cstep
 ((g.fst.getD
 (x.snd.fst.getD g.snd.snd.fst.toNat
 ((0 : Int), (0 : Int))).snd.toNat
 ((0 : Int), (0 : Int), false, false, false, false,
 false)).fst,
 (g.fst.getD
 (x.snd.fst.getD g.snd.snd.fst.toNat
 ((0 : Int), (0 : Int))).snd.toNat
 ((0 : Int), (0 : Int), false, false, false, false,
 false)).snd.fst,
 (g.fst.getD
 (x.snd.fst.getD g.snd.snd.fst.toNat
 ((0 : Int), (0 : Int))).snd.toNat
 ((0 : Int), (0 : Int), false, false, false, false,
 false)).snd.snd.fst,
 (g.fst.getD
 (x.snd.fst.getD g.snd.snd.fst.toNat
 ((0 : Int), (0 : Int))).snd.toNat
 ((0 : Int), (0 : Int), false, false, false, false,
 false)).snd.snd.snd.fst,
 (g.fst.getD
 (x.snd.fst.getD g.snd.snd.fst.toNat
 ((0 : Int), (0 : Int))).snd.toNat
 ((0 : Int), (0 : Int), false, false, false, false,
 false)).snd.snd.snd.snd.fst,
 (g.fst.getD
 (x.snd.fst.getD g.snd.snd.fst.toNat
 ((0 : Int), (0 : Int))).snd.toNat
 ((0 : Int), (0 : Int), false, false, false, false,
 false)).snd.snd.snd.snd.snd.fst,
 (g.fst.getD
 (x.snd.fst.getD g.snd.snd.fst.toNat
 ((0 : Int), (0 : Int))).snd.toNat
 ((0 : Int), (0 : Int), false, false, false, false,
 false)).snd.snd.snd.snd.snd.snd)
 (x.snd.fst.getD g.snd.snd.fst.toNat
 ((0 : Int), (0 : Int))).fst).fst.snd.snd.snd.snd.snd.fst,
 (cstep
 ((g.fst.getD
 (x.snd.fst.getD g.snd.snd.fst.toNat
 ((0 : Int), (0 : Int))).snd.toNat
 ((0 : Int), (0 : Int), false, false, false, false,
 false)).fst,
 (g.fst.getD
 (x.snd.fst.getD g.snd.snd.fst.toNat
 ((0 : Int), (0 : Int))).snd.toNat
 ((0 : Int), (0 : Int), false, false, false, false,
 false)).snd.fst,
 (g.fst.getD
 (x.snd.fst.getD g.snd.snd.fst.toNat
 ((0 : Int), (0 : Int))).snd.toNat
 ((0 : Int), (0 : Int), false, false, false, false,
 false)).snd.snd.fst,
 (g.fst.getD
 (x.snd.fst.getD g.snd.snd.fst.toNat
 ((0 : Int), (0 : Int))).snd.toNat
 ((0 : Int), (0 : Int), false, false, false, false,
 false)).snd.snd.snd.fst,
 (g.fst.getD
 (x.snd.fst.getD g.snd.snd.fst.toNat
 ((0 : Int), (0 : Int))).snd.toNat
 ((0 : Int), (0 : Int), false, false, false, false,
 false)).snd.snd.snd.snd.fst,
 (g.fst.getD
 (x.snd.fst.getD g.snd.snd.fst.toNat
 ((0 : Int), (0 : Int))).snd.toNat
 ((0 : Int), (0 : Int), false, false, false, false,
 false)).snd.snd.snd.snd.snd.fst,
 (g.fst.getD
 (x.snd.fst.getD g.snd.snd.fst.toNat
 ((0 : Int), (0 : Int))).snd.toNat
 ((0 : Int), (0 : Int), false, false, false, false,
 false)).snd.snd.snd.snd.snd.snd)
 (x.snd.fst.getD g.snd.snd.fst.toNat
 ((0 : Int), (0 : Int))).fst).fst.snd.snd.snd.snd.snd.snd) ∧
 g.snd.fst ++
 (((0 : Int), (0 : Int), (0 : Int)) :: ([] : List (Int × Int × Int))).set (0 : Nat)
 ((x.snd.fst.getD g.snd.snd.fst.toNat ((0 : Int), (0 : Int))).snd,
 (cstep
 ((g.fst.getD
 (x.snd.fst.getD g.snd.snd.fst.toNat
 ((0 : Int), (0 : Int))).snd.toNat
 ((0 : Int), (0 : Int), false, false, false, false, false)).fst,
 (g.fst.getD
 (x.snd.fst.getD g.snd.snd.fst.toNat
 ((0 : Int), (0 : Int))).snd.toNat
 ((0 : Int), (0 : Int), false, false, false, false,
 false)).snd.fst,
 (g.fst.getD
 (x.snd.fst.getD g.snd.snd.fst.toNat
 ((0 : Int), (0 : Int))).snd.toNat
 ((0 : Int), (0 : Int), false, false, false, false,
 false)).snd.snd.fst,
 (g.fst.getD
 (x.snd.fst.getD g.snd.snd.fst.toNat
 ((0 : Int), (0 : Int))).snd.toNat
 ((0 : Int), (0 : Int), false, false, false, false,
 false)).snd.snd.snd.fst,
 (g.fst.getD
 (x.snd.fst.getD g.snd.snd.fst.toNat
 ((0 : Int), (0 : Int))).snd.toNat
 ((0 : Int), (0 : Int), false, false, false, false,
 false)).snd.snd.snd.snd.fst,
 (g.fst.getD
 (x.snd.fst.getD g.snd.snd.fst.toNat
 ((0 : Int), (0 : Int))).snd.toNat
 ((0 : Int), (0 : Int), false, false, false, false,
 false)).snd.snd.snd.snd.snd.fst,
 (g.fst.getD
 (x.snd.fst.getD g.snd.snd.fst.toNat
 ((0 : Int), (0 : Int))).snd.toNat
 ((0 : Int), (0 : Int), false, false, false, false,
 false)).snd.snd.snd.snd.snd.snd)
 (x.snd.fst.getD g.snd.snd.fst.toNat
 ((0 : Int), (0 : Int))).fst).fst.fst,
 (cstep
 ((g.fst.getD
 (x.snd.fst.getD g.snd.snd.fst.toNat
 ((0 : Int), (0 : Int))).snd.toNat
 ((0 : Int), (0 : Int), false, false, false, false, false)).fst,
 (g.fst.getD
 (x.snd.fst.getD g.snd.snd.fst.toNat
 ((0 : Int), (0 : Int))).snd.toNat
 ((0 : Int), (0 : Int), false, false, false, false,
 false)).snd.fst,
 (g.fst.getD
 (x.snd.fst.getD g.snd.snd.fst.toNat
 ((0 : Int), (0 : Int))).snd.toNat
 ((0 : Int), (0 : Int), false, false, false, false,
 false)).snd.snd.fst,
 (g.fst.getD
 (x.snd.fst.getD g.snd.snd.fst.toNat
 ((0 : Int), (0 : Int))).snd.toNat
 ((0 : Int), (0 : Int), false, false, false, false,
 false)).snd.snd.snd.fst,
 (g.fst.getD
 (x.snd.fst.getD g.snd.snd.fst.toNat
 ((0 : Int), (0 : Int))).snd.toNat
 ((0 : Int), (0 : Int), false, false, false, false,
 false)).snd.snd.snd.snd.fst,
 (g.fst.getD
 (x.snd.fst.getD g.snd.snd.fst.toNat
 ((0 : Int), (0 : Int))).snd.toNat
 ((0 : Int), (0 : Int), false, false, false, false,
 false)).snd.snd.snd.snd.snd.fst,
 (g.fst.getD
 (x.snd.fst.getD g.snd.snd.fst.toNat
 ((0 : Int), (0 : Int))).snd.toNat
 ((0 : Int), (0 : Int), false, false, false, false,
 false)).snd.snd.snd.snd.snd.snd)
 (x.snd.fst.getD g.snd.snd.fst.toNat
 ((0 : Int), (0 : Int))).fst).fst.snd.fst) =
 g.snd.fst ++
 (((0 : Int), (0 : Int), (0 : Int)) :: ([] : List (Int × Int × Int))).set (0 : Nat)
 ((x.snd.fst.getD g.snd.snd.fst.toNat ((0 : Int), (0 : Int))).snd,
 (cstep
 ((g.fst.getD
 (x.snd.fst.getD g.snd.snd.fst.toNat
 ((0 : Int), (0 : Int))).snd.toNat
 ((0 : Int), (0 : Int), false, false, false, false, false)).fst,
 (g.fst.getD
 (x.snd.fst.getD g.snd.snd.fst.toNat
 ((0 : Int), (0 : Int))).snd.toNat
 ((0 : Int), (0 : Int), false, false, false, false,
 false)).snd.fst,
 (g.fst.getD
 (x.snd.fst.getD g.snd.snd.fst.toNat
 ((0 : Int), (0 : Int))).snd.toNat
 ((0 : Int), (0 : Int), false, false, false, false,
 false)).snd.snd.fst,
 (g.fst.getD
 (x.snd.fst.getD g.snd.snd.fst.toNat
 ((0 : Int), (0 : Int))).snd.toNat
 ((0 : Int), (0 : Int), false, false, false, false,
 false)).snd.snd.snd.fst,
 (g.fst.getD
 (x.snd.fst.getD g.snd.snd.fst.toNat
 ((0 : Int), (0 : Int))).snd.toNat
 ((0 : Int), (0 : Int), false, false, false, false,
 false)).snd.snd.snd.snd.fst,
 (g.fst.getD
 (x.snd.fst.getD g.snd.snd.fst.toNat
 ((0 : Int), (0 : Int))).snd.toNat
 ((0 : Int), (0 : Int), false, false, false, false,
 false)).snd.snd.snd.snd.snd.fst,
 (g.fst.getD
 (x.snd.fst.getD g.snd.snd.fst.toNat
 ((0 : Int), (0 : Int))).snd.toNat
 ((0 : Int), (0 : Int), false, false, false, false,
 false)).snd.snd.snd.snd.snd.snd)
 (x.snd.fst.getD g.snd.snd.fst.toNat
 ((0 : Int), (0 : Int))).fst).fst.fst,
 (cstep
 ((g.fst.getD
 (x.snd.fst.getD g.snd.snd.fst.toNat
 ((0 : Int), (0 : Int))).snd.toNat
 ((0 : Int), (0 : Int), false, false, false, false, false)).fst,
 (g.fst.getD
 (x.snd.fst.getD g.snd.snd.fst.toNat
 ((0 : Int), (0 : Int))).snd.toNat
 ((0 : Int), (0 : Int), false, false, false, false,
 false)).snd.fst,
 (g.fst.getD
 (x.snd.fst.getD g.snd.snd.fst.toNat
 ((0 : Int), (0 : Int))).snd.toNat
 ((0 : Int), (0 : Int), false, false, false, false,
 false)).snd.snd.fst,
 (g.fst.getD
 (x.snd.fst.getD g.snd.snd.fst.toNat
 ((0 : Int), (0 : Int))).snd.toNat
 ((0 : Int), (0 : Int), false, false, false, false,
 false)).snd.snd.snd.fst,
 (g.fst.getD
 (x.snd.fst.getD g.snd.snd.fst.toNat
 ((0 : Int), (0 : Int))).snd.toNat
 ((0 : Int), (0 : Int), false, false, false, false,
 false)).snd.snd.snd.snd.fst,
 (g.fst.getD
 (x.snd.fst.getD g.snd.snd.fst.toNat
 ((0 : Int), (0 : Int))).snd.toNat
 ((0 : Int), (0 : Int), false, false, false, false,
 false)).snd.snd.snd.snd.snd.fst,
 (g.fst.getD
 (x.snd.fst.getD g.snd.snd.fst.toNat
 ((0 : Int), (0 : Int))).snd.toNat
 ((0 : Int), (0 : Int), false, false, false, false,
 false)).snd.snd.snd.snd.snd.snd)
 (x.snd.fst.getD g.snd.snd.fst.toNat
 ((0 : Int), (0 : Int))).fst).fst.snd.fst) ∧
 True) ∧
 True) ∧
 ((cstep
 ((g.fst.getD (x.snd.fst.getD g.snd.snd.fst.toNat ((0 : Int), (0 : Int))).snd.toNat
 ((0 : Int), (0 : Int), false, false, false, false, false)).fst,
 (g.fst.getD (x.snd.fst.getD g.snd.snd.fst.toNat ((0 : Int), (0 : Int))).snd.toNat
 ((0 : Int), (0 : Int), false, false, false, false, false)).snd.fst,
 (g.fst.getD (x.snd.fst.getD g.snd.snd.fst.toNat ((0 : Int), (0 : Int))).snd.toNat
 ((0 : Int), (0 : Int), false, false, false, false, false)).snd.snd.fst,
 (g.fst.getD (x.snd.fst.getD g.snd.snd.fst.toNat ((0 : Int), (0 : Int))).snd.toNat
 ((0 : Int), (0 : Int), false, false, false, false, false)).snd.snd.snd.fst,
 (g.fst.getD (x.snd.fst.getD g.snd.snd.fst.toNat ((0 : Int), (0 : Int))).snd.toNat
 ((0 : Int), (0 : Int), false, false, false, false, false)).snd.snd.snd.snd.fst,
 (g.fst.getD (x.snd.fst.getD g.snd.snd.fst.toNat ((0 : Int), (0 : Int))).snd.toNat
 ((0 : Int), (0 : Int), false, false, false, false,
 false)).snd.snd.snd.snd.snd.fst,
 (g.fst.getD (x.snd.fst.getD g.snd.snd.fst.toNat ((0 : Int), (0 : Int))).snd.toNat
 ((0 : Int), (0 : Int), false, false, false, false,
 false)).snd.snd.snd.snd.snd.snd)
 (x.snd.fst.getD g.snd.snd.fst.toNat ((0 : Int), (0 : Int))).fst).snd =
 false →
 ((-9223372036854775808 : Int) ≤ g.snd.snd.fst + (1 : Int) ∧
 g.snd.snd.fst + (1 : Int) ≤ (9223372036854775807 : Int)) ∧
 (((0 : Int) ≤ g.snd.snd.fst + (1 : Int) ∧
 g.snd.snd.fst + (1 : Int) ≤ (↑x.snd.fst.length : Int) ∧
 play x.fst (List.take (g.snd.snd.fst + (1 : Int)).toNat x.snd.fst) =
 (g.fst.set (x.snd.fst.getD g.snd.snd.fst.toNat ((0 : Int), (0 : Int))).snd.toNat
 ((cstep
 ((g.fst.getD
 (x.snd.fst.getD g.snd.snd.fst.toNat
 ((0 : Int), (0 : Int))).snd.toNat
 ((0 : Int), (0 : Int), false, false, false, false, false)).fst,
 (g.fst.getD
 (x.snd.fst.getD g.snd.snd.fst.toNat
 ((0 : Int), (0 : Int))).snd.toNat
 ((0 : Int), (0 : Int), false, false, false, false,
 false)).snd.fst,
 (g.fst.getD
 (x.snd.fst.getD g.snd.snd.fst.toNat
 ((0 : Int), (0 : Int))).snd.toNat
 ((0 : Int), (0 : Int), false, false, false, false,
 false)).snd.snd.fst,
 (g.fst.getD
 (x.snd.fst.getD g.snd.snd.fst.toNat
 ((0 : Int), (0 : Int))).snd.toNat
 ((0 : Int), (0 : Int), false, false, false, false,
 false)).snd.snd.snd.fst,
 (g.fst.getD
 (x.snd.fst.getD g.snd.snd.fst.toNat
 ((0 : Int), (0 : Int))).snd.toNat
 ((0 : Int), (0 : Int), false, false, false, false,
 false)).snd.snd.snd.snd.fst,
 (g.fst.getD
 (x.snd.fst.getD g.snd.snd.fst.toNat
 ((0 : Int), (0 : Int))).snd.toNat
 ((0 : Int), (0 : Int), false, false, false, false,
 false)).snd.snd.snd.snd.snd.fst,
 (g.fst.getD
 (x.snd.fst.getD g.snd.snd.fst.toNat
 ((0 : Int), (0 : Int))).snd.toNat
 ((0 : Int), (0 : Int), false, false, false, false,
 false)).snd.snd.snd.snd.snd.snd)
 (x.snd.fst.getD g.snd.snd.fst.toNat ((0 : Int), (0 : Int))).fst).fst.fst,
 (cstep
 ((g.fst.getD
 (x.snd.fst.getD g.snd.snd.fst.toNat
 ((0 : Int), (0 : Int))).snd.toNat
 ((0 : Int), (0 : Int), false, false, false, false, false)).fst,
 (g.fst.getD
 (x.snd.fst.getD g.snd.snd.fst.toNat
 ((0 : Int), (0 : Int))).snd.toNat
 ((0 : Int), (0 : Int), false, false, false, false,
 false)).snd.fst,
 (g.fst.getD
 (x.snd.fst.getD g.snd.snd.fst.toNat
 ((0 : Int), (0 : Int))).snd.toNat
 ((0 : Int), (0 : Int), false, false, false, false,
 false)).snd.snd.fst,
 (g.fst.getD
 (x.snd.fst.getD g.snd.snd.fst.toNat
 ((0 : Int), (0 : Int))).snd.toNat
 ((0 : Int), (0 : Int), false, false, false, false,
 false)).snd.snd.snd.fst,
 (g.fst.getD
 (x.snd.fst.getD g.snd.snd.fst.toNat
 ((0 : Int), (0 : Int))).snd.toNat
 ((0 : Int), (0 : Int), false, false, false, false,
 false)).snd.snd.snd.snd.fst,
 (g.fst.getD
 (x.snd.fst.getD g.snd.snd.fst.toNat
 ((0 : Int), (0 : Int))).snd.toNat
 ((0 : Int), (0 : Int), false, false, false, false,
 false)).snd.snd.snd.snd.snd.fst,
 (g.fst.getD
 (x.snd.fst.getD g.snd.snd.fst.toNat
 ((0 : Int), (0 : Int))).snd.toNat
 ((0 : Int), (0 : Int), false, false, false, false,
 false)).snd.snd.snd.snd.snd.snd)
 (x.snd.fst.getD g.snd.snd.fst.toNat
 ((0 : Int), (0 : Int))).fst).fst.snd.fst,
 (cstep
 ((g.fst.getD
 (x.snd.fst.getD g.snd.snd.fst.toNat
 ((0 : Int), (0 : Int))).snd.toNat
 ((0 : Int), (0 : Int), false, false, false, false, false)).fst,
 (g.fst.getD
 (x.snd.fst.getD g.snd.snd.fst.toNat
 ((0 : Int), (0 : Int))).snd.toNat
 ((0 : Int), (0 : Int), false, false, false, false,
 false)).snd.fst,
 (g.fst.getD
 (x.snd.fst.getD g.snd.snd.fst.toNat
 ((0 : Int), (0 : Int))).snd.toNat
 ((0 : Int), (0 : Int), false, false, false, false,
 false)).snd.snd.fst,
 (g.fst.getD
 (x.snd.fst.getD g.snd.snd.fst.toNat
 ((0 : Int), (0 : Int))).snd.toNat
 ((0 : Int), (0 : Int), false, false, false, false,
 false)).snd.snd.snd.fst,
 (g.fst.getD
 (x.snd.fst.getD g.snd.snd.fst.toNat
 ((0 : Int), (0 : Int))).snd.toNat
 ((0 : Int), (0 : Int), false, false, false, false,
 false)).snd.snd.snd.snd.fst,
 (g.fst.getD
 (x.snd.fst.getD g.snd.snd.fst.toNat
 ((0 : Int), (0 : Int))).snd.toNat
 ((0 : Int), (0 : Int), false, false, false, false,
 false)).snd.snd.snd.snd.snd.fst,
 (g.fst.getD
 (x.snd.fst.getD g.snd.snd.fst.toNat
 ((0 : Int), (0 : Int))).snd.toNat
 ((0 : Int), (0 : Int), false, false, false, false,
 false)).snd.snd.snd.snd.snd.snd)
 (x.snd.fst.getD g.snd.snd.fst.toNat
 ((0 : Int), (0 : Int))).fst).fst.snd.snd.fst,
 (cstep
 ((g.fst.getD
 (x.snd.fst.getD g.snd.snd.fst.toNat
 ((0 : Int), (0 : Int))).snd.toNat
 ((0 : Int), (0 : Int), false, false, false, false,
 false)).fst,
 (g.fst.getD
 (x.snd.fst.getD g.snd.snd.fst.toNat
 ((0 : Int), (0 : Int))).snd.toNat
 ((0 : Int), (0 : Int), false, false, false, false,
 false)).snd.fst,
 (g.fst.getD
 (x.snd.fst.getD g.snd.snd.fst.toNat
 ((0 : Int), (0 : Int))).snd.toNat
 ((0 : Int), (0 : Int), false, false, false, false,
 false)).snd.snd.fst,
 (g.fst.getD
 (x.snd.fst.getD g.snd.snd.fst.toNat
 ((0 : Int), (0 : Int))).snd.toNat
 ((0 : Int), (0 : Int), false, false, false, false,
 false)).snd.snd.snd.fst,
 (g.fst.getD
 (x.snd.fst.getD g.snd.snd.fst.toNat
 ((0 : Int), (0 : Int))).snd.toNat
 ((0 : Int), (0 : Int), false, false, false, false,
 false)).snd.snd.snd.snd.fst,
 (g.fst.getD
 (x.snd.fst.getD g.snd.snd.fst.toNat
 ((0 : Int), (0 : Int))).snd.toNat
 ((0 : Int), (0 : Int), false, false, false, false,
 false)).snd.snd.snd.snd.snd.fst,
 (g.fst.getD
 (x.snd.fst.getD g.snd.snd.fst.toNat
 ((0 : Int), (0 : Int))).snd.toNat
 ((0 : Int), (0 : Int), false, false, false, false,
 false)).snd.snd.snd.snd.snd.snd)
 (x.snd.fst.getD g.snd.snd.fst.toNat
 ((0 : Int), (0 : Int))).fst).fst.snd.snd.snd.fst,
 (cstep
 ((g.fst.getD
 (x.snd.fst.getD g.snd.snd.fst.toNat
 ((0 : Int), (0 : Int))).snd.toNat
 ((0 : Int), (0 : Int), false, false, false, false,
 false)).fst,
 (g.fst.getD
 (x.snd.fst.getD g.snd.snd.fst.toNat
 ((0 : Int), (0 : Int))).snd.toNat
 ((0 : Int), (0 : Int), false, false, false, false,
 false)).snd.fst,
 (g.fst.getD
 (x.snd.fst.getD g.snd.snd.fst.toNat
 ((0 : Int), (0 : Int))).snd.toNat
 ((0 : Int), (0 : Int), false, false, false, false,
 false)).snd.snd.fst,
 (g.fst.getD
 (x.snd.fst.getD g.snd.snd.fst.toNat
 ((0 : Int), (0 : Int))).snd.toNat
 ((0 : Int), (0 : Int), false, false, false, false,
 false)).snd.snd.snd.fst,
 (g.fst.getD
 (x.snd.fst.getD g.snd.snd.fst.toNat
 ((0 : Int), (0 : Int))).snd.toNat
 ((0 : Int), (0 : Int), false, false, false, false,
 false)).snd.snd.snd.snd.fst,
 (g.fst.getD
 (x.snd.fst.getD g.snd.snd.fst.toNat
 ((0 : Int), (0 : Int))).snd.toNat
 ((0 : Int), (0 : Int), false, false, false, false,
 false)).snd.snd.snd.snd.snd.fst,
 (g.fst.getD
 (x.snd.fst.getD g.snd.snd.fst.toNat
 ((0 : Int), (0 : Int))).snd.toNat
 ((0 : Int), (0 : Int), false, false, false, false,
 false)).snd.snd.snd.snd.snd.snd)
 (x.snd.fst.getD g.snd.snd.fst.toNat
 ((0 : Int), (0 : Int))).fst).fst.snd.snd.snd.snd.fst,
 (cstep
 ((g.fst.getD
 (x.snd.fst.getD g.snd.snd.fst.toNat
 ((0 : Int), (0 : Int))).snd.toNat
 ((0 : Int), (0 : Int), false, false, false, false,
 false)).fst,
 (g.fst.getD
 (x.snd.fst.getD g.snd.snd.fst.toNat
 ((0 : Int), (0 : Int))).snd.toNat
 ((0 : Int), (0 : Int), false, false, false, false,
 false)).snd.fst,
 (g.fst.getD
 (x.snd.fst.getD g.snd.snd.fst.toNat
 ((0 : Int), (0 : Int))).snd.toNat
 ((0 : Int), (0 : Int), false, false, false, false,
 false)).snd.snd.fst,
 (g.fst.getD
 (x.snd.fst.getD g.snd.snd.fst.toNat
 ((0 : Int), (0 : Int))).snd.toNat
 ((0 : Int), (0 : Int), false, false, false, false,
 false)).snd.snd.snd.fst,
 (g.fst.getD
 (x.snd.fst.getD g.snd.snd.fst.toNat
 ((0 : Int), (0 : Int))).snd.toNat
 ((0 : Int), (0 : Int), false, false, false, false,
 false)).snd.snd.snd.snd.fst,
 (g.fst.getD
 (x.snd.fst.getD g.snd.snd.fst.toNat
 ((0 : Int), (0 : Int))).snd.toNat
 ((0 : Int), (0 : Int), false, false, false,
 false, false)).snd.snd.snd.snd.snd.fst,
 (g.fst.getD
 (x.snd.fst.getD g.snd.snd.fst.toNat
 ((0 : Int), (0 : Int))).snd.toNat
 ((0 : Int), (0 : Int), false, false, false,
 false, false)).snd.snd.snd.snd.snd.snd)
 (x.snd.fst.getD g.snd.snd.fst.toNat
 ((0 : Int), (0 : Int))).fst).fst.snd.snd.snd.snd.snd.fst,
 (cstep
 ((g.fst.getD
 (x.snd.fst.getD g.snd.snd.fst.toNat
 ((0 : Int), (0 : Int))).snd.toNat
 ((0 : Int), (0 : Int), false, false, false, false,
 false)).fst,
 (g.fst.getD
 (x.snd.fst.getD g.snd.snd.fst.toNat
 ((0 : Int), (0 : Int))).snd.toNat
 ((0 : Int), (0 : Int), false, false, false, false,
 false)).snd.fst,
 (g.fst.getD
 (x.snd.fst.getD g.snd.snd.fst.toNat
 ((0 : Int), (0 : Int))).snd.toNat
 ((0 : Int), (0 : Int), false, false, false, false,
 false)).snd.snd.fst,
 (g.fst.getD
 (x.snd.fst.getD g.snd.snd.fst.toNat
 ((0 : Int), (0 : Int))).snd.toNat
 ((0 : Int), (0 : Int), false, false, false, false,
 false)).snd.snd.snd.fst,
 (g.fst.getD
 (x.snd.fst.getD g.snd.snd.fst.toNat
 ((0 : Int), (0 : Int))).snd.toNat
 ((0 : Int), (0 : Int), false, false, false, false,
 false)).snd.snd.snd.snd.fst,
 (g.fst.getD
 (x.snd.fst.getD g.snd.snd.fst.toNat
 ((0 : Int), (0 : Int))).snd.toNat
 ((0 : Int), (0 : Int), false, false, false,
 false, false)).snd.snd.snd.snd.snd.fst,
 (g.fst.getD
 (x.snd.fst.getD g.snd.snd.fst.toNat
 ((0 : Int), (0 : Int))).snd.toNat
 ((0 : Int), (0 : Int), false, false, false,
 false, false)).snd.snd.snd.snd.snd.snd)
 (x.snd.fst.getD g.snd.snd.fst.toNat
 ((0 : Int), (0 : Int))).fst).fst.snd.snd.snd.snd.snd.snd),
 g.snd.fst) ∧
 (↑g.snd.fst.length : Int) ≤ g.snd.snd.fst + (1 : Int)) ∧
 ((↑x.snd.fst.length : Int) - (g.snd.snd.fst + (1 : Int))).toNat <
 ((↑x.snd.fst.length : Int) - g.snd.snd.fst).toNat) ∧
 (True ∧
 True ∧
 x.snd.fst = x.snd.fst ∧
 (↑x.snd.fst.length : Int) = (↑x.snd.fst.length : Int) ∧
 g.snd.snd.fst + (1 : Int) = g.snd.snd.fst + (1 : Int) ∧ True) ∧
 (g.fst.set (x.snd.fst.getD g.snd.snd.fst.toNat ((0 : Int), (0 : Int))).snd.toNat
 ((cstep
 ((g.fst.getD
 (x.snd.fst.getD g.snd.snd.fst.toNat ((0 : Int), (0 : Int))).snd.toNat
 ((0 : Int), (0 : Int), false, false, false, false, false)).fst,
 (g.fst.getD
 (x.snd.fst.getD g.snd.snd.fst.toNat ((0 : Int), (0 : Int))).snd.toNat
 ((0 : Int), (0 : Int), false, false, false, false, false)).snd.fst,
 (g.fst.getD
 (x.snd.fst.getD g.snd.snd.fst.toNat
 ((0 : Int), (0 : Int))).snd.toNat
 ((0 : Int), (0 : Int), false, false, false, false,
 false)).snd.snd.fst,
 (g.fst.getD
 (x.snd.fst.getD g.snd.snd.fst.toNat
 ((0 : Int), (0 : Int))).snd.toNat
 ((0 : Int), (0 : Int), false, false, false, false,
 false)).snd.snd.snd.fst,
 (g.fst.getD
 (x.snd.fst.getD g.snd.snd.fst.toNat
 ((0 : Int), (0 : Int))).snd.toNat
 ((0 : Int), (0 : Int), false, false, false, false,
 false)).snd.snd.snd.snd.fst,
 (g.fst.getD
 (x.snd.fst.getD g.snd.snd.fst.toNat
 ((0 : Int), (0 : Int))).snd.toNat
 ((0 : Int), (0 : Int), false, false, false, false,
 false)).snd.snd.snd.snd.snd.fst,
 (g.fst.getD
 (x.snd.fst.getD g.snd.snd.fst.toNat
 ((0 : Int), (0 : Int))).snd.toNat
 ((0 : Int), (0 : Int), false, false, false, false,
 false)).snd.snd.snd.snd.snd.snd)
 (x.snd.fst.getD g.snd.snd.fst.toNat ((0 : Int), (0 : Int))).fst).fst.fst,
 (cstep
 ((g.fst.getD
 (x.snd.fst.getD g.snd.snd.fst.toNat ((0 : Int), (0 : Int))).snd.toNat
 ((0 : Int), (0 : Int), false, false, false, false, false)).fst,
 (g.fst.getD
 (x.snd.fst.getD g.snd.snd.fst.toNat
 ((0 : Int), (0 : Int))).snd.toNat
 ((0 : Int), (0 : Int), false, false, false, false, false)).snd.fst,
 (g.fst.getD
 (x.snd.fst.getD g.snd.snd.fst.toNat
 ((0 : Int), (0 : Int))).snd.toNat
 ((0 : Int), (0 : Int), false, false, false, false,
 false)).snd.snd.fst,
 (g.fst.getD
 (x.snd.fst.getD g.snd.snd.fst.toNat
 ((0 : Int), (0 : Int))).snd.toNat
 ((0 : Int), (0 : Int), false, false, false, false,
 false)).snd.snd.snd.fst,
 (g.fst.getD
 (x.snd.fst.getD g.snd.snd.fst.toNat
 ((0 : Int), (0 : Int))).snd.toNat
 ((0 : Int), (0 : Int), false, false, false, false,
 false)).snd.snd.snd.snd.fst,
 (g.fst.getD
 (x.snd.fst.getD g.snd.snd.fst.toNat
 ((0 : Int), (0 : Int))).snd.toNat
 ((0 : Int), (0 : Int), false, false, false, false,
 false)).snd.snd.snd.snd.snd.fst,
 (g.fst.getD
 (x.snd.fst.getD g.snd.snd.fst.toNat
 ((0 : Int), (0 : Int))).snd.toNat
 ((0 : Int), (0 : Int), false, false, false, false,
 false)).snd.snd.snd.snd.snd.snd)
 (x.snd.fst.getD g.snd.snd.fst.toNat
 ((0 : Int), (0 : Int))).fst).fst.snd.fst,
 (cstep
 ((g.fst.getD
 (x.snd.fst.getD g.snd.snd.fst.toNat
 ((0 : Int), (0 : Int))).snd.toNat
 ((0 : Int), (0 : Int), false, false, false, false, false)).fst,
 (g.fst.getD
 (x.snd.fst.getD g.snd.snd.fst.toNat
 ((0 : Int), (0 : Int))).snd.toNat
 ((0 : Int), (0 : Int), false, false, false, false,
 false)).snd.fst,
 (g.fst.getD
 (x.snd.fst.getD g.snd.snd.fst.toNat
 ((0 : Int), (0 : Int))).snd.toNat
 ((0 : Int), (0 : Int), false, false, false, false,
 false)).snd.snd.fst,
 (g.fst.getD
 (x.snd.fst.getD g.snd.snd.fst.toNat
 ((0 : Int), (0 : Int))).snd.toNat
 ((0 : Int), (0 : Int), false, false, false, false,
 false)).snd.snd.snd.fst,
 (g.fst.getD
 (x.snd.fst.getD g.snd.snd.fst.toNat
 ((0 : Int), (0 : Int))).snd.toNat
 ((0 : Int), (0 : Int), false, false, false, false,
 false)).snd.snd.snd.snd.fst,
 (g.fst.getD
 (x.snd.fst.getD g.snd.snd.fst.toNat
 ((0 : Int), (0 : Int))).snd.toNat
 ((0 : Int), (0 : Int), false, false, false, false,
 false)).snd.snd.snd.snd.snd.fst,
 (g.fst.getD
 (x.snd.fst.getD g.snd.snd.fst.toNat
 ((0 : Int), (0 : Int))).snd.toNat
 ((0 : Int), (0 : Int), false, false, false, false,
 false)).snd.snd.snd.snd.snd.snd)
 (x.snd.fst.getD g.snd.snd.fst.toNat
 ((0 : Int), (0 : Int))).fst).fst.snd.snd.fst,
 (cstep
 ((g.fst.getD
 (x.snd.fst.getD g.snd.snd.fst.toNat
 ((0 : Int), (0 : Int))).snd.toNat
 ((0 : Int), (0 : Int), false, false, false, false, false)).fst,
 (g.fst.getD
 (x.snd.fst.getD g.snd.snd.fst.toNat
 ((0 : Int), (0 : Int))).snd.toNat
 ((0 : Int), (0 : Int), false, false, false, false,
 false)).snd.fst,
 (g.fst.getD
 (x.snd.fst.getD g.snd.snd.fst.toNat
 ((0 : Int), (0 : Int))).snd.toNat
 ((0 : Int), (0 : Int), false, false, false, false,
 false)).snd.snd.fst,
 (g.fst.getD
 (x.snd.fst.getD g.snd.snd.fst.toNat
 ((0 : Int), (0 : Int))).snd.toNat
 ((0 : Int), (0 : Int), false, false, false, false,
 false)).snd.snd.snd.fst,
 (g.fst.getD
 (x.snd.fst.getD g.snd.snd.fst.toNat
 ((0 : Int), (0 : Int))).snd.toNat
 ((0 : Int), (0 : Int), false, false, false, false,
 false)).snd.snd.snd.snd.fst,
 (g.fst.getD
 (x.snd.fst.getD g.snd.snd.fst.toNat
 ((0 : Int), (0 : Int))).snd.toNat
 ((0 : Int), (0 : Int), false, false, false, false,
 false)).snd.snd.snd.snd.snd.fst,
 (g.fst.getD
 (x.snd.fst.getD g.snd.snd.fst.toNat
 ((0 : Int), (0 : Int))).snd.toNat
 ((0 : Int), (0 : Int), false, false, false, false,
 false)).snd.snd.snd.snd.snd.snd)
 (x.snd.fst.getD g.snd.snd.fst.toNat
 ((0 : Int), (0 : Int))).fst).fst.snd.snd.snd.fst,
 (cstep
 ((g.fst.getD
 (x.snd.fst.getD g.snd.snd.fst.toNat
 ((0 : Int), (0 : Int))).snd.toNat
 ((0 : Int), (0 : Int), false, false, false, false, false)).fst,
 (g.fst.getD
 (x.snd.fst.getD g.snd.snd.fst.toNat
 ((0 : Int), (0 : Int))).snd.toNat
 ((0 : Int), (0 : Int), false, false, false, false,
 false)).snd.fst,
 (g.fst.getD
 (x.snd.fst.getD g.snd.snd.fst.toNat
 ((0 : Int), (0 : Int))).snd.toNat
 ((0 : Int), (0 : Int), false, false, false, false,
 false)).snd.snd.fst,
 (g.fst.getD
 (x.snd.fst.getD g.snd.snd.fst.toNat
 ((0 : Int), (0 : Int))).snd.toNat
 ((0 : Int), (0 : Int), false, false, false, false,
 false)).snd.snd.snd.fst,
 (g.fst.getD
 (x.snd.fst.getD g.snd.snd.fst.toNat
 ((0 : Int), (0 : Int))).snd.toNat
 ((0 : Int), (0 : Int), false, false, false, false,
 false)).snd.snd.snd.snd.fst,
 (g.fst.getD
 (x.snd.fst.getD g.snd.snd.fst.toNat
 ((0 : Int), (0 : Int))).snd.toNat
 ((0 : Int), (0 : Int), false, false, false, false,
 false)).snd.snd.snd.snd.snd.fst,
 (g.fst.getD
 (x.snd.fst.getD g.snd.snd.fst.toNat
 ((0 : Int), (0 : Int))).snd.toNat
 ((0 : Int), (0 : Int), false, false, false, false,
 false)).snd.snd.snd.snd.snd.snd)
 (x.snd.fst.getD g.snd.snd.fst.toNat
 ((0 : Int), (0 : Int))).fst).fst.snd.snd.snd.snd.fst,
 (cstep
 ((g.fst.getD
 (x.snd.fst.getD g.snd.snd.fst.toNat
 ((0 : Int), (0 : Int))).snd.toNat
 ((0 : Int), (0 : Int), false, false, false, false,
 false)).fst,
 (g.fst.getD
 (x.snd.fst.getD g.snd.snd.fst.toNat
 ((0 : Int), (0 : Int))).snd.toNat
 ((0 : Int), (0 : Int), false, false, false, false,
 false)).snd.fst,
 (g.fst.getD
 (x.snd.fst.getD g.snd.snd.fst.toNat
 ((0 : Int), (0 : Int))).snd.toNat
 ((0 : Int), (0 : Int), false, false, false, false,
 false)).snd.snd.fst,
 (g.fst.getD
 (x.snd.fst.getD g.snd.snd.fst.toNat
 ((0 : Int), (0 : Int))).snd.toNat
 ((0 : Int), (0 : Int), false, false, false, false,
 false)).snd.snd.snd.fst,
 (g.fst.getD
 (x.snd.fst.getD g.snd.snd.fst.toNat
 ((0 : Int), (0 : Int))).snd.toNat
 ((0 : Int), (0 : Int), false, false, false, false,
 false)).snd.snd.snd.snd.fst,
 (g.fst.getD
 (x.snd.fst.getD g.snd.snd.fst.toNat
 ((0 : Int), (0 : Int))).snd.toNat
 ((0 : Int), (0 : Int), false, false, false, false,
 false)).snd.snd.snd.snd.snd.fst,
 (g.fst.getD
 (x.snd.fst.getD g.snd.snd.fst.toNat
 ((0 : Int), (0 : Int))).snd.toNat
 ((0 : Int), (0 : Int), false, false, false, false,
 false)).snd.snd.snd.snd.snd.snd)
 (x.snd.fst.getD g.snd.snd.fst.toNat
 ((0 : Int), (0 : Int))).fst).fst.snd.snd.snd.snd.snd.fst,
 (cstep
 ((g.fst.getD
 (x.snd.fst.getD g.snd.snd.fst.toNat
 ((0 : Int), (0 : Int))).snd.toNat
 ((0 : Int), (0 : Int), false, false, false, false,
 false)).fst,
 (g.fst.getD
 (x.snd.fst.getD g.snd.snd.fst.toNat
 ((0 : Int), (0 : Int))).snd.toNat
 ((0 : Int), (0 : Int), false, false, false, false,
 false)).snd.fst,
 (g.fst.getD
 (x.snd.fst.getD g.snd.snd.fst.toNat
 ((0 : Int), (0 : Int))).snd.toNat
 ((0 : Int), (0 : Int), false, false, false, false,
 false)).snd.snd.fst,
 (g.fst.getD
 (x.snd.fst.getD g.snd.snd.fst.toNat
 ((0 : Int), (0 : Int))).snd.toNat
 ((0 : Int), (0 : Int), false, false, false, false,
 false)).snd.snd.snd.fst,
 (g.fst.getD
 (x.snd.fst.getD g.snd.snd.fst.toNat
 ((0 : Int), (0 : Int))).snd.toNat
 ((0 : Int), (0 : Int), false, false, false, false,
 false)).snd.snd.snd.snd.fst,
 (g.fst.getD
 (x.snd.fst.getD g.snd.snd.fst.toNat
 ((0 : Int), (0 : Int))).snd.toNat
 ((0 : Int), (0 : Int), false, false, false, false,
 false)).snd.snd.snd.snd.snd.fst,
 (g.fst.getD
 (x.snd.fst.getD g.snd.snd.fst.toNat
 ((0 : Int), (0 : Int))).snd.toNat
 ((0 : Int), (0 : Int), false, false, false, false,
 false)).snd.snd.snd.snd.snd.snd)
 (x.snd.fst.getD g.snd.snd.fst.toNat
 ((0 : Int), (0 : Int))).fst).fst.snd.snd.snd.snd.snd.snd) =
 g.fst.set (x.snd.fst.getD g.snd.snd.fst.toNat ((0 : Int), (0 : Int))).snd.toNat
 ((cstep
 ((g.fst.getD
 (x.snd.fst.getD g.snd.snd.fst.toNat ((0 : Int), (0 : Int))).snd.toNat
 ((0 : Int), (0 : Int), false, false, false, false, false)).fst,
 (g.fst.getD
 (x.snd.fst.getD g.snd.snd.fst.toNat ((0 : Int), (0 : Int))).snd.toNat
 ((0 : Int), (0 : Int), false, false, false, false, false)).snd.fst,
 (g.fst.getD
 (x.snd.fst.getD g.snd.snd.fst.toNat
 ((0 : Int), (0 : Int))).snd.toNat
 ((0 : Int), (0 : Int), false, false, false, false,
 false)).snd.snd.fst,
 (g.fst.getD
 (x.snd.fst.getD g.snd.snd.fst.toNat
 ((0 : Int), (0 : Int))).snd.toNat
 ((0 : Int), (0 : Int), false, false, false, false,
 false)).snd.snd.snd.fst,
 (g.fst.getD
 (x.snd.fst.getD g.snd.snd.fst.toNat
 ((0 : Int), (0 : Int))).snd.toNat
 ((0 : Int), (0 : Int), false, false, false, false,
 false)).snd.snd.snd.snd.fst,
 (g.fst.getD
 (x.snd.fst.getD g.snd.snd.fst.toNat
 ((0 : Int), (0 : Int))).snd.toNat
 ((0 : Int), (0 : Int), false, false, false, false,
 false)).snd.snd.snd.snd.snd.fst,
 (g.fst.getD
 (x.snd.fst.getD g.snd.snd.fst.toNat
 ((0 : Int), (0 : Int))).snd.toNat
 ((0 : Int), (0 : Int), false, false, false, false,
 false)).snd.snd.snd.snd.snd.snd)
 (x.snd.fst.getD g.snd.snd.fst.toNat ((0 : Int), (0 : Int))).fst).fst.fst,
 (cstep
 ((g.fst.getD
 (x.snd.fst.getD g.snd.snd.fst.toNat ((0 : Int), (0 : Int))).snd.toNat
 ((0 : Int), (0 : Int), false, false, false, false, false)).fst,
 (g.fst.getD
 (x.snd.fst.getD g.snd.snd.fst.toNat
 ((0 : Int), (0 : Int))).snd.toNat
 ((0 : Int), (0 : Int), false, false, false, false, false)).snd.fst,
 (g.fst.getD
 (x.snd.fst.getD g.snd.snd.fst.toNat
 ((0 : Int), (0 : Int))).snd.toNat
 ((0 : Int), (0 : Int), false, false, false, false,
 false)).snd.snd.fst,
 (g.fst.getD
 (x.snd.fst.getD g.snd.snd.fst.toNat
 ((0 : Int), (0 : Int))).snd.toNat
 ((0 : Int), (0 : Int), false, false, false, false,
 false)).snd.snd.snd.fst,
 (g.fst.getD
 (x.snd.fst.getD g.snd.snd.fst.toNat
 ((0 : Int), (0 : Int))).snd.toNat
 ((0 : Int), (0 : Int), false, false, false, false,
 false)).snd.snd.snd.snd.fst,
 (g.fst.getD
 (x.snd.fst.getD g.snd.snd.fst.toNat
 ((0 : Int), (0 : Int))).snd.toNat
 ((0 : Int), (0 : Int), false, false, false, false,
 false)).snd.snd.snd.snd.snd.fst,
 (g.fst.getD
 (x.snd.fst.getD g.snd.snd.fst.toNat
 ((0 : Int), (0 : Int))).snd.toNat
 ((0 : Int), (0 : Int), false, false, false, false,
 false)).snd.snd.snd.snd.snd.snd)
 (x.snd.fst.getD g.snd.snd.fst.toNat
 ((0 : Int), (0 : Int))).fst).fst.snd.fst,
 (cstep
 ((g.fst.getD
 (x.snd.fst.getD g.snd.snd.fst.toNat
 ((0 : Int), (0 : Int))).snd.toNat
 ((0 : Int), (0 : Int), false, false, false, false, false)).fst,
 (g.fst.getD
 (x.snd.fst.getD g.snd.snd.fst.toNat
 ((0 : Int), (0 : Int))).snd.toNat
 ((0 : Int), (0 : Int), false, false, false, false,
 false)).snd.fst,
 (g.fst.getD
 (x.snd.fst.getD g.snd.snd.fst.toNat
 ((0 : Int), (0 : Int))).snd.toNat
 ((0 : Int), (0 : Int), false, false, false, false,
 false)).snd.snd.fst,
 (g.fst.getD
 (x.snd.fst.getD g.snd.snd.fst.toNat
 ((0 : Int), (0 : Int))).snd.toNat
 ((0 : Int), (0 : Int), false, false, false, false,
 false)).snd.snd.snd.fst,
 (g.fst.getD
 (x.snd.fst.getD g.snd.snd.fst.toNat
 ((0 : Int), (0 : Int))).snd.toNat
 ((0 : Int), (0 : Int), false, false, false, false,
 false)).snd.snd.snd.snd.fst,
 (g.fst.getD
 (x.snd.fst.getD g.snd.snd.fst.toNat
 ((0 : Int), (0 : Int))).snd.toNat
 ((0 : Int), (0 : Int), false, false, false, false,
 false)).snd.snd.snd.snd.snd.fst,
 (g.fst.getD
 (x.snd.fst.getD g.snd.snd.fst.toNat
 ((0 : Int), (0 : Int))).snd.toNat
 ((0 : Int), (0 : Int), false, false, false, false,
 false)).snd.snd.snd.snd.snd.snd)
 (x.snd.fst.getD g.snd.snd.fst.toNat
 ((0 : Int), (0 : Int))).fst).fst.snd.snd.fst,
 (cstep
 ((g.fst.getD
 (x.snd.fst.getD g.snd.snd.fst.toNat
 ((0 : Int), (0 : Int))).snd.toNat
 ((0 : Int), (0 : Int), false, false, false, false, false)).fst,
 (g.fst.getD
 (x.snd.fst.getD g.snd.snd.fst.toNat
 ((0 : Int), (0 : Int))).snd.toNat
 ((0 : Int), (0 : Int), false, false, false, false,
 false)).snd.fst,
 (g.fst.getD
 (x.snd.fst.getD g.snd.snd.fst.toNat
 ((0 : Int), (0 : Int))).snd.toNat
 ((0 : Int), (0 : Int), false, false, false, false,
 false)).snd.snd.fst,
 (g.fst.getD
 (x.snd.fst.getD g.snd.snd.fst.toNat
 ((0 : Int), (0 : Int))).snd.toNat
 ((0 : Int), (0 : Int), false, false, false, false,
 false)).snd.snd.snd.fst,
 (g.fst.getD
 (x.snd.fst.getD g.snd.snd.fst.toNat
 ((0 : Int), (0 : Int))).snd.toNat
 ((0 : Int), (0 : Int), false, false, false, false,
 false)).snd.snd.snd.snd.fst,
 (g.fst.getD
 (x.snd.fst.getD g.snd.snd.fst.toNat
 ((0 : Int), (0 : Int))).snd.toNat
 ((0 : Int), (0 : Int), false, false, false, false,
 false)).snd.snd.snd.snd.snd.fst,
 (g.fst.getD
 (x.snd.fst.getD g.snd.snd.fst.toNat
 ((0 : Int), (0 : Int))).snd.toNat
 ((0 : Int), (0 : Int), false, false, false, false,
 false)).snd.snd.snd.snd.snd.snd)
 (x.snd.fst.getD g.snd.snd.fst.toNat
 ((0 : Int), (0 : Int))).fst).fst.snd.snd.snd.fst,
 (cstep
 ((g.fst.getD
 (x.snd.fst.getD g.snd.snd.fst.toNat
 ((0 : Int), (0 : Int))).snd.toNat
 ((0 : Int), (0 : Int), false, false, false, false, false)).fst,
 (g.fst.getD
 (x.snd.fst.getD g.snd.snd.fst.toNat
 ((0 : Int), (0 : Int))).snd.toNat
 ((0 : Int), (0 : Int), false, false, false, false,
 false)).snd.fst,
 (g.fst.getD
 (x.snd.fst.getD g.snd.snd.fst.toNat
 ((0 : Int), (0 : Int))).snd.toNat
 ((0 : Int), (0 : Int), false, false, false, false,
 false)).snd.snd.fst,
 (g.fst.getD
 (x.snd.fst.getD g.snd.snd.fst.toNat
 ((0 : Int), (0 : Int))).snd.toNat
 ((0 : Int), (0 : Int), false, false, false, false,
 false)).snd.snd.snd.fst,
 (g.fst.getD
 (x.snd.fst.getD g.snd.snd.fst.toNat
 ((0 : Int), (0 : Int))).snd.toNat
 ((0 : Int), (0 : Int), false, false, false, false,
 false)).snd.snd.snd.snd.fst,
 (g.fst.getD
 (x.snd.fst.getD g.snd.snd.fst.toNat
 ((0 : Int), (0 : Int))).snd.toNat
 ((0 : Int), (0 : Int), false, false, false, false,
 false)).snd.snd.snd.snd.snd.fst,
 (g.fst.getD
 (x.snd.fst.getD g.snd.snd.fst.toNat
 ((0 : Int), (0 : Int))).snd.toNat
 ((0 : Int), (0 : Int), false, false, false, false,
 false)).snd.snd.snd.snd.snd.snd)
 (x.snd.fst.getD g.snd.snd.fst.toNat
 ((0 : Int), (0 : Int))).fst).fst.snd.snd.snd.snd.fst,
 (cstep
 ((g.fst.getD
 (x.snd.fst.getD g.snd.snd.fst.toNat
 ((0 : Int), (0 : Int))).snd.toNat
 ((0 : Int), (0 : Int), false, false, false, false,
 false)).fst,
 (g.fst.getD
 (x.snd.fst.getD g.snd.snd.fst.toNat
 ((0 : Int), (0 : Int))).snd.toNat
 ((0 : Int), (0 : Int), false, false, false, false,
 false)).snd.fst,
 (g.fst.getD
 (x.snd.fst.getD g.snd.snd.fst.toNat
 ((0 : Int), (0 : Int))).snd.toNat
 ((0 : Int), (0 : Int), false, false, false, false,
 false)).snd.snd.fst,
 (g.fst.getD
 (x.snd.fst.getD g.snd.snd.fst.toNat
 ((0 : Int), (0 : Int))).snd.toNat
 ((0 : Int), (0 : Int), false, false, false, false,
 false)).snd.snd.snd.fst,
 (g.fst.getD
 (x.snd.fst.getD g.snd.snd.fst.toNat
 ((0 : Int), (0 : Int))).snd.toNat
 ((0 : Int), (0 : Int), false, false, false, false,
 false)).snd.snd.snd.snd.fst,
 (g.fst.getD
 (x.snd.fst.getD g.snd.snd.fst.toNat
 ((0 : Int), (0 : Int))).snd.toNat
 ((0 : Int), (0 : Int), false, false, false, false,
 false)).snd.snd.snd.snd.snd.fst,
 (g.fst.getD
 (x.snd.fst.getD g.snd.snd.fst.toNat
 ((0 : Int), (0 : Int))).snd.toNat
 ((0 : Int), (0 : Int), false, false, false, false,
 false)).snd.snd.snd.snd.snd.snd)
 (x.snd.fst.getD g.snd.snd.fst.toNat
 ((0 : Int), (0 : Int))).fst).fst.snd.snd.snd.snd.snd.fst,
 (cstep
 ((g.fst.getD
 (x.snd.fst.getD g.snd.snd.fst.toNat
 ((0 : Int), (0 : Int))).snd.toNat
 ((0 : Int), (0 : Int), false, false, false, false,
 false)).fst,
 (g.fst.getD
 (x.snd.fst.getD g.snd.snd.fst.toNat
 ((0 : Int), (0 : Int))).snd.toNat
 ((0 : Int), (0 : Int), false, false, false, false,
 false)).snd.fst,
 (g.fst.getD
 (x.snd.fst.getD g.snd.snd.fst.toNat
 ((0 : Int), (0 : Int))).snd.toNat
 ((0 : Int), (0 : Int), false, false, false, false,
 false)).snd.snd.fst,
 (g.fst.getD
 (x.snd.fst.getD g.snd.snd.fst.toNat
 ((0 : Int), (0 : Int))).snd.toNat
 ((0 : Int), (0 : Int), false, false, false, false,
 false)).snd.snd.snd.fst,
 (g.fst.getD
 (x.snd.fst.getD g.snd.snd.fst.toNat
 ((0 : Int), (0 : Int))).snd.toNat
 ((0 : Int), (0 : Int), false, false, false, false,
 false)).snd.snd.snd.snd.fst,
 (g.fst.getD
 (x.snd.fst.getD g.snd.snd.fst.toNat
 ((0 : Int), (0 : Int))).snd.toNat
 ((0 : Int), (0 : Int), false, false, false, false,
 false)).snd.snd.snd.snd.snd.fst,
 (g.fst.getD
 (x.snd.fst.getD g.snd.snd.fst.toNat
 ((0 : Int), (0 : Int))).snd.toNat
 ((0 : Int), (0 : Int), false, false, false, false,
 false)).snd.snd.snd.snd.snd.snd)
 (x.snd.fst.getD g.snd.snd.fst.toNat
 ((0 : Int), (0 : Int))).fst).fst.snd.snd.snd.snd.snd.snd) ∧
 g.snd.fst = g.snd.fst ∧ True) ∧
 True))) ∧
 (decide (g.snd.snd.fst < (↑x.snd.fst.length : Int)) = false → g.fst = (play x.fst x.snd.fst).fst ∧ g.snd.fst = (play x.fst x.snd.fst).snd)

theorem E_cplay_eq (x : HL (cCPlay : Ctr).as) : vc (fx_cplay x) 1 29 Try.f29 (cCPlay) x = E_cplay x := by kernel_rfl

def E_steps (x : List (Int × Int × Bool × Bool × Bool × Bool × Bool) × (Int × Int) × Unit) : Prop :=
 Holds True ∧
 Holds True ∧
 ((!right x.fst) = true →
 Holds True ∧
 Holds True ∧
 ((!right x.fst != right x.fst) = true → (!right x.fst != right x.fst) = true ∧ (!right x.fst != right x.fst) = true) ∧
 ((right x.fst != right x.fst) = false → (!right x.fst != right x.fst) = true) ∧
 ((right x.fst != right x.fst || (step x.fst x.snd.fst.fst x.snd.fst.snd).snd.snd.fst != (1 : Int)) = true → false = true) ∧
 ((right x.fst != right x.fst || (step x.fst x.snd.fst.fst x.snd.fst.snd).snd.snd.fst != (1 : Int)) = false →
 (((1 : Int) != (0 : Int)) = true →
 ((-9223372036854775808 : Int) ≤
 (↑(step x.fst x.snd.fst.fst x.snd.fst.snd).fst.length : Int) +
 (↑(step x.fst x.snd.fst.fst x.snd.fst.snd).snd.fst.length : Int) ∧
 (↑(step x.fst x.snd.fst.fst x.snd.fst.snd).fst.length : Int) +
 (↑(step x.fst x.snd.fst.fst x.snd.fst.snd).snd.fst.length : Int) ≤
 (9223372036854775807 : Int)) ∧
 ((↑(step x.fst x.snd.fst.fst x.snd.fst.snd).fst.length : Int) +
 (↑(step x.fst x.snd.fst.fst x.snd.fst.snd).snd.fst.length : Int) ==
 (0 : Int)) =
 true) ∧
 (((1 : Int) != (0 : Int)) = false →
 Holds
 (x.fst.length * (24 : Nat) ≤ (140737488355328 : Nat) ∧
 ((((0 : Int), (0 : Int)) :: ([] : List (Int × Int))).set (0 : Nat) (x.snd.fst.fst, x.snd.fst.snd)).length * (16 : Nat) ≤
 (140737488351232 : Nat)) ∧
 Holds True ∧
 (deq tyPin.sl (step x.fst x.snd.fst.fst x.snd.fst.snd).fst
 (play x.fst
 ((((0 : Int), (0 : Int)) :: ([] : List (Int × Int))).set (0 : Nat) (x.snd.fst.fst, x.snd.fst.snd))).fst =
 true →
 (deq tyPin.sl (step x.fst x.snd.fst.fst x.snd.fst.snd).fst
 (play x.fst
 ((((0 : Int), (0 : Int)) :: ([] : List (Int × Int))).set (0 : Nat) (x.snd.fst.fst, x.snd.fst.snd))).fst =
 true ∧
 deq tyPin.sl (step x.fst x.snd.fst.fst x.snd.fst.snd).fst
 (play x.fst
 ((((0 : Int), (0 : Int)) :: ([] : List (Int × Int))).set (0 : Nat) (x.snd.fst.fst, x.snd.fst.snd))).fst =
 true) ∧
 Holds True) ∧
 (deq tyPin.sl (step x.fst x.snd.fst.fst x.snd.fst.snd).fst
 (play x.fst
 ((((0 : Int), (0 : Int)) :: ([] : List (Int × Int))).set (0 : Nat) (x.snd.fst.fst, x.snd.fst.snd))).fst =
 true →
 deq tyPin.sl (step x.fst x.snd.fst.fst x.snd.fst.snd).fst
 (play x.fst
 ((((0 : Int), (0 : Int)) :: ([] : List (Int × Int))).set (0 : Nat) (x.snd.fst.fst, x.snd.fst.snd))).fst =
 true) ∧
 (deq tyPin.sl (step x.fst x.snd.fst.fst x.snd.fst.snd).fst
 (play x.fst
 ((((0 : Int), (0 : Int)) :: ([] : List (Int × Int))).set (0 : Nat) (x.snd.fst.fst, x.snd.fst.snd))).fst &&
 deq tySent.sl (step x.fst x.snd.fst.fst x.snd.fst.snd).snd.fst
 (play x.fst
 ((((0 : Int), (0 : Int)) :: ([] : List (Int × Int))).set (0 : Nat) (x.snd.fst.fst, x.snd.fst.snd))).snd) =
 true))) ∧
 ((!right x.fst) = false →
 ((!decide (x.snd.fst.fst < (1 : Int))) = true → (!decide (x.snd.fst.fst < (1 : Int))) = true) ∧
 ((!decide (x.snd.fst.fst < (1 : Int))) = true → (!decide (x.snd.fst.fst < (1 : Int))) = true) ∧
 (decide (x.snd.fst.fst < (1 : Int)) = false → (!decide (x.snd.fst.fst < (1 : Int))) = true) ∧
 ((decide (x.snd.fst.fst < (1 : Int)) || decide ((5 : Int) < x.snd.fst.fst)) = true →
 Holds True ∧
 Holds True ∧
 ((!right x.fst != right x.fst) = true → (!right x.fst != right x.fst) = true ∧ (!right x.fst != right x.fst) = true) ∧
 ((right x.fst != right x.fst) = false → (!right x.fst != right x.fst) = true) ∧
 ((right x.fst != right x.fst || (step x.fst x.snd.fst.fst x.snd.fst.snd).snd.snd.fst != (5 : Int)) = true → false = true) ∧
 ((right x.fst != right x.fst || (step x.fst x.snd.fst.fst x.snd.fst.snd).snd.snd.fst != (5 : Int)) = false →
 (((5 : Int) != (0 : Int)) = true →
 ((-9223372036854775808 : Int) ≤
 (↑(step x.fst x.snd.fst.fst x.snd.fst.snd).fst.length : Int) +
 (↑(step x.fst x.snd.fst.fst x.snd.fst.snd).snd.fst.length : Int) ∧
 (↑(step x.fst x.snd.fst.fst x.snd.fst.snd).fst.length : Int) +
 (↑(step x.fst x.snd.fst.fst x.snd.fst.snd).snd.fst.length : Int) ≤
 (9223372036854775807 : Int)) ∧
 ((↑(step x.fst x.snd.fst.fst x.snd.fst.snd).fst.length : Int) +
 (↑(step x.fst x.snd.fst.fst x.snd.fst.snd).snd.fst.length : Int) ==
 (0 : Int)) =
 true) ∧
 (((5 : Int) != (0 : Int)) = false →
 Holds
 (x.fst.length * (24 : Nat) ≤ (140737488355328 : Nat) ∧
 ((((0 : Int), (0 : Int)) :: ([] : List (Int × Int))).set (0 : Nat) (x.snd.fst.fst, x.snd.fst.snd)).length *
 (16 : Nat) ≤
 (140737488351232 : Nat)) ∧
 Holds True ∧
 (deq tyPin.sl (step x.fst x.snd.fst.fst x.snd.fst.snd).fst
 (play x.fst
 ((((0 : Int), (0 : Int)) :: ([] : List (Int × Int))).set (0 : Nat)
 (x.snd.fst.fst, x.snd.fst.snd))).fst =
 true →
 (deq tyPin.sl (step x.fst x.snd.fst.fst x.snd.fst.snd).fst
 (play x.fst
 ((((0 : Int), (0 : Int)) :: ([] : List (Int × Int))).set (0 : Nat)
 (x.snd.fst.fst, x.snd.fst.snd))).fst =
 true ∧
 deq tyPin.sl (step x.fst x.snd.fst.fst x.snd.fst.snd).fst
 (play x.fst
 ((((0 : Int), (0 : Int)) :: ([] : List (Int × Int))).set (0 : Nat)
 (x.snd.fst.fst, x.snd.fst.snd))).fst =
 true) ∧
 Holds True) ∧
 (deq tyPin.sl (step x.fst x.snd.fst.fst x.snd.fst.snd).fst
 (play x.fst
 ((((0 : Int), (0 : Int)) :: ([] : List (Int × Int))).set (0 : Nat)
 (x.snd.fst.fst, x.snd.fst.snd))).fst =
 true →
 deq tyPin.sl (step x.fst x.snd.fst.fst x.snd.fst.snd).fst
 (play x.fst
 ((((0 : Int), (0 : Int)) :: ([] : List (Int × Int))).set (0 : Nat)
 (x.snd.fst.fst, x.snd.fst.snd))).fst =
 true) ∧
 (deq tyPin.sl (step x.fst x.snd.fst.fst x.snd.fst.snd).fst
 (play x.fst
 ((((0 : Int), (0 : Int)) :: ([] : List (Int × Int))).set (0 : Nat)
 (x.snd.fst.fst, x.snd.fst.snd))).fst &&
 deq tySent.sl (step x.fst x.snd.fst.fst x.snd.fst.snd).snd.fst
 (play x.fst
 ((((0 : Int), (0 : Int)) :: ([] : List (Int × Int))).set (0 : Nat)
 (x.snd.fst.fst, x.snd.fst.snd))).snd) =
 true))) ∧
 ((decide (x.snd.fst.fst < (1 : Int)) || decide ((5 : Int) < x.snd.fst.fst)) = false →
 ((!decide (x.snd.fst.snd < (0 : Int))) = true → (!decide (x.snd.fst.snd < (0 : Int))) = true) ∧
 ((!decide (x.snd.fst.snd < (0 : Int))) = true → (!decide (x.snd.fst.snd < (0 : Int))) = true) ∧
 ((!decide (x.snd.fst.snd < (0 : Int))) = true →
 (!decide (x.snd.fst.snd < (0 : Int))) = true ∧ (!decide (x.snd.fst.snd < (0 : Int))) = true) ∧
 (decide (x.snd.fst.snd < (0 : Int)) = false → (!decide (x.snd.fst.snd < (0 : Int))) = true) ∧
 ((decide (x.snd.fst.snd < (0 : Int)) || decide ((↑x.fst.length : Int) ≤ x.snd.fst.snd)) = true →
 Holds True ∧
 Holds True ∧
 ((!right x.fst != right x.fst) = true →
 (!right x.fst != right x.fst) = true ∧ (!right x.fst != right x.fst) = true) ∧
 ((right x.fst != right x.fst) = false → (!right x.fst != right x.fst) = true) ∧
 ((right x.fst != right x.fst || (step x.fst x.snd.fst.fst x.snd.fst.snd).snd.snd.fst != (3 : Int)) = true →
 false = true) ∧
 ((right x.fst != right x.fst || (step x.fst x.snd.fst.fst x.snd.fst.snd).snd.snd.fst != (3 : Int)) = false →
 (((3 : Int) != (0 : Int)) = true →
 ((-9223372036854775808 : Int) ≤
 (↑(step x.fst x.snd.fst.fst x.snd.fst.snd).fst.length : Int) +
 (↑(step x.fst x.snd.fst.fst x.snd.fst.snd).snd.fst.length : Int) ∧
 (↑(step x.fst x.snd.fst.fst x.snd.fst.snd).fst.length : Int) +
 (↑(step x.fst x.snd.fst.fst x.snd.fst.snd).snd.fst.length : Int) ≤
 (9223372036854775807 : Int)) ∧
 ((↑(step x.fst x.snd.fst.fst x.snd.fst.snd).fst.length : Int) +
 (↑(step x.fst x.snd.fst.fst x.snd.fst.snd).snd.fst.length : Int) ==
 (0 : Int)) =
 true) ∧
 (((3 : Int) != (0 : Int)) = false →
 Holds
 (x.fst.length * (24 : Nat) ≤ (140737488355328 : Nat) ∧
 ((((0 : Int), (0 : Int)) :: ([] : List (Int × Int))).set (0 : Nat)
 (x.snd.fst.fst, x.snd.fst.snd)).length *
 (16 : Nat) ≤
 (140737488351232 : Nat)) ∧
 Holds True ∧
 (deq tyPin.sl (step x.fst x.snd.fst.fst x.snd.fst.snd).fst
 (play x.fst
 ((((0 : Int), (0 : Int)) :: ([] : List (Int × Int))).set (0 : Nat)
 (x.snd.fst.fst, x.snd.fst.snd))).fst =
 true →
 (deq tyPin.sl (step x.fst x.snd.fst.fst x.snd.fst.snd).fst
 (play x.fst
 ((((0 : Int), (0 : Int)) :: ([] : List (Int × Int))).set (0 : Nat)
 (x.snd.fst.fst, x.snd.fst.snd))).fst =
 true ∧
 deq tyPin.sl (step x.fst x.snd.fst.fst x.snd.fst.snd).fst
 (play x.fst
 ((((0 : Int), (0 : Int)) :: ([] : List (Int × Int))).set (0 : Nat)
 (x.snd.fst.fst, x.snd.fst.snd))).fst =
 true) ∧
 Holds True) ∧
 (deq tyPin.sl (step x.fst x.snd.fst.fst x.snd.fst.snd).fst
 (play x.fst
 ((((0 : Int), (0 : Int)) :: ([] : List (Int × Int))).set (0 : Nat)
 (x.snd.fst.fst, x.snd.fst.snd))).fst =
 true →
 deq tyPin.sl (step x.fst x.snd.fst.fst x.snd.fst.snd).fst
 (play x.fst
 ((((0 : Int), (0 : Int)) :: ([] : List (Int × Int))).set (0 : Nat)
 (x.snd.fst.fst, x.snd.fst.snd))).fst =
 true) ∧
 (deq tyPin.sl (step x.fst x.snd.fst.fst x.snd.fst.snd).fst
 (play x.fst
 ((((0 : Int), (0 : Int)) :: ([] : List (Int × Int))).set (0 : Nat)
 (x.snd.fst.fst, x.snd.fst.snd))).fst &&
 deq tySent.sl (step x.fst x.snd.fst.fst x.snd.fst.snd).snd.fst
 (play x.fst
 ((((0 : Int), (0 : Int)) :: ([] : List (Int × Int))).set (0 : Nat)
 (x.snd.fst.fst, x.snd.fst.snd))).snd) =
 true))) ∧
 ((decide (x.snd.fst.snd < (0 : Int)) || decide ((↑x.fst.length : Int) ≤ x.snd.fst.snd)) = false →
 Holds True ∧
 Holds True ∧
 ((!right x.fst != right x.fst) = true →
 (!right x.fst != right x.fst) = true ∧ (!right x.fst != right x.fst) = true) ∧
 ((right x.fst != right x.fst) = false → (!right x.fst != right x.fst) = true) ∧
 ((right x.fst != right x.fst || (step x.fst x.snd.fst.fst x.snd.fst.snd).snd.snd.fst != (0 : Int)) = true →
 false = true) ∧
 ((right x.fst != right x.fst || (step x.fst x.snd.fst.fst x.snd.fst.snd).snd.snd.fst != (0 : Int)) = false →
 (((0 : Int) != (0 : Int)) = true →
 ((-9223372036854775808 : Int) ≤
 (↑(step x.fst x.snd.fst.fst x.snd.fst.snd).fst.length : Int) +
 (↑(step x.fst x.snd.fst.fst x.snd.fst.snd).snd.fst.length : Int) ∧
 (↑(step x.fst x.snd.fst.fst x.snd.fst.snd).fst.length : Int) +
 (↑(step x.fst x.snd.fst.fst x.snd.fst.snd).snd.fst.length : Int) ≤
 (9223372036854775807 : Int)) ∧
 ((↑(step x.fst x.snd.fst.fst x.snd.fst.snd).fst.length : Int) +
 (↑(step x.fst x.snd.fst.fst x.snd.fst.snd).snd.fst.length : Int) ==
 (0 : Int)) =
 true) ∧
 (((0 : Int) != (0 : Int)) = false →
 Holds
 (x.fst.length * (24 : Nat) ≤ (140737488355328 : Nat) ∧
 ((((0 : Int), (0 : Int)) :: ([] : List (Int × Int))).set (0 : Nat)
 (x.snd.fst.fst, x.snd.fst.snd)).length *
 (16 : Nat) ≤
 (140737488351232 : Nat)) ∧
 Holds True ∧
 (deq tyPin.sl (step x.fst x.snd.fst.fst x.snd.fst.snd).fst
 (play x.fst
 ((((0 : Int), (0 : Int)) :: ([] : List (Int × Int))).set (0 : Nat)
 (x.snd.fst.fst, x.snd.fst.snd))).fst =
 true →
 (deq tyPin.sl (step x.fst x.snd.fst.fst x.snd.fst.snd).fst
 (play x.fst
 ((((0 : Int), (0 : Int)) :: ([] : List (Int × Int))).set (0 : Nat)
 (x.snd.fst.fst, x.snd.fst.snd))).fst =
 true ∧
 deq tyPin.sl (step x.fst x.snd.fst.fst x.snd.fst.snd).fst
 (play x.fst
 ((((0 : Int), (0 : Int)) :: ([] : List (Int × Int))).set (0 : Nat)
 (x.snd.fst.fst, x.snd.fst.snd))).fst =
 true) ∧
 Holds True) ∧
 (deq tyPin.sl (step x.fst x.snd.fst.fst x.snd.fst.snd).fst
 (play x.fst
 ((((0 : Int), (0 : Int)) :: ([] : List (Int × Int))).set (0 : Nat)
 (x.snd.fst.fst, x.snd.fst.snd))).fst =
 true →
 deq tyPin.sl (step x.fst x.snd.fst.fst x.snd.fst.snd).fst
 (play x.fst
 ((((0 : Int), (0 : Int)) :: ([] : List (Int × Int))).set (0 : Nat)
 (x.snd.fst.fst, x.snd.fst.snd))).fst =
 true) ∧
 (deq tyPin.sl (step x.fst x.snd.fst.fst x.snd.fst.snd).fst
 (play x.fst
 ((((0 : Int), (0 : Int)) :: ([] : List (Int × Int))).set (0 : Nat)
 (x.snd.fst.fst, x.snd.fst.snd))).fst &&
 deq tySent.sl (step x.fst x.snd.fst.fst x.snd.fst.snd).snd.fst
 (play x.fst
 ((((0 : Int), (0 : Int)) :: ([] : List (Int × Int))).set (0 : Nat)
 (x.snd.fst.fst, x.snd.fst.snd))).snd) =
 true)))))

theorem E_steps_eq (x : HL (cLaw : Ctr).as) : vc (fx_steps x) 1 6 Try.f6 (cLaw) x = E_steps x := by kernel_rfl

def E_play (x : List (Int × Int × Bool × Bool × Bool × Bool × Bool) × List (Int × Int) × Unit) : Prop :=
 Holds True ∧
 ((!right x.fst) = true →
 ([] : List (Int × Int × Bool × Bool × Bool × Bool × Bool)) = (lplay x.fst x.snd.fst).fst ∧
 ([] : List (Int × Int × Int)) = (lplay x.fst x.snd.fst).snd.fst ∧ (1 : Int) = (lplay x.fst x.snd.fst).snd.snd.fst) ∧
 ((!right x.fst) = false →
 ((((0 : Int) ≤ (0 : Int) ∧
 (0 : Int) ≤ (↑x.snd.fst.length : Int) ∧
 play x.fst (List.take (Int.toNat (0 : Int)) x.snd.fst) = (x.fst, ([] : List (Int × Int × Int))) ∧
 (↑([] : List (Int × Int × Int)).length : Int) ≤ (0 : Int) ∧ right x.fst = true) ∧
 True) ∧
 (x.fst = x.fst ∧ True ∧ x.snd.fst = x.snd.fst ∧ (↑x.snd.fst.length : Int) = (↑x.snd.fst.length : Int) ∧ (0 : Int) = (0 : Int) ∧ True) ∧
 (([] : List (Int × Int × Int)) = ([] : List (Int × Int × Int)) ∧ True) ∧ True) ∧
 ∀ (g : List (Int × Int × Bool × Bool × Bool × Bool × Bool) × List (Int × Int × Int) × Int × Unit),
 (0 : Int) ≤ g.snd.snd.fst ∧
 g.snd.snd.fst ≤ (↑x.snd.fst.length : Int) ∧
 play x.fst (List.take g.snd.snd.fst.toNat x.snd.fst) = (g.fst, g.snd.fst) ∧
 (↑g.snd.fst.length : Int) ≤ g.snd.snd.fst ∧ right g.fst = true →
 (g.fst.length ≤ (9223372036854775807 : Nat) ∧
 ∀ (x : Int × Int × Bool × Bool × Bool × Bool × Bool),
 x ∈ g.fst →
 ((-9223372036854775808 : Int) ≤ x.fst ∧ x.fst ≤ (9223372036854775807 : Int)) ∧
 ((-9223372036854775808 : Int) ≤ x.snd.fst ∧ x.snd.fst ≤ (9223372036854775807 : Int)) ∧ True ∧ True ∧ True ∧ True ∧ True) ∧
 (g.snd.fst.length ≤ (9223372036854775807 : Nat) ∧
 ∀ (x : Int × Int × Int),
 x ∈ g.snd.fst →
 ((-9223372036854775808 : Int) ≤ x.fst ∧ x.fst ≤ (9223372036854775807 : Int)) ∧
 ((-9223372036854775808 : Int) ≤ x.snd.fst ∧ x.snd.fst ≤ (9223372036854775807 : Int)) ∧
 (-9223372036854775808 : Int) ≤ x.snd.snd ∧ x.snd.snd ≤ (9223372036854775807 : Int)) ∧
 ((-9223372036854775808 : Int) ≤ g.snd.snd.fst ∧ g.snd.snd.fst ≤ (9223372036854775807 : Int)) ∧ True →
 (decide (g.snd.snd.fst < (↑x.snd.fst.length : Int)) = true →
 ((0 : Int) ≤ g.snd.snd.fst ∧ g.snd.snd.fst < (↑x.snd.fst.length : Int)) ∧
 Holds True ∧
 (((step g.fst (x.snd.fst.getD g.snd.snd.fst.toNat ((0 : Int), (0 : Int))).fst
 (x.snd.fst.getD g.snd.snd.fst.toNat ((0 : Int), (0 : Int))).snd).snd.snd.fst ==
 (0 : Int)) =
 true →
 (g.snd.fst.length +
 (step g.fst (x.snd.fst.getD g.snd.snd.fst.toNat ((0 : Int), (0 : Int))).fst
 (x.snd.fst.getD g.snd.snd.fst.toNat ((0 : Int), (0 : Int))).snd).snd.fst.length ≤
 (9223372036854775807 : Nat) ∧
 (g.snd.fst.length +
 (step g.fst (x.snd.fst.getD g.snd.snd.fst.toNat ((0 : Int), (0 : Int))).fst
 (x.snd.fst.getD g.snd.snd.fst.toNat ((0 : Int), (0 : Int))).snd).snd.fst.length +
 (g.snd.fst.length +
 (step g.fst (x.snd.fst.getD g.snd.snd.fst.toNat ((0 : Int), (0 : Int))).fst
 (x.snd.fst.getD g.snd.snd.fst.toNat ((0 : Int), (0 : Int))).snd).snd.fst.length) /
 (4 : Nat) +
 (192 : Nat)) *
 (24 : Nat) ≤
 (281474976710656 : Nat)) ∧
 ((-9223372036854775808 : Int) ≤ g.snd.snd.fst + (1 : Int) ∧ g.snd.snd.fst + (1 : Int) ≤ (9223372036854775807 : Int)) ∧
 (((0 : Int) ≤ g.snd.snd.fst + (1 : Int) ∧
 g.snd.snd.fst + (1 : Int) ≤ (↑x.snd.fst.length : Int) ∧
 play x.fst (List.take (g.snd.snd.fst + (1 : Int)).toNat x.snd.fst) =
 ((step g.fst (x.snd.fst.getD g.snd.snd.fst.toNat ((0 : Int), (0 : Int))).fst
 (x.snd.fst.getD g.snd.snd.fst.toNat ((0 : Int), (0 : Int))).snd).fst,
 g.snd.fst ++
 (step g.fst (x.snd.fst.getD g.snd.snd.fst.toNat ((0 : Int), (0 : Int))).fst
 (x.snd.fst.getD g.snd.snd.fst.toNat ((0 : Int), (0 : Int))).snd).snd.fst) ∧
 (↑(g.snd.fst ++
 (step g.fst (x.snd.fst.getD g.snd.snd.fst.toNat ((0 : Int), (0 : Int))).fst
 (x.snd.fst.getD g.snd.snd.fst.toNat ((0 : Int), (0 : Int))).snd).snd.fst).length :
 Int) ≤
 g.snd.snd.fst + (1 : Int) ∧
 right
 (step g.fst (x.snd.fst.getD g.snd.snd.fst.toNat ((0 : Int), (0 : Int))).fst
 (x.snd.fst.getD g.snd.snd.fst.toNat ((0 : Int), (0 : Int))).snd).fst =
 true) ∧
 ((↑x.snd.fst.length : Int) - (g.snd.snd.fst + (1 : Int))).toNat <
 ((↑x.snd.fst.length : Int) - g.snd.snd.fst).toNat) ∧
 ((step g.fst (x.snd.fst.getD g.snd.snd.fst.toNat ((0 : Int), (0 : Int))).fst
 (x.snd.fst.getD g.snd.snd.fst.toNat ((0 : Int), (0 : Int))).snd).fst =
 (step g.fst (x.snd.fst.getD g.snd.snd.fst.toNat ((0 : Int), (0 : Int))).fst
 (x.snd.fst.getD g.snd.snd.fst.toNat ((0 : Int), (0 : Int))).snd).fst ∧
 True ∧
 x.snd.fst = x.snd.fst ∧
 (↑x.snd.fst.length : Int) = (↑x.snd.fst.length : Int) ∧
 g.snd.snd.fst + (1 : Int) = g.snd.snd.fst + (1 : Int) ∧ True) ∧
 (g.snd.fst ++
 (step g.fst (x.snd.fst.getD g.snd.snd.fst.toNat ((0 : Int), (0 : Int))).fst
 (x.snd.fst.getD g.snd.snd.fst.toNat ((0 : Int), (0 : Int))).snd).snd.fst =
 g.snd.fst ++
 (step g.fst (x.snd.fst.getD g.snd.snd.fst.toNat ((0 : Int), (0 : Int))).fst
 (x.snd.fst.getD g.snd.snd.fst.toNat ((0 : Int), (0 : Int))).snd).snd.fst ∧
 True) ∧
 True) ∧
 (((step g.fst (x.snd.fst.getD g.snd.snd.fst.toNat ((0 : Int), (0 : Int))).fst
 (x.snd.fst.getD g.snd.snd.fst.toNat ((0 : Int), (0 : Int))).snd).snd.snd.fst ==
 (0 : Int)) =
 false →
 ((-9223372036854775808 : Int) ≤ g.snd.snd.fst + (1 : Int) ∧ g.snd.snd.fst + (1 : Int) ≤ (9223372036854775807 : Int)) ∧
 (((0 : Int) ≤ g.snd.snd.fst + (1 : Int) ∧
 g.snd.snd.fst + (1 : Int) ≤ (↑x.snd.fst.length : Int) ∧
 play x.fst (List.take (g.snd.snd.fst + (1 : Int)).toNat x.snd.fst) = (g.fst, g.snd.fst) ∧
 (↑g.snd.fst.length : Int) ≤ g.snd.snd.fst + (1 : Int) ∧ right g.fst = true) ∧
 ((↑x.snd.fst.length : Int) - (g.snd.snd.fst + (1 : Int))).toNat < ((↑x.snd.fst.length : Int) - g.snd.snd.fst).toNat) ∧
 (g.fst = g.fst ∧
 True ∧
 x.snd.fst = x.snd.fst ∧
 (↑x.snd.fst.length : Int) = (↑x.snd.fst.length : Int) ∧
 g.snd.snd.fst + (1 : Int) = g.snd.snd.fst + (1 : Int) ∧ True) ∧
 (g.snd.fst = g.snd.fst ∧ True) ∧ True)) ∧
 (decide (g.snd.snd.fst < (↑x.snd.fst.length : Int)) = false →
 Holds (g.fst.length * (24 : Nat) ≤ (140737488355328 : Nat)) ∧
 g.fst = (lplay x.fst x.snd.fst).fst ∧
 g.snd.fst = (lplay x.fst x.snd.fst).snd.fst ∧ (0 : Int) = (lplay x.fst x.snd.fst).snd.snd.fst))

theorem E_play_eq (x : HL (cPlay : Ctr).as) : vc (fx_play x) 1 39 Try.f39 (cPlay) x = E_play x := by kernel_rfl

def E_plays (x : List (Int × Int × Bool × Bool × Bool × Bool × Bool) × List (Int × Int) × Unit) : Prop :=
 Holds (x.snd.fst.length * (16 : Nat) ≤ (140737488351232 : Nat)) ∧
 Holds True ∧
 ((!right x.fst) = true →
 (((lplay x.fst x.snd.fst).snd.snd.fst == (1 : Int)) = true → ((lplay x.fst x.snd.fst).snd.snd.fst == (1 : Int)) = true) ∧
 (((lplay x.fst x.snd.fst).snd.snd.fst == (1 : Int)) = true → ((lplay x.fst x.snd.fst).snd.snd.fst == (1 : Int)) = true) ∧
 (((lplay x.fst x.snd.fst).snd.snd.fst == (1 : Int)) = true →
 (((lplay x.fst x.snd.fst).snd.snd.fst == (1 : Int)) = true ∧ ((lplay x.fst x.snd.fst).snd.snd.fst == (1 : Int)) = true) ∧
 (-9223372036854775808 : Int) ≤ (↑(lplay x.fst x.snd.fst).fst.length : Int) + (↑(lplay x.fst x.snd.fst).snd.fst.length : Int) ∧
 (↑(lplay x.fst x.snd.fst).fst.length : Int) + (↑(lplay x.fst x.snd.fst).snd.fst.length : Int) ≤ (9223372036854775807 : Int)) ∧
 (((lplay x.fst x.snd.fst).snd.snd.fst == (1 : Int)) = true → ((lplay x.fst x.snd.fst).snd.snd.fst == (1 : Int)) = true) ∧
 (((lplay x.fst x.snd.fst).snd.snd.fst == (1 : Int)) = true → ((lplay x.fst x.snd.fst).snd.snd.fst == (1 : Int)) = true) ∧
 ((lplay x.fst x.snd.fst).snd.snd.fst == (1 : Int) &&
 (↑(lplay x.fst x.snd.fst).fst.length : Int) + (↑(lplay x.fst x.snd.fst).snd.fst.length : Int) == (0 : Int)) =
 true) ∧
 ((!right x.fst) = false →
 Holds (x.fst.length * (24 : Nat) ≤ (140737488355328 : Nat) ∧ x.snd.fst.length * (16 : Nat) ≤ (140737488351232 : Nat)) ∧
 (((lplay x.fst x.snd.fst).snd.snd.fst == (0 : Int)) = true →
 (((lplay x.fst x.snd.fst).snd.snd.fst == (0 : Int)) = true ∧ ((lplay x.fst x.snd.fst).snd.snd.fst == (0 : Int)) = true) ∧ Holds True) ∧
 (((lplay x.fst x.snd.fst).snd.snd.fst == (0 : Int)) = true → ((lplay x.fst x.snd.fst).snd.snd.fst == (0 : Int)) = true) ∧
 (((lplay x.fst x.snd.fst).snd.snd.fst == (0 : Int) && deq tyPin.sl (lplay x.fst x.snd.fst).fst (play x.fst x.snd.fst).fst) = true →
 (((lplay x.fst x.snd.fst).snd.snd.fst == (0 : Int) && deq tyPin.sl (lplay x.fst x.snd.fst).fst (play x.fst x.snd.fst).fst) = true ∧
 ((lplay x.fst x.snd.fst).snd.snd.fst == (0 : Int) && deq tyPin.sl (lplay x.fst x.snd.fst).fst (play x.fst x.snd.fst).fst) =
 true) ∧
 Holds True) ∧
 (((lplay x.fst x.snd.fst).snd.snd.fst == (0 : Int) && deq tyPin.sl (lplay x.fst x.snd.fst).fst (play x.fst x.snd.fst).fst) = true →
 ((lplay x.fst x.snd.fst).snd.snd.fst == (0 : Int) && deq tyPin.sl (lplay x.fst x.snd.fst).fst (play x.fst x.snd.fst).fst) =
 true) ∧
 ((lplay x.fst x.snd.fst).snd.snd.fst == (0 : Int) && deq tyPin.sl (lplay x.fst x.snd.fst).fst (play x.fst x.snd.fst).fst &&
 deq tySent.sl (lplay x.fst x.snd.fst).snd.fst (play x.fst x.snd.fst).snd) =
 true)

theorem E_plays_eq (x : HL (cLawP : Ctr).as) : vc (fx_plays x) 1 9 Try.f9 (cLawP) x = E_plays x := by kernel_rfl

end Go.Proofs.Ytmcepjbbbkgfcaa.Linep
