/-
  The conditions that the executor comes to, written out (by a tool of ours), and that they are the conditions (by the kernel).
-/
import Derived.Test.YtmcepjbbbkgfcaaChainpC
namespace Go.Proofs.Ytmcepjbbbkgfcaa.Chainp
open Go.Sx
set_option maxRecDepth 100000
set_option maxHeartbeats 4000000

def E_equal (x : List Int × List Int × Unit) : Prop :=
 (((↑x.fst.length : Int) != (↑x.snd.fst.length : Int)) = true → false = decide (x.fst = x.snd.fst)) ∧
 (((↑x.fst.length : Int) != (↑x.snd.fst.length : Int)) = false →
 ((((0 : Int) ≤ (0 : Int) ∧
 (0 : Int) ≤ (↑x.fst.length : Int) ∧ List.take (Int.toNat (0 : Int)) x.fst = List.take (Int.toNat (0 : Int)) x.snd.fst) ∧
 True) ∧
 (x.fst = x.fst ∧ x.snd.fst = x.snd.fst ∧ (↑x.fst.length : Int) = (↑x.fst.length : Int) ∧ (0 : Int) = (0 : Int) ∧ True) ∧ True ∧ True) ∧
 ∀ (g : Int × Unit),
 (0 : Int) ≤ g.fst ∧ g.fst ≤ (↑x.fst.length : Int) ∧ List.take g.fst.toNat x.fst = List.take g.fst.toNat x.snd.fst →
 ((-9223372036854775808 : Int) ≤ g.fst ∧ g.fst ≤ (9223372036854775807 : Int)) ∧ True →
 (decide (g.fst < (↑x.fst.length : Int)) = true →
 ((0 : Int) ≤ g.fst ∧ g.fst < (↑x.fst.length : Int)) ∧
 ((0 : Int) ≤ g.fst ∧ g.fst < (↑x.snd.fst.length : Int)) ∧
 ((x.fst.getD g.fst.toNat (0 : Int) != x.snd.fst.getD g.fst.toNat (0 : Int)) = true → false = decide (x.fst = x.snd.fst)) ∧
 ((x.fst.getD g.fst.toNat (0 : Int) != x.snd.fst.getD g.fst.toNat (0 : Int)) = false →
 ((-9223372036854775808 : Int) ≤ g.fst + (1 : Int) ∧ g.fst + (1 : Int) ≤ (9223372036854775807 : Int)) ∧
 (((0 : Int) ≤ g.fst + (1 : Int) ∧
 g.fst + (1 : Int) ≤ (↑x.fst.length : Int) ∧
 List.take (g.fst + (1 : Int)).toNat x.fst = List.take (g.fst + (1 : Int)).toNat x.snd.fst) ∧
 ((↑x.fst.length : Int) - (g.fst + (1 : Int))).toNat < ((↑x.fst.length : Int) - g.fst).toNat) ∧
 (x.fst = x.fst ∧
 x.snd.fst = x.snd.fst ∧
 (↑x.fst.length : Int) = (↑x.fst.length : Int) ∧ g.fst + (1 : Int) = g.fst + (1 : Int) ∧ True) ∧
 True ∧ True)) ∧
 (decide (g.fst < (↑x.fst.length : Int)) = false → true = decide (x.fst = x.snd.fst)))

theorem E_equal_eq (x : HL (cEqual : Ctr).as) : vc (fx_equal x) 1 18 Try.f18 (cEqual) x = E_equal x := by kernel_rfl

def E_eqh (x : List (Int × Int) × List (Int × Int) × Unit) : Prop :=
 (((↑x.fst.length : Int) != (↑x.snd.fst.length : Int)) = true → false = decide (x.fst = x.snd.fst)) ∧
 (((↑x.fst.length : Int) != (↑x.snd.fst.length : Int)) = false →
 ((((0 : Int) ≤ (0 : Int) ∧
 (0 : Int) ≤ (↑x.fst.length : Int) ∧ List.take (Int.toNat (0 : Int)) x.fst = List.take (Int.toNat (0 : Int)) x.snd.fst) ∧
 True) ∧
 (x.fst = x.fst ∧ x.snd.fst = x.snd.fst ∧ (↑x.fst.length : Int) = (↑x.fst.length : Int) ∧ (0 : Int) = (0 : Int) ∧ True) ∧ True ∧ True) ∧
 ∀ (g : Int × Unit),
 (0 : Int) ≤ g.fst ∧ g.fst ≤ (↑x.fst.length : Int) ∧ List.take g.fst.toNat x.fst = List.take g.fst.toNat x.snd.fst →
 ((-9223372036854775808 : Int) ≤ g.fst ∧ g.fst ≤ (9223372036854775807 : Int)) ∧ True →
 (decide (g.fst < (↑x.fst.length : Int)) = true →
 ((0 : Int) ≤ g.fst ∧ g.fst < (↑x.fst.length : Int)) ∧
 ((0 : Int) ≤ g.fst ∧ g.fst < (↑x.snd.fst.length : Int)) ∧
 ((!deq ((Ty.int IntKind.i64).pair (Ty.int IntKind.i64))
 ((x.fst.getD g.fst.toNat ((0 : Int), (0 : Int))).fst, (x.fst.getD g.fst.toNat ((0 : Int), (0 : Int))).snd)
 ((x.snd.fst.getD g.fst.toNat ((0 : Int), (0 : Int))).fst, (x.snd.fst.getD g.fst.toNat ((0 : Int), (0 : Int))).snd)) =
 true →
 false = decide (x.fst = x.snd.fst)) ∧
 ((!deq ((Ty.int IntKind.i64).pair (Ty.int IntKind.i64))
 ((x.fst.getD g.fst.toNat ((0 : Int), (0 : Int))).fst, (x.fst.getD g.fst.toNat ((0 : Int), (0 : Int))).snd)
 ((x.snd.fst.getD g.fst.toNat ((0 : Int), (0 : Int))).fst, (x.snd.fst.getD g.fst.toNat ((0 : Int), (0 : Int))).snd)) =
 false →
 ((-9223372036854775808 : Int) ≤ g.fst + (1 : Int) ∧ g.fst + (1 : Int) ≤ (9223372036854775807 : Int)) ∧
 (((0 : Int) ≤ g.fst + (1 : Int) ∧
 g.fst + (1 : Int) ≤ (↑x.fst.length : Int) ∧
 List.take (g.fst + (1 : Int)).toNat x.fst = List.take (g.fst + (1 : Int)).toNat x.snd.fst) ∧
 ((↑x.fst.length : Int) - (g.fst + (1 : Int))).toNat < ((↑x.fst.length : Int) - g.fst).toNat) ∧
 (x.fst = x.fst ∧
 x.snd.fst = x.snd.fst ∧
 (↑x.fst.length : Int) = (↑x.fst.length : Int) ∧ g.fst + (1 : Int) = g.fst + (1 : Int) ∧ True) ∧
 True ∧ True)) ∧
 (decide (g.fst < (↑x.fst.length : Int)) = false → true = decide (x.fst = x.snd.fst)))

theorem E_eqh_eq (x : HL (cEqH : Ctr).as) : vc (fx_eqh x) 1 17 Try.f17 (cEqH) x = E_eqh x := by kernel_rfl

def E_clone (x : List (Int × Int) × Unit) : Prop :=
 ∀ (b : Bool),
 (b = true → x.fst = ([] : List (Int × Int))) →
 (b = true → ([] : List (Int × Int)) = x.fst) ∧
 (b = false →
 (([] : List (Int × Int)).length + x.fst.length ≤ (9223372036854775807 : Nat) ∧
 (([] : List (Int × Int)).length + x.fst.length + (([] : List (Int × Int)).length + x.fst.length) / (4 : Nat) + (192 : Nat)) * (16 : Nat) ≤
 (281474976710656 : Nat)) ∧
 ([] : List (Int × Int)) ++ x.fst = x.fst)

theorem E_clone_eq (x : HL (cClone : Ctr).as) : vc (fx_clone x) 1 49 Try.f49 (cClone) x = E_clone x := by kernel_rfl

def E_badh (x : (Int × Int) × Unit) : Prop :=
 ((!decide (x.fst.fst < (1 : Int))) = true → (!decide (x.fst.fst < (1 : Int))) = true) ∧
 ((!decide (x.fst.fst < (1 : Int))) = true → (!decide (x.fst.fst < (1 : Int))) = true) ∧
 (decide (x.fst.fst < (1 : Int)) = false → (!decide (x.fst.fst < (1 : Int))) = true) ∧
 ((!(decide (x.fst.fst < (1 : Int)) || decide ((2 : Int) < x.fst.fst))) = true →
 (!(decide (x.fst.fst < (1 : Int)) || decide ((2 : Int) < x.fst.fst))) = true) ∧
 ((!(decide (x.fst.fst < (1 : Int)) || decide ((2 : Int) < x.fst.fst))) = true →
 (!(decide (x.fst.fst < (1 : Int)) || decide ((2 : Int) < x.fst.fst))) = true) ∧
 ((decide (x.fst.fst < (1 : Int)) || decide ((2 : Int) < x.fst.fst)) = false →
 (!(decide (x.fst.fst < (1 : Int)) || decide ((2 : Int) < x.fst.fst))) = true) ∧
 ((!(decide (x.fst.fst < (1 : Int)) || decide ((2 : Int) < x.fst.fst) || decide (x.fst.snd < (0 : Int)))) = true →
 (!(decide (x.fst.fst < (1 : Int)) || decide ((2 : Int) < x.fst.fst) || decide (x.fst.snd < (0 : Int)))) = true) ∧
 ((!(decide (x.fst.fst < (1 : Int)) || decide ((2 : Int) < x.fst.fst) || decide (x.fst.snd < (0 : Int)))) = true →
 (!(decide (x.fst.fst < (1 : Int)) || decide ((2 : Int) < x.fst.fst) || decide (x.fst.snd < (0 : Int)))) = true) ∧
 ((decide (x.fst.fst < (1 : Int)) || decide ((2 : Int) < x.fst.fst) || decide (x.fst.snd < (0 : Int))) = false →
 (!(decide (x.fst.fst < (1 : Int)) || decide ((2 : Int) < x.fst.fst) || decide (x.fst.snd < (0 : Int)))) = true) ∧
 (decide (x.fst.fst < (1 : Int)) || decide ((2 : Int) < x.fst.fst) || decide (x.fst.snd < (0 : Int)) ||
 decide ((1099511627776 : Int) < x.fst.snd)) =
 !okH x.fst

theorem E_badh_eq (x : HL (cBad : Ctr).as) : vc (fx_badh x) 1 52 Try.f52 (cBad) x = E_badh x := by kernel_rfl

def E_right (x : List (Int × Int) × Unit) : Prop :=
 (decide ((↑x.fst.length : Int) ≤ (16 : Int)) = true →
 decide ((↑x.fst.length : Int) ≤ (16 : Int)) = true ∧
 ((((0 : Int) ≤ (0 : Int) ∧ (0 : Int) ≤ (↑x.fst.length : Int) ∧ (List.take (Int.toNat (0 : Int)) x.fst).all okH = true) ∧ True) ∧
 (x.fst = x.fst ∧
 Value.func (Fn.func (52 : Nat)) ([] : List Value).toArray ([] : List Value).toArray =
 Value.func (Fn.func (52 : Nat)) ([] : List Value).toArray ([] : List Value).toArray ∧
 (↑x.fst.length : Int) = (↑x.fst.length : Int) ∧ (0 : Int) = (0 : Int) ∧ True) ∧
 True ∧
 x.fst = x.fst ∧
 Value.func (Fn.func (52 : Nat)) ([] : List Value).toArray ([] : List Value).toArray =
 Value.func (Fn.func (52 : Nat)) ([] : List Value).toArray ([] : List Value).toArray ∧
 True ∧
 True ∧
 false = false ∧
 x.fst = x.fst ∧
 Value.func (Fn.func (52 : Nat)) ([] : List Value).toArray ([] : List Value).toArray =
 Value.func (Fn.func (52 : Nat)) ([] : List Value).toArray ([] : List Value).toArray ∧
 True ∧
 True ∧
 x.fst = x.fst ∧
 True ∧
 false = false ∧
 x.fst = x.fst ∧
 (↑x.fst.length : Int) = (↑x.fst.length : Int) ∧
 decide ((↑x.fst.length : Int) ≤ (16 : Int)) = decide ((↑x.fst.length : Int) ≤ (16 : Int)) ∧
 true = true ∧ x.fst = x.fst ∧ True ∧ True ∧ True ∧ True) ∧
 ∀ (g : Int × Unit),
 (0 : Int) ≤ g.fst ∧ g.fst ≤ (↑x.fst.length : Int) ∧ (List.take g.fst.toNat x.fst).all okH = true →
 ((-9223372036854775808 : Int) ≤ g.fst ∧ g.fst ≤ (9223372036854775807 : Int)) ∧ True →
 (decide (g.fst < (↑x.fst.length : Int)) = true →
 ((0 : Int) ≤ g.fst ∧ g.fst < (↑x.fst.length : Int)) ∧
 Holds True ∧
 ((!okH ((x.fst.getD g.fst.toNat ((0 : Int), (0 : Int))).fst, (x.fst.getD g.fst.toNat ((0 : Int), (0 : Int))).snd)) = true →
 (!decide ((0 : Int) ≤ g.fst)) = right x.fst) ∧
 ((!okH ((x.fst.getD g.fst.toNat ((0 : Int), (0 : Int))).fst, (x.fst.getD g.fst.toNat ((0 : Int), (0 : Int))).snd)) = false →
 ((-9223372036854775808 : Int) ≤ g.fst + (1 : Int) ∧ g.fst + (1 : Int) ≤ (9223372036854775807 : Int)) ∧
 (((0 : Int) ≤ g.fst + (1 : Int) ∧
 g.fst + (1 : Int) ≤ (↑x.fst.length : Int) ∧ (List.take (g.fst + (1 : Int)).toNat x.fst).all okH = true) ∧
 ((↑x.fst.length : Int) - (g.fst + (1 : Int))).toNat < ((↑x.fst.length : Int) - g.fst).toNat) ∧
 (x.fst = x.fst ∧
 Value.func (Fn.func (52 : Nat)) ([] : List Value).toArray ([] : List Value).toArray =
 Value.func (Fn.func (52 : Nat)) ([] : List Value).toArray ([] : List Value).toArray ∧
 (↑x.fst.length : Int) = (↑x.fst.length : Int) ∧ g.fst + (1 : Int) = g.fst + (1 : Int) ∧ True) ∧
 True ∧
 x.fst = x.fst ∧
 Value.func (Fn.func (52 : Nat)) ([] : List Value).toArray ([] : List Value).toArray =
 Value.func (Fn.func (52 : Nat)) ([] : List Value).toArray ([] : List Value).toArray ∧
 True ∧
 True ∧
 false = false ∧
 x.fst = x.fst ∧
 Value.func (Fn.func (52 : Nat)) ([] : List Value).toArray ([] : List Value).toArray =
 Value.func (Fn.func (52 : Nat)) ([] : List Value).toArray ([] : List Value).toArray ∧
 True ∧
 True ∧
 x.fst = x.fst ∧
 True ∧
 false = false ∧
 x.fst = x.fst ∧
 (↑x.fst.length : Int) = (↑x.fst.length : Int) ∧
 decide ((↑x.fst.length : Int) ≤ (16 : Int)) =
 decide ((↑x.fst.length : Int) ≤ (16 : Int)) ∧
 true = true ∧ x.fst = x.fst ∧ True ∧ True ∧ True ∧ True)) ∧
 (decide (g.fst < (↑x.fst.length : Int)) = false → (!decide ((0 : Int) ≤ (-1 : Int))) = right x.fst)) ∧
 (decide ((↑x.fst.length : Int) ≤ (16 : Int)) = !true → false = right x.fst)

theorem E_right_eq (x : HL (cRight : Ctr).as) : vc (fx_right x) 3 15 Try.f15 (cRight) x = E_right x := by kernel_rfl

def E_iright (x : List (Int × Int) × Unit) : Prop :=
 ((((0 : Int) ≤ (0 : Int) ∧
 (0 : Int) ≤ (↑x.fst.length : Int) ∧
 decide ((↑x.fst.length : Int) < (17 : Int)) =
 (decide ((↑x.fst.length : Int) ≤ (16 : Int)) && (List.take (Int.toNat (0 : Int)) x.fst).all okH)) ∧
 True) ∧
 (decide ((↑x.fst.length : Int) < (17 : Int)) = decide ((↑x.fst.length : Int) < (17 : Int)) ∧
 x.fst = x.fst ∧ (↑x.fst.length : Int) = (↑x.fst.length : Int) ∧ (0 : Int) = (0 : Int) ∧ True) ∧
 True ∧ True) ∧
 ∀ (g : Bool × Int × Unit),
 (0 : Int) ≤ g.snd.fst ∧
 g.snd.fst ≤ (↑x.fst.length : Int) ∧ g.fst = (decide ((↑x.fst.length : Int) ≤ (16 : Int)) && (List.take g.snd.fst.toNat x.fst).all okH) →
 True ∧ ((-9223372036854775808 : Int) ≤ g.snd.fst ∧ g.snd.fst ≤ (9223372036854775807 : Int)) ∧ True →
 (decide (g.snd.fst < (↑x.fst.length : Int)) = true →
 ((0 : Int) ≤ g.snd.fst ∧ g.snd.fst < (↑x.fst.length : Int)) ∧
 (g.fst = true → g.fst = true) ∧
 (g.fst = true → g.fst = true) ∧
 (g.fst = true → g.fst = true) ∧
 ((g.fst && !(x.fst.getD g.snd.fst.toNat ((0 : Int), (0 : Int))).fst == (1 : Int)) = true →
 (g.fst && !(x.fst.getD g.snd.fst.toNat ((0 : Int), (0 : Int))).fst == (1 : Int)) = true) ∧
 ((g.fst && !(x.fst.getD g.snd.fst.toNat ((0 : Int), (0 : Int))).fst == (1 : Int)) = true →
 (g.fst && !(x.fst.getD g.snd.fst.toNat ((0 : Int), (0 : Int))).fst == (1 : Int)) = true) ∧
 (g.fst = true →
 g.fst = true ∧
 (((x.fst.getD g.snd.fst.toNat ((0 : Int), (0 : Int))).fst == (1 : Int)) = false →
 (g.fst && !(x.fst.getD g.snd.fst.toNat ((0 : Int), (0 : Int))).fst == (1 : Int)) = true)) ∧
 (g.fst = true → g.fst = true) ∧
 ((g.fst &&
 ((x.fst.getD g.snd.fst.toNat ((0 : Int), (0 : Int))).fst == (1 : Int) ||
 (x.fst.getD g.snd.fst.toNat ((0 : Int), (0 : Int))).fst == (2 : Int))) =
 true →
 (g.fst &&
 ((x.fst.getD g.snd.fst.toNat ((0 : Int), (0 : Int))).fst == (1 : Int) ||
 (x.fst.getD g.snd.fst.toNat ((0 : Int), (0 : Int))).fst == (2 : Int))) =
 true) ∧
 ((g.fst &&
 ((x.fst.getD g.snd.fst.toNat ((0 : Int), (0 : Int))).fst == (1 : Int) ||
 (x.fst.getD g.snd.fst.toNat ((0 : Int), (0 : Int))).fst == (2 : Int))) =
 true →
 (g.fst &&
 ((x.fst.getD g.snd.fst.toNat ((0 : Int), (0 : Int))).fst == (1 : Int) ||
 (x.fst.getD g.snd.fst.toNat ((0 : Int), (0 : Int))).fst == (2 : Int))) =
 true) ∧
 ((g.fst &&
 ((x.fst.getD g.snd.fst.toNat ((0 : Int), (0 : Int))).fst == (1 : Int) ||
 (x.fst.getD g.snd.fst.toNat ((0 : Int), (0 : Int))).fst == (2 : Int))) =
 true →
 (g.fst &&
 ((x.fst.getD g.snd.fst.toNat ((0 : Int), (0 : Int))).fst == (1 : Int) ||
 (x.fst.getD g.snd.fst.toNat ((0 : Int), (0 : Int))).fst == (2 : Int))) =
 true) ∧
 ((g.fst &&
 ((x.fst.getD g.snd.fst.toNat ((0 : Int), (0 : Int))).fst == (1 : Int) ||
 (x.fst.getD g.snd.fst.toNat ((0 : Int), (0 : Int))).fst == (2 : Int)) &&
 decide ((0 : Int) ≤ (x.fst.getD g.snd.fst.toNat ((0 : Int), (0 : Int))).snd)) =
 true →
 (g.fst &&
 ((x.fst.getD g.snd.fst.toNat ((0 : Int), (0 : Int))).fst == (1 : Int) ||
 (x.fst.getD g.snd.fst.toNat ((0 : Int), (0 : Int))).fst == (2 : Int)) &&
 decide ((0 : Int) ≤ (x.fst.getD g.snd.fst.toNat ((0 : Int), (0 : Int))).snd)) =
 true) ∧
 ((g.fst &&
 ((x.fst.getD g.snd.fst.toNat ((0 : Int), (0 : Int))).fst == (1 : Int) ||
 (x.fst.getD g.snd.fst.toNat ((0 : Int), (0 : Int))).fst == (2 : Int)) &&
 decide ((0 : Int) ≤ (x.fst.getD g.snd.fst.toNat ((0 : Int), (0 : Int))).snd)) =
 true →
 (g.fst &&
 ((x.fst.getD g.snd.fst.toNat ((0 : Int), (0 : Int))).fst == (1 : Int) ||
 (x.fst.getD g.snd.fst.toNat ((0 : Int), (0 : Int))).fst == (2 : Int)) &&
 decide ((0 : Int) ≤ (x.fst.getD g.snd.fst.toNat ((0 : Int), (0 : Int))).snd)) =
 true) ∧
 ((g.fst &&
 ((x.fst.getD g.snd.fst.toNat ((0 : Int), (0 : Int))).fst == (1 : Int) ||
 (x.fst.getD g.snd.fst.toNat ((0 : Int), (0 : Int))).fst == (2 : Int)) &&
 decide ((0 : Int) ≤ (x.fst.getD g.snd.fst.toNat ((0 : Int), (0 : Int))).snd)) =
 true →
 (g.fst &&
 ((x.fst.getD g.snd.fst.toNat ((0 : Int), (0 : Int))).fst == (1 : Int) ||
 (x.fst.getD g.snd.fst.toNat ((0 : Int), (0 : Int))).fst == (2 : Int)) &&
 decide ((0 : Int) ≤ (x.fst.getD g.snd.fst.toNat ((0 : Int), (0 : Int))).snd)) =
 true) ∧
 ((-9223372036854775808 : Int) ≤ g.snd.fst + (1 : Int) ∧ g.snd.fst + (1 : Int) ≤ (9223372036854775807 : Int)) ∧
 (((0 : Int) ≤ g.snd.fst + (1 : Int) ∧
 g.snd.fst + (1 : Int) ≤ (↑x.fst.length : Int) ∧
 (g.fst &&
 ((x.fst.getD g.snd.fst.toNat ((0 : Int), (0 : Int))).fst == (1 : Int) ||
 (x.fst.getD g.snd.fst.toNat ((0 : Int), (0 : Int))).fst == (2 : Int)) &&
 decide ((0 : Int) ≤ (x.fst.getD g.snd.fst.toNat ((0 : Int), (0 : Int))).snd) &&
 decide ((x.fst.getD g.snd.fst.toNat ((0 : Int), (0 : Int))).snd ≤ (1099511627776 : Int))) =
 (decide ((↑x.fst.length : Int) ≤ (16 : Int)) &&
 (List.take (g.snd.fst + (1 : Int)).toNat x.fst).all okH)) ∧
 ((↑x.fst.length : Int) - (g.snd.fst + (1 : Int))).toNat < ((↑x.fst.length : Int) - g.snd.fst).toNat) ∧
 ((g.fst &&
 ((x.fst.getD g.snd.fst.toNat ((0 : Int), (0 : Int))).fst == (1 : Int) ||
 (x.fst.getD g.snd.fst.toNat ((0 : Int), (0 : Int))).fst == (2 : Int)) &&
 decide ((0 : Int) ≤ (x.fst.getD g.snd.fst.toNat ((0 : Int), (0 : Int))).snd) &&
 decide ((x.fst.getD g.snd.fst.toNat ((0 : Int), (0 : Int))).snd ≤ (1099511627776 : Int))) =
 (g.fst &&
 ((x.fst.getD g.snd.fst.toNat ((0 : Int), (0 : Int))).fst == (1 : Int) ||
 (x.fst.getD g.snd.fst.toNat ((0 : Int), (0 : Int))).fst == (2 : Int)) &&
 decide ((0 : Int) ≤ (x.fst.getD g.snd.fst.toNat ((0 : Int), (0 : Int))).snd) &&
 decide ((x.fst.getD g.snd.fst.toNat ((0 : Int), (0 : Int))).snd ≤ (1099511627776 : Int))) ∧
 x.fst = x.fst ∧
 (↑x.fst.length : Int) = (↑x.fst.length : Int) ∧
 g.snd.fst + (1 : Int) = g.snd.fst + (1 : Int) ∧ True) ∧
 True ∧ True) ∧
 (decide (g.snd.fst < (↑x.fst.length : Int)) = false → g.fst = right x.fst)

theorem E_iright_eq (x : HL (cRight : Ctr).as) : vc (fx_iright x) 1 16 Try.f16 (cRight) x = E_iright x := by kernel_rfl

def E_serve (x : List (Int × Int) × (Int × Int × Bool) × Unit) : Prop :=
 Holds True ∧
 ((!!right x.fst) = true → (!!right x.fst) = true) ∧
 ((!!right x.fst) = true → (!!right x.fst) = true) ∧
 ((!right x.fst) = false → (!!right x.fst) = true) ∧
 ((!(!right x.fst || decide (x.snd.fst.fst < (0 : Int)))) = true → (!(!right x.fst || decide (x.snd.fst.fst < (0 : Int)))) = true) ∧
 ((!(!right x.fst || decide (x.snd.fst.fst < (0 : Int)))) = true → (!(!right x.fst || decide (x.snd.fst.fst < (0 : Int)))) = true) ∧
 ((!right x.fst || decide (x.snd.fst.fst < (0 : Int))) = false → (!(!right x.fst || decide (x.snd.fst.fst < (0 : Int)))) = true) ∧
 ((!(!right x.fst || decide (x.snd.fst.fst < (0 : Int)) || decide ((1099511627776 : Int) < x.snd.fst.fst))) = true →
 (!(!right x.fst || decide (x.snd.fst.fst < (0 : Int)) || decide ((1099511627776 : Int) < x.snd.fst.fst))) = true) ∧
 ((!(!right x.fst || decide (x.snd.fst.fst < (0 : Int)) || decide ((1099511627776 : Int) < x.snd.fst.fst))) = true →
 (!(!right x.fst || decide (x.snd.fst.fst < (0 : Int)) || decide ((1099511627776 : Int) < x.snd.fst.fst))) = true) ∧
 ((!right x.fst || decide (x.snd.fst.fst < (0 : Int)) || decide ((1099511627776 : Int) < x.snd.fst.fst)) = false →
 (!(!right x.fst || decide (x.snd.fst.fst < (0 : Int)) || decide ((1099511627776 : Int) < x.snd.fst.fst))) = true) ∧
 ((!(!right x.fst || decide (x.snd.fst.fst < (0 : Int)) || decide ((1099511627776 : Int) < x.snd.fst.fst) ||
 decide (x.snd.fst.snd.fst < (0 : Int)))) =
 true →
 (!(!right x.fst || decide (x.snd.fst.fst < (0 : Int)) || decide ((1099511627776 : Int) < x.snd.fst.fst) ||
 decide (x.snd.fst.snd.fst < (0 : Int)))) =
 true) ∧
 ((!(!right x.fst || decide (x.snd.fst.fst < (0 : Int)) || decide ((1099511627776 : Int) < x.snd.fst.fst) ||
 decide (x.snd.fst.snd.fst < (0 : Int)))) =
 true →
 (!(!right x.fst || decide (x.snd.fst.fst < (0 : Int)) || decide ((1099511627776 : Int) < x.snd.fst.fst) ||
 decide (x.snd.fst.snd.fst < (0 : Int)))) =
 true) ∧
 ((!right x.fst || decide (x.snd.fst.fst < (0 : Int)) || decide ((1099511627776 : Int) < x.snd.fst.fst) ||
 decide (x.snd.fst.snd.fst < (0 : Int))) =
 false →
 (!(!right x.fst || decide (x.snd.fst.fst < (0 : Int)) || decide ((1099511627776 : Int) < x.snd.fst.fst) ||
 decide (x.snd.fst.snd.fst < (0 : Int)))) =
 true) ∧
 ((!(!right x.fst || decide (x.snd.fst.fst < (0 : Int)) || decide ((1099511627776 : Int) < x.snd.fst.fst) ||
 decide (x.snd.fst.snd.fst < (0 : Int)) ||
 decide ((5 : Int) < x.snd.fst.snd.fst))) =
 true →
 (!(!right x.fst || decide (x.snd.fst.fst < (0 : Int)) || decide ((1099511627776 : Int) < x.snd.fst.fst) ||
 decide (x.snd.fst.snd.fst < (0 : Int)) ||
 decide ((5 : Int) < x.snd.fst.snd.fst))) =
 true) ∧
 ((!(!right x.fst || decide (x.snd.fst.fst < (0 : Int)) || decide ((1099511627776 : Int) < x.snd.fst.fst) ||
 decide (x.snd.fst.snd.fst < (0 : Int)) ||
 decide ((5 : Int) < x.snd.fst.snd.fst))) =
 true →
 (!(!right x.fst || decide (x.snd.fst.fst < (0 : Int)) || decide ((1099511627776 : Int) < x.snd.fst.fst) ||
 decide (x.snd.fst.snd.fst < (0 : Int)) ||
 decide ((5 : Int) < x.snd.fst.snd.fst))) =
 true) ∧
 ((!(!right x.fst || decide (x.snd.fst.fst < (0 : Int)) || decide ((1099511627776 : Int) < x.snd.fst.fst) ||
 decide (x.snd.fst.snd.fst < (0 : Int)) ||
 decide ((5 : Int) < x.snd.fst.snd.fst))) =
 true →
 (!(!right x.fst || decide (x.snd.fst.fst < (0 : Int)) || decide ((1099511627776 : Int) < x.snd.fst.fst) ||
 decide (x.snd.fst.snd.fst < (0 : Int)) ||
 decide ((5 : Int) < x.snd.fst.snd.fst))) =
 true) ∧
 ((!(!right x.fst || decide (x.snd.fst.fst < (0 : Int)) || decide ((1099511627776 : Int) < x.snd.fst.fst) ||
 decide (x.snd.fst.snd.fst < (0 : Int)) ||
 decide ((5 : Int) < x.snd.fst.snd.fst))) =
 true →
 (!(!right x.fst || decide (x.snd.fst.fst < (0 : Int)) || decide ((1099511627776 : Int) < x.snd.fst.fst) ||
 decide (x.snd.fst.snd.fst < (0 : Int)) ||
 decide ((5 : Int) < x.snd.fst.snd.fst))) =
 true ∧
 (!(!right x.fst || decide (x.snd.fst.fst < (0 : Int)) || decide ((1099511627776 : Int) < x.snd.fst.fst) ||
 decide (x.snd.fst.snd.fst < (0 : Int)) ||
 decide ((5 : Int) < x.snd.fst.snd.fst))) =
 true) ∧
 ((!right x.fst || decide (x.snd.fst.fst < (0 : Int)) || decide ((1099511627776 : Int) < x.snd.fst.fst) ||
 decide (x.snd.fst.snd.fst < (0 : Int)) ||
 decide ((5 : Int) < x.snd.fst.snd.fst)) =
 false →
 (!(!right x.fst || decide (x.snd.fst.fst < (0 : Int)) || decide ((1099511627776 : Int) < x.snd.fst.fst) ||
 decide (x.snd.fst.snd.fst < (0 : Int)) ||
 decide ((5 : Int) < x.snd.fst.snd.fst))) =
 true) ∧
 ((!right x.fst || decide (x.snd.fst.fst < (0 : Int)) || decide ((1099511627776 : Int) < x.snd.fst.fst) ||
 decide (x.snd.fst.snd.fst < (0 : Int)) ||
 decide ((5 : Int) < x.snd.fst.snd.fst) ||
 x.snd.fst.snd.snd != (x.snd.fst.snd.fst == (5 : Int))) =
 true →
 ([] : List (Int × Int)) = (serve x.fst x.snd.fst).fst ∧
 ([] : List Int) = (serve x.fst x.snd.fst).snd.fst ∧
 ((0 : Int), (0 : Int), false) = (serve x.fst x.snd.fst).snd.snd.fst ∧
 (1 : Int) = (serve x.fst x.snd.fst).snd.snd.snd.fst) ∧
 ((!right x.fst || decide (x.snd.fst.fst < (0 : Int)) || decide ((1099511627776 : Int) < x.snd.fst.fst) ||
 decide (x.snd.fst.snd.fst < (0 : Int)) ||
 decide ((5 : Int) < x.snd.fst.snd.fst) ||
 x.snd.fst.snd.snd != (x.snd.fst.snd.fst == (5 : Int))) =
 false →
 (x.snd.fst.snd.snd = true →
 ([] : List (Int × Int)) = (serve x.fst x.snd.fst).fst ∧
 ([] : List Int) = (serve x.fst x.snd.fst).snd.fst ∧
 ((0 : Int), (0 : Int), false) = (serve x.fst x.snd.fst).snd.snd.fst ∧
 (7 : Int) = (serve x.fst x.snd.fst).snd.snd.snd.fst) ∧
 (x.snd.fst.snd.snd = false →
 ((x.snd.fst.fst == (1099511627776 : Int)) = true →
 ([] : List (Int × Int)) = (serve x.fst x.snd.fst).fst ∧
 ([] : List Int) = (serve x.fst x.snd.fst).snd.fst ∧
 ((0 : Int), (0 : Int), false) = (serve x.fst x.snd.fst).snd.snd.fst ∧
 (4 : Int) = (serve x.fst x.snd.fst).snd.snd.snd.fst) ∧
 ((x.snd.fst.fst == (1099511627776 : Int)) = false →
 Holds (x.fst.length * (16 : Nat) ≤ (140737488355328 : Nat)) ∧
 ((((0 : Int) ≤ (0 : Int) ∧
 (0 : Int) ≤ (↑x.fst.length : Int) ∧
 x.fst =
 List.map dec (List.take (Int.toNat (0 : Int)) x.fst) ++
 List.drop (Int.toNat (0 : Int)) x.fst ∧
 List.foldl wk1 ((0 : Int), ([] : List Int)) (List.take (Int.toNat (0 : Int)) x.fst) =
 ((0 : Int), ([] : List Int)) ∧
 (↑([] : List Int).length : Int) ≤ (0 : Int) ∧
 false = (List.take (Int.toNat (0 : Int)) x.fst).any act) ∧
 True) ∧
 ((True ∧ True) ∧
 (True ∧ True) ∧
 True ∧
 True ∧
 false = false ∧
 (↑x.fst.length : Int) = (↑x.fst.length : Int) ∧ (0 : Int) = (0 : Int) ∧ True) ∧
 (x.fst = x.fst ∧
 ([] : List Int) = ([] : List Int) ∧
 (x.snd.fst.fst = x.snd.fst.fst ∧
 x.snd.fst.snd.fst = x.snd.fst.snd.fst ∧
 x.snd.fst.snd.snd = x.snd.fst.snd.snd ∧ True) ∧
 ((0 : Int) = (0 : Int) ∧ (0 : Int) = (0 : Int) ∧ false = false ∧ True) ∧ True) ∧
 True) ∧
 ∀ (g : List (Int × Int) × List Int × Bool × Int × Unit),
 (0 : Int) ≤ g.snd.snd.snd.fst ∧
 g.snd.snd.snd.fst ≤ (↑x.fst.length : Int) ∧
 g.fst =
 List.map dec (List.take g.snd.snd.snd.fst.toNat x.fst) ++
 List.drop g.snd.snd.snd.fst.toNat x.fst ∧
 List.foldl wk1 ((0 : Int), ([] : List Int)) (List.take g.snd.snd.snd.fst.toNat x.fst) =
 (g.snd.snd.snd.fst, g.snd.fst) ∧
 (↑g.snd.fst.length : Int) ≤ g.snd.snd.snd.fst ∧
 g.snd.snd.fst = (List.take g.snd.snd.snd.fst.toNat x.fst).any act →
 (g.fst.length ≤ (9223372036854775807 : Nat) ∧
 ∀ (x : Int × Int),
 x ∈ g.fst →
 ((-9223372036854775808 : Int) ≤ x.fst ∧ x.fst ≤ (9223372036854775807 : Int)) ∧
 (-9223372036854775808 : Int) ≤ x.snd ∧ x.snd ≤ (9223372036854775807 : Int)) ∧
 (g.snd.fst.length ≤ (9223372036854775807 : Nat) ∧
 ∀ (x : Int),
 x ∈ g.snd.fst →
 (-9223372036854775808 : Int) ≤ x ∧ x ≤ (9223372036854775807 : Int)) ∧
 True ∧
 ((-9223372036854775808 : Int) ≤ g.snd.snd.snd.fst ∧
 g.snd.snd.snd.fst ≤ (9223372036854775807 : Int)) ∧
 True →
 (decide (g.snd.snd.snd.fst < (↑x.fst.length : Int)) = true →
 ((0 : Int) ≤ g.snd.snd.snd.fst ∧ g.snd.snd.snd.fst < (↑g.fst.length : Int)) ∧
 (((g.fst.getD g.snd.snd.snd.fst.toNat ((0 : Int), (0 : Int))).snd == (0 : Int)) =
 true →
 ((!g.snd.snd.fst) = true → (!g.snd.snd.fst) = true) ∧
 (g.snd.snd.fst = false → (!g.snd.snd.fst) = true) ∧
 (((0 : Int) == (2 : Int)) = true →
 (g.snd.fst.length +
 (((0 : Int) :: ([] : List Int)).set (0 : Nat)
 g.snd.snd.snd.fst).length ≤
 (9223372036854775807 : Nat) ∧
 (g.snd.fst.length +
 (((0 : Int) :: ([] : List Int)).set (0 : Nat)
 g.snd.snd.snd.fst).length +
 (g.snd.fst.length +
 (((0 : Int) :: ([] : List Int)).set (0 : Nat)
 g.snd.snd.snd.fst).length) /
 (4 : Nat) +
 (192 : Nat)) *
 (8 : Nat) ≤
 (281474976710656 : Nat)) ∧
 ((-9223372036854775808 : Int) ≤ g.snd.snd.snd.fst + (1 : Int) ∧
 g.snd.snd.snd.fst + (1 : Int) ≤ (9223372036854775807 : Int)) ∧
 (((0 : Int) ≤ g.snd.snd.snd.fst + (1 : Int) ∧
 g.snd.snd.snd.fst + (1 : Int) ≤ (↑x.fst.length : Int) ∧
 g.fst =
 List.map dec
 (List.take (g.snd.snd.snd.fst + (1 : Int)).toNat
 x.fst) ++
 List.drop (g.snd.snd.snd.fst + (1 : Int)).toNat x.fst ∧
 List.foldl wk1 ((0 : Int), ([] : List Int))
 (List.take (g.snd.snd.snd.fst + (1 : Int)).toNat
 x.fst) =
 (g.snd.snd.snd.fst + (1 : Int),
 g.snd.fst ++
 ((0 : Int) :: ([] : List Int)).set (0 : Nat)
 g.snd.snd.snd.fst) ∧
 (↑(g.snd.fst ++
 ((0 : Int) :: ([] : List Int)).set (0 : Nat)
 g.snd.snd.snd.fst).length :
 Int) ≤
 g.snd.snd.snd.fst + (1 : Int) ∧
 (g.snd.snd.fst || (0 : Int) != (0 : Int)) =
 (List.take (g.snd.snd.snd.fst + (1 : Int)).toNat
 x.fst).any
 act) ∧
 ((↑x.fst.length : Int) - (g.snd.snd.snd.fst + (1 : Int))).toNat <
 ((↑x.fst.length : Int) - g.snd.snd.snd.fst).toNat) ∧
 ((True ∧ True) ∧
 (True ∧ True) ∧
 True ∧
 True ∧
 (g.snd.snd.fst || (0 : Int) != (0 : Int)) =
 (g.snd.snd.fst || (0 : Int) != (0 : Int)) ∧
 (↑x.fst.length : Int) = (↑x.fst.length : Int) ∧
 g.snd.snd.snd.fst + (1 : Int) =
 g.snd.snd.snd.fst + (1 : Int) ∧
 True) ∧
 (g.fst = g.fst ∧
 g.snd.fst ++
 ((0 : Int) :: ([] : List Int)).set (0 : Nat)
 g.snd.snd.snd.fst =
 g.snd.fst ++
 ((0 : Int) :: ([] : List Int)).set (0 : Nat)
 g.snd.snd.snd.fst ∧
 (x.snd.fst.fst = x.snd.fst.fst ∧
 x.snd.fst.snd.fst = x.snd.fst.snd.fst ∧
 x.snd.fst.snd.snd = x.snd.fst.snd.snd ∧ True) ∧
 ((0 : Int) = (0 : Int) ∧
 (0 : Int) = (0 : Int) ∧ false = false ∧ True) ∧
 True) ∧
 True) ∧
 (((0 : Int) == (2 : Int)) = false →
 ((-9223372036854775808 : Int) ≤ g.snd.snd.snd.fst + (1 : Int) ∧
 g.snd.snd.snd.fst + (1 : Int) ≤ (9223372036854775807 : Int)) ∧
 (((0 : Int) ≤ g.snd.snd.snd.fst + (1 : Int) ∧
 g.snd.snd.snd.fst + (1 : Int) ≤ (↑x.fst.length : Int) ∧
 g.fst =
 List.map dec
 (List.take (g.snd.snd.snd.fst + (1 : Int)).toNat
 x.fst) ++
 List.drop (g.snd.snd.snd.fst + (1 : Int)).toNat x.fst ∧
 List.foldl wk1 ((0 : Int), ([] : List Int))
 (List.take (g.snd.snd.snd.fst + (1 : Int)).toNat
 x.fst) =
 (g.snd.snd.snd.fst + (1 : Int), g.snd.fst) ∧
 (↑g.snd.fst.length : Int) ≤ g.snd.snd.snd.fst + (1 : Int) ∧
 (g.snd.snd.fst || (0 : Int) != (0 : Int)) =
 (List.take (g.snd.snd.snd.fst + (1 : Int)).toNat
 x.fst).any
 act) ∧
 ((↑x.fst.length : Int) - (g.snd.snd.snd.fst + (1 : Int))).toNat <
 ((↑x.fst.length : Int) - g.snd.snd.snd.fst).toNat) ∧
 ((True ∧ True) ∧
 (True ∧ True) ∧
 True ∧
 True ∧
 (g.snd.snd.fst || (0 : Int) != (0 : Int)) =
 (g.snd.snd.fst || (0 : Int) != (0 : Int)) ∧
 (↑x.fst.length : Int) = (↑x.fst.length : Int) ∧
 g.snd.snd.snd.fst + (1 : Int) =
 g.snd.snd.snd.fst + (1 : Int) ∧
 True) ∧
 (g.fst = g.fst ∧
 g.snd.fst = g.snd.fst ∧
 (x.snd.fst.fst = x.snd.fst.fst ∧
 x.snd.fst.snd.fst = x.snd.fst.snd.fst ∧
 x.snd.fst.snd.snd = x.snd.fst.snd.snd ∧ True) ∧
 ((0 : Int) = (0 : Int) ∧
 (0 : Int) = (0 : Int) ∧ false = false ∧ True) ∧
 True) ∧
 True)) ∧
 (((g.fst.getD g.snd.snd.snd.fst.toNat ((0 : Int), (0 : Int))).snd == (0 : Int)) =
 false →
 ((-9223372036854775808 : Int) ≤
 (g.fst.getD g.snd.snd.snd.fst.toNat ((0 : Int), (0 : Int))).snd -
 (1 : Int) ∧
 (g.fst.getD g.snd.snd.snd.fst.toNat ((0 : Int), (0 : Int))).snd - (1 : Int) ≤
 (9223372036854775807 : Int)) ∧
 ((!g.snd.snd.fst) = true → (!g.snd.snd.fst) = true) ∧
 (g.snd.snd.fst = false → (!g.snd.snd.fst) = true) ∧
 ((((g.fst.set g.snd.snd.snd.fst.toNat
 ((g.fst.getD g.snd.snd.snd.fst.toNat
 ((0 : Int), (0 : Int))).fst,
 (g.fst.getD g.snd.snd.snd.fst.toNat
 ((0 : Int), (0 : Int))).snd -
 (1 : Int))).getD
 g.snd.snd.snd.fst.toNat ((0 : Int), (0 : Int))).fst ==
 (2 : Int)) =
 true →
 (g.snd.fst.length +
 (((0 : Int) :: ([] : List Int)).set (0 : Nat)
 g.snd.snd.snd.fst).length ≤
 (9223372036854775807 : Nat) ∧
 (g.snd.fst.length +
 (((0 : Int) :: ([] : List Int)).set (0 : Nat)
 g.snd.snd.snd.fst).length +
 (g.snd.fst.length +
 (((0 : Int) :: ([] : List Int)).set (0 : Nat)
 g.snd.snd.snd.fst).length) /
 (4 : Nat) +
 (192 : Nat)) *
 (8 : Nat) ≤
 (281474976710656 : Nat)) ∧
 ((-9223372036854775808 : Int) ≤ g.snd.snd.snd.fst + (1 : Int) ∧
 g.snd.snd.snd.fst + (1 : Int) ≤ (9223372036854775807 : Int)) ∧
 (((0 : Int) ≤ g.snd.snd.snd.fst + (1 : Int) ∧
 g.snd.snd.snd.fst + (1 : Int) ≤ (↑x.fst.length : Int) ∧
 g.fst.set g.snd.snd.snd.fst.toNat
 ((g.fst.getD g.snd.snd.snd.fst.toNat
 ((0 : Int), (0 : Int))).fst,
 (g.fst.getD g.snd.snd.snd.fst.toNat
 ((0 : Int), (0 : Int))).snd -
 (1 : Int)) =
 List.map dec
 (List.take (g.snd.snd.snd.fst + (1 : Int)).toNat
 x.fst) ++
 List.drop (g.snd.snd.snd.fst + (1 : Int)).toNat
 x.fst ∧
 List.foldl wk1 ((0 : Int), ([] : List Int))
 (List.take (g.snd.snd.snd.fst + (1 : Int)).toNat
 x.fst) =
 (g.snd.snd.snd.fst + (1 : Int),
 g.snd.fst ++
 ((0 : Int) :: ([] : List Int)).set (0 : Nat)
 g.snd.snd.snd.fst) ∧
 (↑(g.snd.fst ++
 ((0 : Int) :: ([] : List Int)).set (0 : Nat)
 g.snd.snd.snd.fst).length :
 Int) ≤
 g.snd.snd.snd.fst + (1 : Int) ∧
 (g.snd.snd.fst ||
 ((g.fst.set g.snd.snd.snd.fst.toNat
 ((g.fst.getD g.snd.snd.snd.fst.toNat
 ((0 : Int), (0 : Int))).fst,
 (g.fst.getD g.snd.snd.snd.fst.toNat
 ((0 : Int), (0 : Int))).snd -
 (1 : Int))).getD
 g.snd.snd.snd.fst.toNat
 ((0 : Int), (0 : Int))).fst !=
 (0 : Int)) =
 (List.take (g.snd.snd.snd.fst + (1 : Int)).toNat
 x.fst).any
 act) ∧
 ((↑x.fst.length : Int) -
 (g.snd.snd.snd.fst + (1 : Int))).toNat <
 ((↑x.fst.length : Int) - g.snd.snd.snd.fst).toNat) ∧
 ((True ∧ True) ∧
 (True ∧ True) ∧
 True ∧
 True ∧
 (g.snd.snd.fst ||
 ((g.fst.set g.snd.snd.snd.fst.toNat
 ((g.fst.getD g.snd.snd.snd.fst.toNat
 ((0 : Int), (0 : Int))).fst,
 (g.fst.getD g.snd.snd.snd.fst.toNat
 ((0 : Int), (0 : Int))).snd -
 (1 : Int))).getD
 g.snd.snd.snd.fst.toNat
 ((0 : Int), (0 : Int))).fst !=
 (0 : Int)) =
 (g.snd.snd.fst ||
 ((g.fst.set g.snd.snd.snd.fst.toNat
 ((g.fst.getD g.snd.snd.snd.fst.toNat
 ((0 : Int), (0 : Int))).fst,
 (g.fst.getD g.snd.snd.snd.fst.toNat
 ((0 : Int), (0 : Int))).snd -
 (1 : Int))).getD
 g.snd.snd.snd.fst.toNat
 ((0 : Int), (0 : Int))).fst !=
 (0 : Int)) ∧
 (↑x.fst.length : Int) = (↑x.fst.length : Int) ∧
 g.snd.snd.snd.fst + (1 : Int) =
 g.snd.snd.snd.fst + (1 : Int) ∧
 True) ∧
 (g.fst.set g.snd.snd.snd.fst.toNat
 ((g.fst.getD g.snd.snd.snd.fst.toNat
 ((0 : Int), (0 : Int))).fst,
 (g.fst.getD g.snd.snd.snd.fst.toNat
 ((0 : Int), (0 : Int))).snd -
 (1 : Int)) =
 g.fst.set g.snd.snd.snd.fst.toNat
 ((g.fst.getD g.snd.snd.snd.fst.toNat
 ((0 : Int), (0 : Int))).fst,
 (g.fst.getD g.snd.snd.snd.fst.toNat
 ((0 : Int), (0 : Int))).snd -
 (1 : Int)) ∧
 g.snd.fst ++
 ((0 : Int) :: ([] : List Int)).set (0 : Nat)
 g.snd.snd.snd.fst =
 g.snd.fst ++
 ((0 : Int) :: ([] : List Int)).set (0 : Nat)
 g.snd.snd.snd.fst ∧
 (x.snd.fst.fst = x.snd.fst.fst ∧
 x.snd.fst.snd.fst = x.snd.fst.snd.fst ∧
 x.snd.fst.snd.snd = x.snd.fst.snd.snd ∧ True) ∧
 ((0 : Int) = (0 : Int) ∧
 (0 : Int) = (0 : Int) ∧ false = false ∧ True) ∧
 True) ∧
 True) ∧
 ((((g.fst.set g.snd.snd.snd.fst.toNat
 ((g.fst.getD g.snd.snd.snd.fst.toNat
 ((0 : Int), (0 : Int))).fst,
 (g.fst.getD g.snd.snd.snd.fst.toNat
 ((0 : Int), (0 : Int))).snd -
 (1 : Int))).getD
 g.snd.snd.snd.fst.toNat ((0 : Int), (0 : Int))).fst ==
 (2 : Int)) =
 false →
 ((-9223372036854775808 : Int) ≤ g.snd.snd.snd.fst + (1 : Int) ∧
 g.snd.snd.snd.fst + (1 : Int) ≤ (9223372036854775807 : Int)) ∧
 (((0 : Int) ≤ g.snd.snd.snd.fst + (1 : Int) ∧
 g.snd.snd.snd.fst + (1 : Int) ≤ (↑x.fst.length : Int) ∧
 g.fst.set g.snd.snd.snd.fst.toNat
 ((g.fst.getD g.snd.snd.snd.fst.toNat
 ((0 : Int), (0 : Int))).fst,
 (g.fst.getD g.snd.snd.snd.fst.toNat
 ((0 : Int), (0 : Int))).snd -
 (1 : Int)) =
 List.map dec
 (List.take (g.snd.snd.snd.fst + (1 : Int)).toNat
 x.fst) ++
 List.drop (g.snd.snd.snd.fst + (1 : Int)).toNat x.fst ∧
 List.foldl wk1 ((0 : Int), ([] : List Int))
 (List.take (g.snd.snd.snd.fst + (1 : Int)).toNat
 x.fst) =
 (g.snd.snd.snd.fst + (1 : Int), g.snd.fst) ∧
 (↑g.snd.fst.length : Int) ≤
 g.snd.snd.snd.fst + (1 : Int) ∧
 (g.snd.snd.fst ||
 ((g.fst.set g.snd.snd.snd.fst.toNat
 ((g.fst.getD g.snd.snd.snd.fst.toNat
 ((0 : Int), (0 : Int))).fst,
 (g.fst.getD g.snd.snd.snd.fst.toNat
 ((0 : Int), (0 : Int))).snd -
 (1 : Int))).getD
 g.snd.snd.snd.fst.toNat
 ((0 : Int), (0 : Int))).fst !=
 (0 : Int)) =
 (List.take (g.snd.snd.snd.fst + (1 : Int)).toNat
 x.fst).any
 act) ∧
 ((↑x.fst.length : Int) - (g.snd.snd.snd.fst + (1 : Int))).toNat <
 ((↑x.fst.length : Int) - g.snd.snd.snd.fst).toNat) ∧
 ((True ∧ True) ∧
 (True ∧ True) ∧
 True ∧
 True ∧
 (g.snd.snd.fst ||
 ((g.fst.set g.snd.snd.snd.fst.toNat
 ((g.fst.getD g.snd.snd.snd.fst.toNat
 ((0 : Int), (0 : Int))).fst,
 (g.fst.getD g.snd.snd.snd.fst.toNat
 ((0 : Int), (0 : Int))).snd -
 (1 : Int))).getD
 g.snd.snd.snd.fst.toNat
 ((0 : Int), (0 : Int))).fst !=
 (0 : Int)) =
 (g.snd.snd.fst ||
 ((g.fst.set g.snd.snd.snd.fst.toNat
 ((g.fst.getD g.snd.snd.snd.fst.toNat
 ((0 : Int), (0 : Int))).fst,
 (g.fst.getD g.snd.snd.snd.fst.toNat
 ((0 : Int), (0 : Int))).snd -
 (1 : Int))).getD
 g.snd.snd.snd.fst.toNat
 ((0 : Int), (0 : Int))).fst !=
 (0 : Int)) ∧
 (↑x.fst.length : Int) = (↑x.fst.length : Int) ∧
 g.snd.snd.snd.fst + (1 : Int) =
 g.snd.snd.snd.fst + (1 : Int) ∧
 True) ∧
 (g.fst.set g.snd.snd.snd.fst.toNat
 ((g.fst.getD g.snd.snd.snd.fst.toNat
 ((0 : Int), (0 : Int))).fst,
 (g.fst.getD g.snd.snd.snd.fst.toNat
 ((0 : Int), (0 : Int))).snd -
 (1 : Int)) =
 g.fst.set g.snd.snd.snd.fst.toNat
 ((g.fst.getD g.snd.snd.snd.fst.toNat
 ((0 : Int), (0 : Int))).fst,
 (g.fst.getD g.snd.snd.snd.fst.toNat
 ((0 : Int), (0 : Int))).snd -
 (1 : Int)) ∧
 g.snd.fst = g.snd.fst ∧
 (x.snd.fst.fst = x.snd.fst.fst ∧
 x.snd.fst.snd.fst = x.snd.fst.snd.fst ∧
 x.snd.fst.snd.snd = x.snd.fst.snd.snd ∧ True) ∧
 ((0 : Int) = (0 : Int) ∧
 (0 : Int) = (0 : Int) ∧ false = false ∧ True) ∧
 True) ∧
 True))) ∧
 (decide (g.snd.snd.snd.fst < (↑x.fst.length : Int)) = false →
 ((-9223372036854775808 : Int) ≤ x.snd.fst.fst + (1 : Int) ∧
 x.snd.fst.fst + (1 : Int) ≤ (9223372036854775807 : Int)) ∧
 ((-9223372036854775808 : Int) ≤ x.snd.fst.snd.fst + (1 : Int) ∧
 x.snd.fst.snd.fst + (1 : Int) ≤ (9223372036854775807 : Int)) ∧
 (g.snd.snd.fst = true →
 g.fst = (serve x.fst x.snd.fst).fst ∧
 g.snd.fst = (serve x.fst x.snd.fst).snd.fst ∧
 (x.snd.fst.fst + (1 : Int), (0 : Int), (0 : Int) == (5 : Int)) =
 (serve x.fst x.snd.fst).snd.snd.fst ∧
 (0 : Int) = (serve x.fst x.snd.fst).snd.snd.snd.fst) ∧
 (g.snd.snd.fst = false →
 g.fst = (serve x.fst x.snd.fst).fst ∧
 g.snd.fst = (serve x.fst x.snd.fst).snd.fst ∧
 (x.snd.fst.fst + (1 : Int), x.snd.fst.snd.fst + (1 : Int),
 x.snd.fst.snd.fst + (1 : Int) == (5 : Int)) =
 (serve x.fst x.snd.fst).snd.snd.fst ∧
 (0 : Int) = (serve x.fst x.snd.fst).snd.snd.snd.fst)))))

theorem E_serve_eq (x : HL (cServe : Ctr).as) : vc (fx_serve x) 2 13 Try.f13 (cServe) x = E_serve x := by kernel_rfl

def E_iserve (x : List (Int × Int) × (Int × Int × Bool) × Unit) : Prop :=
 Holds True ∧
 ((!!right x.fst) = true → (!!right x.fst) = true) ∧
 ((!!right x.fst) = true → (!!right x.fst) = true) ∧
 ((!right x.fst) = false → (!!right x.fst) = true) ∧
 ((!(!right x.fst || decide (x.snd.fst.fst < (0 : Int)))) = true → (!(!right x.fst || decide (x.snd.fst.fst < (0 : Int)))) = true) ∧
 ((!(!right x.fst || decide (x.snd.fst.fst < (0 : Int)))) = true → (!(!right x.fst || decide (x.snd.fst.fst < (0 : Int)))) = true) ∧
 ((!right x.fst || decide (x.snd.fst.fst < (0 : Int))) = false → (!(!right x.fst || decide (x.snd.fst.fst < (0 : Int)))) = true) ∧
 ((!(!right x.fst || decide (x.snd.fst.fst < (0 : Int)) || decide ((1099511627776 : Int) < x.snd.fst.fst))) = true →
 (!(!right x.fst || decide (x.snd.fst.fst < (0 : Int)) || decide ((1099511627776 : Int) < x.snd.fst.fst))) = true) ∧
 ((!(!right x.fst || decide (x.snd.fst.fst < (0 : Int)) || decide ((1099511627776 : Int) < x.snd.fst.fst))) = true →
 (!(!right x.fst || decide (x.snd.fst.fst < (0 : Int)) || decide ((1099511627776 : Int) < x.snd.fst.fst))) = true) ∧
 ((!right x.fst || decide (x.snd.fst.fst < (0 : Int)) || decide ((1099511627776 : Int) < x.snd.fst.fst)) = false →
 (!(!right x.fst || decide (x.snd.fst.fst < (0 : Int)) || decide ((1099511627776 : Int) < x.snd.fst.fst))) = true) ∧
 ((!(!right x.fst || decide (x.snd.fst.fst < (0 : Int)) || decide ((1099511627776 : Int) < x.snd.fst.fst) ||
 decide (x.snd.fst.snd.fst < (0 : Int)))) =
 true →
 (!(!right x.fst || decide (x.snd.fst.fst < (0 : Int)) || decide ((1099511627776 : Int) < x.snd.fst.fst) ||
 decide (x.snd.fst.snd.fst < (0 : Int)))) =
 true) ∧
 ((!(!right x.fst || decide (x.snd.fst.fst < (0 : Int)) || decide ((1099511627776 : Int) < x.snd.fst.fst) ||
 decide (x.snd.fst.snd.fst < (0 : Int)))) =
 true →
 (!(!right x.fst || decide (x.snd.fst.fst < (0 : Int)) || decide ((1099511627776 : Int) < x.snd.fst.fst) ||
 decide (x.snd.fst.snd.fst < (0 : Int)))) =
 true) ∧
 ((!right x.fst || decide (x.snd.fst.fst < (0 : Int)) || decide ((1099511627776 : Int) < x.snd.fst.fst) ||
 decide (x.snd.fst.snd.fst < (0 : Int))) =
 false →
 (!(!right x.fst || decide (x.snd.fst.fst < (0 : Int)) || decide ((1099511627776 : Int) < x.snd.fst.fst) ||
 decide (x.snd.fst.snd.fst < (0 : Int)))) =
 true) ∧
 ((!(!right x.fst || decide (x.snd.fst.fst < (0 : Int)) || decide ((1099511627776 : Int) < x.snd.fst.fst) ||
 decide (x.snd.fst.snd.fst < (0 : Int)) ||
 decide ((5 : Int) < x.snd.fst.snd.fst))) =
 true →
 (!(!right x.fst || decide (x.snd.fst.fst < (0 : Int)) || decide ((1099511627776 : Int) < x.snd.fst.fst) ||
 decide (x.snd.fst.snd.fst < (0 : Int)) ||
 decide ((5 : Int) < x.snd.fst.snd.fst))) =
 true) ∧
 ((!(!right x.fst || decide (x.snd.fst.fst < (0 : Int)) || decide ((1099511627776 : Int) < x.snd.fst.fst) ||
 decide (x.snd.fst.snd.fst < (0 : Int)) ||
 decide ((5 : Int) < x.snd.fst.snd.fst))) =
 true →
 (!(!right x.fst || decide (x.snd.fst.fst < (0 : Int)) || decide ((1099511627776 : Int) < x.snd.fst.fst) ||
 decide (x.snd.fst.snd.fst < (0 : Int)) ||
 decide ((5 : Int) < x.snd.fst.snd.fst))) =
 true) ∧
 ((!(!right x.fst || decide (x.snd.fst.fst < (0 : Int)) || decide ((1099511627776 : Int) < x.snd.fst.fst) ||
 decide (x.snd.fst.snd.fst < (0 : Int)) ||
 decide ((5 : Int) < x.snd.fst.snd.fst))) =
 true →
 (!(!right x.fst || decide (x.snd.fst.fst < (0 : Int)) || decide ((1099511627776 : Int) < x.snd.fst.fst) ||
 decide (x.snd.fst.snd.fst < (0 : Int)) ||
 decide ((5 : Int) < x.snd.fst.snd.fst))) =
 true) ∧
 ((!(!right x.fst || decide (x.snd.fst.fst < (0 : Int)) || decide ((1099511627776 : Int) < x.snd.fst.fst) ||
 decide (x.snd.fst.snd.fst < (0 : Int)) ||
 decide ((5 : Int) < x.snd.fst.snd.fst))) =
 true →
 (!(!right x.fst || decide (x.snd.fst.fst < (0 : Int)) || decide ((1099511627776 : Int) < x.snd.fst.fst) ||
 decide (x.snd.fst.snd.fst < (0 : Int)) ||
 decide ((5 : Int) < x.snd.fst.snd.fst))) =
 true ∧
 (!(!right x.fst || decide (x.snd.fst.fst < (0 : Int)) || decide ((1099511627776 : Int) < x.snd.fst.fst) ||
 decide (x.snd.fst.snd.fst < (0 : Int)) ||
 decide ((5 : Int) < x.snd.fst.snd.fst))) =
 true) ∧
 ((!right x.fst || decide (x.snd.fst.fst < (0 : Int)) || decide ((1099511627776 : Int) < x.snd.fst.fst) ||
 decide (x.snd.fst.snd.fst < (0 : Int)) ||
 decide ((5 : Int) < x.snd.fst.snd.fst)) =
 false →
 (!(!right x.fst || decide (x.snd.fst.fst < (0 : Int)) || decide ((1099511627776 : Int) < x.snd.fst.fst) ||
 decide (x.snd.fst.snd.fst < (0 : Int)) ||
 decide ((5 : Int) < x.snd.fst.snd.fst))) =
 true) ∧
 ((!right x.fst || decide (x.snd.fst.fst < (0 : Int)) || decide ((1099511627776 : Int) < x.snd.fst.fst) ||
 decide (x.snd.fst.snd.fst < (0 : Int)) ||
 decide ((5 : Int) < x.snd.fst.snd.fst) ||
 (x.snd.fst.snd.fst == (5 : Int)) != x.snd.fst.snd.snd) =
 true →
 ([] : List (Int × Int)) = (serve x.fst x.snd.fst).fst ∧
 ([] : List Int) = (serve x.fst x.snd.fst).snd.fst ∧
 ((0 : Int), (0 : Int), false) = (serve x.fst x.snd.fst).snd.snd.fst ∧
 (1 : Int) = (serve x.fst x.snd.fst).snd.snd.snd.fst) ∧
 ((!right x.fst || decide (x.snd.fst.fst < (0 : Int)) || decide ((1099511627776 : Int) < x.snd.fst.fst) ||
 decide (x.snd.fst.snd.fst < (0 : Int)) ||
 decide ((5 : Int) < x.snd.fst.snd.fst) ||
 (x.snd.fst.snd.fst == (5 : Int)) != x.snd.fst.snd.snd) =
 false →
 (x.snd.fst.snd.snd = true →
 ([] : List (Int × Int)) = (serve x.fst x.snd.fst).fst ∧
 ([] : List Int) = (serve x.fst x.snd.fst).snd.fst ∧
 ((0 : Int), (0 : Int), false) = (serve x.fst x.snd.fst).snd.snd.fst ∧
 (7 : Int) = (serve x.fst x.snd.fst).snd.snd.snd.fst) ∧
 (x.snd.fst.snd.snd = false →
 (decide ((1099511627776 : Int) ≤ x.snd.fst.fst) = true →
 ([] : List (Int × Int)) = (serve x.fst x.snd.fst).fst ∧
 ([] : List Int) = (serve x.fst x.snd.fst).snd.fst ∧
 ((0 : Int), (0 : Int), false) = (serve x.fst x.snd.fst).snd.snd.fst ∧
 (4 : Int) = (serve x.fst x.snd.fst).snd.snd.snd.fst) ∧
 (decide ((1099511627776 : Int) ≤ x.snd.fst.fst) = false →
 ((-9223372036854775808 : Int) ≤ x.snd.fst.snd.fst + (1 : Int) ∧
 x.snd.fst.snd.fst + (1 : Int) ≤ (9223372036854775807 : Int)) ∧
 ((((0 : Int) ≤ (0 : Int) ∧
 (0 : Int) ≤ (↑x.fst.length : Int) ∧
 ([] : List (Int × Int)) = List.map dec (List.take (Int.toNat (0 : Int)) x.fst) ∧
 List.foldl wk1 ((0 : Int), ([] : List Int)) (List.take (Int.toNat (0 : Int)) x.fst) =
 ((0 : Int), ([] : List Int)) ∧
 (↑([] : List Int).length : Int) ≤ (0 : Int) ∧
 x.snd.fst.snd.fst + (1 : Int) =
 nob (List.take (Int.toNat (0 : Int)) x.fst) x.snd.fst.snd.fst) ∧
 True) ∧
 ((True ∧ True) ∧
 (True ∧ True) ∧
 True ∧
 True ∧
 x.snd.fst.snd.fst + (1 : Int) = x.snd.fst.snd.fst + (1 : Int) ∧
 x.fst = x.fst ∧
 (↑x.fst.length : Int) = (↑x.fst.length : Int) ∧ (0 : Int) = (0 : Int) ∧ True) ∧
 (([] : List (Int × Int)) = ([] : List (Int × Int)) ∧
 ([] : List Int) = ([] : List Int) ∧
 (x.snd.fst.fst = x.snd.fst.fst ∧
 x.snd.fst.snd.fst = x.snd.fst.snd.fst ∧
 x.snd.fst.snd.snd = x.snd.fst.snd.snd ∧ True) ∧
 ((0 : Int) = (0 : Int) ∧ (0 : Int) = (0 : Int) ∧ false = false ∧ True) ∧ True) ∧
 True) ∧
 ∀ (g : List (Int × Int) × List Int × Int × Int × Unit),
 (0 : Int) ≤ g.snd.snd.snd.fst ∧
 g.snd.snd.snd.fst ≤ (↑x.fst.length : Int) ∧
 g.fst = List.map dec (List.take g.snd.snd.snd.fst.toNat x.fst) ∧
 List.foldl wk1 ((0 : Int), ([] : List Int)) (List.take g.snd.snd.snd.fst.toNat x.fst) =
 (g.snd.snd.snd.fst, g.snd.fst) ∧
 (↑g.snd.fst.length : Int) ≤ g.snd.snd.snd.fst ∧
 g.snd.snd.fst = nob (List.take g.snd.snd.snd.fst.toNat x.fst) x.snd.fst.snd.fst →
 (g.fst.length ≤ (9223372036854775807 : Nat) ∧
 ∀ (x : Int × Int),
 x ∈ g.fst →
 ((-9223372036854775808 : Int) ≤ x.fst ∧ x.fst ≤ (9223372036854775807 : Int)) ∧
 (-9223372036854775808 : Int) ≤ x.snd ∧ x.snd ≤ (9223372036854775807 : Int)) ∧
 (g.snd.fst.length ≤ (9223372036854775807 : Nat) ∧
 ∀ (x : Int),
 x ∈ g.snd.fst →
 (-9223372036854775808 : Int) ≤ x ∧ x ≤ (9223372036854775807 : Int)) ∧
 ((-9223372036854775808 : Int) ≤ g.snd.snd.fst ∧
 g.snd.snd.fst ≤ (9223372036854775807 : Int)) ∧
 ((-9223372036854775808 : Int) ≤ g.snd.snd.snd.fst ∧
 g.snd.snd.snd.fst ≤ (9223372036854775807 : Int)) ∧
 True →
 (decide (g.snd.snd.snd.fst < (↑x.fst.length : Int)) = true →
 ((0 : Int) ≤ g.snd.snd.snd.fst ∧ g.snd.snd.snd.fst < (↑x.fst.length : Int)) ∧
 (decide
 ((0 : Int) <
 (x.fst.getD g.snd.snd.snd.fst.toNat ((0 : Int), (0 : Int))).snd) =
 true →
 (((x.fst.getD g.snd.snd.snd.fst.toNat ((0 : Int), (0 : Int))).fst == (2 : Int)) =
 true →
 (g.snd.fst.length +
 (((0 : Int) :: ([] : List Int)).set (0 : Nat)
 g.snd.snd.snd.fst).length ≤
 (9223372036854775807 : Nat) ∧
 (g.snd.fst.length +
 (((0 : Int) :: ([] : List Int)).set (0 : Nat)
 g.snd.snd.snd.fst).length +
 (g.snd.fst.length +
 (((0 : Int) :: ([] : List Int)).set (0 : Nat)
 g.snd.snd.snd.fst).length) /
 (4 : Nat) +
 (192 : Nat)) *
 (8 : Nat) ≤
 (281474976710656 : Nat)) ∧
 ((-9223372036854775808 : Int) ≤
 (x.fst.getD g.snd.snd.snd.fst.toNat ((0 : Int), (0 : Int))).snd -
 (1 : Int) ∧
 (x.fst.getD g.snd.snd.snd.fst.toNat ((0 : Int), (0 : Int))).snd -
 (1 : Int) ≤
 (9223372036854775807 : Int)) ∧
 (g.fst.length +
 ((((0 : Int), (0 : Int)) :: ([] : List (Int × Int))).set (0 : Nat)
 ((x.fst.getD g.snd.snd.snd.fst.toNat
 ((0 : Int), (0 : Int))).fst,
 (x.fst.getD g.snd.snd.snd.fst.toNat
 ((0 : Int), (0 : Int))).snd -
 (1 : Int))).length ≤
 (9223372036854775807 : Nat) ∧
 (g.fst.length +
 ((((0 : Int), (0 : Int)) :: ([] : List (Int × Int))).set
 (0 : Nat)
 ((x.fst.getD g.snd.snd.snd.fst.toNat
 ((0 : Int), (0 : Int))).fst,
 (x.fst.getD g.snd.snd.snd.fst.toNat
 ((0 : Int), (0 : Int))).snd -
 (1 : Int))).length +
 (g.fst.length +
 ((((0 : Int), (0 : Int)) :: ([] : List (Int × Int))).set
 (0 : Nat)
 ((x.fst.getD g.snd.snd.snd.fst.toNat
 ((0 : Int), (0 : Int))).fst,
 (x.fst.getD g.snd.snd.snd.fst.toNat
 ((0 : Int), (0 : Int))).snd -
 (1 : Int))).length) /
 (4 : Nat) +
 (192 : Nat)) *
 (16 : Nat) ≤
 (281474976710656 : Nat)) ∧
 ((-9223372036854775808 : Int) ≤ g.snd.snd.snd.fst + (1 : Int) ∧
 g.snd.snd.snd.fst + (1 : Int) ≤ (9223372036854775807 : Int)) ∧
 (((0 : Int) ≤ g.snd.snd.snd.fst + (1 : Int) ∧
 g.snd.snd.snd.fst + (1 : Int) ≤ (↑x.fst.length : Int) ∧
 g.fst ++
 (((0 : Int), (0 : Int)) :: ([] : List (Int × Int))).set
 (0 : Nat)
 ((x.fst.getD g.snd.snd.snd.fst.toNat
 ((0 : Int), (0 : Int))).fst,
 (x.fst.getD g.snd.snd.snd.fst.toNat
 ((0 : Int), (0 : Int))).snd -
 (1 : Int)) =
 List.map dec
 (List.take (g.snd.snd.snd.fst + (1 : Int)).toNat
 x.fst) ∧
 List.foldl wk1 ((0 : Int), ([] : List Int))
 (List.take (g.snd.snd.snd.fst + (1 : Int)).toNat
 x.fst) =
 (g.snd.snd.snd.fst + (1 : Int),
 g.snd.fst ++
 ((0 : Int) :: ([] : List Int)).set (0 : Nat)
 g.snd.snd.snd.fst) ∧
 (↑(g.snd.fst ++
 ((0 : Int) :: ([] : List Int)).set (0 : Nat)
 g.snd.snd.snd.fst).length :
 Int) ≤
 g.snd.snd.snd.fst + (1 : Int) ∧
 (0 : Int) =
 nob
 (List.take (g.snd.snd.snd.fst + (1 : Int)).toNat
 x.fst)
 x.snd.fst.snd.fst) ∧
 ((↑x.fst.length : Int) - (g.snd.snd.snd.fst + (1 : Int))).toNat <
 ((↑x.fst.length : Int) - g.snd.snd.snd.fst).toNat) ∧
 ((True ∧ True) ∧
 (True ∧ True) ∧
 True ∧
 True ∧
 (0 : Int) = (0 : Int) ∧
 x.fst = x.fst ∧
 (↑x.fst.length : Int) = (↑x.fst.length : Int) ∧
 g.snd.snd.snd.fst + (1 : Int) =
 g.snd.snd.snd.fst + (1 : Int) ∧
 True) ∧
 (g.fst ++
 (((0 : Int), (0 : Int)) :: ([] : List (Int × Int))).set
 (0 : Nat)
 ((x.fst.getD g.snd.snd.snd.fst.toNat
 ((0 : Int), (0 : Int))).fst,
 (x.fst.getD g.snd.snd.snd.fst.toNat
 ((0 : Int), (0 : Int))).snd -
 (1 : Int)) =
 g.fst ++
 (((0 : Int), (0 : Int)) :: ([] : List (Int × Int))).set
 (0 : Nat)
 ((x.fst.getD g.snd.snd.snd.fst.toNat
 ((0 : Int), (0 : Int))).fst,
 (x.fst.getD g.snd.snd.snd.fst.toNat
 ((0 : Int), (0 : Int))).snd -
 (1 : Int)) ∧
 g.snd.fst ++
 ((0 : Int) :: ([] : List Int)).set (0 : Nat)
 g.snd.snd.snd.fst =
 g.snd.fst ++
 ((0 : Int) :: ([] : List Int)).set (0 : Nat)
 g.snd.snd.snd.fst ∧
 (x.snd.fst.fst = x.snd.fst.fst ∧
 x.snd.fst.snd.fst = x.snd.fst.snd.fst ∧
 x.snd.fst.snd.snd = x.snd.fst.snd.snd ∧ True) ∧
 ((0 : Int) = (0 : Int) ∧
 (0 : Int) = (0 : Int) ∧ false = false ∧ True) ∧
 True) ∧
 True) ∧
 (((x.fst.getD g.snd.snd.snd.fst.toNat ((0 : Int), (0 : Int))).fst ==
 (2 : Int)) =
 false →
 ((-9223372036854775808 : Int) ≤
 (x.fst.getD g.snd.snd.snd.fst.toNat ((0 : Int), (0 : Int))).snd -
 (1 : Int) ∧
 (x.fst.getD g.snd.snd.snd.fst.toNat ((0 : Int), (0 : Int))).snd -
 (1 : Int) ≤
 (9223372036854775807 : Int)) ∧
 (g.fst.length +
 ((((0 : Int), (0 : Int)) :: ([] : List (Int × Int))).set (0 : Nat)
 ((x.fst.getD g.snd.snd.snd.fst.toNat
 ((0 : Int), (0 : Int))).fst,
 (x.fst.getD g.snd.snd.snd.fst.toNat
 ((0 : Int), (0 : Int))).snd -
 (1 : Int))).length ≤
 (9223372036854775807 : Nat) ∧
 (g.fst.length +
 ((((0 : Int), (0 : Int)) :: ([] : List (Int × Int))).set
 (0 : Nat)
 ((x.fst.getD g.snd.snd.snd.fst.toNat
 ((0 : Int), (0 : Int))).fst,
 (x.fst.getD g.snd.snd.snd.fst.toNat
 ((0 : Int), (0 : Int))).snd -
 (1 : Int))).length +
 (g.fst.length +
 ((((0 : Int), (0 : Int)) :: ([] : List (Int × Int))).set
 (0 : Nat)
 ((x.fst.getD g.snd.snd.snd.fst.toNat
 ((0 : Int), (0 : Int))).fst,
 (x.fst.getD g.snd.snd.snd.fst.toNat
 ((0 : Int), (0 : Int))).snd -
 (1 : Int))).length) /
 (4 : Nat) +
 (192 : Nat)) *
 (16 : Nat) ≤
 (281474976710656 : Nat)) ∧
 ((-9223372036854775808 : Int) ≤ g.snd.snd.snd.fst + (1 : Int) ∧
 g.snd.snd.snd.fst + (1 : Int) ≤ (9223372036854775807 : Int)) ∧
 (((0 : Int) ≤ g.snd.snd.snd.fst + (1 : Int) ∧
 g.snd.snd.snd.fst + (1 : Int) ≤ (↑x.fst.length : Int) ∧
 g.fst ++
 (((0 : Int), (0 : Int)) :: ([] : List (Int × Int))).set
 (0 : Nat)
 ((x.fst.getD g.snd.snd.snd.fst.toNat
 ((0 : Int), (0 : Int))).fst,
 (x.fst.getD g.snd.snd.snd.fst.toNat
 ((0 : Int), (0 : Int))).snd -
 (1 : Int)) =
 List.map dec
 (List.take (g.snd.snd.snd.fst + (1 : Int)).toNat x.fst) ∧
 List.foldl wk1 ((0 : Int), ([] : List Int))
 (List.take (g.snd.snd.snd.fst + (1 : Int)).toNat
 x.fst) =
 (g.snd.snd.snd.fst + (1 : Int), g.snd.fst) ∧
 (↑g.snd.fst.length : Int) ≤ g.snd.snd.snd.fst + (1 : Int) ∧
 (0 : Int) =
 nob
 (List.take (g.snd.snd.snd.fst + (1 : Int)).toNat
 x.fst)
 x.snd.fst.snd.fst) ∧
 ((↑x.fst.length : Int) - (g.snd.snd.snd.fst + (1 : Int))).toNat <
 ((↑x.fst.length : Int) - g.snd.snd.snd.fst).toNat) ∧
 ((True ∧ True) ∧
 (True ∧ True) ∧
 True ∧
 True ∧
 (0 : Int) = (0 : Int) ∧
 x.fst = x.fst ∧
 (↑x.fst.length : Int) = (↑x.fst.length : Int) ∧
 g.snd.snd.snd.fst + (1 : Int) =
 g.snd.snd.snd.fst + (1 : Int) ∧
 True) ∧
 (g.fst ++
 (((0 : Int), (0 : Int)) :: ([] : List (Int × Int))).set
 (0 : Nat)
 ((x.fst.getD g.snd.snd.snd.fst.toNat
 ((0 : Int), (0 : Int))).fst,
 (x.fst.getD g.snd.snd.snd.fst.toNat
 ((0 : Int), (0 : Int))).snd -
 (1 : Int)) =
 g.fst ++
 (((0 : Int), (0 : Int)) :: ([] : List (Int × Int))).set
 (0 : Nat)
 ((x.fst.getD g.snd.snd.snd.fst.toNat
 ((0 : Int), (0 : Int))).fst,
 (x.fst.getD g.snd.snd.snd.fst.toNat
 ((0 : Int), (0 : Int))).snd -
 (1 : Int)) ∧
 g.snd.fst = g.snd.fst ∧
 (x.snd.fst.fst = x.snd.fst.fst ∧
 x.snd.fst.snd.fst = x.snd.fst.snd.fst ∧
 x.snd.fst.snd.snd = x.snd.fst.snd.snd ∧ True) ∧
 ((0 : Int) = (0 : Int) ∧
 (0 : Int) = (0 : Int) ∧ false = false ∧ True) ∧
 True) ∧
 True)) ∧
 (decide
 ((0 : Int) <
 (x.fst.getD g.snd.snd.snd.fst.toNat ((0 : Int), (0 : Int))).snd) =
 false →
 (g.fst.length +
 ((((0 : Int), (0 : Int)) :: ([] : List (Int × Int))).set (0 : Nat)
 ((x.fst.getD g.snd.snd.snd.fst.toNat ((0 : Int), (0 : Int))).fst,
 (x.fst.getD g.snd.snd.snd.fst.toNat
 ((0 : Int), (0 : Int))).snd)).length ≤
 (9223372036854775807 : Nat) ∧
 (g.fst.length +
 ((((0 : Int), (0 : Int)) :: ([] : List (Int × Int))).set (0 : Nat)
 ((x.fst.getD g.snd.snd.snd.fst.toNat
 ((0 : Int), (0 : Int))).fst,
 (x.fst.getD g.snd.snd.snd.fst.toNat
 ((0 : Int), (0 : Int))).snd)).length +
 (g.fst.length +
 ((((0 : Int), (0 : Int)) :: ([] : List (Int × Int))).set (0 : Nat)
 ((x.fst.getD g.snd.snd.snd.fst.toNat
 ((0 : Int), (0 : Int))).fst,
 (x.fst.getD g.snd.snd.snd.fst.toNat
 ((0 : Int), (0 : Int))).snd)).length) /
 (4 : Nat) +
 (192 : Nat)) *
 (16 : Nat) ≤
 (281474976710656 : Nat)) ∧
 ((-9223372036854775808 : Int) ≤ g.snd.snd.snd.fst + (1 : Int) ∧
 g.snd.snd.snd.fst + (1 : Int) ≤ (9223372036854775807 : Int)) ∧
 (((0 : Int) ≤ g.snd.snd.snd.fst + (1 : Int) ∧
 g.snd.snd.snd.fst + (1 : Int) ≤ (↑x.fst.length : Int) ∧
 g.fst ++
 (((0 : Int), (0 : Int)) :: ([] : List (Int × Int))).set
 (0 : Nat)
 ((x.fst.getD g.snd.snd.snd.fst.toNat
 ((0 : Int), (0 : Int))).fst,
 (x.fst.getD g.snd.snd.snd.fst.toNat
 ((0 : Int), (0 : Int))).snd) =
 List.map dec
 (List.take (g.snd.snd.snd.fst + (1 : Int)).toNat x.fst) ∧
 List.foldl wk1 ((0 : Int), ([] : List Int))
 (List.take (g.snd.snd.snd.fst + (1 : Int)).toNat x.fst) =
 (g.snd.snd.snd.fst + (1 : Int), g.snd.fst) ∧
 (↑g.snd.fst.length : Int) ≤ g.snd.snd.snd.fst + (1 : Int) ∧
 g.snd.snd.fst =
 nob (List.take (g.snd.snd.snd.fst + (1 : Int)).toNat x.fst)
 x.snd.fst.snd.fst) ∧
 ((↑x.fst.length : Int) - (g.snd.snd.snd.fst + (1 : Int))).toNat <
 ((↑x.fst.length : Int) - g.snd.snd.snd.fst).toNat) ∧
 ((True ∧ True) ∧
 (True ∧ True) ∧
 True ∧
 True ∧
 g.snd.snd.fst = g.snd.snd.fst ∧
 x.fst = x.fst ∧
 (↑x.fst.length : Int) = (↑x.fst.length : Int) ∧
 g.snd.snd.snd.fst + (1 : Int) =
 g.snd.snd.snd.fst + (1 : Int) ∧
 True) ∧
 (g.fst ++
 (((0 : Int), (0 : Int)) :: ([] : List (Int × Int))).set (0 : Nat)
 ((x.fst.getD g.snd.snd.snd.fst.toNat
 ((0 : Int), (0 : Int))).fst,
 (x.fst.getD g.snd.snd.snd.fst.toNat
 ((0 : Int), (0 : Int))).snd) =
 g.fst ++
 (((0 : Int), (0 : Int)) :: ([] : List (Int × Int))).set (0 : Nat)
 ((x.fst.getD g.snd.snd.snd.fst.toNat
 ((0 : Int), (0 : Int))).fst,
 (x.fst.getD g.snd.snd.snd.fst.toNat
 ((0 : Int), (0 : Int))).snd) ∧
 g.snd.fst = g.snd.fst ∧
 (x.snd.fst.fst = x.snd.fst.fst ∧
 x.snd.fst.snd.fst = x.snd.fst.snd.fst ∧
 x.snd.fst.snd.snd = x.snd.fst.snd.snd ∧ True) ∧
 ((0 : Int) = (0 : Int) ∧
 (0 : Int) = (0 : Int) ∧ false = false ∧ True) ∧
 True) ∧
 True)) ∧
 (decide (g.snd.snd.snd.fst < (↑x.fst.length : Int)) = false →
 ((-9223372036854775808 : Int) ≤ x.snd.fst.fst + (1 : Int) ∧
 x.snd.fst.fst + (1 : Int) ≤ (9223372036854775807 : Int)) ∧
 g.fst = (serve x.fst x.snd.fst).fst ∧
 g.snd.fst = (serve x.fst x.snd.fst).snd.fst ∧
 (x.snd.fst.fst + (1 : Int), g.snd.snd.fst, g.snd.snd.fst == (5 : Int)) =
 (serve x.fst x.snd.fst).snd.snd.fst ∧
 (0 : Int) = (serve x.fst x.snd.fst).snd.snd.snd.fst))))

theorem E_iserve_eq (x : HL (cServe : Ctr).as) : vc (fx_iserve x) 1 14 Try.f14 (cServe) x = E_iserve x := by kernel_rfl

def E_serves (x : List (Int × Int) × (Int × Int × Bool) × Unit) : Prop :=
 Holds True ∧
 Holds True ∧
 Holds True ∧
 Holds True ∧
 ((right x.fst == right x.fst) = true → (right x.fst == right x.fst) = true ∧ (right x.fst == right x.fst) = true) ∧
 ((right x.fst == right x.fst) = true → (right x.fst == right x.fst) = true) ∧
 ((right x.fst == right x.fst &&
 (serve x.fst (x.snd.fst.fst, x.snd.fst.snd.fst, x.snd.fst.snd.snd)).snd.snd.snd.fst ==
 (serve x.fst (x.snd.fst.fst, x.snd.fst.snd.fst, x.snd.fst.snd.snd)).snd.snd.snd.fst) =
 true →
 ((right x.fst == right x.fst &&
 (serve x.fst (x.snd.fst.fst, x.snd.fst.snd.fst, x.snd.fst.snd.snd)).snd.snd.snd.fst ==
 (serve x.fst (x.snd.fst.fst, x.snd.fst.snd.fst, x.snd.fst.snd.snd)).snd.snd.snd.fst) =
 true ∧
 (right x.fst == right x.fst &&
 (serve x.fst (x.snd.fst.fst, x.snd.fst.snd.fst, x.snd.fst.snd.snd)).snd.snd.snd.fst ==
 (serve x.fst (x.snd.fst.fst, x.snd.fst.snd.fst, x.snd.fst.snd.snd)).snd.snd.snd.fst) =
 true) ∧
 Holds True) ∧
 ((right x.fst == right x.fst &&
 (serve x.fst (x.snd.fst.fst, x.snd.fst.snd.fst, x.snd.fst.snd.snd)).snd.snd.snd.fst ==
 (serve x.fst (x.snd.fst.fst, x.snd.fst.snd.fst, x.snd.fst.snd.snd)).snd.snd.snd.fst) =
 true →
 (right x.fst == right x.fst &&
 (serve x.fst (x.snd.fst.fst, x.snd.fst.snd.fst, x.snd.fst.snd.snd)).snd.snd.snd.fst ==
 (serve x.fst (x.snd.fst.fst, x.snd.fst.snd.fst, x.snd.fst.snd.snd)).snd.snd.snd.fst) =
 true) ∧
 ((right x.fst == right x.fst &&
 (serve x.fst (x.snd.fst.fst, x.snd.fst.snd.fst, x.snd.fst.snd.snd)).snd.snd.snd.fst ==
 (serve x.fst (x.snd.fst.fst, x.snd.fst.snd.fst, x.snd.fst.snd.snd)).snd.snd.snd.fst &&
 decide
 ((serve x.fst (x.snd.fst.fst, x.snd.fst.snd.fst, x.snd.fst.snd.snd)).fst =
 (serve x.fst (x.snd.fst.fst, x.snd.fst.snd.fst, x.snd.fst.snd.snd)).fst)) =
 true →
 ((right x.fst == right x.fst &&
 (serve x.fst (x.snd.fst.fst, x.snd.fst.snd.fst, x.snd.fst.snd.snd)).snd.snd.snd.fst ==
 (serve x.fst (x.snd.fst.fst, x.snd.fst.snd.fst, x.snd.fst.snd.snd)).snd.snd.snd.fst &&
 decide
 ((serve x.fst (x.snd.fst.fst, x.snd.fst.snd.fst, x.snd.fst.snd.snd)).fst =
 (serve x.fst (x.snd.fst.fst, x.snd.fst.snd.fst, x.snd.fst.snd.snd)).fst)) =
 true ∧
 (right x.fst == right x.fst &&
 (serve x.fst (x.snd.fst.fst, x.snd.fst.snd.fst, x.snd.fst.snd.snd)).snd.snd.snd.fst ==
 (serve x.fst (x.snd.fst.fst, x.snd.fst.snd.fst, x.snd.fst.snd.snd)).snd.snd.snd.fst &&
 decide
 ((serve x.fst (x.snd.fst.fst, x.snd.fst.snd.fst, x.snd.fst.snd.snd)).fst =
 (serve x.fst (x.snd.fst.fst, x.snd.fst.snd.fst, x.snd.fst.snd.snd)).fst)) =
 true) ∧
 Holds True) ∧
 ((right x.fst == right x.fst &&
 (serve x.fst (x.snd.fst.fst, x.snd.fst.snd.fst, x.snd.fst.snd.snd)).snd.snd.snd.fst ==
 (serve x.fst (x.snd.fst.fst, x.snd.fst.snd.fst, x.snd.fst.snd.snd)).snd.snd.snd.fst &&
 decide
 ((serve x.fst (x.snd.fst.fst, x.snd.fst.snd.fst, x.snd.fst.snd.snd)).fst =
 (serve x.fst (x.snd.fst.fst, x.snd.fst.snd.fst, x.snd.fst.snd.snd)).fst)) =
 true →
 (right x.fst == right x.fst &&
 (serve x.fst (x.snd.fst.fst, x.snd.fst.snd.fst, x.snd.fst.snd.snd)).snd.snd.snd.fst ==
 (serve x.fst (x.snd.fst.fst, x.snd.fst.snd.fst, x.snd.fst.snd.snd)).snd.snd.snd.fst &&
 decide
 ((serve x.fst (x.snd.fst.fst, x.snd.fst.snd.fst, x.snd.fst.snd.snd)).fst =
 (serve x.fst (x.snd.fst.fst, x.snd.fst.snd.fst, x.snd.fst.snd.snd)).fst)) =
 true) ∧
 ((right x.fst == right x.fst &&
 (serve x.fst (x.snd.fst.fst, x.snd.fst.snd.fst, x.snd.fst.snd.snd)).snd.snd.snd.fst ==
 (serve x.fst (x.snd.fst.fst, x.snd.fst.snd.fst, x.snd.fst.snd.snd)).snd.snd.snd.fst &&
 decide
 ((serve x.fst (x.snd.fst.fst, x.snd.fst.snd.fst, x.snd.fst.snd.snd)).fst =
 (serve x.fst (x.snd.fst.fst, x.snd.fst.snd.fst, x.snd.fst.snd.snd)).fst) &&
 decide
 ((serve x.fst (x.snd.fst.fst, x.snd.fst.snd.fst, x.snd.fst.snd.snd)).snd.fst =
 (serve x.fst (x.snd.fst.fst, x.snd.fst.snd.fst, x.snd.fst.snd.snd)).snd.fst)) =
 true →
 deq ((Ty.int IntKind.i64).pair ((Ty.int IntKind.i64).pair Ty.bool))
 ((serve x.fst (x.snd.fst.fst, x.snd.fst.snd.fst, x.snd.fst.snd.snd)).snd.snd.fst.fst,
 (serve x.fst (x.snd.fst.fst, x.snd.fst.snd.fst, x.snd.fst.snd.snd)).snd.snd.fst.snd.fst,
 (serve x.fst (x.snd.fst.fst, x.snd.fst.snd.fst, x.snd.fst.snd.snd)).snd.snd.fst.snd.snd)
 ((serve x.fst (x.snd.fst.fst, x.snd.fst.snd.fst, x.snd.fst.snd.snd)).snd.snd.fst.fst,
 (serve x.fst (x.snd.fst.fst, x.snd.fst.snd.fst, x.snd.fst.snd.snd)).snd.snd.fst.snd.fst,
 (serve x.fst (x.snd.fst.fst, x.snd.fst.snd.fst, x.snd.fst.snd.snd)).snd.snd.fst.snd.snd) =
 true) ∧
 ((right x.fst == right x.fst &&
 (serve x.fst (x.snd.fst.fst, x.snd.fst.snd.fst, x.snd.fst.snd.snd)).snd.snd.snd.fst ==
 (serve x.fst (x.snd.fst.fst, x.snd.fst.snd.fst, x.snd.fst.snd.snd)).snd.snd.snd.fst &&
 decide
 ((serve x.fst (x.snd.fst.fst, x.snd.fst.snd.fst, x.snd.fst.snd.snd)).fst =
 (serve x.fst (x.snd.fst.fst, x.snd.fst.snd.fst, x.snd.fst.snd.snd)).fst) &&
 decide
 ((serve x.fst (x.snd.fst.fst, x.snd.fst.snd.fst, x.snd.fst.snd.snd)).snd.fst =
 (serve x.fst (x.snd.fst.fst, x.snd.fst.snd.fst, x.snd.fst.snd.snd)).snd.fst)) =
 !true →
 false = true)

theorem E_serves_eq (x : HL (cLaw : Ctr).as) : vc (fx_serves x) 1 3 Try.f3 (cLaw) x = E_serves x := by kernel_rfl

def E_cloned (x : List (Int × Int) × Unit) : Prop :=
 ∀ (b : Bool),
 (b = true → x.fst = ([] : List (Int × Int))) →
 (b = true → ([] : List (Int × Int)) = x.fst) ∧
 (b = false →
 (([] : List (Int × Int)).length + x.fst.length ≤ (9223372036854775807 : Nat) ∧
 (([] : List (Int × Int)).length + x.fst.length + (([] : List (Int × Int)).length + x.fst.length) / (4 : Nat) + (192 : Nat)) * (16 : Nat) ≤
 (281474976710656 : Nat)) ∧
 ([] : List (Int × Int)) ++ x.fst = x.fst)

theorem E_cloned_eq (x : HL (cCloneD : Ctr).as) : vc (fx_cloned x) 1 49 Try.f49 (cCloneD) x = E_cloned x := by kernel_rfl

def E_play (x : List (Int × Int) × Int × Unit) : Prop :=
 Holds True ∧
 ((!right x.fst) = true →
 ([] : List (Int × Int)) = (play x.fst x.snd.fst).fst ∧
 ([] : List Int) = (play x.fst x.snd.fst).snd.fst ∧
 ((0 : Int), (0 : Int), false) = (play x.fst x.snd.fst).snd.snd.fst ∧ (1 : Int) = (play x.fst x.snd.fst).snd.snd.snd.fst) ∧
 ((!right x.fst) = false →
 ((!decide (x.snd.fst < (0 : Int))) = true → (!decide (x.snd.fst < (0 : Int))) = true) ∧
 (decide (x.snd.fst < (0 : Int)) = false → (!decide (x.snd.fst < (0 : Int))) = true) ∧
 ((decide (x.snd.fst < (0 : Int)) || decide ((400 : Int) < x.snd.fst)) = true →
 ([] : List (Int × Int)) = (play x.fst x.snd.fst).fst ∧
 ([] : List Int) = (play x.fst x.snd.fst).snd.fst ∧
 ((0 : Int), (0 : Int), false) = (play x.fst x.snd.fst).snd.snd.fst ∧ (2 : Int) = (play x.fst x.snd.fst).snd.snd.snd.fst) ∧
 ((decide (x.snd.fst < (0 : Int)) || decide ((400 : Int) < x.snd.fst)) = false →
 Holds (x.fst.length * (16 : Nat) ≤ (140737488355328 : Nat)) ∧
 ((((0 : Int) ≤ (0 : Int) ∧
 (0 : Int) ≤ x.snd.fst ∧
 x.fst = decN (0 : Int) x.fst ∧
 ([] : List Int) = wkN x.fst (Int.toNat (0 : Int)) ∧
 ((0 : Int), (0 : Int), false) = tal x.fst (0 : Int) ∧
 (0 : Int) ≤ mx x.fst + (5 : Int) ∧ (↑([] : List Int).length : Int) ≤ (16 : Int) * (0 : Int)) ∧
 True) ∧
 (x.fst = x.fst ∧ (True ∧ True) ∧ True ∧ (True ∧ True) ∧ x.snd.fst = x.snd.fst ∧ (0 : Int) = (0 : Int) ∧ True) ∧
 (([] : List Int) = ([] : List Int) ∧
 ((0 : Int) = (0 : Int) ∧ (0 : Int) = (0 : Int) ∧ false = false ∧ True) ∧
 ((0 : Int) = (0 : Int) ∧ (0 : Int) = (0 : Int) ∧ false = false ∧ True) ∧ True) ∧
 True) ∧
 ∀ (g : List (Int × Int) × List Int × (Int × Int × Bool) × Int × Unit),
 (0 : Int) ≤ g.snd.snd.snd.fst ∧
 g.snd.snd.snd.fst ≤ x.snd.fst ∧
 g.fst = decN g.snd.snd.snd.fst x.fst ∧
 g.snd.fst = wkN x.fst g.snd.snd.snd.fst.toNat ∧
 g.snd.snd.fst = tal x.fst g.snd.snd.snd.fst ∧
 g.snd.snd.snd.fst ≤ mx x.fst + (5 : Int) ∧ (↑g.snd.fst.length : Int) ≤ (16 : Int) * g.snd.snd.snd.fst →
 (g.fst.length ≤ (9223372036854775807 : Nat) ∧
 ∀ (x : Int × Int),
 x ∈ g.fst →
 ((-9223372036854775808 : Int) ≤ x.fst ∧ x.fst ≤ (9223372036854775807 : Int)) ∧
 (-9223372036854775808 : Int) ≤ x.snd ∧ x.snd ≤ (9223372036854775807 : Int)) ∧
 (g.snd.fst.length ≤ (9223372036854775807 : Nat) ∧
 ∀ (x : Int), x ∈ g.snd.fst → (-9223372036854775808 : Int) ≤ x ∧ x ≤ (9223372036854775807 : Int)) ∧
 (((-9223372036854775808 : Int) ≤ g.snd.snd.fst.fst ∧ g.snd.snd.fst.fst ≤ (9223372036854775807 : Int)) ∧
 ((-9223372036854775808 : Int) ≤ g.snd.snd.fst.snd.fst ∧ g.snd.snd.fst.snd.fst ≤ (9223372036854775807 : Int)) ∧ True) ∧
 ((-9223372036854775808 : Int) ≤ g.snd.snd.snd.fst ∧ g.snd.snd.snd.fst ≤ (9223372036854775807 : Int)) ∧ True →
 (decide (g.snd.snd.snd.fst < x.snd.fst) = true →
 Holds True ∧
 (((serve g.fst (g.snd.snd.fst.fst, g.snd.snd.fst.snd.fst, g.snd.snd.fst.snd.snd)).snd.snd.snd.fst != (0 : Int)) = true →
 g.fst = (play x.fst x.snd.fst).fst ∧
 g.snd.fst = (play x.fst x.snd.fst).snd.fst ∧
 (g.snd.snd.fst.fst, g.snd.snd.fst.snd.fst, g.snd.snd.fst.snd.snd) = (play x.fst x.snd.fst).snd.snd.fst ∧
 (0 : Int) = (play x.fst x.snd.fst).snd.snd.snd.fst) ∧
 (((serve g.fst (g.snd.snd.fst.fst, g.snd.snd.fst.snd.fst, g.snd.snd.fst.snd.snd)).snd.snd.snd.fst != (0 : Int)) =
 false →
 (g.snd.fst.length + (serve g.fst (g.snd.snd.fst.fst, g.snd.snd.fst.snd.fst, g.snd.snd.fst.snd.snd)).snd.fst.length ≤
 (9223372036854775807 : Nat) ∧
 (g.snd.fst.length +
 (serve g.fst (g.snd.snd.fst.fst, g.snd.snd.fst.snd.fst, g.snd.snd.fst.snd.snd)).snd.fst.length +
 (g.snd.fst.length +
 (serve g.fst (g.snd.snd.fst.fst, g.snd.snd.fst.snd.fst, g.snd.snd.fst.snd.snd)).snd.fst.length) /
 (4 : Nat) +
 (192 : Nat)) *
 (8 : Nat) ≤
 (281474976710656 : Nat)) ∧
 ((-9223372036854775808 : Int) ≤ g.snd.snd.snd.fst + (1 : Int) ∧
 g.snd.snd.snd.fst + (1 : Int) ≤ (9223372036854775807 : Int)) ∧
 (((0 : Int) ≤ g.snd.snd.snd.fst + (1 : Int) ∧
 g.snd.snd.snd.fst + (1 : Int) ≤ x.snd.fst ∧
 (serve g.fst (g.snd.snd.fst.fst, g.snd.snd.fst.snd.fst, g.snd.snd.fst.snd.snd)).fst =
 decN (g.snd.snd.snd.fst + (1 : Int)) x.fst ∧
 g.snd.fst ++ (serve g.fst (g.snd.snd.fst.fst, g.snd.snd.fst.snd.fst, g.snd.snd.fst.snd.snd)).snd.fst =
 wkN x.fst (g.snd.snd.snd.fst + (1 : Int)).toNat ∧
 ((serve g.fst (g.snd.snd.fst.fst, g.snd.snd.fst.snd.fst, g.snd.snd.fst.snd.snd)).snd.snd.fst.fst,
 (serve g.fst
 (g.snd.snd.fst.fst, g.snd.snd.fst.snd.fst,
 g.snd.snd.fst.snd.snd)).snd.snd.fst.snd.fst,
 (serve g.fst
 (g.snd.snd.fst.fst, g.snd.snd.fst.snd.fst,
 g.snd.snd.fst.snd.snd)).snd.snd.fst.snd.snd) =
 tal x.fst (g.snd.snd.snd.fst + (1 : Int)) ∧
 g.snd.snd.snd.fst + (1 : Int) ≤ mx x.fst + (5 : Int) ∧
 (↑(g.snd.fst ++
 (serve g.fst
 (g.snd.snd.fst.fst, g.snd.snd.fst.snd.fst,
 g.snd.snd.fst.snd.snd)).snd.fst).length :
 Int) ≤
 (16 : Int) * (g.snd.snd.snd.fst + (1 : Int))) ∧
 (x.snd.fst - (g.snd.snd.snd.fst + (1 : Int))).toNat < (x.snd.fst - g.snd.snd.snd.fst).toNat) ∧
 ((serve g.fst (g.snd.snd.fst.fst, g.snd.snd.fst.snd.fst, g.snd.snd.fst.snd.snd)).fst =
 (serve g.fst (g.snd.snd.fst.fst, g.snd.snd.fst.snd.fst, g.snd.snd.fst.snd.snd)).fst ∧
 (True ∧ True) ∧
 True ∧
 (True ∧ True) ∧
 x.snd.fst = x.snd.fst ∧ g.snd.snd.snd.fst + (1 : Int) = g.snd.snd.snd.fst + (1 : Int) ∧ True) ∧
 (g.snd.fst ++ (serve g.fst (g.snd.snd.fst.fst, g.snd.snd.fst.snd.fst, g.snd.snd.fst.snd.snd)).snd.fst =
 g.snd.fst ++ (serve g.fst (g.snd.snd.fst.fst, g.snd.snd.fst.snd.fst, g.snd.snd.fst.snd.snd)).snd.fst ∧
 ((serve g.fst (g.snd.snd.fst.fst, g.snd.snd.fst.snd.fst, g.snd.snd.fst.snd.snd)).snd.snd.fst.fst =
 (serve g.fst (g.snd.snd.fst.fst, g.snd.snd.fst.snd.fst, g.snd.snd.fst.snd.snd)).snd.snd.fst.fst ∧
 (serve g.fst
 (g.snd.snd.fst.fst, g.snd.snd.fst.snd.fst,
 g.snd.snd.fst.snd.snd)).snd.snd.fst.snd.fst =
 (serve g.fst
 (g.snd.snd.fst.fst, g.snd.snd.fst.snd.fst,
 g.snd.snd.fst.snd.snd)).snd.snd.fst.snd.fst ∧
 (serve g.fst
 (g.snd.snd.fst.fst, g.snd.snd.fst.snd.fst,
 g.snd.snd.fst.snd.snd)).snd.snd.fst.snd.snd =
 (serve g.fst
 (g.snd.snd.fst.fst, g.snd.snd.fst.snd.fst,
 g.snd.snd.fst.snd.snd)).snd.snd.fst.snd.snd ∧
 True) ∧
 ((0 : Int) = (0 : Int) ∧ (0 : Int) = (0 : Int) ∧ false = false ∧ True) ∧ True) ∧
 True)) ∧
 (decide (g.snd.snd.snd.fst < x.snd.fst) = false →
 g.fst = (play x.fst x.snd.fst).fst ∧
 g.snd.fst = (play x.fst x.snd.fst).snd.fst ∧
 (g.snd.snd.fst.fst, g.snd.snd.fst.snd.fst, g.snd.snd.fst.snd.snd) = (play x.fst x.snd.fst).snd.snd.fst ∧
 (0 : Int) = (play x.fst x.snd.fst).snd.snd.snd.fst)))

theorem E_play_eq (x : HL (cPlay : Ctr).as) : vc (fx_play x) 1 40 Try.f40 (cPlay) x = E_play x := by kernel_rfl

def E_iplay (x : List (Int × Int) × Int × Unit) : Prop :=
 ((((0 : Int) ≤ (0 : Int) ∧ (0 : Int) ≤ (↑x.fst.length : Int) ∧ (0 : Int) = mx (List.take (Int.toNat (0 : Int)) x.fst)) ∧ True) ∧
 (x.fst = x.fst ∧
 x.snd.fst = x.snd.fst ∧
 (True ∧ True) ∧ (0 : Int) = (0 : Int) ∧ x.fst = x.fst ∧ (↑x.fst.length : Int) = (↑x.fst.length : Int) ∧ (0 : Int) = (0 : Int) ∧ True) ∧
 (((0 : Int) = (0 : Int) ∧ (0 : Int) = (0 : Int) ∧ false = false ∧ True) ∧ True) ∧ True) ∧
 ∀ (g : Int × Int × Unit),
 (0 : Int) ≤ g.snd.fst ∧ g.snd.fst ≤ (↑x.fst.length : Int) ∧ g.fst = mx (List.take g.snd.fst.toNat x.fst) →
 ((-9223372036854775808 : Int) ≤ g.fst ∧ g.fst ≤ (9223372036854775807 : Int)) ∧
 ((-9223372036854775808 : Int) ≤ g.snd.fst ∧ g.snd.fst ≤ (9223372036854775807 : Int)) ∧ True →
 (decide (g.snd.fst < (↑x.fst.length : Int)) = true →
 ((0 : Int) ≤ g.snd.fst ∧ g.snd.fst < (↑x.fst.length : Int)) ∧
 ((-9223372036854775808 : Int) ≤ g.snd.fst + (1 : Int) ∧ g.snd.fst + (1 : Int) ≤ (9223372036854775807 : Int)) ∧
 (((0 : Int) ≤ g.snd.fst + (1 : Int) ∧
 g.snd.fst + (1 : Int) ≤ (↑x.fst.length : Int) ∧
 max g.fst (min (x.fst.getD g.snd.fst.toNat ((0 : Int), (0 : Int))).snd (1000 : Int)) =
 mx (List.take (g.snd.fst + (1 : Int)).toNat x.fst)) ∧
 ((↑x.fst.length : Int) - (g.snd.fst + (1 : Int))).toNat < ((↑x.fst.length : Int) - g.snd.fst).toNat) ∧
 (x.fst = x.fst ∧
 x.snd.fst = x.snd.fst ∧
 (True ∧ True) ∧
 max g.fst (min (x.fst.getD g.snd.fst.toNat ((0 : Int), (0 : Int))).snd (1000 : Int)) =
 max g.fst (min (x.fst.getD g.snd.fst.toNat ((0 : Int), (0 : Int))).snd (1000 : Int)) ∧
 x.fst = x.fst ∧ (↑x.fst.length : Int) = (↑x.fst.length : Int) ∧ g.snd.fst + (1 : Int) = g.snd.fst + (1 : Int) ∧ True) ∧
 (((0 : Int) = (0 : Int) ∧ (0 : Int) = (0 : Int) ∧ false = false ∧ True) ∧ True) ∧ True) ∧
 (decide (g.snd.fst < (↑x.fst.length : Int)) = false →
 ((-9223372036854775808 : Int) ≤ g.fst + (5 : Int) ∧ g.fst + (5 : Int) ≤ (9223372036854775807 : Int)) ∧
 ((-9223372036854775808 : Int) ≤ min x.snd.fst (g.fst + (5 : Int)) - g.fst ∧
 min x.snd.fst (g.fst + (5 : Int)) - g.fst ≤ (9223372036854775807 : Int)) ∧
 ((((0 : Int) ≤ (0 : Int) ∧
 (0 : Int) ≤ (↑x.fst.length : Int) ∧
 ([] : List (Int × Int)) = decN (came x.fst x.snd.fst) (List.take (Int.toNat (0 : Int)) x.fst)) ∧
 True) ∧
 (x.fst = x.fst ∧
 (True ∧ True) ∧
 (True ∧ True) ∧ True ∧ x.fst = x.fst ∧ (↑x.fst.length : Int) = (↑x.fst.length : Int) ∧ (0 : Int) = (0 : Int) ∧ True) ∧
 (([] : List (Int × Int)) = ([] : List (Int × Int)) ∧
 ((0 : Int) = (0 : Int) ∧ (0 : Int) = (0 : Int) ∧ false = false ∧ True) ∧
 (min x.snd.fst (g.fst + (5 : Int)) = min x.snd.fst (g.fst + (5 : Int)) ∧
 max (min x.snd.fst (g.fst + (5 : Int)) - g.fst) (0 : Int) =
 max (min x.snd.fst (g.fst + (5 : Int)) - g.fst) (0 : Int) ∧
 (max (min x.snd.fst (g.fst + (5 : Int)) - g.fst) (0 : Int) == (5 : Int)) =
 (max (min x.snd.fst (g.fst + (5 : Int)) - g.fst) (0 : Int) == (5 : Int)) ∧
 True) ∧
 True) ∧
 True) ∧
 ∀ (g_1 : List (Int × Int) × Int × Unit),
 (0 : Int) ≤ g_1.snd.fst ∧
 g_1.snd.fst ≤ (↑x.fst.length : Int) ∧ g_1.fst = decN (came x.fst x.snd.fst) (List.take g_1.snd.fst.toNat x.fst) →
 (g_1.fst.length ≤ (9223372036854775807 : Nat) ∧
 ∀ (x : Int × Int),
 x ∈ g_1.fst →
 ((-9223372036854775808 : Int) ≤ x.fst ∧ x.fst ≤ (9223372036854775807 : Int)) ∧
 (-9223372036854775808 : Int) ≤ x.snd ∧ x.snd ≤ (9223372036854775807 : Int)) ∧
 ((-9223372036854775808 : Int) ≤ g_1.snd.fst ∧ g_1.snd.fst ≤ (9223372036854775807 : Int)) ∧ True →
 (decide (g_1.snd.fst < (↑x.fst.length : Int)) = true →
 ((0 : Int) ≤ g_1.snd.fst ∧ g_1.snd.fst < (↑x.fst.length : Int)) ∧
 ((-9223372036854775808 : Int) ≤
 (x.fst.getD g_1.snd.fst.toNat ((0 : Int), (0 : Int))).snd -
 min (x.fst.getD g_1.snd.fst.toNat ((0 : Int), (0 : Int))).snd (min x.snd.fst (g.fst + (5 : Int))) ∧
 (x.fst.getD g_1.snd.fst.toNat ((0 : Int), (0 : Int))).snd -
 min (x.fst.getD g_1.snd.fst.toNat ((0 : Int), (0 : Int))).snd (min x.snd.fst (g.fst + (5 : Int))) ≤
 (9223372036854775807 : Int)) ∧
 (g_1.fst.length +
 ((((0 : Int), (0 : Int)) :: ([] : List (Int × Int))).set (0 : Nat)
 ((x.fst.getD g_1.snd.fst.toNat ((0 : Int), (0 : Int))).fst,
 (x.fst.getD g_1.snd.fst.toNat ((0 : Int), (0 : Int))).snd -
 min (x.fst.getD g_1.snd.fst.toNat ((0 : Int), (0 : Int))).snd
 (min x.snd.fst (g.fst + (5 : Int))))).length ≤
 (9223372036854775807 : Nat) ∧
 (g_1.fst.length +
 ((((0 : Int), (0 : Int)) :: ([] : List (Int × Int))).set (0 : Nat)
 ((x.fst.getD g_1.snd.fst.toNat ((0 : Int), (0 : Int))).fst,
 (x.fst.getD g_1.snd.fst.toNat ((0 : Int), (0 : Int))).snd -
 min (x.fst.getD g_1.snd.fst.toNat ((0 : Int), (0 : Int))).snd
 (min x.snd.fst (g.fst + (5 : Int))))).length +
 (g_1.fst.length +
 ((((0 : Int), (0 : Int)) :: ([] : List (Int × Int))).set (0 : Nat)
 ((x.fst.getD g_1.snd.fst.toNat ((0 : Int), (0 : Int))).fst,
 (x.fst.getD g_1.snd.fst.toNat ((0 : Int), (0 : Int))).snd -
 min (x.fst.getD g_1.snd.fst.toNat ((0 : Int), (0 : Int))).snd
 (min x.snd.fst (g.fst + (5 : Int))))).length) /
 (4 : Nat) +
 (192 : Nat)) *
 (16 : Nat) ≤
 (281474976710656 : Nat)) ∧
 ((-9223372036854775808 : Int) ≤ g_1.snd.fst + (1 : Int) ∧ g_1.snd.fst + (1 : Int) ≤ (9223372036854775807 : Int)) ∧
 (((0 : Int) ≤ g_1.snd.fst + (1 : Int) ∧
 g_1.snd.fst + (1 : Int) ≤ (↑x.fst.length : Int) ∧
 g_1.fst ++
 (((0 : Int), (0 : Int)) :: ([] : List (Int × Int))).set (0 : Nat)
 ((x.fst.getD g_1.snd.fst.toNat ((0 : Int), (0 : Int))).fst,
 (x.fst.getD g_1.snd.fst.toNat ((0 : Int), (0 : Int))).snd -
 min (x.fst.getD g_1.snd.fst.toNat ((0 : Int), (0 : Int))).snd
 (min x.snd.fst (g.fst + (5 : Int)))) =
 decN (came x.fst x.snd.fst) (List.take (g_1.snd.fst + (1 : Int)).toNat x.fst)) ∧
 ((↑x.fst.length : Int) - (g_1.snd.fst + (1 : Int))).toNat < ((↑x.fst.length : Int) - g_1.snd.fst).toNat) ∧
 (x.fst = x.fst ∧
 (True ∧ True) ∧
 (True ∧ True) ∧
 True ∧
 x.fst = x.fst ∧
 (↑x.fst.length : Int) = (↑x.fst.length : Int) ∧
 g_1.snd.fst + (1 : Int) = g_1.snd.fst + (1 : Int) ∧ True) ∧
 (g_1.fst ++
 (((0 : Int), (0 : Int)) :: ([] : List (Int × Int))).set (0 : Nat)
 ((x.fst.getD g_1.snd.fst.toNat ((0 : Int), (0 : Int))).fst,
 (x.fst.getD g_1.snd.fst.toNat ((0 : Int), (0 : Int))).snd -
 min (x.fst.getD g_1.snd.fst.toNat ((0 : Int), (0 : Int))).snd
 (min x.snd.fst (g.fst + (5 : Int)))) =
 g_1.fst ++
 (((0 : Int), (0 : Int)) :: ([] : List (Int × Int))).set (0 : Nat)
 ((x.fst.getD g_1.snd.fst.toNat ((0 : Int), (0 : Int))).fst,
 (x.fst.getD g_1.snd.fst.toNat ((0 : Int), (0 : Int))).snd -
 min (x.fst.getD g_1.snd.fst.toNat ((0 : Int), (0 : Int))).snd
 (min x.snd.fst (g.fst + (5 : Int)))) ∧
 ((0 : Int) = (0 : Int) ∧ (0 : Int) = (0 : Int) ∧ false = false ∧ True) ∧
 (min x.snd.fst (g.fst + (5 : Int)) = min x.snd.fst (g.fst + (5 : Int)) ∧
 max (min x.snd.fst (g.fst + (5 : Int)) - g.fst) (0 : Int) =
 max (min x.snd.fst (g.fst + (5 : Int)) - g.fst) (0 : Int) ∧
 (max (min x.snd.fst (g.fst + (5 : Int)) - g.fst) (0 : Int) == (5 : Int)) =
 (max (min x.snd.fst (g.fst + (5 : Int)) - g.fst) (0 : Int) == (5 : Int)) ∧
 True) ∧
 True) ∧
 True) ∧
 (decide (g_1.snd.fst < (↑x.fst.length : Int)) = false →
 ((((0 : Int) ≤ (0 : Int) ∧
 (0 : Int) ≤ came x.fst x.snd.fst ∧
 ([] : List Int) = wkN x.fst (Int.toNat (0 : Int)) ∧ (↑([] : List Int).length : Int) ≤ (16 : Int) * (0 : Int)) ∧
 True) ∧
 (x.fst = x.fst ∧
 (True ∧ True) ∧
 (True ∧ True) ∧
 True ∧
 True ∧
 min x.snd.fst (g.fst + (5 : Int)) = min x.snd.fst (g.fst + (5 : Int)) ∧ (0 : Int) = (0 : Int) ∧ True) ∧
 (([] : List Int) = ([] : List Int) ∧
 ((0 : Int) = (0 : Int) ∧ (0 : Int) = (0 : Int) ∧ false = false ∧ True) ∧
 (min x.snd.fst (g.fst + (5 : Int)) = min x.snd.fst (g.fst + (5 : Int)) ∧
 max (min x.snd.fst (g.fst + (5 : Int)) - g.fst) (0 : Int) =
 max (min x.snd.fst (g.fst + (5 : Int)) - g.fst) (0 : Int) ∧
 (max (min x.snd.fst (g.fst + (5 : Int)) - g.fst) (0 : Int) == (5 : Int)) =
 (max (min x.snd.fst (g.fst + (5 : Int)) - g.fst) (0 : Int) == (5 : Int)) ∧
 True) ∧
 g_1.fst = g_1.fst ∧ True) ∧
 True) ∧
 ∀ (g_2 : List Int × Int × Unit),
 (0 : Int) ≤ g_2.snd.fst ∧
 g_2.snd.fst ≤ came x.fst x.snd.fst ∧
 g_2.fst = wkN x.fst g_2.snd.fst.toNat ∧ (↑g_2.fst.length : Int) ≤ (16 : Int) * g_2.snd.fst →
 (g_2.fst.length ≤ (9223372036854775807 : Nat) ∧
 ∀ (x : Int), x ∈ g_2.fst → (-9223372036854775808 : Int) ≤ x ∧ x ≤ (9223372036854775807 : Int)) ∧
 ((-9223372036854775808 : Int) ≤ g_2.snd.fst ∧ g_2.snd.fst ≤ (9223372036854775807 : Int)) ∧ True →
 (decide (g_2.snd.fst < min x.snd.fst (g.fst + (5 : Int))) = true →
 ((((0 : Int) ≤ (0 : Int) ∧
 (0 : Int) ≤ (↑x.fst.length : Int) ∧
 g_2.fst = wkN x.fst g_2.snd.1.toNat ++ (wj g_2.snd.1 (List.take (Int.toNat (0 : Int)) x.fst)).snd ∧
 (↑g_2.fst.length : Int) ≤ (16 : Int) * g_2.snd.1 + (0 : Int)) ∧
 True) ∧
 (x.fst = x.fst ∧
 (True ∧ True) ∧
 (True ∧ True) ∧
 True ∧
 True ∧
 g_2.snd.fst = g_2.snd.fst ∧
 min x.snd.fst (g.fst + (5 : Int)) = min x.snd.fst (g.fst + (5 : Int)) ∧
 g_2.snd.fst = g_2.snd.fst ∧
 x.fst = x.fst ∧
 (↑x.fst.length : Int) = (↑x.fst.length : Int) ∧ (0 : Int) = (0 : Int) ∧ True) ∧
 (g_2.fst = g_2.fst ∧
 ((0 : Int) = (0 : Int) ∧ (0 : Int) = (0 : Int) ∧ false = false ∧ True) ∧
 (min x.snd.fst (g.fst + (5 : Int)) = min x.snd.fst (g.fst + (5 : Int)) ∧
 max (min x.snd.fst (g.fst + (5 : Int)) - g.fst) (0 : Int) =
 max (min x.snd.fst (g.fst + (5 : Int)) - g.fst) (0 : Int) ∧
 (max (min x.snd.fst (g.fst + (5 : Int)) - g.fst) (0 : Int) == (5 : Int)) =
 (max (min x.snd.fst (g.fst + (5 : Int)) - g.fst) (0 : Int) == (5 : Int)) ∧
 True) ∧
 g_1.fst = g_1.fst ∧ True) ∧
 True) ∧
 ∀ (g_3 : List Int × Int × Unit),
 (0 : Int) ≤ g_3.snd.fst ∧
 g_3.snd.fst ≤ (↑x.fst.length : Int) ∧
 g_3.fst = wkN x.fst g_2.snd.1.toNat ++ (wj g_2.snd.1 (List.take g_3.snd.fst.toNat x.fst)).snd ∧
 (↑g_3.fst.length : Int) ≤ (16 : Int) * g_2.snd.1 + g_3.snd.fst →
 (g_3.fst.length ≤ (9223372036854775807 : Nat) ∧
 ∀ (x : Int), x ∈ g_3.fst → (-9223372036854775808 : Int) ≤ x ∧ x ≤ (9223372036854775807 : Int)) ∧
 ((-9223372036854775808 : Int) ≤ g_3.snd.fst ∧ g_3.snd.fst ≤ (9223372036854775807 : Int)) ∧ True →
 (decide (g_3.snd.fst < (↑x.fst.length : Int)) = true →
 ((0 : Int) ≤ g_3.snd.fst ∧ g_3.snd.fst < (↑x.fst.length : Int)) ∧
 (decide (g_2.snd.fst < (x.fst.getD g_3.snd.fst.toNat ((0 : Int), (0 : Int))).snd) = true →
 decide (g_2.snd.fst < (x.fst.getD g_3.snd.fst.toNat ((0 : Int), (0 : Int))).snd) = true) ∧
 (decide (g_2.snd.fst < (x.fst.getD g_3.snd.fst.toNat ((0 : Int), (0 : Int))).snd) = true →
 decide (g_2.snd.fst < (x.fst.getD g_3.snd.fst.toNat ((0 : Int), (0 : Int))).snd) = true) ∧
 (decide (g_2.snd.fst < (x.fst.getD g_3.snd.fst.toNat ((0 : Int), (0 : Int))).snd) = true →
 decide (g_2.snd.fst < (x.fst.getD g_3.snd.fst.toNat ((0 : Int), (0 : Int))).snd) =
 true) ∧
 ((decide (g_2.snd.fst < (x.fst.getD g_3.snd.fst.toNat ((0 : Int), (0 : Int))).snd) &&
 (x.fst.getD g_3.snd.fst.toNat ((0 : Int), (0 : Int))).fst == (2 : Int)) =
 true →
 (g_3.fst.length + (((0 : Int) :: ([] : List Int)).set (0 : Nat) g_3.snd.fst).length ≤
 (9223372036854775807 : Nat) ∧
 (g_3.fst.length +
 (((0 : Int) :: ([] : List Int)).set (0 : Nat) g_3.snd.fst).length +
 (g_3.fst.length +
 (((0 : Int) :: ([] : List Int)).set (0 : Nat) g_3.snd.fst).length) /
 (4 : Nat) +
 (192 : Nat)) *
 (8 : Nat) ≤
 (281474976710656 : Nat)) ∧
 ((-9223372036854775808 : Int) ≤ g_3.snd.fst + (1 : Int) ∧
 g_3.snd.fst + (1 : Int) ≤ (9223372036854775807 : Int)) ∧
 (((0 : Int) ≤ g_3.snd.fst + (1 : Int) ∧
 g_3.snd.fst + (1 : Int) ≤ (↑x.fst.length : Int) ∧
 g_3.fst ++ ((0 : Int) :: ([] : List Int)).set (0 : Nat) g_3.snd.fst =
 wkN x.fst g_2.snd.1.toNat ++
 (wj g_2.snd.1
 (List.take (g_3.snd.fst + (1 : Int)).toNat x.fst)).snd ∧
 (↑(g_3.fst ++
 ((0 : Int) :: ([] : List Int)).set (0 : Nat)
 g_3.snd.fst).length :
 Int) ≤
 (16 : Int) * g_2.snd.1 + (g_3.snd.fst + (1 : Int))) ∧
 ((↑x.fst.length : Int) - (g_3.snd.fst + (1 : Int))).toNat <
 ((↑x.fst.length : Int) - g_3.snd.fst).toNat) ∧
 (x.fst = x.fst ∧
 (True ∧ True) ∧
 (True ∧ True) ∧
 True ∧
 True ∧
 g_2.snd.fst = g_2.snd.fst ∧
 min x.snd.fst (g.fst + (5 : Int)) =
 min x.snd.fst (g.fst + (5 : Int)) ∧
 g_2.snd.fst = g_2.snd.fst ∧
 x.fst = x.fst ∧
 (↑x.fst.length : Int) = (↑x.fst.length : Int) ∧
 g_3.snd.fst + (1 : Int) = g_3.snd.fst + (1 : Int) ∧
 True) ∧
 (g_3.fst ++ ((0 : Int) :: ([] : List Int)).set (0 : Nat) g_3.snd.fst =
 g_3.fst ++ ((0 : Int) :: ([] : List Int)).set (0 : Nat) g_3.snd.fst ∧
 ((0 : Int) = (0 : Int) ∧ (0 : Int) = (0 : Int) ∧ false = false ∧ True) ∧
 (min x.snd.fst (g.fst + (5 : Int)) = min x.snd.fst (g.fst + (5 : Int)) ∧
 max (min x.snd.fst (g.fst + (5 : Int)) - g.fst) (0 : Int) =
 max (min x.snd.fst (g.fst + (5 : Int)) - g.fst) (0 : Int) ∧
 (max (min x.snd.fst (g.fst + (5 : Int)) - g.fst) (0 : Int) ==
 (5 : Int)) =
 (max (min x.snd.fst (g.fst + (5 : Int)) - g.fst) (0 : Int) ==
 (5 : Int)) ∧
 True) ∧
 g_1.fst = g_1.fst ∧ True) ∧
 True) ∧
 ((decide (g_2.snd.fst < (x.fst.getD g_3.snd.fst.toNat ((0 : Int), (0 : Int))).snd) &&
 (x.fst.getD g_3.snd.fst.toNat ((0 : Int), (0 : Int))).fst == (2 : Int)) =
 false →
 ((-9223372036854775808 : Int) ≤ g_3.snd.fst + (1 : Int) ∧
 g_3.snd.fst + (1 : Int) ≤ (9223372036854775807 : Int)) ∧
 (((0 : Int) ≤ g_3.snd.fst + (1 : Int) ∧
 g_3.snd.fst + (1 : Int) ≤ (↑x.fst.length : Int) ∧
 g_3.fst =
 wkN x.fst g_2.snd.1.toNat ++
 (wj g_2.snd.1 (List.take (g_3.snd.fst + (1 : Int)).toNat x.fst)).snd ∧
 (↑g_3.fst.length : Int) ≤
 (16 : Int) * g_2.snd.1 + (g_3.snd.fst + (1 : Int))) ∧
 ((↑x.fst.length : Int) - (g_3.snd.fst + (1 : Int))).toNat <
 ((↑x.fst.length : Int) - g_3.snd.fst).toNat) ∧
 (x.fst = x.fst ∧
 (True ∧ True) ∧
 (True ∧ True) ∧
 True ∧
 True ∧
 g_2.snd.fst = g_2.snd.fst ∧
 min x.snd.fst (g.fst + (5 : Int)) =
 min x.snd.fst (g.fst + (5 : Int)) ∧
 g_2.snd.fst = g_2.snd.fst ∧
 x.fst = x.fst ∧
 (↑x.fst.length : Int) = (↑x.fst.length : Int) ∧
 g_3.snd.fst + (1 : Int) = g_3.snd.fst + (1 : Int) ∧ True) ∧
 (g_3.fst = g_3.fst ∧
 ((0 : Int) = (0 : Int) ∧ (0 : Int) = (0 : Int) ∧ false = false ∧ True) ∧
 (min x.snd.fst (g.fst + (5 : Int)) = min x.snd.fst (g.fst + (5 : Int)) ∧
 max (min x.snd.fst (g.fst + (5 : Int)) - g.fst) (0 : Int) =
 max (min x.snd.fst (g.fst + (5 : Int)) - g.fst) (0 : Int) ∧
 (max (min x.snd.fst (g.fst + (5 : Int)) - g.fst) (0 : Int) ==
 (5 : Int)) =
 (max (min x.snd.fst (g.fst + (5 : Int)) - g.fst) (0 : Int) ==
 (5 : Int)) ∧
 True) ∧
 g_1.fst = g_1.fst ∧ True) ∧
 True)) ∧
 (decide (g_3.snd.fst < (↑x.fst.length : Int)) = false →
 ((-9223372036854775808 : Int) ≤ g_2.snd.fst + (1 : Int) ∧
 g_2.snd.fst + (1 : Int) ≤ (9223372036854775807 : Int)) ∧
 (((0 : Int) ≤ g_2.snd.fst + (1 : Int) ∧
 g_2.snd.fst + (1 : Int) ≤ came x.fst x.snd.fst ∧
 g_3.fst = wkN x.fst (g_2.snd.fst + (1 : Int)).toNat ∧
 (↑g_3.fst.length : Int) ≤ (16 : Int) * (g_2.snd.fst + (1 : Int))) ∧
 (came x.fst x.snd.fst - (g_2.snd.fst + (1 : Int))).toNat <
 (came x.fst x.snd.fst - g_2.snd.fst).toNat) ∧
 (x.fst = x.fst ∧
 (True ∧ True) ∧
 (True ∧ True) ∧
 True ∧
 True ∧
 min x.snd.fst (g.fst + (5 : Int)) = min x.snd.fst (g.fst + (5 : Int)) ∧
 g_2.snd.fst + (1 : Int) = g_2.snd.fst + (1 : Int) ∧ True) ∧
 (g_3.fst = g_3.fst ∧
 ((0 : Int) = (0 : Int) ∧ (0 : Int) = (0 : Int) ∧ false = false ∧ True) ∧
 (min x.snd.fst (g.fst + (5 : Int)) = min x.snd.fst (g.fst + (5 : Int)) ∧
 max (min x.snd.fst (g.fst + (5 : Int)) - g.fst) (0 : Int) =
 max (min x.snd.fst (g.fst + (5 : Int)) - g.fst) (0 : Int) ∧
 (max (min x.snd.fst (g.fst + (5 : Int)) - g.fst) (0 : Int) == (5 : Int)) =
 (max (min x.snd.fst (g.fst + (5 : Int)) - g.fst) (0 : Int) == (5 : Int)) ∧
 True) ∧
 g_1.fst = g_1.fst ∧ True) ∧
 True)) ∧
 (decide (g_2.snd.fst < min x.snd.fst (g.fst + (5 : Int))) = false →
 g_1.fst = (iplay x.fst x.snd.fst).fst ∧
 g_2.fst = (iplay x.fst x.snd.fst).snd.fst ∧
 (min x.snd.fst (g.fst + (5 : Int)), max (min x.snd.fst (g.fst + (5 : Int)) - g.fst) (0 : Int),
 max (min x.snd.fst (g.fst + (5 : Int)) - g.fst) (0 : Int) == (5 : Int)) =
 (iplay x.fst x.snd.fst).snd.snd.fst)))

theorem E_iplay_eq (x : HL (cIPlay : Ctr).as) : vc (fx_iplay x) 1 41 Try.f41 (cIPlay) x = E_iplay x := by kernel_rfl

def E_plays (x : List (Int × Int) × Int × Unit) : Prop :=
 Holds True ∧
 Holds True ∧
 ((!right x.fst) = true →
 (((1 : Int) != (0 : Int)) = true →
 (((play x.fst x.snd.fst).snd.snd.snd.fst == (1 : Int)) = true → ((play x.fst x.snd.fst).snd.snd.snd.fst == (1 : Int)) = true) ∧
 (((play x.fst x.snd.fst).snd.snd.snd.fst == (1 : Int)) = true → ((play x.fst x.snd.fst).snd.snd.snd.fst == (1 : Int)) = true) ∧
 (((play x.fst x.snd.fst).snd.snd.snd.fst == (1 : Int)) = true →
 (((play x.fst x.snd.fst).snd.snd.snd.fst == (1 : Int)) = true ∧ ((play x.fst x.snd.fst).snd.snd.snd.fst == (1 : Int)) = true) ∧
 (-9223372036854775808 : Int) ≤ (↑(play x.fst x.snd.fst).fst.length : Int) + (↑(play x.fst x.snd.fst).snd.fst.length : Int) ∧
 (↑(play x.fst x.snd.fst).fst.length : Int) + (↑(play x.fst x.snd.fst).snd.fst.length : Int) ≤ (9223372036854775807 : Int)) ∧
 (((play x.fst x.snd.fst).snd.snd.snd.fst == (1 : Int)) = true → ((play x.fst x.snd.fst).snd.snd.snd.fst == (1 : Int)) = true) ∧
 (((play x.fst x.snd.fst).snd.snd.snd.fst == (1 : Int)) = true → ((play x.fst x.snd.fst).snd.snd.snd.fst == (1 : Int)) = true) ∧
 (((play x.fst x.snd.fst).snd.snd.snd.fst == (1 : Int) &&
 (↑(play x.fst x.snd.fst).fst.length : Int) + (↑(play x.fst x.snd.fst).snd.fst.length : Int) == (0 : Int)) =
 true →
 deq ((Ty.int IntKind.i64).pair ((Ty.int IntKind.i64).pair Ty.bool))
 ((play x.fst x.snd.fst).snd.snd.fst.fst, (play x.fst x.snd.fst).snd.snd.fst.snd.fst,
 (play x.fst x.snd.fst).snd.snd.fst.snd.snd)
 ((0 : Int), (0 : Int), false) =
 true) ∧
 (((play x.fst x.snd.fst).snd.snd.snd.fst == (1 : Int) &&
 (↑(play x.fst x.snd.fst).fst.length : Int) + (↑(play x.fst x.snd.fst).snd.fst.length : Int) == (0 : Int)) =
 !true →
 false = true)) ∧
 (((1 : Int) != (0 : Int)) = false →
 Holds (right x.fst = true ∧ (0 : Int) ≤ x.snd.fst ∧ x.snd.fst ≤ (400 : Int)) ∧
 (((play x.fst x.snd.fst).snd.snd.snd.fst == (0 : Int)) = true →
 (((play x.fst x.snd.fst).snd.snd.snd.fst == (0 : Int)) = true ∧ ((play x.fst x.snd.fst).snd.snd.snd.fst == (0 : Int)) = true) ∧
 Holds True) ∧
 (((play x.fst x.snd.fst).snd.snd.snd.fst == (0 : Int)) = true → ((play x.fst x.snd.fst).snd.snd.snd.fst == (0 : Int)) = true) ∧
 (((play x.fst x.snd.fst).snd.snd.snd.fst == (0 : Int) && decide ((play x.fst x.snd.fst).fst = (iplay x.fst x.snd.fst).fst)) = true →
 (((play x.fst x.snd.fst).snd.snd.snd.fst == (0 : Int) && decide ((play x.fst x.snd.fst).fst = (iplay x.fst x.snd.fst).fst)) =
 true ∧
 ((play x.fst x.snd.fst).snd.snd.snd.fst == (0 : Int) && decide ((play x.fst x.snd.fst).fst = (iplay x.fst x.snd.fst).fst)) =
 true) ∧
 Holds True) ∧
 (((play x.fst x.snd.fst).snd.snd.snd.fst == (0 : Int) && decide ((play x.fst x.snd.fst).fst = (iplay x.fst x.snd.fst).fst)) =
 true →
 ((play x.fst x.snd.fst).snd.snd.snd.fst == (0 : Int) && decide ((play x.fst x.snd.fst).fst = (iplay x.fst x.snd.fst).fst)) =
 true) ∧
 (((play x.fst x.snd.fst).snd.snd.snd.fst == (0 : Int) && decide ((play x.fst x.snd.fst).fst = (iplay x.fst x.snd.fst).fst) &&
 decide ((play x.fst x.snd.fst).snd.fst = (iplay x.fst x.snd.fst).snd.fst)) =
 true →
 deq ((Ty.int IntKind.i64).pair ((Ty.int IntKind.i64).pair Ty.bool))
 ((play x.fst x.snd.fst).snd.snd.fst.fst, (play x.fst x.snd.fst).snd.snd.fst.snd.fst,
 (play x.fst x.snd.fst).snd.snd.fst.snd.snd)
 ((iplay x.fst x.snd.fst).snd.snd.fst.fst, (iplay x.fst x.snd.fst).snd.snd.fst.snd.fst,
 (iplay x.fst x.snd.fst).snd.snd.fst.snd.snd) =
 true) ∧
 (((play x.fst x.snd.fst).snd.snd.snd.fst == (0 : Int) && decide ((play x.fst x.snd.fst).fst = (iplay x.fst x.snd.fst).fst) &&
 decide ((play x.fst x.snd.fst).snd.fst = (iplay x.fst x.snd.fst).snd.fst)) =
 !true →
 false = true))) ∧
 ((!right x.fst) = false →
 ((!decide (x.snd.fst < (0 : Int))) = true → (!decide (x.snd.fst < (0 : Int))) = true) ∧
 (decide (x.snd.fst < (0 : Int)) = false → (!decide (x.snd.fst < (0 : Int))) = true) ∧
 ((decide (x.snd.fst < (0 : Int)) || decide ((400 : Int) < x.snd.fst)) = true →
 (((2 : Int) != (0 : Int)) = true →
 (((play x.fst x.snd.fst).snd.snd.snd.fst == (2 : Int)) = true → ((play x.fst x.snd.fst).snd.snd.snd.fst == (2 : Int)) = true) ∧
 (((play x.fst x.snd.fst).snd.snd.snd.fst == (2 : Int)) = true → ((play x.fst x.snd.fst).snd.snd.snd.fst == (2 : Int)) = true) ∧
 (((play x.fst x.snd.fst).snd.snd.snd.fst == (2 : Int)) = true →
 (((play x.fst x.snd.fst).snd.snd.snd.fst == (2 : Int)) = true ∧
 ((play x.fst x.snd.fst).snd.snd.snd.fst == (2 : Int)) = true) ∧
 (-9223372036854775808 : Int) ≤
 (↑(play x.fst x.snd.fst).fst.length : Int) + (↑(play x.fst x.snd.fst).snd.fst.length : Int) ∧
 (↑(play x.fst x.snd.fst).fst.length : Int) + (↑(play x.fst x.snd.fst).snd.fst.length : Int) ≤
 (9223372036854775807 : Int)) ∧
 (((play x.fst x.snd.fst).snd.snd.snd.fst == (2 : Int)) = true →
 ((play x.fst x.snd.fst).snd.snd.snd.fst == (2 : Int)) = true) ∧
 (((play x.fst x.snd.fst).snd.snd.snd.fst == (2 : Int)) = true →
 ((play x.fst x.snd.fst).snd.snd.snd.fst == (2 : Int)) = true) ∧
 (((play x.fst x.snd.fst).snd.snd.snd.fst == (2 : Int) &&
 (↑(play x.fst x.snd.fst).fst.length : Int) + (↑(play x.fst x.snd.fst).snd.fst.length : Int) == (0 : Int)) =
 true →
 deq ((Ty.int IntKind.i64).pair ((Ty.int IntKind.i64).pair Ty.bool))
 ((play x.fst x.snd.fst).snd.snd.fst.fst, (play x.fst x.snd.fst).snd.snd.fst.snd.fst,
 (play x.fst x.snd.fst).snd.snd.fst.snd.snd)
 ((0 : Int), (0 : Int), false) =
 true) ∧
 (((play x.fst x.snd.fst).snd.snd.snd.fst == (2 : Int) &&
 (↑(play x.fst x.snd.fst).fst.length : Int) + (↑(play x.fst x.snd.fst).snd.fst.length : Int) == (0 : Int)) =
 !true →
 false = true)) ∧
 (((2 : Int) != (0 : Int)) = false →
 Holds (right x.fst = true ∧ (0 : Int) ≤ x.snd.fst ∧ x.snd.fst ≤ (400 : Int)) ∧
 (((play x.fst x.snd.fst).snd.snd.snd.fst == (0 : Int)) = true →
 (((play x.fst x.snd.fst).snd.snd.snd.fst == (0 : Int)) = true ∧
 ((play x.fst x.snd.fst).snd.snd.snd.fst == (0 : Int)) = true) ∧
 Holds True) ∧
 (((play x.fst x.snd.fst).snd.snd.snd.fst == (0 : Int)) = true →
 ((play x.fst x.snd.fst).snd.snd.snd.fst == (0 : Int)) = true) ∧
 (((play x.fst x.snd.fst).snd.snd.snd.fst == (0 : Int) &&
 decide ((play x.fst x.snd.fst).fst = (iplay x.fst x.snd.fst).fst)) =
 true →
 (((play x.fst x.snd.fst).snd.snd.snd.fst == (0 : Int) &&
 decide ((play x.fst x.snd.fst).fst = (iplay x.fst x.snd.fst).fst)) =
 true ∧
 ((play x.fst x.snd.fst).snd.snd.snd.fst == (0 : Int) &&
 decide ((play x.fst x.snd.fst).fst = (iplay x.fst x.snd.fst).fst)) =
 true) ∧
 Holds True) ∧
 (((play x.fst x.snd.fst).snd.snd.snd.fst == (0 : Int) &&
 decide ((play x.fst x.snd.fst).fst = (iplay x.fst x.snd.fst).fst)) =
 true →
 ((play x.fst x.snd.fst).snd.snd.snd.fst == (0 : Int) &&
 decide ((play x.fst x.snd.fst).fst = (iplay x.fst x.snd.fst).fst)) =
 true) ∧
 (((play x.fst x.snd.fst).snd.snd.snd.fst == (0 : Int) &&
 decide ((play x.fst x.snd.fst).fst = (iplay x.fst x.snd.fst).fst) &&
 decide ((play x.fst x.snd.fst).snd.fst = (iplay x.fst x.snd.fst).snd.fst)) =
 true →
 deq ((Ty.int IntKind.i64).pair ((Ty.int IntKind.i64).pair Ty.bool))
 ((play x.fst x.snd.fst).snd.snd.fst.fst, (play x.fst x.snd.fst).snd.snd.fst.snd.fst,
 (play x.fst x.snd.fst).snd.snd.fst.snd.snd)
 ((iplay x.fst x.snd.fst).snd.snd.fst.fst, (iplay x.fst x.snd.fst).snd.snd.fst.snd.fst,
 (iplay x.fst x.snd.fst).snd.snd.fst.snd.snd) =
 true) ∧
 (((play x.fst x.snd.fst).snd.snd.snd.fst == (0 : Int) &&
 decide ((play x.fst x.snd.fst).fst = (iplay x.fst x.snd.fst).fst) &&
 decide ((play x.fst x.snd.fst).snd.fst = (iplay x.fst x.snd.fst).snd.fst)) =
 !true →
 false = true))) ∧
 ((decide (x.snd.fst < (0 : Int)) || decide ((400 : Int) < x.snd.fst)) = false →
 (((0 : Int) != (0 : Int)) = true →
 (((play x.fst x.snd.fst).snd.snd.snd.fst == (0 : Int)) = true → ((play x.fst x.snd.fst).snd.snd.snd.fst == (0 : Int)) = true) ∧
 (((play x.fst x.snd.fst).snd.snd.snd.fst == (0 : Int)) = true → ((play x.fst x.snd.fst).snd.snd.snd.fst == (0 : Int)) = true) ∧
 (((play x.fst x.snd.fst).snd.snd.snd.fst == (0 : Int)) = true →
 (((play x.fst x.snd.fst).snd.snd.snd.fst == (0 : Int)) = true ∧
 ((play x.fst x.snd.fst).snd.snd.snd.fst == (0 : Int)) = true) ∧
 (-9223372036854775808 : Int) ≤
 (↑(play x.fst x.snd.fst).fst.length : Int) + (↑(play x.fst x.snd.fst).snd.fst.length : Int) ∧
 (↑(play x.fst x.snd.fst).fst.length : Int) + (↑(play x.fst x.snd.fst).snd.fst.length : Int) ≤
 (9223372036854775807 : Int)) ∧
 (((play x.fst x.snd.fst).snd.snd.snd.fst == (0 : Int)) = true →
 ((play x.fst x.snd.fst).snd.snd.snd.fst == (0 : Int)) = true) ∧
 (((play x.fst x.snd.fst).snd.snd.snd.fst == (0 : Int)) = true →
 ((play x.fst x.snd.fst).snd.snd.snd.fst == (0 : Int)) = true) ∧
 (((play x.fst x.snd.fst).snd.snd.snd.fst == (0 : Int) &&
 (↑(play x.fst x.snd.fst).fst.length : Int) + (↑(play x.fst x.snd.fst).snd.fst.length : Int) == (0 : Int)) =
 true →
 deq ((Ty.int IntKind.i64).pair ((Ty.int IntKind.i64).pair Ty.bool))
 ((play x.fst x.snd.fst).snd.snd.fst.fst, (play x.fst x.snd.fst).snd.snd.fst.snd.fst,
 (play x.fst x.snd.fst).snd.snd.fst.snd.snd)
 ((0 : Int), (0 : Int), false) =
 true) ∧
 (((play x.fst x.snd.fst).snd.snd.snd.fst == (0 : Int) &&
 (↑(play x.fst x.snd.fst).fst.length : Int) + (↑(play x.fst x.snd.fst).snd.fst.length : Int) == (0 : Int)) =
 !true →
 false = true)) ∧
 (((0 : Int) != (0 : Int)) = false →
 Holds (right x.fst = true ∧ (0 : Int) ≤ x.snd.fst ∧ x.snd.fst ≤ (400 : Int)) ∧
 (((play x.fst x.snd.fst).snd.snd.snd.fst == (0 : Int)) = true →
 (((play x.fst x.snd.fst).snd.snd.snd.fst == (0 : Int)) = true ∧
 ((play x.fst x.snd.fst).snd.snd.snd.fst == (0 : Int)) = true) ∧
 Holds True) ∧
 (((play x.fst x.snd.fst).snd.snd.snd.fst == (0 : Int)) = true →
 ((play x.fst x.snd.fst).snd.snd.snd.fst == (0 : Int)) = true) ∧
 (((play x.fst x.snd.fst).snd.snd.snd.fst == (0 : Int) &&
 decide ((play x.fst x.snd.fst).fst = (iplay x.fst x.snd.fst).fst)) =
 true →
 (((play x.fst x.snd.fst).snd.snd.snd.fst == (0 : Int) &&
 decide ((play x.fst x.snd.fst).fst = (iplay x.fst x.snd.fst).fst)) =
 true ∧
 ((play x.fst x.snd.fst).snd.snd.snd.fst == (0 : Int) &&
 decide ((play x.fst x.snd.fst).fst = (iplay x.fst x.snd.fst).fst)) =
 true) ∧
 Holds True) ∧
 (((play x.fst x.snd.fst).snd.snd.snd.fst == (0 : Int) &&
 decide ((play x.fst x.snd.fst).fst = (iplay x.fst x.snd.fst).fst)) =
 true →
 ((play x.fst x.snd.fst).snd.snd.snd.fst == (0 : Int) &&
 decide ((play x.fst x.snd.fst).fst = (iplay x.fst x.snd.fst).fst)) =
 true) ∧
 (((play x.fst x.snd.fst).snd.snd.snd.fst == (0 : Int) &&
 decide ((play x.fst x.snd.fst).fst = (iplay x.fst x.snd.fst).fst) &&
 decide ((play x.fst x.snd.fst).snd.fst = (iplay x.fst x.snd.fst).snd.fst)) =
 true →
 deq ((Ty.int IntKind.i64).pair ((Ty.int IntKind.i64).pair Ty.bool))
 ((play x.fst x.snd.fst).snd.snd.fst.fst, (play x.fst x.snd.fst).snd.snd.fst.snd.fst,
 (play x.fst x.snd.fst).snd.snd.fst.snd.snd)
 ((iplay x.fst x.snd.fst).snd.snd.fst.fst, (iplay x.fst x.snd.fst).snd.snd.fst.snd.fst,
 (iplay x.fst x.snd.fst).snd.snd.fst.snd.snd) =
 true) ∧
 (((play x.fst x.snd.fst).snd.snd.snd.fst == (0 : Int) &&
 decide ((play x.fst x.snd.fst).fst = (iplay x.fst x.snd.fst).fst) &&
 decide ((play x.fst x.snd.fst).snd.fst = (iplay x.fst x.snd.fst).snd.fst)) =
 !true →
 false = true))))

theorem E_plays_eq (x : HL (cLawP : Ctr).as) : vc (fx_plays x) 1 10 Try.f10 (cLawP) x = E_plays x := by kernel_rfl

end Go.Proofs.Ytmcepjbbbkgfcaa.Chainp
