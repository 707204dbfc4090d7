/-
  The conditions that the executor comes to, written out (by a tool of ours), and that they are the conditions (by the kernel).
-/
import Derived.Test.YtmcepjbbbkgfcaaSoftC
namespace Go.Proofs.Ytmcepjbbbkgfcaa.Soft
open Go.Sx
set_option maxRecDepth 100000

def E_equal (x : List Int × List Int × Unit) : Prop :=
 (((↑x.fst.length : Int) != (↑x.snd.fst.length : Int)) = true → false = decide (x.fst = x.snd.fst)) ∧
 (((↑x.fst.length : Int) != (↑x.snd.fst.length : Int)) = false →
 ((((0 : Int) ≤ (0 : Int) ∧
 (0 : Int) ≤ (↑x.fst.length : Int) ∧ List.take (Int.toNat (0 : Int)) x.fst = List.take (Int.toNat (0 : Int)) x.snd.fst) ∧
 True) ∧
 (x.fst = x.fst ∧ x.snd.fst = x.snd.fst ∧ (↑x.fst.length : Int) = (↑x.fst.length : Int) ∧ (0 : Int) = (0 : Int) ∧ True) ∧ True ∧ True) ∧
 ∀ (g : Int × Unit),
 (0 : Int) ≤ g.fst ∧ g.fst ≤ (↑x.fst.length : Int) ∧ List.take g.fst.toNat x.fst = List.take g.fst.toNat x.snd.fst →
 ((-9223372036854775808 : Int) ≤ g.fst ∧ g.fst ≤ (9223372036854775807 : Int)) ∧ True →
 (decide (g.fst < (↑x.fst.length : Int)) = true →
 ((0 : Int) ≤ g.fst ∧ g.fst < (↑x.fst.length : Int)) ∧
 ((0 : Int) ≤ g.fst ∧ g.fst < (↑x.snd.fst.length : Int)) ∧
 ((x.fst.getD g.fst.toNat (0 : Int) != x.snd.fst.getD g.fst.toNat (0 : Int)) = true → false = decide (x.fst = x.snd.fst)) ∧
 ((x.fst.getD g.fst.toNat (0 : Int) != x.snd.fst.getD g.fst.toNat (0 : Int)) = false →
 ((-9223372036854775808 : Int) ≤ g.fst + (1 : Int) ∧ g.fst + (1 : Int) ≤ (9223372036854775807 : Int)) ∧
 (((0 : Int) ≤ g.fst + (1 : Int) ∧
 g.fst + (1 : Int) ≤ (↑x.fst.length : Int) ∧
 List.take (g.fst + (1 : Int)).toNat x.fst = List.take (g.fst + (1 : Int)).toNat x.snd.fst) ∧
 ((↑x.fst.length : Int) - (g.fst + (1 : Int))).toNat < ((↑x.fst.length : Int) - g.fst).toNat) ∧
 (x.fst = x.fst ∧
 x.snd.fst = x.snd.fst ∧
 (↑x.fst.length : Int) = (↑x.fst.length : Int) ∧ g.fst + (1 : Int) = g.fst + (1 : Int) ∧ True) ∧
 True ∧ True)) ∧
 (decide (g.fst < (↑x.fst.length : Int)) = false → true = decide (x.fst = x.snd.fst)))

theorem E_equal_eq (x : HL (cEqual : Ctr).as) : vc (fx_equal x) 1 18 Try.f18 (cEqual) x = E_equal x := by kernel_rfl

def E_index (x : List Bool × Bool × Unit) : Prop :=
 ((((0 : Int) ≤ (0 : Int) ∧ (0 : Int) ≤ (↑x.fst.length : Int) ∧ (List.take (Int.toNat (0 : Int)) x.fst).contains true = false) ∧ True) ∧
 (x.fst = x.fst ∧ x.snd.fst = x.snd.fst ∧ (↑x.fst.length : Int) = (↑x.fst.length : Int) ∧ (0 : Int) = (0 : Int) ∧ True) ∧ True ∧ True) ∧
 ∀ (g : Int × Unit),
 (0 : Int) ≤ g.fst ∧ g.fst ≤ (↑x.fst.length : Int) ∧ (List.take g.fst.toNat x.fst).contains true = false →
 ((-9223372036854775808 : Int) ≤ g.fst ∧ g.fst ≤ (9223372036854775807 : Int)) ∧ True →
 (decide (g.fst < (↑x.fst.length : Int)) = true →
 ((0 : Int) ≤ g.fst ∧ g.fst < (↑x.fst.length : Int)) ∧
 ((x.snd.fst == x.fst.getD g.fst.toNat false) = true →
 g.fst =
 match List.idxOf? true x.fst with
 | some i => (↑i : Int)
 | none => (-1 : Int)) ∧
 ((x.snd.fst == x.fst.getD g.fst.toNat false) = false →
 ((-9223372036854775808 : Int) ≤ g.fst + (1 : Int) ∧ g.fst + (1 : Int) ≤ (9223372036854775807 : Int)) ∧
 (((0 : Int) ≤ g.fst + (1 : Int) ∧
 g.fst + (1 : Int) ≤ (↑x.fst.length : Int) ∧ (List.take (g.fst + (1 : Int)).toNat x.fst).contains true = false) ∧
 ((↑x.fst.length : Int) - (g.fst + (1 : Int))).toNat < ((↑x.fst.length : Int) - g.fst).toNat) ∧
 (x.fst = x.fst ∧
 x.snd.fst = x.snd.fst ∧ (↑x.fst.length : Int) = (↑x.fst.length : Int) ∧ g.fst + (1 : Int) = g.fst + (1 : Int) ∧ True) ∧
 True ∧ True)) ∧
 (decide (g.fst < (↑x.fst.length : Int)) = false →
 (-1 : Int) =
 match List.idxOf? true x.fst with
 | some i => (↑i : Int)
 | none => (-1 : Int))

theorem E_index_eq (x : HL (cIndex : Ctr).as) : vc (fx_index x) 1 91 Try.f91 (cIndex) x = E_index x := by kernel_rfl

def E_contains (x : List Bool × Bool × Unit) : Prop :=
 Holds (x.snd.fst = true) ∧
 decide
 ((0 : Int) ≤
 match List.idxOf? true x.fst with
 | some i => (↑i : Int)
 | none => (-1 : Int)) =
 x.fst.contains true

theorem E_contains_eq (x : HL (cContains : Ctr).as) : vc (fx_contains x) 1 75 Try.f75 (cContains) x = E_contains x := by kernel_rfl

def E_soft (x : Int × Unit) : Prop :=
 (decide ((0 : Int) ≤ x.fst) = true → decide ((0 : Int) ≤ x.fst) = true) ∧
 (decide ((0 : Int) ≤ x.fst) = true → decide ((0 : Int) ≤ x.fst) = true) ∧ (decide ((0 : Int) ≤ x.fst) && decide (x.fst < (8 : Int))) = softB x.fst

theorem E_soft_eq (x : HL (cSoft : Ctr).as) : vc (fx_soft x) 1 57 Try.f57 (cSoft) x = E_soft x := by kernel_rfl

def E_right (x : List Int × List (Int × Int) × Unit) : Prop :=
 ((((0 : Int) ≤ (0 : Int) ∧ (0 : Int) ≤ (↑x.fst.length : Int) ∧ okP (List.take (Int.toNat (0 : Int)) x.fst)) ∧ True) ∧
 (x.snd.fst = x.snd.fst ∧
 Value.func (Fn.func (57 : Nat)) ([] : List Value).toArray ([] : List Value).toArray =
 Value.func (Fn.func (57 : Nat)) ([] : List Value).toArray ([] : List Value).toArray ∧
 x.fst = x.fst ∧ (↑x.fst.length : Int) = (↑x.fst.length : Int) ∧ (0 : Int) = (0 : Int) ∧ True) ∧
 True ∧ True) ∧
 ∀ (g : Int × Unit),
 (0 : Int) ≤ g.fst ∧ g.fst ≤ (↑x.fst.length : Int) ∧ okP (List.take g.fst.toNat x.fst) →
 ((-9223372036854775808 : Int) ≤ g.fst ∧ g.fst ≤ (9223372036854775807 : Int)) ∧ True →
 (decide (g.fst < (↑x.fst.length : Int)) = true →
 ((0 : Int) ≤ g.fst ∧ g.fst < (↑x.fst.length : Int)) ∧
 Holds True ∧
 ((!softB (x.fst.getD g.fst.toNat (0 : Int))) = true → false = right x.fst x.snd.fst) ∧
 ((!softB (x.fst.getD g.fst.toNat (0 : Int))) = false →
 ((-9223372036854775808 : Int) ≤ g.fst + (1 : Int) ∧ g.fst + (1 : Int) ≤ (9223372036854775807 : Int)) ∧
 (((0 : Int) ≤ g.fst + (1 : Int) ∧ g.fst + (1 : Int) ≤ (↑x.fst.length : Int) ∧ okP (List.take (g.fst + (1 : Int)).toNat x.fst)) ∧
 ((↑x.fst.length : Int) - (g.fst + (1 : Int))).toNat < ((↑x.fst.length : Int) - g.fst).toNat) ∧
 (x.snd.fst = x.snd.fst ∧
 Value.func (Fn.func (57 : Nat)) ([] : List Value).toArray ([] : List Value).toArray =
 Value.func (Fn.func (57 : Nat)) ([] : List Value).toArray ([] : List Value).toArray ∧
 x.fst = x.fst ∧ (↑x.fst.length : Int) = (↑x.fst.length : Int) ∧ g.fst + (1 : Int) = g.fst + (1 : Int) ∧ True) ∧
 True ∧ True)) ∧
 (decide (g.fst < (↑x.fst.length : Int)) = false →
 ((((0 : Int) ≤ (0 : Int) ∧ (0 : Int) ≤ (↑x.snd.fst.length : Int) ∧ okP x.fst ∧ okR x.snd.fst (0 : Int)) ∧ True) ∧
 (x.snd.fst = x.snd.fst ∧
 Value.func (Fn.func (57 : Nat)) ([] : List Value).toArray ([] : List Value).toArray =
 Value.func (Fn.func (57 : Nat)) ([] : List Value).toArray ([] : List Value).toArray ∧
 x.snd.fst = x.snd.fst ∧ (↑x.snd.fst.length : Int) = (↑x.snd.fst.length : Int) ∧ (0 : Int) = (0 : Int) ∧ True) ∧
 True ∧ True) ∧
 ∀ (g : Int × Unit),
 (0 : Int) ≤ g.fst ∧ g.fst ≤ (↑x.snd.fst.length : Int) ∧ okP x.fst ∧ okR x.snd.fst g.fst →
 ((-9223372036854775808 : Int) ≤ g.fst ∧ g.fst ≤ (9223372036854775807 : Int)) ∧ True →
 (decide (g.fst < (↑x.snd.fst.length : Int)) = true →
 ((0 : Int) ≤ g.fst ∧ g.fst < (↑x.snd.fst.length : Int)) ∧
 Holds True ∧
 ((!softB (x.snd.fst.getD g.fst.toNat ((0 : Int), (0 : Int))).snd) = false →
 (decide ((x.snd.fst.getD g.fst.toNat ((0 : Int), (0 : Int))).fst < (0 : Int)) = false →
 (decide ((400 : Int) < (x.snd.fst.getD g.fst.toNat ((0 : Int), (0 : Int))).fst) = false →
 (decide ((0 : Int) < g.fst) = true →
 ((-9223372036854775808 : Int) ≤ g.fst - (1 : Int) ∧ g.fst - (1 : Int) ≤ (9223372036854775807 : Int)) ∧
 ((0 : Int) ≤ g.fst - (1 : Int) ∧ g.fst - (1 : Int) < (↑x.snd.fst.length : Int)) ∧
 (decide
 ((x.snd.fst.getD g.fst.toNat ((0 : Int), (0 : Int))).fst <
 (x.snd.fst.getD (g.fst - (1 : Int)).toNat ((0 : Int), (0 : Int))).fst) =
 true →
 false = right x.fst x.snd.fst) ∧
 (decide
 ((x.snd.fst.getD g.fst.toNat ((0 : Int), (0 : Int))).fst <
 (x.snd.fst.getD (g.fst - (1 : Int)).toNat ((0 : Int), (0 : Int))).fst) =
 false →
 ((-9223372036854775808 : Int) ≤ g.fst + (1 : Int) ∧
 g.fst + (1 : Int) ≤ (9223372036854775807 : Int)) ∧
 (((0 : Int) ≤ g.fst + (1 : Int) ∧
 g.fst + (1 : Int) ≤ (↑x.snd.fst.length : Int) ∧
 okP x.fst ∧ okR x.snd.fst (g.fst + (1 : Int))) ∧
 ((↑x.snd.fst.length : Int) - (g.fst + (1 : Int))).toNat <
 ((↑x.snd.fst.length : Int) - g.fst).toNat) ∧
 (x.snd.fst = x.snd.fst ∧
 Value.func (Fn.func (57 : Nat)) ([] : List Value).toArray ([] : List Value).toArray =
 Value.func (Fn.func (57 : Nat)) ([] : List Value).toArray ([] : List Value).toArray ∧
 x.snd.fst = x.snd.fst ∧
 (↑x.snd.fst.length : Int) = (↑x.snd.fst.length : Int) ∧
 g.fst + (1 : Int) = g.fst + (1 : Int) ∧ True) ∧
 True ∧ True)) ∧
 (decide ((0 : Int) < g.fst) = !true →
 ((-9223372036854775808 : Int) ≤ g.fst + (1 : Int) ∧ g.fst + (1 : Int) ≤ (9223372036854775807 : Int)) ∧
 (((0 : Int) ≤ g.fst + (1 : Int) ∧
 g.fst + (1 : Int) ≤ (↑x.snd.fst.length : Int) ∧ okP x.fst ∧ okR x.snd.fst (g.fst + (1 : Int))) ∧
 ((↑x.snd.fst.length : Int) - (g.fst + (1 : Int))).toNat <
 ((↑x.snd.fst.length : Int) - g.fst).toNat) ∧
 (x.snd.fst = x.snd.fst ∧
 Value.func (Fn.func (57 : Nat)) ([] : List Value).toArray ([] : List Value).toArray =
 Value.func (Fn.func (57 : Nat)) ([] : List Value).toArray ([] : List Value).toArray ∧
 x.snd.fst = x.snd.fst ∧
 (↑x.snd.fst.length : Int) = (↑x.snd.fst.length : Int) ∧
 g.fst + (1 : Int) = g.fst + (1 : Int) ∧ True) ∧
 True ∧ True)) ∧
 (decide ((400 : Int) < (x.snd.fst.getD g.fst.toNat ((0 : Int), (0 : Int))).fst) = !false →
 false = right x.fst x.snd.fst)) ∧
 (decide ((x.snd.fst.getD g.fst.toNat ((0 : Int), (0 : Int))).fst < (0 : Int)) = !false →
 false = right x.fst x.snd.fst)) ∧
 ((!softB (x.snd.fst.getD g.fst.toNat ((0 : Int), (0 : Int))).snd) = !false → false = right x.fst x.snd.fst)) ∧
 (decide (g.fst < (↑x.snd.fst.length : Int)) = false → decide ((↑x.snd.fst.length : Int) ≤ (400 : Int)) = right x.fst x.snd.fst))

theorem E_right_eq (x : HL (cRight : Ctr).as) : vc (fx_right x) 1 24 Try.f24 (cRight) x = E_right x := by kernel_rfl

def E_jright (x : List Int × List (Int × Int) × Unit) : Prop :=
 ((((0 : Int) ≤ (0 : Int) ∧ (0 : Int) ≤ (↑x.fst.length : Int) ∧ decide ((↑x.snd.fst.length : Int) ≤ (400 : Int)) = pendTo x.fst x.snd.fst (0 : Int)) ∧
 True) ∧
 (x.snd.fst = x.snd.fst ∧
 decide ((↑x.snd.fst.length : Int) ≤ (400 : Int)) = decide ((↑x.snd.fst.length : Int) ≤ (400 : Int)) ∧
 x.fst = x.fst ∧ (↑x.fst.length : Int) = (↑x.fst.length : Int) ∧ (0 : Int) = (0 : Int) ∧ True) ∧
 True ∧ True) ∧
 ∀ (g : Bool × Int × Unit),
 (0 : Int) ≤ g.snd.fst ∧ g.snd.fst ≤ (↑x.fst.length : Int) ∧ g.fst = pendTo x.fst x.snd.fst g.snd.fst →
 True ∧ ((-9223372036854775808 : Int) ≤ g.snd.fst ∧ g.snd.fst ≤ (9223372036854775807 : Int)) ∧ True →
 (decide (g.snd.fst < (↑x.fst.length : Int)) = true →
 ((0 : Int) ≤ g.snd.fst ∧ g.snd.fst < (↑x.fst.length : Int)) ∧
 (g.fst = true → g.fst = true) ∧
 (g.fst = true → g.fst = true) ∧
 ((g.fst && decide ((0 : Int) ≤ x.fst.getD g.snd.fst.toNat (0 : Int))) = true →
 (g.fst && decide ((0 : Int) ≤ x.fst.getD g.snd.fst.toNat (0 : Int))) = true) ∧
 ((g.fst && decide ((0 : Int) ≤ x.fst.getD g.snd.fst.toNat (0 : Int))) = true →
 (g.fst && decide ((0 : Int) ≤ x.fst.getD g.snd.fst.toNat (0 : Int))) = true) ∧
 ((-9223372036854775808 : Int) ≤ g.snd.fst + (1 : Int) ∧ g.snd.fst + (1 : Int) ≤ (9223372036854775807 : Int)) ∧
 (((0 : Int) ≤ g.snd.fst + (1 : Int) ∧
 g.snd.fst + (1 : Int) ≤ (↑x.fst.length : Int) ∧
 (g.fst && decide ((0 : Int) ≤ x.fst.getD g.snd.fst.toNat (0 : Int)) &&
 decide (x.fst.getD g.snd.fst.toNat (0 : Int) < (8 : Int))) =
 pendTo x.fst x.snd.fst (g.snd.fst + (1 : Int))) ∧
 ((↑x.fst.length : Int) - (g.snd.fst + (1 : Int))).toNat < ((↑x.fst.length : Int) - g.snd.fst).toNat) ∧
 (x.snd.fst = x.snd.fst ∧
 (g.fst && decide ((0 : Int) ≤ x.fst.getD g.snd.fst.toNat (0 : Int)) &&
 decide (x.fst.getD g.snd.fst.toNat (0 : Int) < (8 : Int))) =
 (g.fst && decide ((0 : Int) ≤ x.fst.getD g.snd.fst.toNat (0 : Int)) &&
 decide (x.fst.getD g.snd.fst.toNat (0 : Int) < (8 : Int))) ∧
 x.fst = x.fst ∧
 (↑x.fst.length : Int) = (↑x.fst.length : Int) ∧ g.snd.fst + (1 : Int) = g.snd.fst + (1 : Int) ∧ True) ∧
 True ∧ True) ∧
 (decide (g.snd.fst < (↑x.fst.length : Int)) = false →
 ((((0 : Int) ≤ (0 : Int) ∧
 (0 : Int) ≤ (↑x.snd.fst.length : Int) ∧
 g.fst = rightTo x.fst x.snd.fst (0 : Int) ∧
 (0 : Int) = if (0 : Int) = (0 : Int) then (0 : Int) else (rz x.snd.fst ((0 : Int) - (1 : Int))).fst) ∧
 True) ∧
 (g.fst = g.fst ∧
 (0 : Int) = (0 : Int) ∧
 x.snd.fst = x.snd.fst ∧ (↑x.snd.fst.length : Int) = (↑x.snd.fst.length : Int) ∧ (0 : Int) = (0 : Int) ∧ True) ∧
 True ∧ True) ∧
 ∀ (g : Bool × Int × Int × Unit),
 ((0 : Int) ≤ g.snd.snd.fst ∧
 g.snd.snd.fst ≤ (↑x.snd.fst.length : Int) ∧
 g.fst = rightTo x.fst x.snd.fst g.snd.snd.fst ∧
 g.snd.fst = if g.snd.snd.fst = (0 : Int) then (0 : Int) else (rz x.snd.fst (g.snd.snd.fst - (1 : Int))).fst) →
 True ∧
 ((-9223372036854775808 : Int) ≤ g.snd.fst ∧ g.snd.fst ≤ (9223372036854775807 : Int)) ∧
 ((-9223372036854775808 : Int) ≤ g.snd.snd.fst ∧ g.snd.snd.fst ≤ (9223372036854775807 : Int)) ∧ True →
 (decide (g.snd.snd.fst < (↑x.snd.fst.length : Int)) = true →
 ((0 : Int) ≤ g.snd.snd.fst ∧ g.snd.snd.fst < (↑x.snd.fst.length : Int)) ∧
 (g.fst = true → g.fst = true) ∧
 (g.fst = true → g.fst = true) ∧
 (g.fst = true → g.fst = true) ∧
 ((g.fst && decide ((0 : Int) ≤ (x.snd.fst.getD g.snd.snd.fst.toNat ((0 : Int), (0 : Int))).snd)) = true →
 (g.fst && decide ((0 : Int) ≤ (x.snd.fst.getD g.snd.snd.fst.toNat ((0 : Int), (0 : Int))).snd)) = true) ∧
 ((g.fst && decide ((0 : Int) ≤ (x.snd.fst.getD g.snd.snd.fst.toNat ((0 : Int), (0 : Int))).snd)) = true →
 (g.fst && decide ((0 : Int) ≤ (x.snd.fst.getD g.snd.snd.fst.toNat ((0 : Int), (0 : Int))).snd)) = true) ∧
 ((g.fst && decide ((0 : Int) ≤ (x.snd.fst.getD g.snd.snd.fst.toNat ((0 : Int), (0 : Int))).snd)) = true →
 (g.fst && decide ((0 : Int) ≤ (x.snd.fst.getD g.snd.snd.fst.toNat ((0 : Int), (0 : Int))).snd)) = true) ∧
 ((g.fst && decide ((0 : Int) ≤ (x.snd.fst.getD g.snd.snd.fst.toNat ((0 : Int), (0 : Int))).snd) &&
 decide ((x.snd.fst.getD g.snd.snd.fst.toNat ((0 : Int), (0 : Int))).snd < (8 : Int))) =
 true →
 (g.fst && decide ((0 : Int) ≤ (x.snd.fst.getD g.snd.snd.fst.toNat ((0 : Int), (0 : Int))).snd) &&
 decide ((x.snd.fst.getD g.snd.snd.fst.toNat ((0 : Int), (0 : Int))).snd < (8 : Int))) =
 true) ∧
 ((g.fst && decide ((0 : Int) ≤ (x.snd.fst.getD g.snd.snd.fst.toNat ((0 : Int), (0 : Int))).snd) &&
 decide ((x.snd.fst.getD g.snd.snd.fst.toNat ((0 : Int), (0 : Int))).snd < (8 : Int))) =
 true →
 (g.fst && decide ((0 : Int) ≤ (x.snd.fst.getD g.snd.snd.fst.toNat ((0 : Int), (0 : Int))).snd) &&
 decide ((x.snd.fst.getD g.snd.snd.fst.toNat ((0 : Int), (0 : Int))).snd < (8 : Int))) =
 true ∧
 (g.fst && decide ((0 : Int) ≤ (x.snd.fst.getD g.snd.snd.fst.toNat ((0 : Int), (0 : Int))).snd) &&
 decide ((x.snd.fst.getD g.snd.snd.fst.toNat ((0 : Int), (0 : Int))).snd < (8 : Int))) =
 true) ∧
 ((g.fst && decide ((0 : Int) ≤ (x.snd.fst.getD g.snd.snd.fst.toNat ((0 : Int), (0 : Int))).snd) &&
 decide ((x.snd.fst.getD g.snd.snd.fst.toNat ((0 : Int), (0 : Int))).snd < (8 : Int))) =
 true →
 (g.fst && decide ((0 : Int) ≤ (x.snd.fst.getD g.snd.snd.fst.toNat ((0 : Int), (0 : Int))).snd) &&
 decide ((x.snd.fst.getD g.snd.snd.fst.toNat ((0 : Int), (0 : Int))).snd < (8 : Int))) =
 true) ∧
 ((g.fst && decide ((0 : Int) ≤ (x.snd.fst.getD g.snd.snd.fst.toNat ((0 : Int), (0 : Int))).snd) &&
 decide ((x.snd.fst.getD g.snd.snd.fst.toNat ((0 : Int), (0 : Int))).snd < (8 : Int)) &&
 decide (g.snd.fst ≤ (x.snd.fst.getD g.snd.snd.fst.toNat ((0 : Int), (0 : Int))).fst)) =
 true →
 (g.fst && decide ((0 : Int) ≤ (x.snd.fst.getD g.snd.snd.fst.toNat ((0 : Int), (0 : Int))).snd) &&
 decide ((x.snd.fst.getD g.snd.snd.fst.toNat ((0 : Int), (0 : Int))).snd < (8 : Int)) &&
 decide (g.snd.fst ≤ (x.snd.fst.getD g.snd.snd.fst.toNat ((0 : Int), (0 : Int))).fst)) =
 true) ∧
 ((g.fst && decide ((0 : Int) ≤ (x.snd.fst.getD g.snd.snd.fst.toNat ((0 : Int), (0 : Int))).snd) &&
 decide ((x.snd.fst.getD g.snd.snd.fst.toNat ((0 : Int), (0 : Int))).snd < (8 : Int)) &&
 decide (g.snd.fst ≤ (x.snd.fst.getD g.snd.snd.fst.toNat ((0 : Int), (0 : Int))).fst)) =
 true →
 (g.fst && decide ((0 : Int) ≤ (x.snd.fst.getD g.snd.snd.fst.toNat ((0 : Int), (0 : Int))).snd) &&
 decide ((x.snd.fst.getD g.snd.snd.fst.toNat ((0 : Int), (0 : Int))).snd < (8 : Int)) &&
 decide (g.snd.fst ≤ (x.snd.fst.getD g.snd.snd.fst.toNat ((0 : Int), (0 : Int))).fst)) =
 true) ∧
 ((g.fst && decide ((0 : Int) ≤ (x.snd.fst.getD g.snd.snd.fst.toNat ((0 : Int), (0 : Int))).snd) &&
 decide ((x.snd.fst.getD g.snd.snd.fst.toNat ((0 : Int), (0 : Int))).snd < (8 : Int)) &&
 decide (g.snd.fst ≤ (x.snd.fst.getD g.snd.snd.fst.toNat ((0 : Int), (0 : Int))).fst)) =
 true →
 (g.fst && decide ((0 : Int) ≤ (x.snd.fst.getD g.snd.snd.fst.toNat ((0 : Int), (0 : Int))).snd) &&
 decide ((x.snd.fst.getD g.snd.snd.fst.toNat ((0 : Int), (0 : Int))).snd < (8 : Int)) &&
 decide (g.snd.fst ≤ (x.snd.fst.getD g.snd.snd.fst.toNat ((0 : Int), (0 : Int))).fst)) =
 true) ∧
 ((-9223372036854775808 : Int) ≤ g.snd.snd.fst + (1 : Int) ∧
 g.snd.snd.fst + (1 : Int) ≤ (9223372036854775807 : Int)) ∧
 (((0 : Int) ≤ g.snd.snd.fst + (1 : Int) ∧
 g.snd.snd.fst + (1 : Int) ≤ (↑x.snd.fst.length : Int) ∧
 (g.fst &&
 decide
 ((0 : Int) ≤
 (x.snd.fst.getD g.snd.snd.fst.toNat ((0 : Int), (0 : Int))).snd) &&
 decide
 ((x.snd.fst.getD g.snd.snd.fst.toNat ((0 : Int), (0 : Int))).snd <
 (8 : Int)) &&
 decide
 (g.snd.fst ≤ (x.snd.fst.getD g.snd.snd.fst.toNat ((0 : Int), (0 : Int))).fst) &&
 decide
 ((x.snd.fst.getD g.snd.snd.fst.toNat ((0 : Int), (0 : Int))).fst ≤ (400 : Int))) =
 rightTo x.fst x.snd.fst (g.snd.snd.fst + (1 : Int)) ∧
 (x.snd.fst.getD g.snd.snd.fst.toNat ((0 : Int), (0 : Int))).fst =
 if g.snd.snd.fst + (1 : Int) = (0 : Int) then (0 : Int)
 else (rz x.snd.fst (g.snd.snd.fst + (1 : Int) - (1 : Int))).fst) ∧
 ((↑x.snd.fst.length : Int) - (g.snd.snd.fst + (1 : Int))).toNat <
 ((↑x.snd.fst.length : Int) - g.snd.snd.fst).toNat) ∧
 ((g.fst &&
 decide
 ((0 : Int) ≤ (x.snd.fst.getD g.snd.snd.fst.toNat ((0 : Int), (0 : Int))).snd) &&
 decide
 ((x.snd.fst.getD g.snd.snd.fst.toNat ((0 : Int), (0 : Int))).snd < (8 : Int)) &&
 decide
 (g.snd.fst ≤ (x.snd.fst.getD g.snd.snd.fst.toNat ((0 : Int), (0 : Int))).fst) &&
 decide
 ((x.snd.fst.getD g.snd.snd.fst.toNat ((0 : Int), (0 : Int))).fst ≤ (400 : Int))) =
 (g.fst &&
 decide
 ((0 : Int) ≤ (x.snd.fst.getD g.snd.snd.fst.toNat ((0 : Int), (0 : Int))).snd) &&
 decide
 ((x.snd.fst.getD g.snd.snd.fst.toNat ((0 : Int), (0 : Int))).snd < (8 : Int)) &&
 decide
 (g.snd.fst ≤ (x.snd.fst.getD g.snd.snd.fst.toNat ((0 : Int), (0 : Int))).fst) &&
 decide
 ((x.snd.fst.getD g.snd.snd.fst.toNat ((0 : Int), (0 : Int))).fst ≤ (400 : Int))) ∧
 (x.snd.fst.getD g.snd.snd.fst.toNat ((0 : Int), (0 : Int))).fst =
 (x.snd.fst.getD g.snd.snd.fst.toNat ((0 : Int), (0 : Int))).fst ∧
 x.snd.fst = x.snd.fst ∧
 (↑x.snd.fst.length : Int) = (↑x.snd.fst.length : Int) ∧
 g.snd.snd.fst + (1 : Int) = g.snd.snd.fst + (1 : Int) ∧ True) ∧
 True ∧ True) ∧
 (decide (g.snd.snd.fst < (↑x.snd.fst.length : Int)) = false → g.fst = right x.fst x.snd.fst))

theorem E_jright_eq (x : HL (cRight : Ctr).as) : vc (fx_jright x) 1 23 Try.f23 (cRight) x = E_jright x := by kernel_rfl

def E_run (x : List Int × List (Int × Int) × Int × Unit) : Prop :=
 Holds True ∧
 ((!right x.fst x.snd.fst) = true →
 ([] : List Int) = (run x.fst x.snd.fst x.snd.snd.fst).fst ∧
 (0 : Int) = (run x.fst x.snd.fst x.snd.snd.fst).snd.fst ∧ (1 : Int) = (run x.fst x.snd.fst x.snd.snd.fst).snd.snd.fst) ∧
 ((!right x.fst x.snd.fst) = false →
 ((!decide (x.snd.snd.fst < (0 : Int))) = true → (!decide (x.snd.snd.fst < (0 : Int))) = true) ∧
 (decide (x.snd.snd.fst < (0 : Int)) = false → (!decide (x.snd.snd.fst < (0 : Int))) = true) ∧
 ((decide (x.snd.snd.fst < (0 : Int)) || decide ((400 : Int) < x.snd.snd.fst)) = true →
 ([] : List Int) = (run x.fst x.snd.fst x.snd.snd.fst).fst ∧
 (0 : Int) = (run x.fst x.snd.fst x.snd.snd.fst).snd.fst ∧ (2 : Int) = (run x.fst x.snd.fst x.snd.snd.fst).snd.snd.fst) ∧
 ((decide (x.snd.snd.fst < (0 : Int)) || decide ((400 : Int) < x.snd.snd.fst)) = false →
 ((((0 : Int) ≤ (0 : Int) ∧
 (0 : Int) ≤ (↑x.fst.length : Int) ∧
 false :: false :: false :: false :: false :: false :: false :: false :: ([] : List Bool) =
 pend (List.take (Int.toNat (0 : Int)) x.fst) ∧
 Right x.fst x.snd.fst ∧ (0 : Int) ≤ x.snd.snd.fst ∧ x.snd.snd.fst ≤ (400 : Int)) ∧
 True) ∧
 (x.snd.snd.fst = x.snd.snd.fst ∧
 (True ∧ True) ∧ x.fst = x.fst ∧ (↑x.fst.length : Int) = (↑x.fst.length : Int) ∧ (0 : Int) = (0 : Int) ∧ True) ∧
 ((false :: false :: false :: false :: false :: false :: false :: false :: ([] : List Bool) =
 false :: false :: false :: false :: false :: false :: false :: false :: ([] : List Bool) ∧
 x.snd.fst = x.snd.fst ∧ Value.slice none (0 : Nat) (0 : Nat) = Value.slice none (0 : Nat) (0 : Nat) ∧ True) ∧
 True) ∧
 True) ∧
 ∀ (g : (List Bool × Unit × Unit) × Int × Unit),
 (0 : Int) ≤ g.snd.fst ∧
 g.snd.fst ≤ (↑x.fst.length : Int) ∧
 g.fst.fst = pend (List.take g.snd.fst.toNat x.fst) ∧
 Right x.fst x.snd.fst ∧ (0 : Int) ≤ x.snd.snd.fst ∧ x.snd.snd.fst ≤ (400 : Int) →
 ((g.fst.fst.length = (8 : Nat) ∧ ∀ (x : Bool), x ∈ g.fst.fst → True) ∧ True ∧ True) ∧
 ((-9223372036854775808 : Int) ≤ g.snd.fst ∧ g.snd.fst ≤ (9223372036854775807 : Int)) ∧ True →
 (decide (g.snd.fst < (↑x.fst.length : Int)) = true →
 ((0 : Int) ≤ g.snd.fst ∧ g.snd.fst < (↑x.fst.length : Int)) ∧
 ((0 : Int) ≤ x.fst.getD g.snd.fst.toNat (0 : Int) ∧ x.fst.getD g.snd.fst.toNat (0 : Int) < (↑(8 : Nat) : Int)) ∧
 ((-9223372036854775808 : Int) ≤ g.snd.fst + (1 : Int) ∧ g.snd.fst + (1 : Int) ≤ (9223372036854775807 : Int)) ∧
 (((0 : Int) ≤ g.snd.fst + (1 : Int) ∧
 g.snd.fst + (1 : Int) ≤ (↑x.fst.length : Int) ∧
 g.fst.fst.set (x.fst.getD g.snd.fst.toNat (0 : Int)).toNat true =
 pend (List.take (g.snd.fst + (1 : Int)).toNat x.fst) ∧
 Right x.fst x.snd.fst ∧ (0 : Int) ≤ x.snd.snd.fst ∧ x.snd.snd.fst ≤ (400 : Int)) ∧
 ((↑x.fst.length : Int) - (g.snd.fst + (1 : Int))).toNat < ((↑x.fst.length : Int) - g.snd.fst).toNat) ∧
 (x.snd.snd.fst = x.snd.snd.fst ∧
 (True ∧ True) ∧
 x.fst = x.fst ∧
 (↑x.fst.length : Int) = (↑x.fst.length : Int) ∧ g.snd.fst + (1 : Int) = g.snd.fst + (1 : Int) ∧ True) ∧
 ((g.fst.fst.set (x.fst.getD g.snd.fst.toNat (0 : Int)).toNat true =
 g.fst.fst.set (x.fst.getD g.snd.fst.toNat (0 : Int)).toNat true ∧
 x.snd.fst = x.snd.fst ∧
 Value.slice none (0 : Nat) (0 : Nat) = Value.slice none (0 : Nat) (0 : Nat) ∧ True) ∧
 True) ∧
 True) ∧
 (decide (g.snd.fst < (↑x.fst.length : Int)) = false →
 (((rai (↑([] : List Int).length : Int) g.fst.fst x.snd.fst = rai (↑([] : List Int).length : Int) g.fst.1 x.snd.1 ∧
 ∀ (r : Int × Int), r ∈ x.snd.fst → softB r.snd = true) ∧
 True) ∧
 ((True ∧ True) ∧ True) ∧
 ((g.fst.fst = g.fst.fst ∧
 x.snd.fst = x.snd.fst ∧ Value.slice none (0 : Nat) (0 : Nat) = Value.slice none (0 : Nat) (0 : Nat) ∧ True) ∧
 True) ∧
 True ∧
 True ∧
 x.snd.snd.fst = x.snd.snd.fst ∧
 True ∧
 True ∧
 True ∧
 True ∧
 True ∧
 True ∧
 (True ∧ True) ∧
 True ∧
 True ∧
 True ∧
 True ∧
 True ∧
 True ∧
 True ∧
 True ∧
 True ∧
 True ∧
 True ∧
 True ∧
 True ∧
 True ∧
 True ∧
 True ∧
 True ∧
 x.fst = x.fst ∧
 (↑x.fst.length : Int) = (↑x.fst.length : Int) ∧
 g.snd.fst = g.snd.fst ∧
 false = false ∧
 True ∧
 True ∧
 True ∧
 True ∧
 True ∧
 True ∧
 True ∧
 True ∧
 (True ∧ True) ∧
 True ∧
 True ∧
 True ∧
 True ∧
 True ∧
 True ∧
 True ∧
 True ∧
 True ∧
 True ∧
 True ∧
 True ∧
 True ∧
 True ∧
 True ∧
 True ∧
 True ∧
 True ∧
 True ∧
 True ∧
 True) ∧
 ∀ (g_1 : (List Bool × List (Int × Int) × Unit) × Unit),
 (rai (↑([] : List Int).length : Int) g_1.fst.fst g_1.fst.snd.fst = rai (↑([] : List Int).length : Int) g.fst.1 x.snd.1 ∧
 ∀ (r : Int × Int), r ∈ g_1.fst.snd.fst → softB r.snd = true) →
 ((g_1.fst.fst.length = (8 : Nat) ∧ ∀ (x : Bool), x ∈ g_1.fst.fst → True) ∧
 (g_1.fst.snd.fst.length ≤ (9223372036854775807 : Nat) ∧
 ∀ (x : Int × Int),
 x ∈ g_1.fst.snd.fst →
 ((-9223372036854775808 : Int) ≤ x.fst ∧ x.fst ≤ (9223372036854775807 : Int)) ∧
 (-9223372036854775808 : Int) ≤ x.snd ∧ x.snd ≤ (9223372036854775807 : Int)) ∧
 True) ∧
 True →
 (decide ((0 : Int) < (↑g_1.fst.snd.fst.length : Int)) = true →
 ((0 : Int) ≤ (0 : Int) ∧ (0 : Int) < (↑g_1.fst.snd.fst.length : Int)) ∧
 (decide ((g_1.fst.snd.fst.getD (Int.toNat (0 : Int)) ((0 : Int), (0 : Int))).fst ≤ (0 : Int)) = true →
 ((0 : Int) ≤ (0 : Int) ∧ (0 : Int) < (↑g_1.fst.snd.fst.length : Int)) ∧
 ((0 : Int) ≤ (g_1.fst.snd.fst.getD (Int.toNat (0 : Int)) ((0 : Int), (0 : Int))).snd ∧
 (g_1.fst.snd.fst.getD (Int.toNat (0 : Int)) ((0 : Int), (0 : Int))).snd < (↑(8 : Nat) : Int)) ∧
 (((0 : Int) ≤ (1 : Int) ∧ (1 : Int) ≤ (↑g_1.fst.snd.fst.length : Int)) ∧
 (↑g_1.fst.snd.fst.length : Int) ≤ (↑g_1.fst.snd.fst.length : Int)) ∧
 ((rai (↑([] : List Int).length : Int)
 (g_1.fst.fst.set
 (g_1.fst.snd.fst.getD (Int.toNat (0 : Int)) ((0 : Int), (0 : Int))).snd.toNat true)
 (List.drop (Int.toNat (1 : Int))
 (List.take (↑g_1.fst.snd.fst.length : Int).toNat g_1.fst.snd.fst)) =
 rai (↑([] : List Int).length : Int) g.fst.1 x.snd.1 ∧
 ∀ (r : Int × Int),
 r ∈
 List.drop (Int.toNat (1 : Int))
 (List.take (↑g_1.fst.snd.fst.length : Int).toNat g_1.fst.snd.fst) →
 softB r.snd = true) ∧
 (List.drop (Int.toNat (1 : Int))
 (List.take (↑g_1.fst.snd.fst.length : Int).toNat g_1.fst.snd.fst)).length <
 g_1.fst.snd.fst.length) ∧
 ((True ∧ True) ∧ True) ∧
 ((g_1.fst.fst.set (g_1.fst.snd.fst.getD (Int.toNat (0 : Int)) ((0 : Int), (0 : Int))).snd.toNat
 true =
 g_1.fst.fst.set
 (g_1.fst.snd.fst.getD (Int.toNat (0 : Int)) ((0 : Int), (0 : Int))).snd.toNat true ∧
 List.drop (Int.toNat (1 : Int))
 (List.take (↑g_1.fst.snd.fst.length : Int).toNat g_1.fst.snd.fst) =
 List.drop (Int.toNat (1 : Int))
 (List.take (↑g_1.fst.snd.fst.length : Int).toNat g_1.fst.snd.fst) ∧
 Value.slice none (0 : Nat) (0 : Nat) = Value.slice none (0 : Nat) (0 : Nat) ∧ True) ∧
 True) ∧
 True ∧
 True ∧
 x.snd.snd.fst = x.snd.snd.fst ∧
 True ∧
 True ∧
 True ∧
 True ∧
 True ∧
 True ∧
 (True ∧ True) ∧
 True ∧
 True ∧
 True ∧
 True ∧
 True ∧
 True ∧
 True ∧
 True ∧
 True ∧
 True ∧
 True ∧
 True ∧
 True ∧
 True ∧
 True ∧
 True ∧
 True ∧
 x.fst = x.fst ∧
 (↑x.fst.length : Int) =
 (↑x.fst.length : Int) ∧
 g.snd.fst = g.snd.fst ∧
 false = false ∧
 True ∧
 True ∧
 True ∧
 True ∧
 True ∧
 True ∧
 True ∧
 True ∧
 (True ∧ True) ∧
 True ∧
 True ∧
 True ∧
 True ∧
 True ∧
 True ∧
 True ∧
 True ∧
 True ∧
 True ∧
 True ∧
 True ∧
 True ∧
 True ∧
 True ∧
 True ∧
 True ∧
 True ∧
 True ∧
 True ∧
 True) ∧
 (decide ((g_1.fst.snd.fst.getD (Int.toNat (0 : Int)) ((0 : Int), (0 : Int))).fst ≤ (0 : Int)) = false →
 ((((0 : Int) ≤ (0 : Int) ∧
 Right x.fst x.snd.fst ∧
 ((0 : Int) ≤ x.snd.snd.fst ∧ x.snd.snd.fst ≤ (400 : Int)) ∧
 (g_1.fst.fst, ([] : List Int)) = sst x.fst x.snd.fst (Int.toNat (0 : Int)) ∧
 g_1.fst.snd.fst = left x.snd.fst ((↑([] : List Int).length : Int) + (1 : Int)) ∧
 (0 : Int) = ahd x.fst x.snd.fst x.snd.snd.fst (Int.toNat (0 : Int)) ∧
 going x.fst x.snd.fst (0 : Int)) ∧
 True) ∧
 (x.snd.snd.fst = x.snd.snd.fst ∧
 (True ∧ True) ∧ (0 : Int) = (0 : Int) ∧ (0 : Int) = (0 : Int) ∧ True) ∧
 ((g_1.fst.fst = g_1.fst.fst ∧ g_1.fst.snd.fst = g_1.fst.snd.fst ∧ True ∧ True) ∧
 ([] : List Int) = ([] : List Int) ∧ True) ∧
 True) ∧
 ∀ (g : (List Bool × List (Int × Int) × List Int) × Int × Int × Unit),
 (0 : Int) ≤ g.snd.snd.fst ∧
 Right x.fst x.snd.fst ∧
 ((0 : Int) ≤ x.snd.snd.fst ∧ x.snd.snd.fst ≤ (400 : Int)) ∧
 (g.fst.fst, g.fst.snd.snd) = sst x.fst x.snd.fst g.snd.snd.fst.toNat ∧
 g.fst.snd.fst = left x.snd.fst ((↑g.fst.snd.snd.length : Int) + (1 : Int)) ∧
 g.snd.fst = ahd x.fst x.snd.fst x.snd.snd.fst g.snd.snd.fst.toNat ∧
 going x.fst x.snd.fst g.snd.snd.fst →
 ((g.fst.fst.length = (8 : Nat) ∧ ∀ (x : Bool), x ∈ g.fst.fst → True) ∧
 (g.fst.snd.fst.length ≤ (9223372036854775807 : Nat) ∧
 ∀ (x : Int × Int),
 x ∈ g.fst.snd.fst →
 ((-9223372036854775808 : Int) ≤ x.fst ∧ x.fst ≤ (9223372036854775807 : Int)) ∧
 (-9223372036854775808 : Int) ≤ x.snd ∧ x.snd ≤ (9223372036854775807 : Int)) ∧
 g.fst.snd.snd.length ≤ (9223372036854775807 : Nat) ∧
 ∀ (x : Int),
 x ∈ g.fst.snd.snd →
 (-9223372036854775808 : Int) ≤ x ∧ x ≤ (9223372036854775807 : Int)) ∧
 ((-9223372036854775808 : Int) ≤ g.snd.fst ∧ g.snd.fst ≤ (9223372036854775807 : Int)) ∧
 ((-9223372036854775808 : Int) ≤ g.snd.snd.fst ∧ g.snd.snd.fst ≤ (9223372036854775807 : Int)) ∧
 True →
 Holds (true = true) ∧
 (g.fst.fst.contains true = true →
 ((((0 : Int) ≤ (0 : Int) ∧
 (0 : Int) ≤ (8 : Int) ∧
 (false ::
 false ::
 false :: false :: false :: false :: false :: false :: ([] : List Bool),
 g.fst.snd.snd) =
 rnd x.snd.fst g.fst.1 g.fst.snd.2 (Int.toNat (0 : Int)) ∧
 g.fst.snd.fst = left x.snd.fst ((↑g.fst.snd.snd.length : Int) + (1 : Int))) ∧
 True) ∧
 ((True ∧ True) ∧ (g.fst.fst = g.fst.fst ∧ True) ∧ (0 : Int) = (0 : Int) ∧ True) ∧
 ((false ::
 false ::
 false :: false :: false :: false :: false :: false :: ([] : List Bool) =
 false ::
 false ::
 false :: false :: false :: false :: false :: false :: ([] : List Bool) ∧
 g.fst.snd.fst = g.fst.snd.fst ∧ True ∧ True) ∧
 g.fst.snd.snd = g.fst.snd.snd ∧ True) ∧
 True ∧
 True ∧
 x.snd.snd.fst = x.snd.snd.fst ∧
 True ∧
 True ∧
 True ∧
 True ∧
 True ∧
 True ∧
 (True ∧ True) ∧
 True ∧
 True ∧
 g.snd.fst = g.snd.fst ∧
 g.snd.snd.fst = g.snd.snd.fst ∧
 True ∧
 True ∧
 True ∧
 True ∧
 True ∧
 True ∧
 True ∧
 True ∧
 True ∧
 True ∧
 True ∧
 True ∧
 True ∧
 True ∧
 True ∧
 True ∧
 True ∧
 True ∧
 True ∧
 True ∧
 True ∧
 True ∧
 True ∧
 True ∧
 True ∧
 True ∧
 True ∧
 (True ∧
 True) ∧
 true =
 true ∧
 True ∧
 True ∧
 (True ∧
 True) ∧
 True ∧
 True ∧
 True ∧
 True ∧
 True ∧
 True ∧
 True ∧
 True ∧
 True ∧
 True ∧
 True ∧
 True ∧
 True ∧
 True ∧
 True) ∧
 ∀ (g_2 : (List Bool × List (Int × Int) × List Int) × Int × Unit),
 (0 : Int) ≤ g_2.snd.fst ∧
 g_2.snd.fst ≤ (8 : Int) ∧
 (g_2.fst.fst, g_2.fst.snd.snd) =
 rnd x.snd.fst g.fst.1 g.fst.snd.2 g_2.snd.fst.toNat ∧
 g_2.fst.snd.fst = left x.snd.fst ((↑g_2.fst.snd.snd.length : Int) + (1 : Int)) →
 ((g_2.fst.fst.length = (8 : Nat) ∧ ∀ (x : Bool), x ∈ g_2.fst.fst → True) ∧
 (g_2.fst.snd.fst.length ≤ (9223372036854775807 : Nat) ∧
 ∀ (x : Int × Int),
 x ∈ g_2.fst.snd.fst →
 ((-9223372036854775808 : Int) ≤ x.fst ∧
 x.fst ≤ (9223372036854775807 : Int)) ∧
 (-9223372036854775808 : Int) ≤ x.snd ∧
 x.snd ≤ (9223372036854775807 : Int)) ∧
 g_2.fst.snd.snd.length ≤ (9223372036854775807 : Nat) ∧
 ∀ (x : Int),
 x ∈ g_2.fst.snd.snd →
 (-9223372036854775808 : Int) ≤ x ∧ x ≤ (9223372036854775807 : Int)) ∧
 ((-9223372036854775808 : Int) ≤ g_2.snd.fst ∧
 g_2.snd.fst ≤ (9223372036854775807 : Int)) ∧
 True →
 (decide (g_2.snd.fst < (8 : Int)) = true →
 ((0 : Int) ≤ g_2.snd.fst ∧ g_2.snd.fst < (↑(8 : Nat) : Int)) ∧
 (g.fst.fst.getD g_2.snd.fst.toNat false = true →
 (g_2.fst.snd.snd.length +
 (((0 : Int) :: ([] : List Int)).set (0 : Nat)
 g_2.snd.fst).length ≤
 (9223372036854775807 : Nat) ∧
 (g_2.fst.snd.snd.length +
 (((0 : Int) :: ([] : List Int)).set (0 : Nat)
 g_2.snd.fst).length +
 (g_2.fst.snd.snd.length +
 (((0 : Int) :: ([] : List Int)).set (0 : Nat)
 g_2.snd.fst).length) /
 (4 : Nat) +
 (192 : Nat)) *
 (8 : Nat) ≤
 (281474976710656 : Nat)) ∧
 (((rai
 (↑((List.brecOn.go (motive := fun x ↦ List Int → List Int)
 g_2.fst.snd.snd List.append._f).1
 (((0 : Int) :: ([] : List Int)).set (0 : Nat)
 g_2.snd.fst)).length :
 Int)
 g_2.fst.fst g_2.fst.snd.fst =
 rai
 (↑((List.brecOn.go (motive := fun x ↦ List Int → List Int)
 g_2.fst.snd.snd List.append._f).1
 (((0 : Int) :: ([] : List Int)).set (0 : Nat)
 g_2.snd.fst)).length :
 Int)
 g_2.fst.1 g_2.fst.snd.1 ∧
 ∀ (r : Int × Int), r ∈ g_2.fst.snd.fst → softB r.snd = true) ∧
 True) ∧
 ((True ∧ True) ∧ True) ∧
 ((g_2.fst.fst = g_2.fst.fst ∧
 g_2.fst.snd.fst = g_2.fst.snd.fst ∧ True ∧ True) ∧
 ((0 : Int) :: ([] : List Int)).set (0 : Nat) g_2.snd.fst =
 ((0 : Int) :: ([] : List Int)).set (0 : Nat) g_2.snd.fst ∧
 g_2.fst.snd.snd ++
 ((0 : Int) :: ([] : List Int)).set (0 : Nat)
 g_2.snd.fst =
 g_2.fst.snd.snd ++
 ((0 : Int) :: ([] : List Int)).set (0 : Nat)
 g_2.snd.fst ∧
 True) ∧
 (True ∧ True) ∧
 True ∧
 True ∧
 g_2.snd.fst = g_2.snd.fst ∧
 g.fst.fst.getD g_2.snd.fst.toNat false =
 g.fst.fst.getD g_2.snd.fst.toNat false ∧
 True ∧
 True ∧
 True ∧
 True ∧
 True ∧
 True ∧
 True ∧
 True ∧
 (g.fst.fst = g.fst.fst ∧ True) ∧
 g_2.snd.fst = g_2.snd.fst ∧
 true = true ∧
 g_2.snd.fst = g_2.snd.fst ∧
 g.fst.fst.getD
 g_2.snd.fst.toNat
 false =
 g.fst.fst.getD
 g_2.snd.fst.toNat
 false ∧
 true = true ∧
 (True ∧ True) ∧
 (True ∧ True) ∧
 (True ∧ True) ∧
 (True ∧ True) ∧
 True ∧
 g_2.snd.fst =
 g_2.snd.fst ∧
 True ∧
 True ∧
 (True ∧
 True) ∧
 (True ∧
 True) ∧
 (True ∧
 True) ∧
 True ∧
 True ∧
 True ∧
 True ∧
 x.snd.snd.fst =
 x.snd.snd.fst ∧
 True ∧
 True ∧
 True ∧
 True ∧
 True ∧
 True ∧
 (True ∧
 True) ∧
 True ∧
 True ∧
 g.snd.fst =
 g.snd.fst ∧
 g.snd.snd.fst =
 g.snd.snd.fst ∧
 True ∧
 True ∧
 True ∧
 True ∧
 True ∧
 True ∧
 True ∧
 True ∧
 True ∧
 True ∧
 True ∧
 True ∧
 True ∧
 True ∧
 True ∧
 True ∧
 True ∧
 True ∧
 True ∧
 True ∧
 True ∧
 True ∧
 True ∧
 True ∧
 True ∧
 True ∧
 True ∧
 (True ∧
 True) ∧
 true =
 true ∧
 True ∧
 True ∧
 (True ∧
 True) ∧
 True ∧
 True ∧
 True ∧
 True ∧
 True ∧
 True ∧
 True ∧
 True ∧
 True ∧
 True ∧
 True ∧
 True ∧
 True ∧
 True ∧
 True) ∧
 ∀ (g_3 : (List Bool × List (Int × Int) × Unit) × Unit),
 (rai
 (↑((List.brecOn.go (motive := fun x ↦ List Int → List Int)
 g_2.fst.snd.snd List.append._f).1
 (((0 : Int) :: ([] : List Int)).set (0 : Nat)
 g_2.snd.fst)).length :
 Int)
 g_3.fst.fst g_3.fst.snd.fst =
 rai
 (↑((List.brecOn.go (motive := fun x ↦ List Int → List Int)
 g_2.fst.snd.snd List.append._f).1
 (((0 : Int) :: ([] : List Int)).set (0 : Nat)
 g_2.snd.fst)).length :
 Int)
 g_2.fst.1 g_2.fst.snd.1 ∧
 ∀ (r : Int × Int), r ∈ g_3.fst.snd.fst → softB r.snd = true) →
 ((g_3.fst.fst.length = (8 : Nat) ∧
 ∀ (x : Bool), x ∈ g_3.fst.fst → True) ∧
 (g_3.fst.snd.fst.length ≤ (9223372036854775807 : Nat) ∧
 ∀ (x : Int × Int),
 x ∈ g_3.fst.snd.fst →
 ((-9223372036854775808 : Int) ≤ x.fst ∧
 x.fst ≤ (9223372036854775807 : Int)) ∧
 (-9223372036854775808 : Int) ≤ x.snd ∧
 x.snd ≤ (9223372036854775807 : Int)) ∧
 True) ∧
 True →
 (decide ((0 : Int) < (↑g_3.fst.snd.fst.length : Int)) = true →
 ((0 : Int) ≤ (0 : Int) ∧
 (0 : Int) < (↑g_3.fst.snd.fst.length : Int)) ∧
 (decide
 ((g_3.fst.snd.fst.getD (Int.toNat (0 : Int))
 ((0 : Int), (0 : Int))).fst ≤
 (↑(g_2.fst.snd.snd ++
 ((0 : Int) :: ([] : List Int)).set
 (0 : Nat) g_2.snd.fst).length :
 Int)) =
 true →
 ((0 : Int) ≤ (0 : Int) ∧
 (0 : Int) < (↑g_3.fst.snd.fst.length : Int)) ∧
 ((0 : Int) ≤
 (g_3.fst.snd.fst.getD (Int.toNat (0 : Int))
 ((0 : Int), (0 : Int))).snd ∧
 (g_3.fst.snd.fst.getD (Int.toNat (0 : Int))
 ((0 : Int), (0 : Int))).snd <
 (↑(8 : Nat) : Int)) ∧
 (((0 : Int) ≤ (1 : Int) ∧
 (1 : Int) ≤
 (↑g_3.fst.snd.fst.length : Int)) ∧
 (↑g_3.fst.snd.fst.length : Int) ≤
 (↑g_3.fst.snd.fst.length : Int)) ∧
 ((rai
 (↑((List.brecOn.go (motive := fun x ↦
 List Int → List Int)
 g_2.fst.snd.snd
 List.append._f).1
 (((0 : Int) ::
 ([] : List Int)).set
 (0 : Nat)
 g_2.snd.fst)).length :
 Int)
 (g_3.fst.fst.set
 (g_3.fst.snd.fst.getD
 (Int.toNat (0 : Int))
 ((0 : Int),
 (0 : Int))).snd.toNat
 true)
 (List.drop (Int.toNat (1 : Int))
 (List.take
 (↑g_3.fst.snd.fst.length :
 Int).toNat
 g_3.fst.snd.fst)) =
 rai
 (↑((List.brecOn.go (motive := fun x ↦
 List Int → List Int)
 g_2.fst.snd.snd
 List.append._f).1
 (((0 : Int) ::
 ([] : List Int)).set
 (0 : Nat)
 g_2.snd.fst)).length :
 Int)
 g_2.fst.1 g_2.fst.snd.1 ∧
 ∀ (r : Int × Int),
 r ∈
 List.drop (Int.toNat (1 : Int))
 (List.take
 (↑g_3.fst.snd.fst.length :
 Int).toNat
 g_3.fst.snd.fst) →
 softB r.snd = true) ∧
 (List.drop (Int.toNat (1 : Int))
 (List.take
 (↑g_3.fst.snd.fst.length :
 Int).toNat
 g_3.fst.snd.fst)).length <
 g_3.fst.snd.fst.length) ∧
 ((True ∧ True) ∧ True) ∧
 ((g_3.fst.fst.set
 (g_3.fst.snd.fst.getD
 (Int.toNat (0 : Int))
 ((0 : Int),
 (0 : Int))).snd.toNat
 true =
 g_3.fst.fst.set
 (g_3.fst.snd.fst.getD
 (Int.toNat (0 : Int))
 ((0 : Int),
 (0 : Int))).snd.toNat
 true ∧
 List.drop (Int.toNat (1 : Int))
 (List.take
 (↑g_3.fst.snd.fst.length :
 Int).toNat
 g_3.fst.snd.fst) =
 List.drop (Int.toNat (1 : Int))
 (List.take
 (↑g_3.fst.snd.fst.length :
 Int).toNat
 g_3.fst.snd.fst) ∧
 True ∧ True) ∧
 ((0 : Int) :: ([] : List Int)).set
 (0 : Nat) g_2.snd.fst =
 ((0 : Int) :: ([] : List Int)).set
 (0 : Nat) g_2.snd.fst ∧
 g_2.fst.snd.snd ++
 ((0 : Int) ::
 ([] : List Int)).set
 (0 : Nat) g_2.snd.fst =
 g_2.fst.snd.snd ++
 ((0 : Int) ::
 ([] : List Int)).set
 (0 : Nat) g_2.snd.fst ∧
 True) ∧
 (True ∧ True) ∧
 True ∧
 True ∧
 g_2.snd.fst = g_2.snd.fst ∧
 g.fst.fst.getD g_2.snd.fst.toNat
 false =
 g.fst.fst.getD
 g_2.snd.fst.toNat false ∧
 True ∧
 True ∧
 True ∧
 True ∧
 True ∧
 True ∧
 True ∧
 True ∧
 (g.fst.fst =
 g.fst.fst ∧
 True) ∧
 g_2.snd.fst =
 g_2.snd.fst ∧
 true =
 true ∧
 g_2.snd.fst =
 g_2.snd.fst ∧
 g.fst.fst.getD
 g_2.snd.fst.toNat
 false =
 g.fst.fst.getD
 g_2.snd.fst.toNat
 false ∧
 true =
 true ∧
 (True ∧
 True) ∧
 (True ∧
 True) ∧
 (True ∧
 True) ∧
 (True ∧
 True) ∧
 True ∧
 g_2.snd.fst =
 g_2.snd.fst ∧
 True ∧
 True ∧
 (True ∧
 True) ∧
 (True ∧
 True) ∧
 (True ∧
 True) ∧
 True ∧
 True ∧
 True ∧
 True ∧
 x.snd.snd.fst =
 x.snd.snd.fst ∧
 True ∧
 True ∧
 True ∧
 True ∧
 True ∧
 True ∧
 (True ∧
 True) ∧
 True ∧
 True ∧
 g.snd.fst =
 g.snd.fst ∧
 g.snd.snd.fst =
 g.snd.snd.fst ∧
 True ∧
 True ∧
 True ∧
 True ∧
 True ∧
 True ∧
 True ∧
 True ∧
 True ∧
 True ∧
 True ∧
 True ∧
 True ∧
 True ∧
 True ∧
 True ∧
 True ∧
 True ∧
 True ∧
 True ∧
 True ∧
 True ∧
 True ∧
 True ∧
 True ∧
 True ∧
 True ∧
 (True ∧
 True) ∧
 true =
 true ∧
 True ∧
 True ∧
 (True ∧
 True) ∧
 True ∧
 True ∧
 True ∧
 True ∧
 True ∧
 True ∧
 True ∧
 True ∧
 True ∧
 True ∧
 True ∧
 True ∧
 True ∧
 True ∧
 True) ∧
 (decide
 ((g_3.fst.snd.fst.getD (Int.toNat (0 : Int))
 ((0 : Int), (0 : Int))).fst ≤
 (↑(g_2.fst.snd.snd ++
 ((0 : Int) :: ([] : List Int)).set
 (0 : Nat) g_2.snd.fst).length :
 Int)) =
 false →
 ((-9223372036854775808 : Int) ≤
 g_2.snd.fst + (1 : Int) ∧
 g_2.snd.fst + (1 : Int) ≤
 (9223372036854775807 : Int)) ∧
 (((0 : Int) ≤ g_2.snd.fst + (1 : Int) ∧
 g_2.snd.fst + (1 : Int) ≤ (8 : Int) ∧
 (g_3.fst.fst,
 g_2.fst.snd.snd ++
 ((0 : Int) :: ([] : List Int)).set
 (0 : Nat) g_2.snd.fst) =
 rnd x.snd.fst g.fst.1 g.fst.snd.2
 (g_2.snd.fst + (1 : Int)).toNat ∧
 g_3.fst.snd.fst =
 left x.snd.fst
 ((↑(g_2.fst.snd.snd ++
 ((0 : Int) ::
 ([] : List Int)).set
 (0 : Nat)
 g_2.snd.fst).length :
 Int) +
 (1 : Int))) ∧
 ((8 : Int) - (g_2.snd.fst + (1 : Int))).toNat <
 ((8 : Int) - g_2.snd.fst).toNat) ∧
 ((True ∧ True) ∧
 (g.fst.fst = g.fst.fst ∧ True) ∧
 g_2.snd.fst + (1 : Int) =
 g_2.snd.fst + (1 : Int) ∧
 True) ∧
 ((g_3.fst.fst = g_3.fst.fst ∧
 g_3.fst.snd.fst = g_3.fst.snd.fst ∧
 True ∧ True) ∧
 g_2.fst.snd.snd ++
 ((0 : Int) :: ([] : List Int)).set
 (0 : Nat) g_2.snd.fst =
 g_2.fst.snd.snd ++
 ((0 : Int) :: ([] : List Int)).set
 (0 : Nat) g_2.snd.fst ∧
 True) ∧
 True ∧
 True ∧
 x.snd.snd.fst = x.snd.snd.fst ∧
 True ∧
 True ∧
 True ∧
 True ∧
 True ∧
 True ∧
 (True ∧ True) ∧
 True ∧
 True ∧
 g.snd.fst =
 g.snd.fst ∧
 g.snd.snd.fst =
 g.snd.snd.fst ∧
 True ∧
 True ∧
 True ∧
 True ∧
 True ∧
 True ∧
 True ∧
 True ∧
 True ∧
 True ∧
 True ∧
 True ∧
 True ∧
 True ∧
 True ∧
 True ∧
 True ∧
 True ∧
 True ∧
 True ∧
 True ∧
 True ∧
 True ∧
 True ∧
 True ∧
 True ∧
 True ∧
 (True ∧
 True) ∧
 true =
 true ∧
 True ∧
 True ∧
 (True ∧
 True) ∧
 True ∧
 True ∧
 True ∧
 True ∧
 True ∧
 True ∧
 True ∧
 True ∧
 True ∧
 True ∧
 True ∧
 True ∧
 True ∧
 True ∧
 True)) ∧
 (decide ((0 : Int) < (↑g_3.fst.snd.fst.length : Int)) =
 !true →
 ((-9223372036854775808 : Int) ≤ g_2.snd.fst + (1 : Int) ∧
 g_2.snd.fst + (1 : Int) ≤ (9223372036854775807 : Int)) ∧
 (((0 : Int) ≤ g_2.snd.fst + (1 : Int) ∧
 g_2.snd.fst + (1 : Int) ≤ (8 : Int) ∧
 (g_3.fst.fst,
 g_2.fst.snd.snd ++
 ((0 : Int) :: ([] : List Int)).set
 (0 : Nat) g_2.snd.fst) =
 rnd x.snd.fst g.fst.1 g.fst.snd.2
 (g_2.snd.fst + (1 : Int)).toNat ∧
 g_3.fst.snd.fst =
 left x.snd.fst
 ((↑(g_2.fst.snd.snd ++
 ((0 : Int) :: ([] : List Int)).set
 (0 : Nat) g_2.snd.fst).length :
 Int) +
 (1 : Int))) ∧
 ((8 : Int) - (g_2.snd.fst + (1 : Int))).toNat <
 ((8 : Int) - g_2.snd.fst).toNat) ∧
 ((True ∧ True) ∧
 (g.fst.fst = g.fst.fst ∧ True) ∧
 g_2.snd.fst + (1 : Int) =
 g_2.snd.fst + (1 : Int) ∧
 True) ∧
 ((g_3.fst.fst = g_3.fst.fst ∧
 g_3.fst.snd.fst = g_3.fst.snd.fst ∧
 True ∧ True) ∧
 g_2.fst.snd.snd ++
 ((0 : Int) :: ([] : List Int)).set (0 : Nat)
 g_2.snd.fst =
 g_2.fst.snd.snd ++
 ((0 : Int) :: ([] : List Int)).set (0 : Nat)
 g_2.snd.fst ∧
 True) ∧
 True ∧
 True ∧
 x.snd.snd.fst = x.snd.snd.fst ∧
 True ∧
 True ∧
 True ∧
 True ∧
 True ∧
 True ∧
 (True ∧ True) ∧
 True ∧
 True ∧
 g.snd.fst = g.snd.fst ∧
 g.snd.snd.fst =
 g.snd.snd.fst ∧
 True ∧
 True ∧
 True ∧
 True ∧
 True ∧
 True ∧
 True ∧
 True ∧
 True ∧
 True ∧
 True ∧
 True ∧
 True ∧
 True ∧
 True ∧
 True ∧
 True ∧
 True ∧
 True ∧
 True ∧
 True ∧
 True ∧
 True ∧
 True ∧
 True ∧
 True ∧
 True ∧
 (True ∧
 True) ∧
 true =
 true ∧
 True ∧
 True ∧
 (True ∧
 True) ∧
 True ∧
 True ∧
 True ∧
 True ∧
 True ∧
 True ∧
 True ∧
 True ∧
 True ∧
 True ∧
 True ∧
 True ∧
 True ∧
 True ∧
 True)) ∧
 (g.fst.fst.getD g_2.snd.fst.toNat false = false →
 ((-9223372036854775808 : Int) ≤ g_2.snd.fst + (1 : Int) ∧
 g_2.snd.fst + (1 : Int) ≤ (9223372036854775807 : Int)) ∧
 (((0 : Int) ≤ g_2.snd.fst + (1 : Int) ∧
 g_2.snd.fst + (1 : Int) ≤ (8 : Int) ∧
 (g_2.fst.fst, g_2.fst.snd.snd) =
 rnd x.snd.fst g.fst.1 g.fst.snd.2
 (g_2.snd.fst + (1 : Int)).toNat ∧
 g_2.fst.snd.fst =
 left x.snd.fst
 ((↑g_2.fst.snd.snd.length : Int) + (1 : Int))) ∧
 ((8 : Int) - (g_2.snd.fst + (1 : Int))).toNat <
 ((8 : Int) - g_2.snd.fst).toNat) ∧
 ((True ∧ True) ∧
 (g.fst.fst = g.fst.fst ∧ True) ∧
 g_2.snd.fst + (1 : Int) = g_2.snd.fst + (1 : Int) ∧ True) ∧
 ((g_2.fst.fst = g_2.fst.fst ∧
 g_2.fst.snd.fst = g_2.fst.snd.fst ∧ True ∧ True) ∧
 g_2.fst.snd.snd = g_2.fst.snd.snd ∧ True) ∧
 True ∧
 True ∧
 x.snd.snd.fst = x.snd.snd.fst ∧
 True ∧
 True ∧
 True ∧
 True ∧
 True ∧
 True ∧
 (True ∧ True) ∧
 True ∧
 True ∧
 g.snd.fst = g.snd.fst ∧
 g.snd.snd.fst = g.snd.snd.fst ∧
 True ∧
 True ∧
 True ∧
 True ∧
 True ∧
 True ∧
 True ∧
 True ∧
 True ∧
 True ∧
 True ∧
 True ∧
 True ∧
 True ∧
 True ∧
 True ∧
 True ∧
 True ∧
 True ∧
 True ∧
 True ∧
 True ∧
 True ∧
 True ∧
 True ∧
 True ∧
 True ∧
 (True ∧
 True) ∧
 true =
 true ∧
 True ∧
 True ∧
 (True ∧
 True) ∧
 True ∧
 True ∧
 True ∧
 True ∧
 True ∧
 True ∧
 True ∧
 True ∧
 True ∧
 True ∧
 True ∧
 True ∧
 True ∧
 True ∧
 True)) ∧
 (decide (g_2.snd.fst < (8 : Int)) = false →
 (decide (g.snd.snd.fst < x.snd.snd.fst) = true →
 ((-9223372036854775808 : Int) ≤ g.snd.snd.fst + (1 : Int) ∧
 g.snd.snd.fst + (1 : Int) ≤ (9223372036854775807 : Int)) ∧
 (((0 : Int) ≤ g.snd.snd.fst + (1 : Int) ∧
 Right x.fst x.snd.fst ∧
 ((0 : Int) ≤ x.snd.snd.fst ∧ x.snd.snd.fst ≤ (400 : Int)) ∧
 (g_2.fst.fst, g_2.fst.snd.snd) =
 sst x.fst x.snd.fst (g.snd.snd.fst + (1 : Int)).toNat ∧
 g_2.fst.snd.fst =
 left x.snd.fst
 ((↑g_2.fst.snd.snd.length : Int) + (1 : Int)) ∧
 (↑g_2.fst.snd.snd.length : Int) =
 ahd x.fst x.snd.fst x.snd.snd.fst
 (g.snd.snd.fst + (1 : Int)).toNat ∧
 going x.fst x.snd.fst (g.snd.snd.fst + (1 : Int))) ∧
 (408 : Nat) - (g.snd.snd.fst + (1 : Int)).toNat <
 (408 : Nat) - g.snd.snd.fst.toNat) ∧
 (x.snd.snd.fst = x.snd.snd.fst ∧
 (True ∧ True) ∧
 (↑g_2.fst.snd.snd.length : Int) =
 (↑g_2.fst.snd.snd.length : Int) ∧
 g.snd.snd.fst + (1 : Int) = g.snd.snd.fst + (1 : Int) ∧ True) ∧
 ((g_2.fst.fst = g_2.fst.fst ∧
 g_2.fst.snd.fst = g_2.fst.snd.fst ∧ True ∧ True) ∧
 g_2.fst.snd.snd = g_2.fst.snd.snd ∧ True) ∧
 True) ∧
 (decide (g.snd.snd.fst < x.snd.snd.fst) = false →
 ((-9223372036854775808 : Int) ≤ g.snd.snd.fst + (1 : Int) ∧
 g.snd.snd.fst + (1 : Int) ≤ (9223372036854775807 : Int)) ∧
 (((0 : Int) ≤ g.snd.snd.fst + (1 : Int) ∧
 Right x.fst x.snd.fst ∧
 ((0 : Int) ≤ x.snd.snd.fst ∧ x.snd.snd.fst ≤ (400 : Int)) ∧
 (g_2.fst.fst, g_2.fst.snd.snd) =
 sst x.fst x.snd.fst (g.snd.snd.fst + (1 : Int)).toNat ∧
 g_2.fst.snd.fst =
 left x.snd.fst
 ((↑g_2.fst.snd.snd.length : Int) + (1 : Int)) ∧
 g.snd.fst =
 ahd x.fst x.snd.fst x.snd.snd.fst
 (g.snd.snd.fst + (1 : Int)).toNat ∧
 going x.fst x.snd.fst (g.snd.snd.fst + (1 : Int))) ∧
 (408 : Nat) - (g.snd.snd.fst + (1 : Int)).toNat <
 (408 : Nat) - g.snd.snd.fst.toNat) ∧
 (x.snd.snd.fst = x.snd.snd.fst ∧
 (True ∧ True) ∧
 g.snd.fst = g.snd.fst ∧
 g.snd.snd.fst + (1 : Int) = g.snd.snd.fst + (1 : Int) ∧ True) ∧
 ((g_2.fst.fst = g_2.fst.fst ∧
 g_2.fst.snd.fst = g_2.fst.snd.fst ∧ True ∧ True) ∧
 g_2.fst.snd.snd = g_2.fst.snd.snd ∧ True) ∧
 True))) ∧
 (g.fst.fst.contains true = false →
 g.fst.snd.snd = (run x.fst x.snd.fst x.snd.snd.fst).fst ∧
 g.snd.fst = (run x.fst x.snd.fst x.snd.snd.fst).snd.fst ∧
 (0 : Int) = (run x.fst x.snd.fst x.snd.snd.fst).snd.snd.fst))) ∧
 (decide ((0 : Int) < (↑g_1.fst.snd.fst.length : Int)) = !true →
 ((((0 : Int) ≤ (0 : Int) ∧
 Right x.fst x.snd.fst ∧
 ((0 : Int) ≤ x.snd.snd.fst ∧ x.snd.snd.fst ≤ (400 : Int)) ∧
 (g_1.fst.fst, ([] : List Int)) = sst x.fst x.snd.fst (Int.toNat (0 : Int)) ∧
 g_1.fst.snd.fst = left x.snd.fst ((↑([] : List Int).length : Int) + (1 : Int)) ∧
 (0 : Int) = ahd x.fst x.snd.fst x.snd.snd.fst (Int.toNat (0 : Int)) ∧
 going x.fst x.snd.fst (0 : Int)) ∧
 True) ∧
 (x.snd.snd.fst = x.snd.snd.fst ∧ (True ∧ True) ∧ (0 : Int) = (0 : Int) ∧ (0 : Int) = (0 : Int) ∧ True) ∧
 ((g_1.fst.fst = g_1.fst.fst ∧ g_1.fst.snd.fst = g_1.fst.snd.fst ∧ True ∧ True) ∧
 ([] : List Int) = ([] : List Int) ∧ True) ∧
 True) ∧
 ∀ (g : (List Bool × List (Int × Int) × List Int) × Int × Int × Unit),
 (0 : Int) ≤ g.snd.snd.fst ∧
 Right x.fst x.snd.fst ∧
 ((0 : Int) ≤ x.snd.snd.fst ∧ x.snd.snd.fst ≤ (400 : Int)) ∧
 (g.fst.fst, g.fst.snd.snd) = sst x.fst x.snd.fst g.snd.snd.fst.toNat ∧
 g.fst.snd.fst = left x.snd.fst ((↑g.fst.snd.snd.length : Int) + (1 : Int)) ∧
 g.snd.fst = ahd x.fst x.snd.fst x.snd.snd.fst g.snd.snd.fst.toNat ∧
 going x.fst x.snd.fst g.snd.snd.fst →
 ((g.fst.fst.length = (8 : Nat) ∧ ∀ (x : Bool), x ∈ g.fst.fst → True) ∧
 (g.fst.snd.fst.length ≤ (9223372036854775807 : Nat) ∧
 ∀ (x : Int × Int),
 x ∈ g.fst.snd.fst →
 ((-9223372036854775808 : Int) ≤ x.fst ∧ x.fst ≤ (9223372036854775807 : Int)) ∧
 (-9223372036854775808 : Int) ≤ x.snd ∧ x.snd ≤ (9223372036854775807 : Int)) ∧
 g.fst.snd.snd.length ≤ (9223372036854775807 : Nat) ∧
 ∀ (x : Int),
 x ∈ g.fst.snd.snd → (-9223372036854775808 : Int) ≤ x ∧ x ≤ (9223372036854775807 : Int)) ∧
 ((-9223372036854775808 : Int) ≤ g.snd.fst ∧ g.snd.fst ≤ (9223372036854775807 : Int)) ∧
 ((-9223372036854775808 : Int) ≤ g.snd.snd.fst ∧ g.snd.snd.fst ≤ (9223372036854775807 : Int)) ∧
 True →
 Holds (true = true) ∧
 (g.fst.fst.contains true = true →
 ((((0 : Int) ≤ (0 : Int) ∧
 (0 : Int) ≤ (8 : Int) ∧
 (false ::
 false :: false :: false :: false :: false :: false :: false :: ([] : List Bool),
 g.fst.snd.snd) =
 rnd x.snd.fst g.fst.1 g.fst.snd.2 (Int.toNat (0 : Int)) ∧
 g.fst.snd.fst = left x.snd.fst ((↑g.fst.snd.snd.length : Int) + (1 : Int))) ∧
 True) ∧
 ((True ∧ True) ∧ (g.fst.fst = g.fst.fst ∧ True) ∧ (0 : Int) = (0 : Int) ∧ True) ∧
 ((false :: false :: false :: false :: false :: false :: false :: false :: ([] : List Bool) =
 false ::
 false :: false :: false :: false :: false :: false :: false :: ([] : List Bool) ∧
 g.fst.snd.fst = g.fst.snd.fst ∧ True ∧ True) ∧
 g.fst.snd.snd = g.fst.snd.snd ∧ True) ∧
 True ∧
 True ∧
 x.snd.snd.fst = x.snd.snd.fst ∧
 True ∧
 True ∧
 True ∧
 True ∧
 True ∧
 True ∧
 (True ∧ True) ∧
 True ∧
 True ∧
 g.snd.fst = g.snd.fst ∧
 g.snd.snd.fst = g.snd.snd.fst ∧
 True ∧
 True ∧
 True ∧
 True ∧
 True ∧
 True ∧
 True ∧
 True ∧
 True ∧
 True ∧
 True ∧
 True ∧
 True ∧
 True ∧
 True ∧
 True ∧
 True ∧
 True ∧
 True ∧
 True ∧
 True ∧
 True ∧
 True ∧
 True ∧
 True ∧
 True ∧
 True ∧
 (True ∧
 True) ∧
 true =
 true ∧
 True ∧
 True ∧
 (True ∧
 True) ∧
 True ∧
 True ∧
 True ∧
 True ∧
 True ∧
 True ∧
 True ∧
 True ∧
 True ∧
 True ∧
 True ∧
 True ∧
 True ∧
 True ∧
 True) ∧
 ∀ (g_2 : (List Bool × List (Int × Int) × List Int) × Int × Unit),
 (0 : Int) ≤ g_2.snd.fst ∧
 g_2.snd.fst ≤ (8 : Int) ∧
 (g_2.fst.fst, g_2.fst.snd.snd) = rnd x.snd.fst g.fst.1 g.fst.snd.2 g_2.snd.fst.toNat ∧
 g_2.fst.snd.fst = left x.snd.fst ((↑g_2.fst.snd.snd.length : Int) + (1 : Int)) →
 ((g_2.fst.fst.length = (8 : Nat) ∧ ∀ (x : Bool), x ∈ g_2.fst.fst → True) ∧
 (g_2.fst.snd.fst.length ≤ (9223372036854775807 : Nat) ∧
 ∀ (x : Int × Int),
 x ∈ g_2.fst.snd.fst →
 ((-9223372036854775808 : Int) ≤ x.fst ∧ x.fst ≤ (9223372036854775807 : Int)) ∧
 (-9223372036854775808 : Int) ≤ x.snd ∧
 x.snd ≤ (9223372036854775807 : Int)) ∧
 g_2.fst.snd.snd.length ≤ (9223372036854775807 : Nat) ∧
 ∀ (x : Int),
 x ∈ g_2.fst.snd.snd →
 (-9223372036854775808 : Int) ≤ x ∧ x ≤ (9223372036854775807 : Int)) ∧
 ((-9223372036854775808 : Int) ≤ g_2.snd.fst ∧
 g_2.snd.fst ≤ (9223372036854775807 : Int)) ∧
 True →
 (decide (g_2.snd.fst < (8 : Int)) = true →
 ((0 : Int) ≤ g_2.snd.fst ∧ g_2.snd.fst < (↑(8 : Nat) : Int)) ∧
 (g.fst.fst.getD g_2.snd.fst.toNat false = true →
 (g_2.fst.snd.snd.length +
 (((0 : Int) :: ([] : List Int)).set (0 : Nat) g_2.snd.fst).length ≤
 (9223372036854775807 : Nat) ∧
 (g_2.fst.snd.snd.length +
 (((0 : Int) :: ([] : List Int)).set (0 : Nat)
 g_2.snd.fst).length +
 (g_2.fst.snd.snd.length +
 (((0 : Int) :: ([] : List Int)).set (0 : Nat)
 g_2.snd.fst).length) /
 (4 : Nat) +
 (192 : Nat)) *
 (8 : Nat) ≤
 (281474976710656 : Nat)) ∧
 (((rai
 (↑((List.brecOn.go (motive := fun x ↦ List Int → List Int)
 g_2.fst.snd.snd List.append._f).1
 (((0 : Int) :: ([] : List Int)).set (0 : Nat)
 g_2.snd.fst)).length :
 Int)
 g_2.fst.fst g_2.fst.snd.fst =
 rai
 (↑((List.brecOn.go (motive := fun x ↦ List Int → List Int)
 g_2.fst.snd.snd List.append._f).1
 (((0 : Int) :: ([] : List Int)).set (0 : Nat)
 g_2.snd.fst)).length :
 Int)
 g_2.fst.1 g_2.fst.snd.1 ∧
 ∀ (r : Int × Int), r ∈ g_2.fst.snd.fst → softB r.snd = true) ∧
 True) ∧
 ((True ∧ True) ∧ True) ∧
 ((g_2.fst.fst = g_2.fst.fst ∧
 g_2.fst.snd.fst = g_2.fst.snd.fst ∧ True ∧ True) ∧
 ((0 : Int) :: ([] : List Int)).set (0 : Nat) g_2.snd.fst =
 ((0 : Int) :: ([] : List Int)).set (0 : Nat) g_2.snd.fst ∧
 g_2.fst.snd.snd ++
 ((0 : Int) :: ([] : List Int)).set (0 : Nat) g_2.snd.fst =
 g_2.fst.snd.snd ++
 ((0 : Int) :: ([] : List Int)).set (0 : Nat) g_2.snd.fst ∧
 True) ∧
 (True ∧ True) ∧
 True ∧
 True ∧
 g_2.snd.fst = g_2.snd.fst ∧
 g.fst.fst.getD g_2.snd.fst.toNat false =
 g.fst.fst.getD g_2.snd.fst.toNat false ∧
 True ∧
 True ∧
 True ∧
 True ∧
 True ∧
 True ∧
 True ∧
 True ∧
 (g.fst.fst = g.fst.fst ∧ True) ∧
 g_2.snd.fst = g_2.snd.fst ∧
 true = true ∧
 g_2.snd.fst = g_2.snd.fst ∧
 g.fst.fst.getD g_2.snd.fst.toNat
 false =
 g.fst.fst.getD g_2.snd.fst.toNat
 false ∧
 true = true ∧
 (True ∧ True) ∧
 (True ∧ True) ∧
 (True ∧ True) ∧
 (True ∧ True) ∧
 True ∧
 g_2.snd.fst =
 g_2.snd.fst ∧
 True ∧
 True ∧
 (True ∧ True) ∧
 (True ∧
 True) ∧
 (True ∧
 True) ∧
 True ∧
 True ∧
 True ∧
 True ∧
 x.snd.snd.fst =
 x.snd.snd.fst ∧
 True ∧
 True ∧
 True ∧
 True ∧
 True ∧
 True ∧
 (True ∧
 True) ∧
 True ∧
 True ∧
 g.snd.fst =
 g.snd.fst ∧
 g.snd.snd.fst =
 g.snd.snd.fst ∧
 True ∧
 True ∧
 True ∧
 True ∧
 True ∧
 True ∧
 True ∧
 True ∧
 True ∧
 True ∧
 True ∧
 True ∧
 True ∧
 True ∧
 True ∧
 True ∧
 True ∧
 True ∧
 True ∧
 True ∧
 True ∧
 True ∧
 True ∧
 True ∧
 True ∧
 True ∧
 True ∧
 (True ∧
 True) ∧
 true =
 true ∧
 True ∧
 True ∧
 (True ∧
 True) ∧
 True ∧
 True ∧
 True ∧
 True ∧
 True ∧
 True ∧
 True ∧
 True ∧
 True ∧
 True ∧
 True ∧
 True ∧
 True ∧
 True ∧
 True) ∧
 ∀ (g_3 : (List Bool × List (Int × Int) × Unit) × Unit),
 (rai
 (↑((List.brecOn.go (motive := fun x ↦ List Int → List Int)
 g_2.fst.snd.snd List.append._f).1
 (((0 : Int) :: ([] : List Int)).set (0 : Nat)
 g_2.snd.fst)).length :
 Int)
 g_3.fst.fst g_3.fst.snd.fst =
 rai
 (↑((List.brecOn.go (motive := fun x ↦ List Int → List Int)
 g_2.fst.snd.snd List.append._f).1
 (((0 : Int) :: ([] : List Int)).set (0 : Nat)
 g_2.snd.fst)).length :
 Int)
 g_2.fst.1 g_2.fst.snd.1 ∧
 ∀ (r : Int × Int), r ∈ g_3.fst.snd.fst → softB r.snd = true) →
 ((g_3.fst.fst.length = (8 : Nat) ∧
 ∀ (x : Bool), x ∈ g_3.fst.fst → True) ∧
 (g_3.fst.snd.fst.length ≤ (9223372036854775807 : Nat) ∧
 ∀ (x : Int × Int),
 x ∈ g_3.fst.snd.fst →
 ((-9223372036854775808 : Int) ≤ x.fst ∧
 x.fst ≤ (9223372036854775807 : Int)) ∧
 (-9223372036854775808 : Int) ≤ x.snd ∧
 x.snd ≤ (9223372036854775807 : Int)) ∧
 True) ∧
 True →
 (decide ((0 : Int) < (↑g_3.fst.snd.fst.length : Int)) = true →
 ((0 : Int) ≤ (0 : Int) ∧
 (0 : Int) < (↑g_3.fst.snd.fst.length : Int)) ∧
 (decide
 ((g_3.fst.snd.fst.getD (Int.toNat (0 : Int))
 ((0 : Int), (0 : Int))).fst ≤
 (↑(g_2.fst.snd.snd ++
 ((0 : Int) :: ([] : List Int)).set (0 : Nat)
 g_2.snd.fst).length :
 Int)) =
 true →
 ((0 : Int) ≤ (0 : Int) ∧
 (0 : Int) < (↑g_3.fst.snd.fst.length : Int)) ∧
 ((0 : Int) ≤
 (g_3.fst.snd.fst.getD (Int.toNat (0 : Int))
 ((0 : Int), (0 : Int))).snd ∧
 (g_3.fst.snd.fst.getD (Int.toNat (0 : Int))
 ((0 : Int), (0 : Int))).snd <
 (↑(8 : Nat) : Int)) ∧
 (((0 : Int) ≤ (1 : Int) ∧
 (1 : Int) ≤ (↑g_3.fst.snd.fst.length : Int)) ∧
 (↑g_3.fst.snd.fst.length : Int) ≤
 (↑g_3.fst.snd.fst.length : Int)) ∧
 ((rai
 (↑((List.brecOn.go (motive := fun x ↦
 List Int → List Int)
 g_2.fst.snd.snd
 List.append._f).1
 (((0 : Int) :: ([] : List Int)).set
 (0 : Nat) g_2.snd.fst)).length :
 Int)
 (g_3.fst.fst.set
 (g_3.fst.snd.fst.getD
 (Int.toNat (0 : Int))
 ((0 : Int), (0 : Int))).snd.toNat
 true)
 (List.drop (Int.toNat (1 : Int))
 (List.take
 (↑g_3.fst.snd.fst.length : Int).toNat
 g_3.fst.snd.fst)) =
 rai
 (↑((List.brecOn.go (motive := fun x ↦
 List Int → List Int)
 g_2.fst.snd.snd
 List.append._f).1
 (((0 : Int) :: ([] : List Int)).set
 (0 : Nat) g_2.snd.fst)).length :
 Int)
 g_2.fst.1 g_2.fst.snd.1 ∧
 ∀ (r : Int × Int),
 r ∈
 List.drop (Int.toNat (1 : Int))
 (List.take
 (↑g_3.fst.snd.fst.length : Int).toNat
 g_3.fst.snd.fst) →
 softB r.snd = true) ∧
 (List.drop (Int.toNat (1 : Int))
 (List.take
 (↑g_3.fst.snd.fst.length : Int).toNat
 g_3.fst.snd.fst)).length <
 g_3.fst.snd.fst.length) ∧
 ((True ∧ True) ∧ True) ∧
 ((g_3.fst.fst.set
 (g_3.fst.snd.fst.getD
 (Int.toNat (0 : Int))
 ((0 : Int), (0 : Int))).snd.toNat
 true =
 g_3.fst.fst.set
 (g_3.fst.snd.fst.getD
 (Int.toNat (0 : Int))
 ((0 : Int), (0 : Int))).snd.toNat
 true ∧
 List.drop (Int.toNat (1 : Int))
 (List.take
 (↑g_3.fst.snd.fst.length :
 Int).toNat
 g_3.fst.snd.fst) =
 List.drop (Int.toNat (1 : Int))
 (List.take
 (↑g_3.fst.snd.fst.length :
 Int).toNat
 g_3.fst.snd.fst) ∧
 True ∧ True) ∧
 ((0 : Int) :: ([] : List Int)).set (0 : Nat)
 g_2.snd.fst =
 ((0 : Int) :: ([] : List Int)).set
 (0 : Nat) g_2.snd.fst ∧
 g_2.fst.snd.snd ++
 ((0 : Int) :: ([] : List Int)).set
 (0 : Nat) g_2.snd.fst =
 g_2.fst.snd.snd ++
 ((0 : Int) :: ([] : List Int)).set
 (0 : Nat) g_2.snd.fst ∧
 True) ∧
 (True ∧ True) ∧
 True ∧
 True ∧
 g_2.snd.fst = g_2.snd.fst ∧
 g.fst.fst.getD g_2.snd.fst.toNat false =
 g.fst.fst.getD g_2.snd.fst.toNat
 false ∧
 True ∧
 True ∧
 True ∧
 True ∧
 True ∧
 True ∧
 True ∧
 True ∧
 (g.fst.fst =
 g.fst.fst ∧
 True) ∧
 g_2.snd.fst =
 g_2.snd.fst ∧
 true = true ∧
 g_2.snd.fst =
 g_2.snd.fst ∧
 g.fst.fst.getD
 g_2.snd.fst.toNat
 false =
 g.fst.fst.getD
 g_2.snd.fst.toNat
 false ∧
 true =
 true ∧
 (True ∧
 True) ∧
 (True ∧
 True) ∧
 (True ∧
 True) ∧
 (True ∧
 True) ∧
 True ∧
 g_2.snd.fst =
 g_2.snd.fst ∧
 True ∧
 True ∧
 (True ∧
 True) ∧
 (True ∧
 True) ∧
 (True ∧
 True) ∧
 True ∧
 True ∧
 True ∧
 True ∧
 x.snd.snd.fst =
 x.snd.snd.fst ∧
 True ∧
 True ∧
 True ∧
 True ∧
 True ∧
 True ∧
 (True ∧
 True) ∧
 True ∧
 True ∧
 g.snd.fst =
 g.snd.fst ∧
 g.snd.snd.fst =
 g.snd.snd.fst ∧
 True ∧
 True ∧
 True ∧
 True ∧
 True ∧
 True ∧
 True ∧
 True ∧
 True ∧
 True ∧
 True ∧
 True ∧
 True ∧
 True ∧
 True ∧
 True ∧
 True ∧
 True ∧
 True ∧
 True ∧
 True ∧
 True ∧
 True ∧
 True ∧
 True ∧
 True ∧
 True ∧
 (True ∧
 True) ∧
 true =
 true ∧
 True ∧
 True ∧
 (True ∧
 True) ∧
 True ∧
 True ∧
 True ∧
 True ∧
 True ∧
 True ∧
 True ∧
 True ∧
 True ∧
 True ∧
 True ∧
 True ∧
 True ∧
 True ∧
 True) ∧
 (decide
 ((g_3.fst.snd.fst.getD (Int.toNat (0 : Int))
 ((0 : Int), (0 : Int))).fst ≤
 (↑(g_2.fst.snd.snd ++
 ((0 : Int) :: ([] : List Int)).set (0 : Nat)
 g_2.snd.fst).length :
 Int)) =
 false →
 ((-9223372036854775808 : Int) ≤ g_2.snd.fst + (1 : Int) ∧
 g_2.snd.fst + (1 : Int) ≤ (9223372036854775807 : Int)) ∧
 (((0 : Int) ≤ g_2.snd.fst + (1 : Int) ∧
 g_2.snd.fst + (1 : Int) ≤ (8 : Int) ∧
 (g_3.fst.fst,
 g_2.fst.snd.snd ++
 ((0 : Int) :: ([] : List Int)).set
 (0 : Nat) g_2.snd.fst) =
 rnd x.snd.fst g.fst.1 g.fst.snd.2
 (g_2.snd.fst + (1 : Int)).toNat ∧
 g_3.fst.snd.fst =
 left x.snd.fst
 ((↑(g_2.fst.snd.snd ++
 ((0 : Int) :: ([] : List Int)).set
 (0 : Nat) g_2.snd.fst).length :
 Int) +
 (1 : Int))) ∧
 ((8 : Int) - (g_2.snd.fst + (1 : Int))).toNat <
 ((8 : Int) - g_2.snd.fst).toNat) ∧
 ((True ∧ True) ∧
 (g.fst.fst = g.fst.fst ∧ True) ∧
 g_2.snd.fst + (1 : Int) =
 g_2.snd.fst + (1 : Int) ∧
 True) ∧
 ((g_3.fst.fst = g_3.fst.fst ∧
 g_3.fst.snd.fst = g_3.fst.snd.fst ∧
 True ∧ True) ∧
 g_2.fst.snd.snd ++
 ((0 : Int) :: ([] : List Int)).set (0 : Nat)
 g_2.snd.fst =
 g_2.fst.snd.snd ++
 ((0 : Int) :: ([] : List Int)).set (0 : Nat)
 g_2.snd.fst ∧
 True) ∧
 True ∧
 True ∧
 x.snd.snd.fst = x.snd.snd.fst ∧
 True ∧
 True ∧
 True ∧
 True ∧
 True ∧
 True ∧
 (True ∧ True) ∧
 True ∧
 True ∧
 g.snd.fst = g.snd.fst ∧
 g.snd.snd.fst =
 g.snd.snd.fst ∧
 True ∧
 True ∧
 True ∧
 True ∧
 True ∧
 True ∧
 True ∧
 True ∧
 True ∧
 True ∧
 True ∧
 True ∧
 True ∧
 True ∧
 True ∧
 True ∧
 True ∧
 True ∧
 True ∧
 True ∧
 True ∧
 True ∧
 True ∧
 True ∧
 True ∧
 True ∧
 True ∧
 (True ∧
 True) ∧
 true =
 true ∧
 True ∧
 True ∧
 (True ∧
 True) ∧
 True ∧
 True ∧
 True ∧
 True ∧
 True ∧
 True ∧
 True ∧
 True ∧
 True ∧
 True ∧
 True ∧
 True ∧
 True ∧
 True ∧
 True)) ∧
 (decide ((0 : Int) < (↑g_3.fst.snd.fst.length : Int)) = !true →
 ((-9223372036854775808 : Int) ≤ g_2.snd.fst + (1 : Int) ∧
 g_2.snd.fst + (1 : Int) ≤ (9223372036854775807 : Int)) ∧
 (((0 : Int) ≤ g_2.snd.fst + (1 : Int) ∧
 g_2.snd.fst + (1 : Int) ≤ (8 : Int) ∧
 (g_3.fst.fst,
 g_2.fst.snd.snd ++
 ((0 : Int) :: ([] : List Int)).set (0 : Nat)
 g_2.snd.fst) =
 rnd x.snd.fst g.fst.1 g.fst.snd.2
 (g_2.snd.fst + (1 : Int)).toNat ∧
 g_3.fst.snd.fst =
 left x.snd.fst
 ((↑(g_2.fst.snd.snd ++
 ((0 : Int) :: ([] : List Int)).set
 (0 : Nat) g_2.snd.fst).length :
 Int) +
 (1 : Int))) ∧
 ((8 : Int) - (g_2.snd.fst + (1 : Int))).toNat <
 ((8 : Int) - g_2.snd.fst).toNat) ∧
 ((True ∧ True) ∧
 (g.fst.fst = g.fst.fst ∧ True) ∧
 g_2.snd.fst + (1 : Int) = g_2.snd.fst + (1 : Int) ∧
 True) ∧
 ((g_3.fst.fst = g_3.fst.fst ∧
 g_3.fst.snd.fst = g_3.fst.snd.fst ∧ True ∧ True) ∧
 g_2.fst.snd.snd ++
 ((0 : Int) :: ([] : List Int)).set (0 : Nat)
 g_2.snd.fst =
 g_2.fst.snd.snd ++
 ((0 : Int) :: ([] : List Int)).set (0 : Nat)
 g_2.snd.fst ∧
 True) ∧
 True ∧
 True ∧
 x.snd.snd.fst = x.snd.snd.fst ∧
 True ∧
 True ∧
 True ∧
 True ∧
 True ∧
 True ∧
 (True ∧ True) ∧
 True ∧
 True ∧
 g.snd.fst = g.snd.fst ∧
 g.snd.snd.fst = g.snd.snd.fst ∧
 True ∧
 True ∧
 True ∧
 True ∧
 True ∧
 True ∧
 True ∧
 True ∧
 True ∧
 True ∧
 True ∧
 True ∧
 True ∧
 True ∧
 True ∧
 True ∧
 True ∧
 True ∧
 True ∧
 True ∧
 True ∧
 True ∧
 True ∧
 True ∧
 True ∧
 True ∧
 True ∧
 (True ∧
 True) ∧
 true =
 true ∧
 True ∧
 True ∧
 (True ∧
 True) ∧
 True ∧
 True ∧
 True ∧
 True ∧
 True ∧
 True ∧
 True ∧
 True ∧
 True ∧
 True ∧
 True ∧
 True ∧
 True ∧
 True ∧
 True)) ∧
 (g.fst.fst.getD g_2.snd.fst.toNat false = false →
 ((-9223372036854775808 : Int) ≤ g_2.snd.fst + (1 : Int) ∧
 g_2.snd.fst + (1 : Int) ≤ (9223372036854775807 : Int)) ∧
 (((0 : Int) ≤ g_2.snd.fst + (1 : Int) ∧
 g_2.snd.fst + (1 : Int) ≤ (8 : Int) ∧
 (g_2.fst.fst, g_2.fst.snd.snd) =
 rnd x.snd.fst g.fst.1 g.fst.snd.2
 (g_2.snd.fst + (1 : Int)).toNat ∧
 g_2.fst.snd.fst =
 left x.snd.fst ((↑g_2.fst.snd.snd.length : Int) + (1 : Int))) ∧
 ((8 : Int) - (g_2.snd.fst + (1 : Int))).toNat <
 ((8 : Int) - g_2.snd.fst).toNat) ∧
 ((True ∧ True) ∧
 (g.fst.fst = g.fst.fst ∧ True) ∧
 g_2.snd.fst + (1 : Int) = g_2.snd.fst + (1 : Int) ∧ True) ∧
 ((g_2.fst.fst = g_2.fst.fst ∧
 g_2.fst.snd.fst = g_2.fst.snd.fst ∧ True ∧ True) ∧
 g_2.fst.snd.snd = g_2.fst.snd.snd ∧ True) ∧
 True ∧
 True ∧
 x.snd.snd.fst = x.snd.snd.fst ∧
 True ∧
 True ∧
 True ∧
 True ∧
 True ∧
 True ∧
 (True ∧ True) ∧
 True ∧
 True ∧
 g.snd.fst = g.snd.fst ∧
 g.snd.snd.fst = g.snd.snd.fst ∧
 True ∧
 True ∧
 True ∧
 True ∧
 True ∧
 True ∧
 True ∧
 True ∧
 True ∧
 True ∧
 True ∧
 True ∧
 True ∧
 True ∧
 True ∧
 True ∧
 True ∧
 True ∧
 True ∧
 True ∧
 True ∧
 True ∧
 True ∧
 True ∧
 True ∧
 True ∧
 True ∧
 (True ∧
 True) ∧
 true =
 true ∧
 True ∧
 True ∧
 (True ∧
 True) ∧
 True ∧
 True ∧
 True ∧
 True ∧
 True ∧
 True ∧
 True ∧
 True ∧
 True ∧
 True ∧
 True ∧
 True ∧
 True ∧
 True ∧
 True)) ∧
 (decide (g_2.snd.fst < (8 : Int)) = false →
 (decide (g.snd.snd.fst < x.snd.snd.fst) = true →
 ((-9223372036854775808 : Int) ≤ g.snd.snd.fst + (1 : Int) ∧
 g.snd.snd.fst + (1 : Int) ≤ (9223372036854775807 : Int)) ∧
 (((0 : Int) ≤ g.snd.snd.fst + (1 : Int) ∧
 Right x.fst x.snd.fst ∧
 ((0 : Int) ≤ x.snd.snd.fst ∧ x.snd.snd.fst ≤ (400 : Int)) ∧
 (g_2.fst.fst, g_2.fst.snd.snd) =
 sst x.fst x.snd.fst (g.snd.snd.fst + (1 : Int)).toNat ∧
 g_2.fst.snd.fst =
 left x.snd.fst ((↑g_2.fst.snd.snd.length : Int) + (1 : Int)) ∧
 (↑g_2.fst.snd.snd.length : Int) =
 ahd x.fst x.snd.fst x.snd.snd.fst
 (g.snd.snd.fst + (1 : Int)).toNat ∧
 going x.fst x.snd.fst (g.snd.snd.fst + (1 : Int))) ∧
 (408 : Nat) - (g.snd.snd.fst + (1 : Int)).toNat <
 (408 : Nat) - g.snd.snd.fst.toNat) ∧
 (x.snd.snd.fst = x.snd.snd.fst ∧
 (True ∧ True) ∧
 (↑g_2.fst.snd.snd.length : Int) = (↑g_2.fst.snd.snd.length : Int) ∧
 g.snd.snd.fst + (1 : Int) = g.snd.snd.fst + (1 : Int) ∧ True) ∧
 ((g_2.fst.fst = g_2.fst.fst ∧
 g_2.fst.snd.fst = g_2.fst.snd.fst ∧ True ∧ True) ∧
 g_2.fst.snd.snd = g_2.fst.snd.snd ∧ True) ∧
 True) ∧
 (decide (g.snd.snd.fst < x.snd.snd.fst) = false →
 ((-9223372036854775808 : Int) ≤ g.snd.snd.fst + (1 : Int) ∧
 g.snd.snd.fst + (1 : Int) ≤ (9223372036854775807 : Int)) ∧
 (((0 : Int) ≤ g.snd.snd.fst + (1 : Int) ∧
 Right x.fst x.snd.fst ∧
 ((0 : Int) ≤ x.snd.snd.fst ∧ x.snd.snd.fst ≤ (400 : Int)) ∧
 (g_2.fst.fst, g_2.fst.snd.snd) =
 sst x.fst x.snd.fst (g.snd.snd.fst + (1 : Int)).toNat ∧
 g_2.fst.snd.fst =
 left x.snd.fst ((↑g_2.fst.snd.snd.length : Int) + (1 : Int)) ∧
 g.snd.fst =
 ahd x.fst x.snd.fst x.snd.snd.fst
 (g.snd.snd.fst + (1 : Int)).toNat ∧
 going x.fst x.snd.fst (g.snd.snd.fst + (1 : Int))) ∧
 (408 : Nat) - (g.snd.snd.fst + (1 : Int)).toNat <
 (408 : Nat) - g.snd.snd.fst.toNat) ∧
 (x.snd.snd.fst = x.snd.snd.fst ∧
 (True ∧ True) ∧
 g.snd.fst = g.snd.fst ∧
 g.snd.snd.fst + (1 : Int) = g.snd.snd.fst + (1 : Int) ∧ True) ∧
 ((g_2.fst.fst = g_2.fst.fst ∧
 g_2.fst.snd.fst = g_2.fst.snd.fst ∧ True ∧ True) ∧
 g_2.fst.snd.snd = g_2.fst.snd.snd ∧ True) ∧
 True))) ∧
 (g.fst.fst.contains true = false →
 g.fst.snd.snd = (run x.fst x.snd.fst x.snd.snd.fst).fst ∧
 g.snd.fst = (run x.fst x.snd.fst x.snd.snd.fst).snd.fst ∧
 (0 : Int) = (run x.fst x.snd.fst x.snd.snd.fst).snd.snd.fst)))))

theorem E_run_eq (x : HL (cRun : Ctr).as) : vc (fx_run x) 4 22 Try.f22 (cRun) x = E_run x := by kernel_rfl

def E_jrun (x : List Int × List (Int × Int) × Int × Unit) : Prop :=
 ((((0 : Int) ≤ (0 : Int) ∧
 (0 : Int) ≤ (↑x.fst.length : Int) ∧
 MR ([] : List (Int × Bool)) (pend (List.take (Int.toNat (0 : Int)) x.fst)) ∧ (↑([] : List (Int × Bool)).length : Int) ≤ (0 : Int)) ∧
 True) ∧
 (x.snd.snd.fst = x.snd.snd.fst ∧
 (True ∧ True) ∧ True ∧ x.fst = x.fst ∧ (↑x.fst.length : Int) = (↑x.fst.length : Int) ∧ (0 : Int) = (0 : Int) ∧ True) ∧
 (([] : List (Int × Bool)) = ([] : List (Int × Bool)) ∧ (x.snd.fst = x.snd.fst ∧ True) ∧ True) ∧ True) ∧
 ∀ (g : List (Int × Bool) × Int × Unit),
 (0 : Int) ≤ g.snd.fst ∧
 g.snd.fst ≤ (↑x.fst.length : Int) ∧ MR g.fst (pend (List.take g.snd.fst.toNat x.fst)) ∧ (↑g.fst.length : Int) ≤ g.snd.fst →
 (∀ (e : Int × Bool), e ∈ g.fst → ((-9223372036854775808 : Int) ≤ e.fst ∧ e.fst ≤ (9223372036854775807 : Int)) ∧ True) ∧
 ((-9223372036854775808 : Int) ≤ g.snd.fst ∧ g.snd.fst ≤ (9223372036854775807 : Int)) ∧ True →
 (decide (g.snd.fst < (↑x.fst.length : Int)) = true →
 ((0 : Int) ≤ g.snd.fst ∧ g.snd.fst < (↑x.fst.length : Int)) ∧
 ((-9223372036854775808 : Int) ≤ g.snd.fst + (1 : Int) ∧ g.snd.fst + (1 : Int) ≤ (9223372036854775807 : Int)) ∧
 (((0 : Int) ≤ g.snd.fst + (1 : Int) ∧
 g.snd.fst + (1 : Int) ≤ (↑x.fst.length : Int) ∧
 MR (mput Ty.bool g.fst (x.fst.getD g.snd.fst.toNat (0 : Int)) true) (pend (List.take (g.snd.fst + (1 : Int)).toNat x.fst)) ∧
 (↑(mput Ty.bool g.fst (x.fst.getD g.snd.fst.toNat (0 : Int)) true).length : Int) ≤ g.snd.fst + (1 : Int)) ∧
 ((↑x.fst.length : Int) - (g.snd.fst + (1 : Int))).toNat < ((↑x.fst.length : Int) - g.snd.fst).toNat) ∧
 (x.snd.snd.fst = x.snd.snd.fst ∧
 (True ∧ True) ∧
 True ∧ x.fst = x.fst ∧ (↑x.fst.length : Int) = (↑x.fst.length : Int) ∧ g.snd.fst + (1 : Int) = g.snd.fst + (1 : Int) ∧ True) ∧
 (mput Ty.bool g.fst (x.fst.getD g.snd.fst.toNat (0 : Int)) true = mput Ty.bool g.fst (x.fst.getD g.snd.fst.toNat (0 : Int)) true ∧
 (x.snd.fst = x.snd.fst ∧ True) ∧ True) ∧
 True) ∧
 (decide (g.snd.fst < (↑x.fst.length : Int)) = false →
 ((((0 : Int) ≤ (0 : Int) ∧
 (0 : Int) ≤ (↑x.snd.fst.length : Int) ∧
 (∀ (p : List Bool), MR g.1 p → MR g.fst (come (0 : Int) (List.take (Int.toNat (0 : Int)) x.snd.fst) p)) ∧
 (↑g.fst.length : Int) ≤ (↑g.1.length : Int) + (0 : Int)) ∧
 True) ∧
 ((0 : Int) = (0 : Int) ∧
 True ∧ x.snd.fst = x.snd.fst ∧ (↑x.snd.fst.length : Int) = (↑x.snd.fst.length : Int) ∧ (0 : Int) = (0 : Int) ∧ True) ∧
 (g.fst = g.fst ∧ (x.snd.fst = x.snd.fst ∧ True) ∧ (True ∧ (True ∧ True) ∧ True) ∧ True) ∧
 True ∧
 True ∧
 x.snd.snd.fst = x.snd.snd.fst ∧
 True ∧
 (True ∧ True) ∧
 True ∧
 True ∧
 True ∧
 True ∧
 True ∧
 True ∧
 Value.slice none (0 : Nat) (0 : Nat) = Value.slice none (0 : Nat) (0 : Nat) ∧
 True ∧
 True ∧
 True ∧
 True ∧
 True ∧
 True ∧
 x.fst = x.fst ∧
 (↑x.fst.length : Int) = (↑x.fst.length : Int) ∧
 g.snd.fst = g.snd.fst ∧
 false = false ∧
 True ∧
 True ∧
 True ∧
 True ∧
 True ∧
 True ∧
 True ∧
 True ∧
 True ∧
 True ∧
 True ∧
 True ∧
 True ∧
 True ∧
 True ∧
 True ∧
 True ∧
 True ∧
 True ∧
 True ∧
 True ∧
 True ∧
 True ∧
 True ∧
 True ∧
 True ∧
 True ∧
 True ∧
 True ∧
 True ∧
 True ∧
 True ∧
 True ∧
 True ∧
 True ∧
 True ∧
 True ∧
 True ∧
 True ∧
 True) ∧
 ∀ (g_1 : List (Int × Bool) × Int × Unit),
 (0 : Int) ≤ g_1.snd.fst ∧
 g_1.snd.fst ≤ (↑x.snd.fst.length : Int) ∧
 (∀ (p : List Bool), MR g.1 p → MR g_1.fst (come (0 : Int) (List.take g_1.snd.fst.toNat x.snd.fst) p)) ∧
 (↑g_1.fst.length : Int) ≤ (↑g.1.length : Int) + g_1.snd.fst →
 (∀ (e : Int × Bool), e ∈ g_1.fst → ((-9223372036854775808 : Int) ≤ e.fst ∧ e.fst ≤ (9223372036854775807 : Int)) ∧ True) ∧
 ((-9223372036854775808 : Int) ≤ g_1.snd.fst ∧ g_1.snd.fst ≤ (9223372036854775807 : Int)) ∧ True →
 (decide (g_1.snd.fst < (↑x.snd.fst.length : Int)) = true →
 ((0 : Int) ≤ g_1.snd.fst ∧ g_1.snd.fst < (↑x.snd.fst.length : Int)) ∧
 (((x.snd.fst.getD g_1.snd.fst.toNat ((0 : Int), (0 : Int))).fst == (0 : Int)) = true →
 ((-9223372036854775808 : Int) ≤ g_1.snd.fst + (1 : Int) ∧ g_1.snd.fst + (1 : Int) ≤ (9223372036854775807 : Int)) ∧
 (((0 : Int) ≤ g_1.snd.fst + (1 : Int) ∧
 g_1.snd.fst + (1 : Int) ≤ (↑x.snd.fst.length : Int) ∧
 (∀ (p : List Bool),
 MR g.1 p →
 MR (mput Ty.bool g_1.fst (x.snd.fst.getD g_1.snd.fst.toNat ((0 : Int), (0 : Int))).snd true)
 (come (0 : Int) (List.take (g_1.snd.fst + (1 : Int)).toNat x.snd.fst) p)) ∧
 (↑(mput Ty.bool g_1.fst (x.snd.fst.getD g_1.snd.fst.toNat ((0 : Int), (0 : Int))).snd true).length : Int) ≤
 (↑g.1.length : Int) + (g_1.snd.fst + (1 : Int))) ∧
 ((↑x.snd.fst.length : Int) - (g_1.snd.fst + (1 : Int))).toNat < ((↑x.snd.fst.length : Int) - g_1.snd.fst).toNat) ∧
 ((0 : Int) = (0 : Int) ∧
 True ∧
 x.snd.fst = x.snd.fst ∧
 (↑x.snd.fst.length : Int) = (↑x.snd.fst.length : Int) ∧
 g_1.snd.fst + (1 : Int) = g_1.snd.fst + (1 : Int) ∧ True) ∧
 (mput Ty.bool g_1.fst (x.snd.fst.getD g_1.snd.fst.toNat ((0 : Int), (0 : Int))).snd true =
 mput Ty.bool g_1.fst (x.snd.fst.getD g_1.snd.fst.toNat ((0 : Int), (0 : Int))).snd true ∧
 (x.snd.fst = x.snd.fst ∧ True) ∧ (True ∧ (True ∧ True) ∧ True) ∧ True) ∧
 True ∧
 True ∧
 x.snd.snd.fst = x.snd.snd.fst ∧
 True ∧
 (True ∧ True) ∧
 True ∧
 True ∧
 True ∧
 True ∧
 True ∧
 True ∧
 Value.slice none (0 : Nat) (0 : Nat) = Value.slice none (0 : Nat) (0 : Nat) ∧
 True ∧
 True ∧
 True ∧
 True ∧
 True ∧
 True ∧
 x.fst = x.fst ∧
 (↑x.fst.length : Int) = (↑x.fst.length : Int) ∧
 g.snd.fst = g.snd.fst ∧
 false = false ∧
 True ∧
 True ∧
 True ∧
 True ∧
 True ∧
 True ∧
 True ∧
 True ∧
 True ∧
 True ∧
 True ∧
 True ∧
 True ∧
 True ∧
 True ∧
 True ∧
 True ∧
 True ∧
 True ∧
 True ∧
 True ∧
 True ∧
 True ∧
 True ∧
 True ∧
 True ∧
 True ∧
 True ∧
 True ∧
 True ∧
 True ∧
 True ∧
 True ∧
 True ∧
 True ∧
 True ∧
 True ∧
 True ∧
 True ∧
 True) ∧
 (((x.snd.fst.getD g_1.snd.fst.toNat ((0 : Int), (0 : Int))).fst == (0 : Int)) = false →
 ((-9223372036854775808 : Int) ≤ g_1.snd.fst + (1 : Int) ∧ g_1.snd.fst + (1 : Int) ≤ (9223372036854775807 : Int)) ∧
 (((0 : Int) ≤ g_1.snd.fst + (1 : Int) ∧
 g_1.snd.fst + (1 : Int) ≤ (↑x.snd.fst.length : Int) ∧
 (∀ (p : List Bool),
 MR g.1 p → MR g_1.fst (come (0 : Int) (List.take (g_1.snd.fst + (1 : Int)).toNat x.snd.fst) p)) ∧
 (↑g_1.fst.length : Int) ≤ (↑g.1.length : Int) + (g_1.snd.fst + (1 : Int))) ∧
 ((↑x.snd.fst.length : Int) - (g_1.snd.fst + (1 : Int))).toNat < ((↑x.snd.fst.length : Int) - g_1.snd.fst).toNat) ∧
 ((0 : Int) = (0 : Int) ∧
 True ∧
 x.snd.fst = x.snd.fst ∧
 (↑x.snd.fst.length : Int) = (↑x.snd.fst.length : Int) ∧
 g_1.snd.fst + (1 : Int) = g_1.snd.fst + (1 : Int) ∧ True) ∧
 (g_1.fst = g_1.fst ∧ (x.snd.fst = x.snd.fst ∧ True) ∧ (True ∧ (True ∧ True) ∧ True) ∧ True) ∧
 True ∧
 True ∧
 x.snd.snd.fst = x.snd.snd.fst ∧
 True ∧
 (True ∧ True) ∧
 True ∧
 True ∧
 True ∧
 True ∧
 True ∧
 True ∧
 Value.slice none (0 : Nat) (0 : Nat) = Value.slice none (0 : Nat) (0 : Nat) ∧
 True ∧
 True ∧
 True ∧
 True ∧
 True ∧
 True ∧
 x.fst = x.fst ∧
 (↑x.fst.length : Int) = (↑x.fst.length : Int) ∧
 g.snd.fst = g.snd.fst ∧
 false = false ∧
 True ∧
 True ∧
 True ∧
 True ∧
 True ∧
 True ∧
 True ∧
 True ∧
 True ∧
 True ∧
 True ∧
 True ∧
 True ∧
 True ∧
 True ∧
 True ∧
 True ∧
 True ∧
 True ∧
 True ∧
 True ∧
 True ∧
 True ∧
 True ∧
 True ∧
 True ∧
 True ∧
 True ∧
 True ∧
 True ∧
 True ∧
 True ∧
 True ∧
 True ∧
 True ∧
 True ∧
 True ∧
 True ∧
 True ∧
 True)) ∧
 (decide (g_1.snd.fst < (↑x.snd.fst.length : Int)) = false →
 ((((0 : Int) ≤ (0 : Int) ∧
 MR g_1.fst (sst x.fst x.snd.fst (Int.toNat (0 : Int))).fst ∧
 ([] : List Int) = (sst x.fst x.snd.fst (Int.toNat (0 : Int))).snd ∧
 (0 : Int) = ahd x.fst x.snd.fst x.snd.snd.fst (Int.toNat (0 : Int)) ∧
 going x.fst x.snd.fst (0 : Int) ∧ (↑g_1.fst.length : Int) ≤ (↑x.fst.length : Int) + (4000 : Int)) ∧
 True) ∧
 (x.snd.snd.fst = x.snd.snd.fst ∧ True ∧ True ∧ True ∧ (0 : Int) = (0 : Int) ∧ (0 : Int) = (0 : Int) ∧ True) ∧
 (g_1.fst = g_1.fst ∧
 ([] : List Int) = ([] : List Int) ∧ (True ∧ (True ∧ True) ∧ True) ∧ (x.snd.fst = x.snd.fst ∧ True) ∧ True) ∧
 True) ∧
 ∀ (g : List (Int × Bool) × List Int × Int × Int × Unit),
 (0 : Int) ≤ g.snd.snd.snd.fst ∧
 MR g.fst (sst x.fst x.snd.fst g.snd.snd.snd.fst.toNat).fst ∧
 g.snd.fst = (sst x.fst x.snd.fst g.snd.snd.snd.fst.toNat).snd ∧
 g.snd.snd.fst = ahd x.fst x.snd.fst x.snd.snd.fst g.snd.snd.snd.fst.toNat ∧
 going x.fst x.snd.fst g.snd.snd.snd.fst ∧ (↑g.fst.length : Int) ≤ (↑x.fst.length : Int) + (4000 : Int) →
 (∀ (e : Int × Bool), e ∈ g.fst → ((-9223372036854775808 : Int) ≤ e.fst ∧ e.fst ≤ (9223372036854775807 : Int)) ∧ True) ∧
 (g.snd.fst.length ≤ (9223372036854775807 : Nat) ∧
 ∀ (x : Int), x ∈ g.snd.fst → (-9223372036854775808 : Int) ≤ x ∧ x ≤ (9223372036854775807 : Int)) ∧
 ((-9223372036854775808 : Int) ≤ g.snd.snd.fst ∧ g.snd.snd.fst ≤ (9223372036854775807 : Int)) ∧
 ((-9223372036854775808 : Int) ≤ g.snd.snd.snd.fst ∧ g.snd.snd.snd.fst ≤ (9223372036854775807 : Int)) ∧ True →
 g.fst.length ≤ (9223372036854775807 : Nat) ∧
 (decide ((0 : Int) < (↑g.fst.length : Int)) = true →
 ((((0 : Int) ≤ (0 : Int) ∧
 (0 : Int) ≤ (8 : Int) ∧
 (∃ p,
 MR ([] : List (Int × Bool)) p ∧
 (p, g.snd.fst) =
 rnd x.snd.fst (sst x.fst x.snd.fst g.snd.snd.snd.1.toNat).fst
 (sst x.fst x.snd.fst g.snd.snd.snd.1.toNat).snd (Int.toNat (0 : Int))) ∧
 (↑([] : List (Int × Bool)).length : Int) ≤ (400 : Int) * (0 : Int)) ∧
 True) ∧
 (x.snd.snd.fst = x.snd.snd.fst ∧
 True ∧
 True ∧
 True ∧
 g.snd.snd.fst = g.snd.snd.fst ∧
 g.snd.snd.snd.fst = g.snd.snd.snd.fst ∧ True ∧ (0 : Int) = (0 : Int) ∧ True) ∧
 (g.snd.fst = g.snd.fst ∧
 ([] : List (Int × Bool)) = ([] : List (Int × Bool)) ∧
 g.fst = g.fst ∧ (True ∧ (True ∧ True) ∧ True) ∧ (x.snd.fst = x.snd.fst ∧ True) ∧ True) ∧
 True) ∧
 ∀ (g_2 : List Int × List (Int × Bool) × Int × Unit),
 (0 : Int) ≤ g_2.snd.snd.fst ∧
 g_2.snd.snd.fst ≤ (8 : Int) ∧
 (∃ p,
 MR g_2.snd.fst p ∧
 (p, g_2.fst) =
 rnd x.snd.fst (sst x.fst x.snd.fst g.snd.snd.snd.1.toNat).fst
 (sst x.fst x.snd.fst g.snd.snd.snd.1.toNat).snd g_2.snd.snd.fst.toNat) ∧
 (↑g_2.snd.fst.length : Int) ≤ (400 : Int) * g_2.snd.snd.fst →
 (g_2.fst.length ≤ (9223372036854775807 : Nat) ∧
 ∀ (x : Int), x ∈ g_2.fst → (-9223372036854775808 : Int) ≤ x ∧ x ≤ (9223372036854775807 : Int)) ∧
 (∀ (e : Int × Bool),
 e ∈ g_2.snd.fst →
 ((-9223372036854775808 : Int) ≤ e.fst ∧ e.fst ≤ (9223372036854775807 : Int)) ∧ True) ∧
 ((-9223372036854775808 : Int) ≤ g_2.snd.snd.fst ∧ g_2.snd.snd.fst ≤ (9223372036854775807 : Int)) ∧
 True →
 (decide (g_2.snd.snd.fst < (8 : Int)) = true →
 (mval Ty.bool g.fst g_2.snd.snd.fst = true →
 (g_2.fst.length + (((0 : Int) :: ([] : List Int)).set (0 : Nat) g_2.snd.snd.fst).length ≤
 (9223372036854775807 : Nat) ∧
 (g_2.fst.length + (((0 : Int) :: ([] : List Int)).set (0 : Nat) g_2.snd.snd.fst).length +
 (g_2.fst.length +
 (((0 : Int) :: ([] : List Int)).set (0 : Nat) g_2.snd.snd.fst).length) /
 (4 : Nat) +
 (192 : Nat)) *
 (8 : Nat) ≤
 (281474976710656 : Nat)) ∧
 ((((0 : Int) ≤ (0 : Int) ∧
 (0 : Int) ≤ (↑x.snd.fst.length : Int) ∧
 (∀ (p : List Bool),
 MR g_2.snd.1 p →
 MR g_2.snd.fst
 (come
 (Int.ofNat
 (g_2.fst ++
 ((0 : Int) :: ([] : List Int)).set (0 : Nat)
 g_2.snd.snd.fst).length)
 (List.take (Int.toNat (0 : Int)) x.snd.fst) p)) ∧
 (↑g_2.snd.fst.length : Int) ≤ (↑g_2.snd.1.length : Int) + (0 : Int)) ∧
 True) ∧
 ((↑(g_2.fst ++ ((0 : Int) :: ([] : List Int)).set (0 : Nat) g_2.snd.snd.fst).length :
 Int) =
 (↑(g_2.fst ++ ((0 : Int) :: ([] : List Int)).set (0 : Nat) g_2.snd.snd.fst).length :
 Int) ∧
 True ∧
 x.snd.fst = x.snd.fst ∧
 (↑x.snd.fst.length : Int) = (↑x.snd.fst.length : Int) ∧
 (0 : Int) = (0 : Int) ∧ True) ∧
 (g_2.snd.fst = g_2.snd.fst ∧
 g.fst = g.fst ∧
 g_2.fst ++ ((0 : Int) :: ([] : List Int)).set (0 : Nat) g_2.snd.snd.fst =
 g_2.fst ++ ((0 : Int) :: ([] : List Int)).set (0 : Nat) g_2.snd.snd.fst ∧
 (True ∧ (True ∧ True) ∧ True) ∧
 (x.snd.fst = x.snd.fst ∧ True) ∧
 ((0 : Int) :: ([] : List Int)).set (0 : Nat) g_2.snd.snd.fst =
 ((0 : Int) :: ([] : List Int)).set (0 : Nat) g_2.snd.snd.fst ∧
 True) ∧
 True ∧
 True ∧
 x.snd.snd.fst = x.snd.snd.fst ∧
 True ∧
 True ∧
 True ∧
 True ∧
 True ∧
 True ∧
 True ∧
 True ∧
 True ∧
 True ∧
 g.snd.snd.fst = g.snd.snd.fst ∧
 g.snd.snd.snd.fst = g.snd.snd.snd.fst ∧
 True ∧
 g_2.snd.snd.fst = g_2.snd.snd.fst ∧
 True ∧
 True ∧
 True ∧
 True ∧
 True ∧
 True ∧
 True ∧
 True ∧
 True ∧
 True ∧
 True ∧
 True ∧
 True ∧
 True ∧
 True ∧
 True ∧
 True ∧
 True ∧
 True ∧
 True ∧
 g_2.snd.snd.fst =
 g_2.snd.snd.fst ∧
 true =
 true ∧
 g_2.snd.snd.fst =
 g_2.snd.snd.fst ∧
 True ∧
 g_2.snd.snd.fst =
 g_2.snd.snd.fst ∧
 true =
 true ∧
 True ∧
 g_2.snd.snd.fst =
 g_2.snd.snd.fst ∧
 True ∧
 True ∧
 True ∧
 True ∧
 (↑(g_2.fst ++
 ((0 :
 Int) ::
 ([] :
 List
 Int)).set
 (0 :
 Nat)
 g_2.snd.snd.fst).length :
 Int) =
 (↑(g_2.fst ++
 ((0 :
 Int) ::
 ([] :
 List
 Int)).set
 (0 :
 Nat)
 g_2.snd.snd.fst).length :
 Int) ∧
 True ∧
 True ∧
 True ∧
 True ∧
 True ∧
 True ∧
 True ∧
 True ∧
 True ∧
 True ∧
 True ∧
 True) ∧
 ∀ (g_3 : List (Int × Bool) × Int × Unit),
 (0 : Int) ≤ g_3.snd.fst ∧
 g_3.snd.fst ≤ (↑x.snd.fst.length : Int) ∧
 (∀ (p : List Bool),
 MR g_2.snd.1 p →
 MR g_3.fst
 (come
 (Int.ofNat
 (g_2.fst ++
 ((0 : Int) :: ([] : List Int)).set (0 : Nat)
 g_2.snd.snd.fst).length)
 (List.take g_3.snd.fst.toNat x.snd.fst) p)) ∧
 (↑g_3.fst.length : Int) ≤ (↑g_2.snd.1.length : Int) + g_3.snd.fst →
 (∀ (e : Int × Bool),
 e ∈ g_3.fst →
 ((-9223372036854775808 : Int) ≤ e.fst ∧ e.fst ≤ (9223372036854775807 : Int)) ∧
 True) ∧
 ((-9223372036854775808 : Int) ≤ g_3.snd.fst ∧
 g_3.snd.fst ≤ (9223372036854775807 : Int)) ∧
 True →
 (decide (g_3.snd.fst < (↑x.snd.fst.length : Int)) = true →
 ((0 : Int) ≤ g_3.snd.fst ∧ g_3.snd.fst < (↑x.snd.fst.length : Int)) ∧
 (((x.snd.fst.getD g_3.snd.fst.toNat ((0 : Int), (0 : Int))).fst ==
 (↑(g_2.fst ++
 ((0 : Int) :: ([] : List Int)).set (0 : Nat)
 g_2.snd.snd.fst).length :
 Int)) =
 true →
 ((-9223372036854775808 : Int) ≤ g_3.snd.fst + (1 : Int) ∧
 g_3.snd.fst + (1 : Int) ≤ (9223372036854775807 : Int)) ∧
 (((0 : Int) ≤ g_3.snd.fst + (1 : Int) ∧
 g_3.snd.fst + (1 : Int) ≤ (↑x.snd.fst.length : Int) ∧
 (∀ (p : List Bool),
 MR g_2.snd.1 p →
 MR
 (mput Ty.bool g_3.fst
 (x.snd.fst.getD g_3.snd.fst.toNat
 ((0 : Int), (0 : Int))).snd
 true)
 (come
 (Int.ofNat
 (g_2.fst ++
 ((0 : Int) :: ([] : List Int)).set (0 : Nat)
 g_2.snd.snd.fst).length)
 (List.take (g_3.snd.fst + (1 : Int)).toNat x.snd.fst)
 p)) ∧
 (↑(mput Ty.bool g_3.fst
 (x.snd.fst.getD g_3.snd.fst.toNat
 ((0 : Int), (0 : Int))).snd
 true).length :
 Int) ≤
 (↑g_2.snd.1.length : Int) + (g_3.snd.fst + (1 : Int))) ∧
 ((↑x.snd.fst.length : Int) - (g_3.snd.fst + (1 : Int))).toNat <
 ((↑x.snd.fst.length : Int) - g_3.snd.fst).toNat) ∧
 ((↑(g_2.fst ++
 ((0 : Int) :: ([] : List Int)).set (0 : Nat)
 g_2.snd.snd.fst).length :
 Int) =
 (↑(g_2.fst ++
 ((0 : Int) :: ([] : List Int)).set (0 : Nat)
 g_2.snd.snd.fst).length :
 Int) ∧
 True ∧
 x.snd.fst = x.snd.fst ∧
 (↑x.snd.fst.length : Int) = (↑x.snd.fst.length : Int) ∧
 g_3.snd.fst + (1 : Int) = g_3.snd.fst + (1 : Int) ∧ True) ∧
 (mput Ty.bool g_3.fst
 (x.snd.fst.getD g_3.snd.fst.toNat ((0 : Int), (0 : Int))).snd
 true =
 mput Ty.bool g_3.fst
 (x.snd.fst.getD g_3.snd.fst.toNat ((0 : Int), (0 : Int))).snd
 true ∧
 g.fst = g.fst ∧
 g_2.fst ++
 ((0 : Int) :: ([] : List Int)).set (0 : Nat)
 g_2.snd.snd.fst =
 g_2.fst ++
 ((0 : Int) :: ([] : List Int)).set (0 : Nat)
 g_2.snd.snd.fst ∧
 (True ∧ (True ∧ True) ∧ True) ∧
 (x.snd.fst = x.snd.fst ∧ True) ∧
 ((0 : Int) :: ([] : List Int)).set (0 : Nat)
 g_2.snd.snd.fst =
 ((0 : Int) :: ([] : List Int)).set (0 : Nat)
 g_2.snd.snd.fst ∧
 True) ∧
 True ∧
 True ∧
 x.snd.snd.fst = x.snd.snd.fst ∧
 True ∧
 True ∧
 True ∧
 True ∧
 True ∧
 True ∧
 True ∧
 True ∧
 True ∧
 True ∧
 g.snd.snd.fst = g.snd.snd.fst ∧
 g.snd.snd.snd.fst = g.snd.snd.snd.fst ∧
 True ∧
 g_2.snd.snd.fst = g_2.snd.snd.fst ∧
 True ∧
 True ∧
 True ∧
 True ∧
 True ∧
 True ∧
 True ∧
 True ∧
 True ∧
 True ∧
 True ∧
 True ∧
 True ∧
 True ∧
 True ∧
 True ∧
 True ∧
 True ∧
 True ∧
 True ∧
 g_2.snd.snd.fst =
 g_2.snd.snd.fst ∧
 true =
 true ∧
 g_2.snd.snd.fst =
 g_2.snd.snd.fst ∧
 True ∧
 g_2.snd.snd.fst =
 g_2.snd.snd.fst ∧
 true =
 true ∧
 True ∧
 g_2.snd.snd.fst =
 g_2.snd.snd.fst ∧
 True ∧
 True ∧
 True ∧
 True ∧
 (↑(g_2.fst ++
 ((0 :
 Int) ::
 ([] :
 List
 Int)).set
 (0 :
 Nat)
 g_2.snd.snd.fst).length :
 Int) =
 (↑(g_2.fst ++
 ((0 :
 Int) ::
 ([] :
 List
 Int)).set
 (0 :
 Nat)
 g_2.snd.snd.fst).length :
 Int) ∧
 True ∧
 True ∧
 True ∧
 True ∧
 True ∧
 True ∧
 True ∧
 True ∧
 True ∧
 True ∧
 True ∧
 True) ∧
 (((x.snd.fst.getD g_3.snd.fst.toNat ((0 : Int), (0 : Int))).fst ==
 (↑(g_2.fst ++
 ((0 : Int) :: ([] : List Int)).set (0 : Nat)
 g_2.snd.snd.fst).length :
 Int)) =
 false →
 ((-9223372036854775808 : Int) ≤ g_3.snd.fst + (1 : Int) ∧
 g_3.snd.fst + (1 : Int) ≤ (9223372036854775807 : Int)) ∧
 (((0 : Int) ≤ g_3.snd.fst + (1 : Int) ∧
 g_3.snd.fst + (1 : Int) ≤ (↑x.snd.fst.length : Int) ∧
 (∀ (p : List Bool),
 MR g_2.snd.1 p →
 MR g_3.fst
 (come
 (Int.ofNat
 (g_2.fst ++
 ((0 : Int) :: ([] : List Int)).set (0 : Nat)
 g_2.snd.snd.fst).length)
 (List.take (g_3.snd.fst + (1 : Int)).toNat x.snd.fst)
 p)) ∧
 (↑g_3.fst.length : Int) ≤
 (↑g_2.snd.1.length : Int) + (g_3.snd.fst + (1 : Int))) ∧
 ((↑x.snd.fst.length : Int) - (g_3.snd.fst + (1 : Int))).toNat <
 ((↑x.snd.fst.length : Int) - g_3.snd.fst).toNat) ∧
 ((↑(g_2.fst ++
 ((0 : Int) :: ([] : List Int)).set (0 : Nat)
 g_2.snd.snd.fst).length :
 Int) =
 (↑(g_2.fst ++
 ((0 : Int) :: ([] : List Int)).set (0 : Nat)
 g_2.snd.snd.fst).length :
 Int) ∧
 True ∧
 x.snd.fst = x.snd.fst ∧
 (↑x.snd.fst.length : Int) = (↑x.snd.fst.length : Int) ∧
 g_3.snd.fst + (1 : Int) = g_3.snd.fst + (1 : Int) ∧ True) ∧
 (g_3.fst = g_3.fst ∧
 g.fst = g.fst ∧
 g_2.fst ++
 ((0 : Int) :: ([] : List Int)).set (0 : Nat)
 g_2.snd.snd.fst =
 g_2.fst ++
 ((0 : Int) :: ([] : List Int)).set (0 : Nat)
 g_2.snd.snd.fst ∧
 (True ∧ (True ∧ True) ∧ True) ∧
 (x.snd.fst = x.snd.fst ∧ True) ∧
 ((0 : Int) :: ([] : List Int)).set (0 : Nat)
 g_2.snd.snd.fst =
 ((0 : Int) :: ([] : List Int)).set (0 : Nat)
 g_2.snd.snd.fst ∧
 True) ∧
 True ∧
 True ∧
 x.snd.snd.fst = x.snd.snd.fst ∧
 True ∧
 True ∧
 True ∧
 True ∧
 True ∧
 True ∧
 True ∧
 True ∧
 True ∧
 True ∧
 g.snd.snd.fst = g.snd.snd.fst ∧
 g.snd.snd.snd.fst = g.snd.snd.snd.fst ∧
 True ∧
 g_2.snd.snd.fst = g_2.snd.snd.fst ∧
 True ∧
 True ∧
 True ∧
 True ∧
 True ∧
 True ∧
 True ∧
 True ∧
 True ∧
 True ∧
 True ∧
 True ∧
 True ∧
 True ∧
 True ∧
 True ∧
 True ∧
 True ∧
 True ∧
 True ∧
 g_2.snd.snd.fst =
 g_2.snd.snd.fst ∧
 true =
 true ∧
 g_2.snd.snd.fst =
 g_2.snd.snd.fst ∧
 True ∧
 g_2.snd.snd.fst =
 g_2.snd.snd.fst ∧
 true =
 true ∧
 True ∧
 g_2.snd.snd.fst =
 g_2.snd.snd.fst ∧
 True ∧
 True ∧
 True ∧
 True ∧
 (↑(g_2.fst ++
 ((0 :
 Int) ::
 ([] :
 List
 Int)).set
 (0 :
 Nat)
 g_2.snd.snd.fst).length :
 Int) =
 (↑(g_2.fst ++
 ((0 :
 Int) ::
 ([] :
 List
 Int)).set
 (0 :
 Nat)
 g_2.snd.snd.fst).length :
 Int) ∧
 True ∧
 True ∧
 True ∧
 True ∧
 True ∧
 True ∧
 True ∧
 True ∧
 True ∧
 True ∧
 True ∧
 True)) ∧
 (decide (g_3.snd.fst < (↑x.snd.fst.length : Int)) = false →
 ((-9223372036854775808 : Int) ≤ g_2.snd.snd.fst + (1 : Int) ∧
 g_2.snd.snd.fst + (1 : Int) ≤ (9223372036854775807 : Int)) ∧
 (((0 : Int) ≤ g_2.snd.snd.fst + (1 : Int) ∧
 g_2.snd.snd.fst + (1 : Int) ≤ (8 : Int) ∧
 (∃ p,
 MR g_3.fst p ∧
 (p,
 g_2.fst ++
 ((0 : Int) :: ([] : List Int)).set (0 : Nat)
 g_2.snd.snd.fst) =
 rnd x.snd.fst (sst x.fst x.snd.fst g.snd.snd.snd.1.toNat).fst
 (sst x.fst x.snd.fst g.snd.snd.snd.1.toNat).snd
 (g_2.snd.snd.fst + (1 : Int)).toNat) ∧
 (↑g_3.fst.length : Int) ≤
 (400 : Int) * (g_2.snd.snd.fst + (1 : Int))) ∧
 ((8 : Int) - (g_2.snd.snd.fst + (1 : Int))).toNat <
 ((8 : Int) - g_2.snd.snd.fst).toNat) ∧
 (x.snd.snd.fst = x.snd.snd.fst ∧
 True ∧
 True ∧
 True ∧
 g.snd.snd.fst = g.snd.snd.fst ∧
 g.snd.snd.snd.fst = g.snd.snd.snd.fst ∧
 True ∧
 g_2.snd.snd.fst + (1 : Int) = g_2.snd.snd.fst + (1 : Int) ∧
 True) ∧
 (g_2.fst ++ ((0 : Int) :: ([] : List Int)).set (0 : Nat) g_2.snd.snd.fst =
 g_2.fst ++
 ((0 : Int) :: ([] : List Int)).set (0 : Nat) g_2.snd.snd.fst ∧
 g_3.fst = g_3.fst ∧
 g.fst = g.fst ∧
 (True ∧ (True ∧ True) ∧ True) ∧
 (x.snd.fst = x.snd.fst ∧ True) ∧ True) ∧
 True)) ∧
 (mval Ty.bool g.fst g_2.snd.snd.fst = false →
 ((-9223372036854775808 : Int) ≤ g_2.snd.snd.fst + (1 : Int) ∧
 g_2.snd.snd.fst + (1 : Int) ≤ (9223372036854775807 : Int)) ∧
 (((0 : Int) ≤ g_2.snd.snd.fst + (1 : Int) ∧
 g_2.snd.snd.fst + (1 : Int) ≤ (8 : Int) ∧
 (∃ p,
 MR g_2.snd.fst p ∧
 (p, g_2.fst) =
 rnd x.snd.fst (sst x.fst x.snd.fst g.snd.snd.snd.1.toNat).fst
 (sst x.fst x.snd.fst g.snd.snd.snd.1.toNat).snd
 (g_2.snd.snd.fst + (1 : Int)).toNat) ∧
 (↑g_2.snd.fst.length : Int) ≤ (400 : Int) * (g_2.snd.snd.fst + (1 : Int))) ∧
 ((8 : Int) - (g_2.snd.snd.fst + (1 : Int))).toNat < ((8 : Int) - g_2.snd.snd.fst).toNat) ∧
 (x.snd.snd.fst = x.snd.snd.fst ∧
 True ∧
 True ∧
 True ∧
 g.snd.snd.fst = g.snd.snd.fst ∧
 g.snd.snd.snd.fst = g.snd.snd.snd.fst ∧
 True ∧ g_2.snd.snd.fst + (1 : Int) = g_2.snd.snd.fst + (1 : Int) ∧ True) ∧
 (g_2.fst = g_2.fst ∧
 g_2.snd.fst = g_2.snd.fst ∧
 g.fst = g.fst ∧
 (True ∧ (True ∧ True) ∧ True) ∧ (x.snd.fst = x.snd.fst ∧ True) ∧ True) ∧
 True)) ∧
 (decide (g_2.snd.snd.fst < (8 : Int)) = false →
 (decide (g.snd.snd.snd.fst < x.snd.snd.fst) = true →
 ((-9223372036854775808 : Int) ≤ g.snd.snd.snd.fst + (1 : Int) ∧
 g.snd.snd.snd.fst + (1 : Int) ≤ (9223372036854775807 : Int)) ∧
 (((0 : Int) ≤ g.snd.snd.snd.fst + (1 : Int) ∧
 MR g_2.snd.fst (sst x.fst x.snd.fst (g.snd.snd.snd.fst + (1 : Int)).toNat).fst ∧
 g_2.fst = (sst x.fst x.snd.fst (g.snd.snd.snd.fst + (1 : Int)).toNat).snd ∧
 (↑g_2.fst.length : Int) =
 ahd x.fst x.snd.fst x.snd.snd.fst (g.snd.snd.snd.fst + (1 : Int)).toNat ∧
 going x.fst x.snd.fst (g.snd.snd.snd.fst + (1 : Int)) ∧
 (↑g_2.snd.fst.length : Int) ≤ (↑x.fst.length : Int) + (4000 : Int)) ∧
 (408 : Nat) - (g.snd.snd.snd.fst + (1 : Int)).toNat <
 (408 : Nat) - g.snd.snd.snd.fst.toNat) ∧
 (x.snd.snd.fst = x.snd.snd.fst ∧
 True ∧
 True ∧
 True ∧
 (↑g_2.fst.length : Int) = (↑g_2.fst.length : Int) ∧
 g.snd.snd.snd.fst + (1 : Int) = g.snd.snd.snd.fst + (1 : Int) ∧ True) ∧
 (g_2.snd.fst = g_2.snd.fst ∧
 g_2.fst = g_2.fst ∧
 (True ∧ (True ∧ True) ∧ True) ∧ (x.snd.fst = x.snd.fst ∧ True) ∧ True) ∧
 True) ∧
 (decide (g.snd.snd.snd.fst < x.snd.snd.fst) = false →
 ((-9223372036854775808 : Int) ≤ g.snd.snd.snd.fst + (1 : Int) ∧
 g.snd.snd.snd.fst + (1 : Int) ≤ (9223372036854775807 : Int)) ∧
 (((0 : Int) ≤ g.snd.snd.snd.fst + (1 : Int) ∧
 MR g_2.snd.fst (sst x.fst x.snd.fst (g.snd.snd.snd.fst + (1 : Int)).toNat).fst ∧
 g_2.fst = (sst x.fst x.snd.fst (g.snd.snd.snd.fst + (1 : Int)).toNat).snd ∧
 g.snd.snd.fst =
 ahd x.fst x.snd.fst x.snd.snd.fst (g.snd.snd.snd.fst + (1 : Int)).toNat ∧
 going x.fst x.snd.fst (g.snd.snd.snd.fst + (1 : Int)) ∧
 (↑g_2.snd.fst.length : Int) ≤ (↑x.fst.length : Int) + (4000 : Int)) ∧
 (408 : Nat) - (g.snd.snd.snd.fst + (1 : Int)).toNat <
 (408 : Nat) - g.snd.snd.snd.fst.toNat) ∧
 (x.snd.snd.fst = x.snd.snd.fst ∧
 True ∧
 True ∧
 True ∧
 g.snd.snd.fst = g.snd.snd.fst ∧
 g.snd.snd.snd.fst + (1 : Int) = g.snd.snd.snd.fst + (1 : Int) ∧ True) ∧
 (g_2.snd.fst = g_2.snd.fst ∧
 g_2.fst = g_2.fst ∧
 (True ∧ (True ∧ True) ∧ True) ∧ (x.snd.fst = x.snd.fst ∧ True) ∧ True) ∧
 True))) ∧
 (decide ((0 : Int) < (↑g.fst.length : Int)) = false →
 g.snd.fst = (sst x.fst x.snd.fst (fin x.fst x.snd.fst)).snd ∧
 g.snd.snd.fst = ahd x.fst x.snd.fst x.snd.snd.fst (fin x.fst x.snd.fst))))

theorem E_jrun_eq (x : HL (cJRun : Ctr).as) : vc (fx_jrun x) 2 25 Try.f25 (cJRun) x = E_jrun x := by kernel_rfl

def E_softs (x : List Int × List (Int × Int) × Int × Unit) : Prop :=
 Holds True ∧
 Holds True ∧
 ((!right x.fst x.snd.fst) = true →
 Holds True ∧
 Holds True ∧
 ((!right x.fst x.snd.fst != right x.fst x.snd.fst) = true →
 (!right x.fst x.snd.fst != right x.fst x.snd.fst) = true ∧ (!right x.fst x.snd.fst != right x.fst x.snd.fst) = true) ∧
 ((right x.fst x.snd.fst != right x.fst x.snd.fst) = false → (!right x.fst x.snd.fst != right x.fst x.snd.fst) = true) ∧
 ((right x.fst x.snd.fst != right x.fst x.snd.fst || (run x.fst x.snd.fst x.snd.snd.fst).snd.snd.fst != (1 : Int)) = true →
 false = true) ∧
 ((right x.fst x.snd.fst != right x.fst x.snd.fst || (run x.fst x.snd.fst x.snd.snd.fst).snd.snd.fst != (1 : Int)) = false →
 (((1 : Int) != (0 : Int)) = true →
 (((↑(run x.fst x.snd.fst x.snd.snd.fst).fst.length : Int) == (0 : Int)) = true →
 ((↑(run x.fst x.snd.fst x.snd.snd.fst).fst.length : Int) == (0 : Int)) = true) ∧
 (((↑(run x.fst x.snd.fst x.snd.snd.fst).fst.length : Int) == (0 : Int)) = true →
 ((↑(run x.fst x.snd.fst x.snd.snd.fst).fst.length : Int) == (0 : Int)) = true) ∧
 ((↑(run x.fst x.snd.fst x.snd.snd.fst).fst.length : Int) == (0 : Int) &&
 (run x.fst x.snd.fst x.snd.snd.fst).snd.fst == (0 : Int)) =
 true) ∧
 (((1 : Int) != (0 : Int)) = false →
 Holds (Right x.fst x.snd.fst ∧ x.fst.length * (8 : Nat) ≤ (140737488355328 : Nat)) ∧
 Holds True ∧
 (decide ((run x.fst x.snd.fst x.snd.snd.fst).fst = (sst x.fst x.snd.fst (fin x.fst x.snd.fst)).snd) = true →
 decide ((run x.fst x.snd.fst x.snd.snd.fst).fst = (sst x.fst x.snd.fst (fin x.fst x.snd.fst)).snd) = true ∧
 decide ((run x.fst x.snd.fst x.snd.snd.fst).fst = (sst x.fst x.snd.fst (fin x.fst x.snd.fst)).snd) = true) ∧
 (decide ((run x.fst x.snd.fst x.snd.snd.fst).fst = (sst x.fst x.snd.fst (fin x.fst x.snd.fst)).snd) = true →
 decide ((run x.fst x.snd.fst x.snd.snd.fst).fst = (sst x.fst x.snd.fst (fin x.fst x.snd.fst)).snd) = true) ∧
 (decide ((run x.fst x.snd.fst x.snd.snd.fst).fst = (sst x.fst x.snd.fst (fin x.fst x.snd.fst)).snd) &&
 (run x.fst x.snd.fst x.snd.snd.fst).snd.fst == ahd x.fst x.snd.fst x.snd.snd.fst (fin x.fst x.snd.fst)) =
 true))) ∧
 ((!right x.fst x.snd.fst) = false →
 ((!decide (x.snd.snd.fst < (0 : Int))) = true → (!decide (x.snd.snd.fst < (0 : Int))) = true) ∧
 (decide (x.snd.snd.fst < (0 : Int)) = false → (!decide (x.snd.snd.fst < (0 : Int))) = true) ∧
 ((decide (x.snd.snd.fst < (0 : Int)) || decide ((400 : Int) < x.snd.snd.fst)) = true →
 Holds True ∧
 Holds True ∧
 ((!right x.fst x.snd.fst != right x.fst x.snd.fst) = true →
 (!right x.fst x.snd.fst != right x.fst x.snd.fst) = true ∧ (!right x.fst x.snd.fst != right x.fst x.snd.fst) = true) ∧
 ((right x.fst x.snd.fst != right x.fst x.snd.fst) = false → (!right x.fst x.snd.fst != right x.fst x.snd.fst) = true) ∧
 ((right x.fst x.snd.fst != right x.fst x.snd.fst || (run x.fst x.snd.fst x.snd.snd.fst).snd.snd.fst != (2 : Int)) = true →
 false = true) ∧
 ((right x.fst x.snd.fst != right x.fst x.snd.fst || (run x.fst x.snd.fst x.snd.snd.fst).snd.snd.fst != (2 : Int)) = false →
 (((2 : Int) != (0 : Int)) = true →
 (((↑(run x.fst x.snd.fst x.snd.snd.fst).fst.length : Int) == (0 : Int)) = true →
 ((↑(run x.fst x.snd.fst x.snd.snd.fst).fst.length : Int) == (0 : Int)) = true) ∧
 (((↑(run x.fst x.snd.fst x.snd.snd.fst).fst.length : Int) == (0 : Int)) = true →
 ((↑(run x.fst x.snd.fst x.snd.snd.fst).fst.length : Int) == (0 : Int)) = true) ∧
 ((↑(run x.fst x.snd.fst x.snd.snd.fst).fst.length : Int) == (0 : Int) &&
 (run x.fst x.snd.fst x.snd.snd.fst).snd.fst == (0 : Int)) =
 true) ∧
 (((2 : Int) != (0 : Int)) = false →
 Holds (Right x.fst x.snd.fst ∧ x.fst.length * (8 : Nat) ≤ (140737488355328 : Nat)) ∧
 Holds True ∧
 (decide ((run x.fst x.snd.fst x.snd.snd.fst).fst = (sst x.fst x.snd.fst (fin x.fst x.snd.fst)).snd) = true →
 decide ((run x.fst x.snd.fst x.snd.snd.fst).fst = (sst x.fst x.snd.fst (fin x.fst x.snd.fst)).snd) = true ∧
 decide ((run x.fst x.snd.fst x.snd.snd.fst).fst = (sst x.fst x.snd.fst (fin x.fst x.snd.fst)).snd) = true) ∧
 (decide ((run x.fst x.snd.fst x.snd.snd.fst).fst = (sst x.fst x.snd.fst (fin x.fst x.snd.fst)).snd) = true →
 decide ((run x.fst x.snd.fst x.snd.snd.fst).fst = (sst x.fst x.snd.fst (fin x.fst x.snd.fst)).snd) = true) ∧
 (decide ((run x.fst x.snd.fst x.snd.snd.fst).fst = (sst x.fst x.snd.fst (fin x.fst x.snd.fst)).snd) &&
 (run x.fst x.snd.fst x.snd.snd.fst).snd.fst == ahd x.fst x.snd.fst x.snd.snd.fst (fin x.fst x.snd.fst)) =
 true))) ∧
 ((decide (x.snd.snd.fst < (0 : Int)) || decide ((400 : Int) < x.snd.snd.fst)) = false →
 Holds True ∧
 Holds True ∧
 ((!right x.fst x.snd.fst != right x.fst x.snd.fst) = true →
 (!right x.fst x.snd.fst != right x.fst x.snd.fst) = true ∧ (!right x.fst x.snd.fst != right x.fst x.snd.fst) = true) ∧
 ((right x.fst x.snd.fst != right x.fst x.snd.fst) = false → (!right x.fst x.snd.fst != right x.fst x.snd.fst) = true) ∧
 ((right x.fst x.snd.fst != right x.fst x.snd.fst || (run x.fst x.snd.fst x.snd.snd.fst).snd.snd.fst != (0 : Int)) = true →
 false = true) ∧
 ((right x.fst x.snd.fst != right x.fst x.snd.fst || (run x.fst x.snd.fst x.snd.snd.fst).snd.snd.fst != (0 : Int)) = false →
 (((0 : Int) != (0 : Int)) = true →
 (((↑(run x.fst x.snd.fst x.snd.snd.fst).fst.length : Int) == (0 : Int)) = true →
 ((↑(run x.fst x.snd.fst x.snd.snd.fst).fst.length : Int) == (0 : Int)) = true) ∧
 (((↑(run x.fst x.snd.fst x.snd.snd.fst).fst.length : Int) == (0 : Int)) = true →
 ((↑(run x.fst x.snd.fst x.snd.snd.fst).fst.length : Int) == (0 : Int)) = true) ∧
 ((↑(run x.fst x.snd.fst x.snd.snd.fst).fst.length : Int) == (0 : Int) &&
 (run x.fst x.snd.fst x.snd.snd.fst).snd.fst == (0 : Int)) =
 true) ∧
 (((0 : Int) != (0 : Int)) = false →
 Holds (Right x.fst x.snd.fst ∧ x.fst.length * (8 : Nat) ≤ (140737488355328 : Nat)) ∧
 Holds True ∧
 (decide ((run x.fst x.snd.fst x.snd.snd.fst).fst = (sst x.fst x.snd.fst (fin x.fst x.snd.fst)).snd) = true →
 decide ((run x.fst x.snd.fst x.snd.snd.fst).fst = (sst x.fst x.snd.fst (fin x.fst x.snd.fst)).snd) = true ∧
 decide ((run x.fst x.snd.fst x.snd.snd.fst).fst = (sst x.fst x.snd.fst (fin x.fst x.snd.fst)).snd) = true) ∧
 (decide ((run x.fst x.snd.fst x.snd.snd.fst).fst = (sst x.fst x.snd.fst (fin x.fst x.snd.fst)).snd) = true →
 decide ((run x.fst x.snd.fst x.snd.snd.fst).fst = (sst x.fst x.snd.fst (fin x.fst x.snd.fst)).snd) = true) ∧
 (decide ((run x.fst x.snd.fst x.snd.snd.fst).fst = (sst x.fst x.snd.fst (fin x.fst x.snd.fst)).snd) &&
 (run x.fst x.snd.fst x.snd.snd.fst).snd.fst == ahd x.fst x.snd.fst x.snd.snd.fst (fin x.fst x.snd.fst)) =
 true))))

theorem E_softs_eq (x : HL (cLaw : Ctr).as) : vc (fx_softs x) 1 5 Try.f5 (cLaw) x = E_softs x := by kernel_rfl

end Go.Proofs.Ytmcepjbbbkgfcaa.Soft
