/-
  The conditions that the executor comes to, written out (by a tool of ours), and that they are the conditions (by the kernel).
-/
import Derived.Test.YtpmfgdedkmddlaaBestC
namespace Go.Proofs.Ytpmfgdedkmddlaa.Best
open Go.Sx
set_option maxRecDepth 100000

def E_max (x : List Int × Unit) : Prop :=
 (decide ((↑x.1.length : Int) < (1 : Int)) = true → False) ∧
 (decide ((↑x.1.length : Int) < (1 : Int)) = false →
 ((0 : Int) ≤ (0 : Int) ∧ (0 : Int) < (↑x.1.length : Int)) ∧
 ((((1 : Int) ≤ (1 : Int) ∧
 (1 : Int) ≤ (↑x.1.length : Int) ∧ x.1.getD (Int.toNat (0 : Int)) (0 : Int) = mx (List.take (Int.toNat (1 : Int)) x.1)) ∧
 True) ∧
 (x.1 = x.1 ∧ x.1.getD (Int.toNat (0 : Int)) (0 : Int) = x.1.getD (Int.toNat (0 : Int)) (0 : Int) ∧ (1 : Int) = (1 : Int) ∧ True) ∧
 True ∧ True) ∧
 ∀ (g : Int × Int × Unit),
 (1 : Int) ≤ g.2.1 ∧ g.2.1 ≤ (↑x.1.length : Int) ∧ g.1 = mx (List.take g.2.1.toNat x.1) →
 ((-9223372036854775808 : Int) ≤ g.1 ∧ g.1 ≤ (9223372036854775807 : Int)) ∧
 ((-9223372036854775808 : Int) ≤ g.2.1 ∧ g.2.1 ≤ (9223372036854775807 : Int)) ∧ True →
 (decide (g.2.1 < (↑x.1.length : Int)) = true →
 ((0 : Int) ≤ g.2.1 ∧ g.2.1 < (↑x.1.length : Int)) ∧
 ((-9223372036854775808 : Int) ≤ g.2.1 + (1 : Int) ∧ g.2.1 + (1 : Int) ≤ (9223372036854775807 : Int)) ∧
 (((1 : Int) ≤ g.2.1 + (1 : Int) ∧
 g.2.1 + (1 : Int) ≤ (↑x.1.length : Int) ∧
 max g.1 (x.1.getD g.2.1.toNat (0 : Int)) = mx (List.take (g.2.1 + (1 : Int)).toNat x.1)) ∧
 ((↑x.1.length : Int) - (g.2.1 + (1 : Int))).toNat < ((↑x.1.length : Int) - g.2.1).toNat) ∧
 (x.1 = x.1 ∧
 max g.1 (x.1.getD g.2.1.toNat (0 : Int)) = max g.1 (x.1.getD g.2.1.toNat (0 : Int)) ∧
 g.2.1 + (1 : Int) = g.2.1 + (1 : Int) ∧ True) ∧
 True ∧ True) ∧
 (decide (g.2.1 < (↑x.1.length : Int)) = false → g.1 = mx x.1))

theorem E_max_eq (x : HL (cMax : Ctr).as) : vc (fx_max x) 1 46 Try.f46 (cMax) x = E_max x := by kernel_rfl

def E_any (x : List Int × Unit) : Prop :=
 ((((0 : Int) ≤ (0 : Int) ∧ (0 : Int) ≤ (↑x.1.length : Int) ∧ (List.take (Int.toNat (0 : Int)) x.1).all inS = true) ∧ True) ∧
 (x.1 = x.1 ∧
 Value.func (Fn.func (43 : Nat)) ([] : List Value).toArray ([] : List Value).toArray =
 Value.func (Fn.func (43 : Nat)) ([] : List Value).toArray ([] : List Value).toArray ∧
 (↑x.1.length : Int) = (↑x.1.length : Int) ∧ (0 : Int) = (0 : Int) ∧ True) ∧
 True ∧
 x.1 = x.1 ∧
 Value.func (Fn.func (43 : Nat)) ([] : List Value).toArray ([] : List Value).toArray =
 Value.func (Fn.func (43 : Nat)) ([] : List Value).toArray ([] : List Value).toArray ∧
 True ∧
 True ∧
 false = false ∧
 x.1 = x.1 ∧
 Value.func (Fn.func (43 : Nat)) ([] : List Value).toArray ([] : List Value).toArray =
 Value.func (Fn.func (43 : Nat)) ([] : List Value).toArray ([] : List Value).toArray ∧
 True ∧ True ∧ True) ∧
 ∀ (g : Int × Unit),
 (0 : Int) ≤ g.1 ∧ g.1 ≤ (↑x.1.length : Int) ∧ (List.take g.1.toNat x.1).all inS = true →
 ((-9223372036854775808 : Int) ≤ g.1 ∧ g.1 ≤ (9223372036854775807 : Int)) ∧ True →
 (decide (g.1 < (↑x.1.length : Int)) = true →
 ((0 : Int) ≤ g.1 ∧ g.1 < (↑x.1.length : Int)) ∧
 ((!decide (x.1.getD g.1.toNat (0 : Int) < (0 : Int))) = true → (!decide (x.1.getD g.1.toNat (0 : Int) < (0 : Int))) = true) ∧
 (decide (x.1.getD g.1.toNat (0 : Int) < (0 : Int)) = false → (!decide (x.1.getD g.1.toNat (0 : Int) < (0 : Int))) = true) ∧
 ((decide (x.1.getD g.1.toNat (0 : Int) < (0 : Int)) || decide ((1073741824 : Int) < x.1.getD g.1.toNat (0 : Int))) = true →
 decide ((0 : Int) ≤ g.1) = !x.1.all inS) ∧
 ((decide (x.1.getD g.1.toNat (0 : Int) < (0 : Int)) || decide ((1073741824 : Int) < x.1.getD g.1.toNat (0 : Int))) =
 false →
 ((-9223372036854775808 : Int) ≤ g.1 + (1 : Int) ∧ g.1 + (1 : Int) ≤ (9223372036854775807 : Int)) ∧
 (((0 : Int) ≤ g.1 + (1 : Int) ∧
 g.1 + (1 : Int) ≤ (↑x.1.length : Int) ∧ (List.take (g.1 + (1 : Int)).toNat x.1).all inS = true) ∧
 ((↑x.1.length : Int) - (g.1 + (1 : Int))).toNat < ((↑x.1.length : Int) - g.1).toNat) ∧
 (x.1 = x.1 ∧
 Value.func (Fn.func (43 : Nat)) ([] : List Value).toArray ([] : List Value).toArray =
 Value.func (Fn.func (43 : Nat)) ([] : List Value).toArray ([] : List Value).toArray ∧
 (↑x.1.length : Int) = (↑x.1.length : Int) ∧ g.1 + (1 : Int) = g.1 + (1 : Int) ∧ True) ∧
 True ∧
 x.1 = x.1 ∧
 Value.func (Fn.func (43 : Nat)) ([] : List Value).toArray ([] : List Value).toArray =
 Value.func (Fn.func (43 : Nat)) ([] : List Value).toArray ([] : List Value).toArray ∧
 True ∧
 True ∧
 false = false ∧
 x.1 = x.1 ∧
 Value.func (Fn.func (43 : Nat)) ([] : List Value).toArray ([] : List Value).toArray =
 Value.func (Fn.func (43 : Nat)) ([] : List Value).toArray ([] : List Value).toArray ∧
 True ∧ True ∧ True)) ∧
 (decide (g.1 < (↑x.1.length : Int)) = false → decide ((0 : Int) ≤ (-1 : Int)) = !x.1.all inS)

theorem E_any_eq (x : HL (cAny : Ctr).as) : vcF (fx_any x) 3 42 43 Try.f42 (cAny) x = E_any x := by kernel_rfl

def E_wrong (x : List Int × Int × Unit) : Prop :=
 ((!decide (x.2.1 < (1 : Int))) = true → (!decide (x.2.1 < (1 : Int))) = true) ∧
 (decide (x.2.1 < (1 : Int)) = false → (!decide (x.2.1 < (1 : Int))) = true) ∧
 ((!(decide (x.2.1 < (1 : Int)) || decide ((8 : Int) < x.2.1))) = true →
 (!(decide (x.2.1 < (1 : Int)) || decide ((8 : Int) < x.2.1))) = true) ∧
 ((!(decide (x.2.1 < (1 : Int)) || decide ((8 : Int) < x.2.1))) = true →
 (!(decide (x.2.1 < (1 : Int)) || decide ((8 : Int) < x.2.1))) = true) ∧
 ((decide (x.2.1 < (1 : Int)) || decide ((8 : Int) < x.2.1)) = false →
 (!(decide (x.2.1 < (1 : Int)) || decide ((8 : Int) < x.2.1))) = true) ∧
 ((decide (x.2.1 < (1 : Int)) || decide ((8 : Int) < x.2.1) || decide ((400 : Int) < (↑x.1.length : Int))) = false →
 (!(decide (x.2.1 < (1 : Int)) || decide ((8 : Int) < x.2.1) || decide ((400 : Int) < (↑x.1.length : Int)))) = true ∧
 Holds True ∧
 ((!x.1.all inS) = true → (2 : Int) = wrong x.1 x.2.1) ∧ ((!x.1.all inS) = false → (0 : Int) = wrong x.1 x.2.1)) ∧
 ((decide (x.2.1 < (1 : Int)) || decide ((8 : Int) < x.2.1) || decide ((400 : Int) < (↑x.1.length : Int))) = !false →
 (2 : Int) = wrong x.1 x.2.1)

theorem E_wrong_eq (x : HL (cWrong : Ctr).as) : vc (fx_wrong x) 1 20 Try.f20 (cWrong) x = E_wrong x := by kernel_rfl

def E_ewrong (x : List Int × Int × Unit) : Prop :=
 (decide ((0 : Int) < x.2.1) = true → decide ((0 : Int) < x.2.1) = true) ∧
 (decide ((0 : Int) < x.2.1) = true → decide ((0 : Int) < x.2.1) = true) ∧
 ((decide ((0 : Int) < x.2.1) && decide (x.2.1 < (9 : Int))) = true →
 (decide ((0 : Int) < x.2.1) && decide (x.2.1 < (9 : Int))) = true) ∧
 ((decide ((0 : Int) < x.2.1) && decide (x.2.1 < (9 : Int))) = true →
 (decide ((0 : Int) < x.2.1) && decide (x.2.1 < (9 : Int))) = true) ∧
 ((decide ((0 : Int) < x.2.1) && decide (x.2.1 < (9 : Int))) = true →
 (decide ((0 : Int) < x.2.1) && decide (x.2.1 < (9 : Int))) = true) ∧
 ((((0 : Int) ≤ (0 : Int) ∧
 (0 : Int) ≤ (↑x.1.length : Int) ∧
 ((decide ((0 : Int) < x.2.1) && decide (x.2.1 < (9 : Int)) && decide ((↑x.1.length : Int) ≤ (400 : Int))) = true ↔
 (1 : Int) ≤ x.2.1 ∧
 x.2.1 ≤ (8 : Int) ∧ x.1.length ≤ (400 : Nat) ∧ (List.take (Int.toNat (0 : Int)) x.1).all inS = true)) ∧
 True) ∧
 (x.1 = x.1 ∧
 (decide ((0 : Int) < x.2.1) && decide (x.2.1 < (9 : Int)) && decide ((↑x.1.length : Int) ≤ (400 : Int))) =
 (decide ((0 : Int) < x.2.1) && decide (x.2.1 < (9 : Int)) && decide ((↑x.1.length : Int) ≤ (400 : Int))) ∧
 x.1 = x.1 ∧ (↑x.1.length : Int) = (↑x.1.length : Int) ∧ (0 : Int) = (0 : Int) ∧ True) ∧
 True ∧ True) ∧
 ∀ (g : Bool × Int × Unit),
 (0 : Int) ≤ g.2.1 ∧
 g.2.1 ≤ (↑x.1.length : Int) ∧
 (g.1 = true ↔
 (1 : Int) ≤ x.2.1 ∧ x.2.1 ≤ (8 : Int) ∧ x.1.length ≤ (400 : Nat) ∧ (List.take g.2.1.toNat x.1).all inS = true) →
 True ∧ ((-9223372036854775808 : Int) ≤ g.2.1 ∧ g.2.1 ≤ (9223372036854775807 : Int)) ∧ True →
 (decide (g.2.1 < (↑x.1.length : Int)) = true →
 ((0 : Int) ≤ g.2.1 ∧ g.2.1 < (↑x.1.length : Int)) ∧
 (g.1 = true → g.1 = true) ∧
 (g.1 = true → g.1 = true) ∧
 ((g.1 && decide ((0 : Int) ≤ x.1.getD g.2.1.toNat (0 : Int))) = true →
 (g.1 && decide ((0 : Int) ≤ x.1.getD g.2.1.toNat (0 : Int))) = true) ∧
 ((g.1 && decide ((0 : Int) ≤ x.1.getD g.2.1.toNat (0 : Int))) = true →
 (g.1 && decide ((0 : Int) ≤ x.1.getD g.2.1.toNat (0 : Int))) = true) ∧
 ((-9223372036854775808 : Int) ≤ g.2.1 + (1 : Int) ∧ g.2.1 + (1 : Int) ≤ (9223372036854775807 : Int)) ∧
 (((0 : Int) ≤ g.2.1 + (1 : Int) ∧
 g.2.1 + (1 : Int) ≤ (↑x.1.length : Int) ∧
 ((g.1 && decide ((0 : Int) ≤ x.1.getD g.2.1.toNat (0 : Int)) &&
 decide (x.1.getD g.2.1.toNat (0 : Int) ≤ (1073741824 : Int))) =
 true ↔
 (1 : Int) ≤ x.2.1 ∧
 x.2.1 ≤ (8 : Int) ∧
 x.1.length ≤ (400 : Nat) ∧ (List.take (g.2.1 + (1 : Int)).toNat x.1).all inS = true)) ∧
 ((↑x.1.length : Int) - (g.2.1 + (1 : Int))).toNat < ((↑x.1.length : Int) - g.2.1).toNat) ∧
 (x.1 = x.1 ∧
 (g.1 && decide ((0 : Int) ≤ x.1.getD g.2.1.toNat (0 : Int)) &&
 decide (x.1.getD g.2.1.toNat (0 : Int) ≤ (1073741824 : Int))) =
 (g.1 && decide ((0 : Int) ≤ x.1.getD g.2.1.toNat (0 : Int)) &&
 decide (x.1.getD g.2.1.toNat (0 : Int) ≤ (1073741824 : Int))) ∧
 x.1 = x.1 ∧
 (↑x.1.length : Int) = (↑x.1.length : Int) ∧ g.2.1 + (1 : Int) = g.2.1 + (1 : Int) ∧ True) ∧
 True ∧ True) ∧
 (decide (g.2.1 < (↑x.1.length : Int)) = false →
 ((!g.1) = true → (2 : Int) = wrong x.1 x.2.1) ∧ ((!g.1) = false → (0 : Int) = wrong x.1 x.2.1))

theorem E_ewrong_eq (x : HL (cWrong : Ctr).as) : vc (fx_ewrong x) 1 19 Try.f19 (cWrong) x = E_ewrong x := by kernel_rfl

def E_put (x : Int × List Int × Int × List Int × Unit) : Prop :=
 Holds ((0 : Nat) < x.2.1.length) ∧
 (decide (x.2.2.1 ≤ mx x.2.1) = true →
 True ∧
 ((True ∧ True) ∧ True ∧ (True ∧ True) ∧ (True ∧ True) ∧ (True ∧ True) ∧ True ∧ True) ∧
 ((True ∧ True) ∧
 x.2.1 = x.2.1 ∧
 (x.2.2.1 = putL (List.drop x.1.toNat x.2.2.2.1) x.2.1 x.2.2.1 ∧ True) ∧
 (x.2.2.2.1 = x.2.2.2.1 ∧ True) ∧
 (True ∧ True) ∧ (True ∧ (True ∧ True) ∧ (True ∧ True) ∧ (True ∧ True) ∧ (True ∧ True) ∧ True) ∧ True) ∧
 True) ∧
 (decide (x.2.2.1 ≤ mx x.2.1) = false →
 ((x.1 == (↑x.2.2.2.1.length : Int)) = true →
 True ∧
 ((True ∧ True) ∧ True ∧ (True ∧ True) ∧ (True ∧ True) ∧ (True ∧ True) ∧ True ∧ True) ∧
 ((True ∧ True) ∧
 x.2.1 = x.2.1 ∧
 (mx x.2.1 = putL (List.drop x.1.toNat x.2.2.2.1) x.2.1 x.2.2.1 ∧ True) ∧
 (x.2.2.2.1 = x.2.2.2.1 ∧ True) ∧
 (True ∧ True) ∧ (True ∧ (True ∧ True) ∧ (True ∧ True) ∧ (True ∧ True) ∧ (True ∧ True) ∧ True) ∧ True) ∧
 True) ∧
 ((x.1 == (↑x.2.2.2.1.length : Int)) = false →
 ((((0 : Int) ≤ (0 : Int) ∧
 (0 : Int) ≤ (↑x.2.1.length : Int) ∧
 x.2.1 = x.2.1 ∧
 loopL (fun h v ↦ putL (List.drop (x.1 + (1 : Int)).toNat x.2.2.2.1) h v) x.2.1
 (x.2.2.2.1.getD x.1.toNat (0 : Int)) (List.drop (Int.toNat (0 : Int)) (List.range x.2.1.length))
 x.2.2.1 =
 putL (List.drop x.1.toNat x.2.2.2.1) x.2.1 x.2.2.1) ∧
 True) ∧
 (x.1 = x.1 ∧
 (True ∧ True) ∧
 (True ∧ True) ∧
 (True ∧ True) ∧ (True ∧ True) ∧ (↑x.2.1.length : Int) = (↑x.2.1.length : Int) ∧ (0 : Int) = (0 : Int) ∧ True) ∧
 ((True ∧ True) ∧
 x.2.1 = x.2.1 ∧
 (x.2.2.1 = x.2.2.1 ∧ True) ∧
 (x.2.2.2.1 = x.2.2.2.1 ∧ True) ∧
 (True ∧ True) ∧ (True ∧ (True ∧ True) ∧ (True ∧ True) ∧ (True ∧ True) ∧ (True ∧ True) ∧ True) ∧ True) ∧
 (True ∧ True) ∧ True ∧ (True ∧ True) ∧ (True ∧ True) ∧ (True ∧ True) ∧ True ∧ True) ∧
 ∀ (g : List Int × Int × Int × Unit),
 (0 : Int) ≤ g.2.2.1 ∧
 g.2.2.1 ≤ (↑x.2.1.length : Int) ∧
 g.1 = x.2.1 ∧
 loopL (fun h v ↦ putL (List.drop (x.1 + (1 : Int)).toNat x.2.2.2.1) h v) x.2.1
 (x.2.2.2.1.getD x.1.toNat (0 : Int)) (List.drop g.2.2.1.toNat (List.range x.2.1.length)) g.2.1 =
 putL (List.drop x.1.toNat x.2.2.2.1) x.2.1 x.2.2.1 →
 (g.1.length ≤ (9223372036854775807 : Nat) ∧
 ∀ (x : Int), x ∈ g.1 → (-9223372036854775808 : Int) ≤ x ∧ x ≤ (9223372036854775807 : Int)) ∧
 ((-9223372036854775808 : Int) ≤ g.2.1 ∧ g.2.1 ≤ (9223372036854775807 : Int)) ∧
 ((-9223372036854775808 : Int) ≤ g.2.2.1 ∧ g.2.2.1 ≤ (9223372036854775807 : Int)) ∧ True →
 (decide (g.2.2.1 < (↑x.2.1.length : Int)) = true →
 ((0 : Int) ≤ g.2.2.1 ∧ g.2.2.1 < (↑g.1.length : Int)) ∧
 ((0 : Int) ≤ x.1 ∧ x.1 < (↑x.2.2.2.1.length : Int)) ∧
 ((-9223372036854775808 : Int) ≤ g.1.getD g.2.2.1.toNat (0 : Int) + x.2.2.2.1.getD x.1.toNat (0 : Int) ∧
 g.1.getD g.2.2.1.toNat (0 : Int) + x.2.2.2.1.getD x.1.toNat (0 : Int) ≤ (9223372036854775807 : Int)) ∧
 ((0 : Int) ≤ g.2.2.1 ∧ g.2.2.1 < (↑g.1.length : Int)) ∧
 ((-9223372036854775808 : Int) ≤ x.1 + (1 : Int) ∧ x.1 + (1 : Int) ≤ (9223372036854775807 : Int)) ∧
 Holds
 ((((0 : Int) ≤ x.1 + (1 : Int) ∧
 x.1 + (1 : Int) ≤ (↑x.2.2.2.1.length : Int) ∧
 x.2.2.2.1.length ≤ (9 : Nat) ∧ x.2.2.2.1.all inS = true) ∧
 (0 : Nat) <
 (g.1.set g.2.2.1.toNat
 (g.1.getD g.2.2.1.toNat (0 : Int) + x.2.2.2.1.getD x.1.toNat (0 : Int))).length ∧
 (g.1.set g.2.2.1.toNat
 (g.1.getD g.2.2.1.toNat (0 : Int) + x.2.2.2.1.getD x.1.toNat (0 : Int))).length ≤
 (8 : Nat) ∧
 within (x.1 + (1 : Int))
 (g.1.set g.2.2.1.toNat
 (g.1.getD g.2.2.1.toNat (0 : Int) + x.2.2.2.1.getD x.1.toNat (0 : Int)))) ∧
 ((↑x.2.2.2.1.length : Int) - (x.1 + (1 : Int))).toNat <
 ((↑x.2.2.2.1.length : Int) - x.1).toNat) ∧
 ((x.1 + (1 : Int) = x.1 + (1 : Int) ∧ (True ∧ True) ∧ (True ∧ True) ∧ (True ∧ True) ∧ (True ∧ True) ∧ True) ∧
 (True ∧ True) ∧
 g.1.set g.2.2.1.toNat
 (g.1.getD g.2.2.1.toNat (0 : Int) + x.2.2.2.1.getD x.1.toNat (0 : Int)) =
 g.1.set g.2.2.1.toNat
 (g.1.getD g.2.2.1.toNat (0 : Int) + x.2.2.2.1.getD x.1.toNat (0 : Int)) ∧
 (g.2.1 = g.2.1 ∧ True) ∧
 (x.2.2.2.1 = x.2.2.2.1 ∧ True) ∧
 (True ∧ True) ∧ (True ∧ (True ∧ True) ∧ (True ∧ True) ∧ (True ∧ True) ∧ (True ∧ True) ∧ True) ∧ True) ∧
 ((0 : Int) ≤ g.2.2.1 ∧
 g.2.2.1 <
 (↑(g.1.set g.2.2.1.toNat
 (g.1.getD g.2.2.1.toNat (0 : Int) + x.2.2.2.1.getD x.1.toNat (0 : Int))).length :
 Int)) ∧
 ((0 : Int) ≤ x.1 ∧ x.1 < (↑x.2.2.2.1.length : Int)) ∧
 ((-9223372036854775808 : Int) ≤
 (g.1.set g.2.2.1.toNat
 (g.1.getD g.2.2.1.toNat (0 : Int) + x.2.2.2.1.getD x.1.toNat (0 : Int))).getD
 g.2.2.1.toNat (0 : Int) -
 x.2.2.2.1.getD x.1.toNat (0 : Int) ∧
 (g.1.set g.2.2.1.toNat
 (g.1.getD g.2.2.1.toNat (0 : Int) + x.2.2.2.1.getD x.1.toNat (0 : Int))).getD
 g.2.2.1.toNat (0 : Int) -
 x.2.2.2.1.getD x.1.toNat (0 : Int) ≤
 (9223372036854775807 : Int)) ∧
 ((0 : Int) ≤ g.2.2.1 ∧
 g.2.2.1 <
 (↑(g.1.set g.2.2.1.toNat
 (g.1.getD g.2.2.1.toNat (0 : Int) +
 x.2.2.2.1.getD x.1.toNat (0 : Int))).length :
 Int)) ∧
 ((0 : Int) ≤ g.2.2.1 ∧
 g.2.2.1 <
 (↑((g.1.set g.2.2.1.toNat
 (g.1.getD g.2.2.1.toNat (0 : Int) +
 x.2.2.2.1.getD x.1.toNat (0 : Int))).set
 g.2.2.1.toNat
 ((g.1.set g.2.2.1.toNat
 (g.1.getD g.2.2.1.toNat (0 : Int) +
 x.2.2.2.1.getD x.1.toNat (0 : Int))).getD
 g.2.2.1.toNat (0 : Int) -
 x.2.2.2.1.getD x.1.toNat (0 : Int))).length :
 Int)) ∧
 ((((g.1.set g.2.2.1.toNat
 (g.1.getD g.2.2.1.toNat (0 : Int) +
 x.2.2.2.1.getD x.1.toNat (0 : Int))).set
 g.2.2.1.toNat
 ((g.1.set g.2.2.1.toNat
 (g.1.getD g.2.2.1.toNat (0 : Int) +
 x.2.2.2.1.getD x.1.toNat (0 : Int))).getD
 g.2.2.1.toNat (0 : Int) -
 x.2.2.2.1.getD x.1.toNat (0 : Int))).getD
 g.2.2.1.toNat (0 : Int) ==
 (0 : Int)) =
 true →
 True ∧
 ((True ∧ True) ∧ True ∧ (True ∧ True) ∧ (True ∧ True) ∧ (True ∧ True) ∧ True ∧ True) ∧
 ((True ∧ True) ∧
 (g.1.set g.2.2.1.toNat
 (g.1.getD g.2.2.1.toNat (0 : Int) +
 x.2.2.2.1.getD x.1.toNat (0 : Int))).set
 g.2.2.1.toNat
 ((g.1.set g.2.2.1.toNat
 (g.1.getD g.2.2.1.toNat (0 : Int) +
 x.2.2.2.1.getD x.1.toNat (0 : Int))).getD
 g.2.2.1.toNat (0 : Int) -
 x.2.2.2.1.getD x.1.toNat (0 : Int)) =
 x.2.1 ∧
 (putL (List.drop (x.1 + (1 : Int)).toNat x.2.2.2.1)
 (g.1.set g.2.2.1.toNat
 (g.1.getD g.2.2.1.toNat (0 : Int) +
 x.2.2.2.1.getD x.1.toNat (0 : Int)))
 g.2.1 =
 putL (List.drop x.1.toNat x.2.2.2.1) x.2.1 x.2.2.1 ∧
 True) ∧
 (x.2.2.2.1 = x.2.2.2.1 ∧ True) ∧
 (True ∧ True) ∧
 (True ∧ (True ∧ True) ∧ (True ∧ True) ∧ (True ∧ True) ∧ (True ∧ True) ∧ True) ∧
 True) ∧
 True) ∧
 ((((g.1.set g.2.2.1.toNat
 (g.1.getD g.2.2.1.toNat (0 : Int) +
 x.2.2.2.1.getD x.1.toNat (0 : Int))).set
 g.2.2.1.toNat
 ((g.1.set g.2.2.1.toNat
 (g.1.getD g.2.2.1.toNat (0 : Int) +
 x.2.2.2.1.getD x.1.toNat (0 : Int))).getD
 g.2.2.1.toNat (0 : Int) -
 x.2.2.2.1.getD x.1.toNat (0 : Int))).getD
 g.2.2.1.toNat (0 : Int) ==
 (0 : Int)) =
 false →
 ((-9223372036854775808 : Int) ≤ g.2.2.1 + (1 : Int) ∧
 g.2.2.1 + (1 : Int) ≤ (9223372036854775807 : Int)) ∧
 (((0 : Int) ≤ g.2.2.1 + (1 : Int) ∧
 g.2.2.1 + (1 : Int) ≤ (↑x.2.1.length : Int) ∧
 (g.1.set g.2.2.1.toNat
 (g.1.getD g.2.2.1.toNat (0 : Int) +
 x.2.2.2.1.getD x.1.toNat (0 : Int))).set
 g.2.2.1.toNat
 ((g.1.set g.2.2.1.toNat
 (g.1.getD g.2.2.1.toNat (0 : Int) +
 x.2.2.2.1.getD x.1.toNat (0 : Int))).getD
 g.2.2.1.toNat (0 : Int) -
 x.2.2.2.1.getD x.1.toNat (0 : Int)) =
 x.2.1 ∧
 loopL (fun h v ↦ putL (List.drop (x.1 + (1 : Int)).toNat x.2.2.2.1) h v)
 x.2.1 (x.2.2.2.1.getD x.1.toNat (0 : Int))
 (List.drop (g.2.2.1 + (1 : Int)).toNat (List.range x.2.1.length))
 (putL (List.drop (x.1 + (1 : Int)).toNat x.2.2.2.1)
 (g.1.set g.2.2.1.toNat
 (g.1.getD g.2.2.1.toNat (0 : Int) +
 x.2.2.2.1.getD x.1.toNat (0 : Int)))
 g.2.1) =
 putL (List.drop x.1.toNat x.2.2.2.1) x.2.1 x.2.2.1) ∧
 ((↑x.2.1.length : Int) - (g.2.2.1 + (1 : Int))).toNat <
 ((↑x.2.1.length : Int) - g.2.2.1).toNat) ∧
 (x.1 = x.1 ∧
 (True ∧ True) ∧
 (True ∧ True) ∧
 (True ∧ True) ∧
 (True ∧ True) ∧
 (↑x.2.1.length : Int) = (↑x.2.1.length : Int) ∧
 g.2.2.1 + (1 : Int) = g.2.2.1 + (1 : Int) ∧ True) ∧
 ((True ∧ True) ∧
 (g.1.set g.2.2.1.toNat
 (g.1.getD g.2.2.1.toNat (0 : Int) +
 x.2.2.2.1.getD x.1.toNat (0 : Int))).set
 g.2.2.1.toNat
 ((g.1.set g.2.2.1.toNat
 (g.1.getD g.2.2.1.toNat (0 : Int) +
 x.2.2.2.1.getD x.1.toNat (0 : Int))).getD
 g.2.2.1.toNat (0 : Int) -
 x.2.2.2.1.getD x.1.toNat (0 : Int)) =
 (g.1.set g.2.2.1.toNat
 (g.1.getD g.2.2.1.toNat (0 : Int) +
 x.2.2.2.1.getD x.1.toNat (0 : Int))).set
 g.2.2.1.toNat
 ((g.1.set g.2.2.1.toNat
 (g.1.getD g.2.2.1.toNat (0 : Int) +
 x.2.2.2.1.getD x.1.toNat (0 : Int))).getD
 g.2.2.1.toNat (0 : Int) -
 x.2.2.2.1.getD x.1.toNat (0 : Int)) ∧
 (putL (List.drop (x.1 + (1 : Int)).toNat x.2.2.2.1)
 (g.1.set g.2.2.1.toNat
 (g.1.getD g.2.2.1.toNat (0 : Int) +
 x.2.2.2.1.getD x.1.toNat (0 : Int)))
 g.2.1 =
 putL (List.drop (x.1 + (1 : Int)).toNat x.2.2.2.1)
 (g.1.set g.2.2.1.toNat
 (g.1.getD g.2.2.1.toNat (0 : Int) +
 x.2.2.2.1.getD x.1.toNat (0 : Int)))
 g.2.1 ∧
 True) ∧
 (x.2.2.2.1 = x.2.2.2.1 ∧ True) ∧
 (True ∧ True) ∧
 (True ∧ (True ∧ True) ∧ (True ∧ True) ∧ (True ∧ True) ∧ (True ∧ True) ∧ True) ∧
 True) ∧
 (True ∧ True) ∧ True ∧ (True ∧ True) ∧ (True ∧ True) ∧ (True ∧ True) ∧ True ∧ True)) ∧
 (decide (g.2.2.1 < (↑x.2.1.length : Int)) = false →
 True ∧
 ((True ∧ True) ∧ True ∧ (True ∧ True) ∧ (True ∧ True) ∧ (True ∧ True) ∧ True ∧ True) ∧
 ((True ∧ True) ∧
 g.1 = x.2.1 ∧
 (g.2.1 = putL (List.drop x.1.toNat x.2.2.2.1) x.2.1 x.2.2.1 ∧ True) ∧
 (x.2.2.2.1 = x.2.2.2.1 ∧ True) ∧
 (True ∧ True) ∧ (True ∧ (True ∧ True) ∧ (True ∧ True) ∧ (True ∧ True) ∧ (True ∧ True) ∧ True) ∧ True) ∧
 True)))

theorem E_put_eq (x : (pPut : Prc).G) : vcPr (fx_put x) 1 45 Try.f45 (pPut) x = E_put x := by kernel_rfl

def E_best (x : List Int × Int × Unit) : Prop :=
 Holds True ∧
 ((wrong x.1 x.2.1 != (0 : Int)) = true → (0 : Int) = (best x.1 x.2.1).1 ∧ wrong x.1 x.2.1 = (best x.1 x.2.1).2.1) ∧
 ((wrong x.1 x.2.1 != (0 : Int)) = false →
 (decide ((9 : Int) < (↑x.1.length : Int)) = true → (0 : Int) = (best x.1 x.2.1).1 ∧ (4 : Int) = (best x.1 x.2.1).2.1) ∧
 (decide ((9 : Int) < (↑x.1.length : Int)) = false →
 (((0 : Int) ≤ x.2.1 ∧ x.2.1 ≤ x.2.1) ∧
 x.2.1 * (↑(8 : Nat) : Int) ≤ (140737488355328 : Int) ∧ x.2.1 ≤ (9223372036854775807 : Int)) ∧
 Holds
 (((0 : Int) ≤ (0 : Int) ∧ (0 : Int) ≤ (↑x.1.length : Int) ∧ x.1.length ≤ (9 : Nat) ∧ x.1.all inS = true) ∧
 (0 : Nat) < (List.replicate x.2.1.toNat (0 : Int)).length ∧
 (List.replicate x.2.1.toNat (0 : Int)).length ≤ (8 : Nat) ∧ within (0 : Int) (List.replicate x.2.1.toNat (0 : Int))) ∧
 (((0 : Int) = (0 : Int) ∧ (True ∧ True) ∧ (True ∧ True) ∧ (True ∧ True) ∧ (True ∧ True) ∧ True) ∧
 (True ∧ True) ∧
 List.replicate x.2.1.toNat (0 : Int) = List.replicate x.2.1.toNat (0 : Int) ∧
 ((4611686018427387904 : Int) = (4611686018427387904 : Int) ∧ True) ∧
 (x.1 = x.1 ∧ True) ∧
 (True ∧ True) ∧ (True ∧ (True ∧ True) ∧ (True ∧ True) ∧ (True ∧ True) ∧ (True ∧ True) ∧ True) ∧ True) ∧
 putL (List.drop (Int.toNat (0 : Int)) x.1) (List.replicate x.2.1.toNat (0 : Int)) (4611686018427387904 : Int) =
 (best x.1 x.2.1).1 ∧
 (0 : Int) = (best x.1 x.2.1).2.1))

theorem E_best_eq (x : HL (cBest : Ctr).as) : vc (fx_best x) 1 24 Try.f24 (cBest) x = E_best x := by kernel_rfl

def E_ebest (x : List Int × Int × Unit) : Prop :=
 ((((0 : Int) ≤ (0 : Int) ∧ (0 : Int) ≤ (↑x.1.length : Int) ∧ (1 : Int) = x.2.1 ^ Int.toNat (0 : Int)) ∧ True) ∧
 (x.1 = x.1 ∧ x.2.1 = x.2.1 ∧ (1 : Int) = (1 : Int) ∧ (↑x.1.length : Int) = (↑x.1.length : Int) ∧ (0 : Int) = (0 : Int) ∧ True) ∧
 True ∧ True) ∧
 ∀ (g : Int × Int × Unit),
 (0 : Int) ≤ g.2.1 ∧ g.2.1 ≤ (↑x.1.length : Int) ∧ g.1 = x.2.1 ^ g.2.1.toNat →
 ((-9223372036854775808 : Int) ≤ g.1 ∧ g.1 ≤ (9223372036854775807 : Int)) ∧
 ((-9223372036854775808 : Int) ≤ g.2.1 ∧ g.2.1 ≤ (9223372036854775807 : Int)) ∧ True →
 (decide (g.2.1 < (↑x.1.length : Int)) = true →
 ((-9223372036854775808 : Int) ≤ g.1 * x.2.1 ∧ g.1 * x.2.1 ≤ (9223372036854775807 : Int)) ∧
 ((-9223372036854775808 : Int) ≤ g.2.1 + (1 : Int) ∧ g.2.1 + (1 : Int) ≤ (9223372036854775807 : Int)) ∧
 (((0 : Int) ≤ g.2.1 + (1 : Int) ∧
 g.2.1 + (1 : Int) ≤ (↑x.1.length : Int) ∧ g.1 * x.2.1 = x.2.1 ^ (g.2.1 + (1 : Int)).toNat) ∧
 ((↑x.1.length : Int) - (g.2.1 + (1 : Int))).toNat < ((↑x.1.length : Int) - g.2.1).toNat) ∧
 (x.1 = x.1 ∧
 x.2.1 = x.2.1 ∧
 g.1 * x.2.1 = g.1 * x.2.1 ∧
 (↑x.1.length : Int) = (↑x.1.length : Int) ∧ g.2.1 + (1 : Int) = g.2.1 + (1 : Int) ∧ True) ∧
 True ∧ True) ∧
 (decide (g.2.1 < (↑x.1.length : Int)) = false →
 ((((0 : Int) ≤ (0 : Int) ∧ (0 : Int) ≤ x.2.1 ^ x.1.length ∧ (4611686018427387904 : Int) = eall x.1 x.2.1 (0 : Int)) ∧ True) ∧
 (x.1 = x.1 ∧
 x.2.1 = x.2.1 ∧
 (4611686018427387904 : Int) = (4611686018427387904 : Int) ∧ g.1 = g.1 ∧ (0 : Int) = (0 : Int) ∧ True) ∧
 True ∧ True) ∧
 ∀ (g_1 : Int × Int × Unit),
 (0 : Int) ≤ g_1.2.1 ∧ g_1.2.1 ≤ x.2.1 ^ x.1.length ∧ g_1.1 = eall x.1 x.2.1 g_1.2.1 →
 ((-9223372036854775808 : Int) ≤ g_1.1 ∧ g_1.1 ≤ (9223372036854775807 : Int)) ∧
 ((-9223372036854775808 : Int) ≤ g_1.2.1 ∧ g_1.2.1 ≤ (9223372036854775807 : Int)) ∧ True →
 (decide (g_1.2.1 < g.1) = true →
 (((0 : Int) ≤ x.2.1 ∧ x.2.1 ≤ x.2.1) ∧
 x.2.1 * (↑(8 : Nat) : Int) ≤ (140737488355328 : Int) ∧ x.2.1 ≤ (9223372036854775807 : Int)) ∧
 ((((0 : Int) ≤ (0 : Int) ∧
 (0 : Int) ≤ (↑x.1.length : Int) ∧
 (0 : Int) ≤ g_1.2.1 ∧
 (List.replicate x.2.1.toNat (0 : Int)).length = x.2.1.toNat ∧
 within (0 : Int) (List.replicate x.2.1.toNat (0 : Int)) ∧
 spreadN x.2.1 (List.drop (Int.toNat (0 : Int)) x.1) g_1.2.1
 (List.replicate x.2.1.toNat (0 : Int)) =
 spreadN x.2.1 x.1 g_1.2.1 (List.replicate x.2.1.toNat (0 : Int))) ∧
 True) ∧
 (x.1 = x.1 ∧
 x.2.1 = x.2.1 ∧
 g_1.1 = g_1.1 ∧
 g_1.2.1 = g_1.2.1 ∧
 True ∧
 g.1 = g.1 ∧
 g_1.2.1 = g_1.2.1 ∧
 x.1 = x.1 ∧ (↑x.1.length : Int) = (↑x.1.length : Int) ∧ (0 : Int) = (0 : Int) ∧ True) ∧
 (List.replicate x.2.1.toNat (0 : Int) = List.replicate x.2.1.toNat (0 : Int) ∧ True) ∧ True) ∧
 ∀ (g_2 : Int × List Int × Int × Unit),
 (0 : Int) ≤ g_2.2.2.1 ∧
 g_2.2.2.1 ≤ (↑x.1.length : Int) ∧
 (0 : Int) ≤ g_2.1 ∧
 g_2.2.1.length = x.2.1.toNat ∧
 within g_2.2.2.1 g_2.2.1 ∧
 spreadN x.2.1 (List.drop g_2.2.2.1.toNat x.1) g_2.1 g_2.2.1 =
 spreadN x.2.1 x.1 g_1.2.1 (List.replicate x.2.1.toNat (0 : Int)) →
 ((-9223372036854775808 : Int) ≤ g_2.1 ∧ g_2.1 ≤ (9223372036854775807 : Int)) ∧
 (g_2.2.1.length ≤ (9223372036854775807 : Nat) ∧
 ∀ (x : Int), x ∈ g_2.2.1 → (-9223372036854775808 : Int) ≤ x ∧ x ≤ (9223372036854775807 : Int)) ∧
 ((-9223372036854775808 : Int) ≤ g_2.2.2.1 ∧ g_2.2.2.1 ≤ (9223372036854775807 : Int)) ∧ True →
 (decide (g_2.2.2.1 < (↑x.1.length : Int)) = true →
 ((0 : Int) ≤ g_2.2.2.1 ∧ g_2.2.2.1 < (↑x.1.length : Int)) ∧
 ((0 : Int) ≤ g_2.1 ∧ (0 : Int) < x.2.1) ∧
 ((0 : Int) ≤ g_2.1 % x.2.1 ∧ g_2.1 % x.2.1 < (↑g_2.2.1.length : Int)) ∧
 ((-9223372036854775808 : Int) ≤
 g_2.2.1.getD (g_2.1 % x.2.1).toNat (0 : Int) +
 x.1.getD g_2.2.2.1.toNat (0 : Int) ∧
 g_2.2.1.getD (g_2.1 % x.2.1).toNat (0 : Int) + x.1.getD g_2.2.2.1.toNat (0 : Int) ≤
 (9223372036854775807 : Int)) ∧
 ((0 : Int) ≤ g_2.1 % x.2.1 ∧ g_2.1 % x.2.1 < (↑g_2.2.1.length : Int)) ∧
 ((0 : Int) ≤ g_2.1 ∧ (0 : Int) < x.2.1) ∧
 ((-9223372036854775808 : Int) ≤ g_2.2.2.1 + (1 : Int) ∧
 g_2.2.2.1 + (1 : Int) ≤ (9223372036854775807 : Int)) ∧
 (((0 : Int) ≤ g_2.2.2.1 + (1 : Int) ∧
 g_2.2.2.1 + (1 : Int) ≤ (↑x.1.length : Int) ∧
 (0 : Int) ≤ g_2.1 / x.2.1 ∧
 (g_2.2.1.set (g_2.1 % x.2.1).toNat
 (g_2.2.1.getD (g_2.1 % x.2.1).toNat (0 : Int) +
 x.1.getD g_2.2.2.1.toNat (0 : Int))).length =
 x.2.1.toNat ∧
 within (g_2.2.2.1 + (1 : Int))
 (g_2.2.1.set (g_2.1 % x.2.1).toNat
 (g_2.2.1.getD (g_2.1 % x.2.1).toNat (0 : Int) +
 x.1.getD g_2.2.2.1.toNat (0 : Int))) ∧
 spreadN x.2.1 (List.drop (g_2.2.2.1 + (1 : Int)).toNat x.1)
 (g_2.1 / x.2.1)
 (g_2.2.1.set (g_2.1 % x.2.1).toNat
 (g_2.2.1.getD (g_2.1 % x.2.1).toNat (0 : Int) +
 x.1.getD g_2.2.2.1.toNat (0 : Int))) =
 spreadN x.2.1 x.1 g_1.2.1 (List.replicate x.2.1.toNat (0 : Int))) ∧
 ((↑x.1.length : Int) - (g_2.2.2.1 + (1 : Int))).toNat <
 ((↑x.1.length : Int) - g_2.2.2.1).toNat) ∧
 (x.1 = x.1 ∧
 x.2.1 = x.2.1 ∧
 g_1.1 = g_1.1 ∧
 g_2.1 / x.2.1 = g_2.1 / x.2.1 ∧
 True ∧
 g.1 = g.1 ∧
 g_1.2.1 = g_1.2.1 ∧
 x.1 = x.1 ∧
 (↑x.1.length : Int) = (↑x.1.length : Int) ∧
 g_2.2.2.1 + (1 : Int) = g_2.2.2.1 + (1 : Int) ∧ True) ∧
 (g_2.2.1.set (g_2.1 % x.2.1).toNat
 (g_2.2.1.getD (g_2.1 % x.2.1).toNat (0 : Int) +
 x.1.getD g_2.2.2.1.toNat (0 : Int)) =
 g_2.2.1.set (g_2.1 % x.2.1).toNat
 (g_2.2.1.getD (g_2.1 % x.2.1).toNat (0 : Int) +
 x.1.getD g_2.2.2.1.toNat (0 : Int)) ∧
 True) ∧
 True) ∧
 (decide (g_2.2.2.1 < (↑x.1.length : Int)) = false →
 Holds ((0 : Nat) < g_2.2.1.length) ∧
 ((-9223372036854775808 : Int) ≤ g_1.2.1 + (1 : Int) ∧
 g_1.2.1 + (1 : Int) ≤ (9223372036854775807 : Int)) ∧
 (((0 : Int) ≤ g_1.2.1 + (1 : Int) ∧
 g_1.2.1 + (1 : Int) ≤ x.2.1 ^ x.1.length ∧
 min g_1.1 (mx g_2.2.1) = eall x.1 x.2.1 (g_1.2.1 + (1 : Int))) ∧
 (x.2.1 ^ x.1.length - (g_1.2.1 + (1 : Int))).toNat <
 (x.2.1 ^ x.1.length - g_1.2.1).toNat) ∧
 (x.1 = x.1 ∧
 x.2.1 = x.2.1 ∧
 min g_1.1 (mx g_2.2.1) = min g_1.1 (mx g_2.2.1) ∧
 g.1 = g.1 ∧ g_1.2.1 + (1 : Int) = g_1.2.1 + (1 : Int) ∧ True) ∧
 True ∧ True)) ∧
 (decide (g_1.2.1 < g.1) = false → g_1.1 = ebest x.1 x.2.1))

theorem E_ebest_eq (x : HL (cEBest : Ctr).as) : vc (fx_ebest x) 1 25 Try.f25 (cEBest) x = E_ebest x := by kernel_rfl

def E_law (x : List Int × Int × Unit) : Prop :=
 Holds True ∧
 Holds True ∧
 ((wrong x.1 x.2.1 != (0 : Int)) = true →
 (((best x.1 x.2.1).2.1 == wrong x.1 x.2.1) = true → ((best x.1 x.2.1).2.1 == wrong x.1 x.2.1) = true) ∧
 (((best x.1 x.2.1).2.1 == wrong x.1 x.2.1) = true → ((best x.1 x.2.1).2.1 == wrong x.1 x.2.1) = true) ∧
 ((best x.1 x.2.1).2.1 == wrong x.1 x.2.1 && (best x.1 x.2.1).1 == (0 : Int)) = true) ∧
 ((wrong x.1 x.2.1 != (0 : Int)) = false →
 (decide ((9 : Int) < (↑x.1.length : Int)) = true →
 (((best x.1 x.2.1).2.1 == (4 : Int)) = true → ((best x.1 x.2.1).2.1 == (4 : Int)) = true) ∧
 (((best x.1 x.2.1).2.1 == (4 : Int)) = true → ((best x.1 x.2.1).2.1 == (4 : Int)) = true) ∧
 ((best x.1 x.2.1).2.1 == (4 : Int) && (best x.1 x.2.1).1 == (0 : Int)) = true) ∧
 (decide ((9 : Int) < (↑x.1.length : Int)) = false →
 ((((0 : Int) ≤ (0 : Int) ∧ (0 : Int) ≤ (↑x.1.length : Int) ∧ (1 : Int) = x.2.1 ^ Int.toNat (0 : Int)) ∧ True) ∧
 (x.1 = x.1 ∧
 x.2.1 = x.2.1 ∧
 (best x.1 x.2.1).1 = (best x.1 x.2.1).1 ∧
 (best x.1 x.2.1).2.1 = (best x.1 x.2.1).2.1 ∧
 wrong x.1 x.2.1 = wrong x.1 x.2.1 ∧
 (1 : Int) = (1 : Int) ∧ (↑x.1.length : Int) = (↑x.1.length : Int) ∧ (0 : Int) = (0 : Int) ∧ True) ∧
 True ∧ True) ∧
 ∀ (g : Int × Int × Unit),
 (0 : Int) ≤ g.2.1 ∧ g.2.1 ≤ (↑x.1.length : Int) ∧ g.1 = x.2.1 ^ g.2.1.toNat →
 ((-9223372036854775808 : Int) ≤ g.1 ∧ g.1 ≤ (9223372036854775807 : Int)) ∧
 ((-9223372036854775808 : Int) ≤ g.2.1 ∧ g.2.1 ≤ (9223372036854775807 : Int)) ∧ True →
 (decide (g.2.1 < (↑x.1.length : Int)) = true →
 ((-9223372036854775808 : Int) ≤ g.1 * x.2.1 ∧ g.1 * x.2.1 ≤ (9223372036854775807 : Int)) ∧
 ((-9223372036854775808 : Int) ≤ g.2.1 + (1 : Int) ∧ g.2.1 + (1 : Int) ≤ (9223372036854775807 : Int)) ∧
 (((0 : Int) ≤ g.2.1 + (1 : Int) ∧
 g.2.1 + (1 : Int) ≤ (↑x.1.length : Int) ∧ g.1 * x.2.1 = x.2.1 ^ (g.2.1 + (1 : Int)).toNat) ∧
 ((↑x.1.length : Int) - (g.2.1 + (1 : Int))).toNat < ((↑x.1.length : Int) - g.2.1).toNat) ∧
 (x.1 = x.1 ∧
 x.2.1 = x.2.1 ∧
 (best x.1 x.2.1).1 = (best x.1 x.2.1).1 ∧
 (best x.1 x.2.1).2.1 = (best x.1 x.2.1).2.1 ∧
 wrong x.1 x.2.1 = wrong x.1 x.2.1 ∧
 g.1 * x.2.1 = g.1 * x.2.1 ∧
 (↑x.1.length : Int) = (↑x.1.length : Int) ∧ g.2.1 + (1 : Int) = g.2.1 + (1 : Int) ∧ True) ∧
 True ∧ True) ∧
 (decide (g.2.1 < (↑x.1.length : Int)) = false →
 (((best x.1 x.2.1).2.1 == (0 : Int)) = true → ((best x.1 x.2.1).2.1 == (0 : Int)) = true) ∧
 (((best x.1 x.2.1).2.1 == (0 : Int)) = true → ((best x.1 x.2.1).2.1 == (0 : Int)) = true) ∧
 (((best x.1 x.2.1).2.1 == (0 : Int) && !decide ((50000 : Int) < g.1)) = true →
 (((best x.1 x.2.1).2.1 == (0 : Int) && !decide ((50000 : Int) < g.1)) = true ∧
 ((best x.1 x.2.1).2.1 == (0 : Int) && !decide ((50000 : Int) < g.1)) = true) ∧
 Holds
 (((1 : Int) ≤ x.2.1 ∧ x.2.1 ≤ (8 : Int)) ∧
 (x.1.length ≤ (9 : Nat) ∧ x.1.all inS = true) ∧ x.2.1 ^ x.1.length ≤ (50000 : Int))) ∧
 (((best x.1 x.2.1).2.1 == (0 : Int) && !decide ((50000 : Int) < g.1)) = true →
 ((best x.1 x.2.1).2.1 == (0 : Int) && !decide ((50000 : Int) < g.1)) = true ∧
 ((best x.1 x.2.1).2.1 == (0 : Int) && !decide ((50000 : Int) < g.1)) = true) ∧
 (((best x.1 x.2.1).2.1 == (0 : Int)) = true →
 ((best x.1 x.2.1).2.1 == (0 : Int)) = true ∧
 (decide ((50000 : Int) < g.1) = false →
 ((best x.1 x.2.1).2.1 == (0 : Int) && !decide ((50000 : Int) < g.1)) = true)) ∧
 (((best x.1 x.2.1).2.1 == (0 : Int)) = true → ((best x.1 x.2.1).2.1 == (0 : Int)) = true) ∧
 ((best x.1 x.2.1).2.1 == (0 : Int) &&
 (decide ((50000 : Int) < g.1) || (best x.1 x.2.1).1 == ebest x.1 x.2.1)) =
 true)))

theorem E_law_eq (x : HL (cLaw : Ctr).as) : vc (fx_law x) 1 7 Try.f7 (cLaw) x = E_law x := by kernel_rfl

end Go.Proofs.Ytpmfgdedkmddlaa.Best
