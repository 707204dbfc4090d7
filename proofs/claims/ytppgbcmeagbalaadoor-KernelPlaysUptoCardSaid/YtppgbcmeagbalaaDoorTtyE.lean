/-
 The conditions that the executor comes to, written out (by a tool of ours), and that they are the conditions (by the kernel).
-/
import Derived.Test.YtppgbcmeagbalaaDoorTtyC
namespace Go.Proofs.YtppgbcmeagbalaaDoor.Tty
open Go.Sx
set_option maxRecDepth 100000

def E_cloneb (x : List Int × Unit) : Prop :=
 ∀ (b : Bool),
 (b = true → x.1 = ([] : List Int)) →
 (b = true → ([] : List Int) = x.1) ∧
 (b = false →
 (([] : List Int).length + x.1.length ≤ (9223372036854775807 : Nat) ∧
 (([] : List Int).length + x.1.length + (([] : List Int).length + x.1.length) / (4 : Nat) + (192 : Nat)) * (1 : Nat) ≤
 (281474976710656 : Nat)) ∧
 ([] : List Int) ++ x.1 = x.1)

theorem E_cloneb_eq (x : HL (cCloneB : Ctr).as) : vc (fx_cloneb x) 1 28 Tryd.f28 (cCloneB) x = E_cloneb x := by kernel_rfl

def E_any (x : List (List Int) × Unit) : Prop :=
 ((((0 : Int) ≤ (0 : Int) ∧ 0 ≤ (↑x.1.length : Int) ∧ (List.take (Int.toNat (0 : Int)) x.1).all lineOk = true) ∧ True) ∧
 (x.1 = x.1 ∧
 Value.func (Fn.func (46 : Nat)) ([] : List Value).toArray ([] : List Value).toArray =
 Value.func (Fn.func (46 : Nat)) ([] : List Value).toArray ([] : List Value).toArray ∧
 (↑x.1.length : Int) = (↑x.1.length : Int) ∧ (0 : Int) = (0 : Int) ∧ True) ∧
 True ∧
 x.1 = x.1 ∧
 Value.func (Fn.func (46 : Nat)) ([] : List Value).toArray ([] : List Value).toArray =
 Value.func (Fn.func (46 : Nat)) ([] : List Value).toArray ([] : List Value).toArray ∧
 True ∧
 True ∧
 false = false ∧
 x.1 = x.1 ∧
 Value.func (Fn.func (46 : Nat)) ([] : List Value).toArray ([] : List Value).toArray =
 Value.func (Fn.func (46 : Nat)) ([] : List Value).toArray ([] : List Value).toArray ∧
 True ∧ True ∧ True) ∧
 ∀ (g : Int × Unit),
 0 ≤ g.1 ∧ g.1 ≤ (↑x.1.length : Int) ∧ (List.take g.1.toNat x.1).all lineOk = true →
 (-9223372036854775808 ≤ g.1 ∧ g.1 ≤ 9223372036854775807) ∧ True →
 (decide (g.1 < (↑x.1.length : Int)) = true →
 (0 ≤ g.1 ∧ g.1 < (↑x.1.length : Int)) ∧
 (decide (65 < (↑(x.1.getD g.1.toNat ([] : List Int)).length : Int)) = true →
 decide (0 ≤ g.1) = !x.1.all lineOk) ∧
 (decide (65 < (↑(x.1.getD g.1.toNat ([] : List Int)).length : Int)) = false →
 (-9223372036854775808 ≤ g.1 + 1 ∧ g.1 + 1 ≤ (9223372036854775807 : Int)) ∧
 ((0 ≤ g.1 + 1 ∧
 g.1 + 1 ≤ (↑x.1.length : Int) ∧ (List.take (g.1 + 1).toNat x.1).all lineOk = true) ∧
 ((↑x.1.length : Int) - (g.1 + 1)).toNat < ((↑x.1.length : Int) - g.1).toNat) ∧
 (x.1 = x.1 ∧
 Value.func (Fn.func (46 : Nat)) ([] : List Value).toArray ([] : List Value).toArray =
 Value.func (Fn.func (46 : Nat)) ([] : List Value).toArray ([] : List Value).toArray ∧
 (↑x.1.length : Int) = (↑x.1.length : Int) ∧ g.1 + 1 = g.1 + 1 ∧ True) ∧
 True ∧
 x.1 = x.1 ∧
 Value.func (Fn.func (46 : Nat)) ([] : List Value).toArray ([] : List Value).toArray =
 Value.func (Fn.func (46 : Nat)) ([] : List Value).toArray ([] : List Value).toArray ∧
 True ∧
 True ∧
 false = false ∧
 x.1 = x.1 ∧
 Value.func (Fn.func (46 : Nat)) ([] : List Value).toArray ([] : List Value).toArray =
 Value.func (Fn.func (46 : Nat)) ([] : List Value).toArray ([] : List Value).toArray ∧
 True ∧ True ∧ True)) ∧
 (decide (g.1 < (↑x.1.length : Int)) = false → decide ((0 : Int) ≤ (-1 : Int)) = !x.1.all lineOk)

theorem E_any_eq (x : HL (cAny : Ctr).as) : vcF (fx_any x) 3 45 46 Tryd.f45 (cAny) x = E_any x := by kernel_rfl

def E_right (x : (List (List Int) × List Int) × Unit) : Prop :=
 (decide ((↑x.1.2.length : Int) ≤ (64 : Int)) = true → decide ((↑x.1.2.length : Int) ≤ (64 : Int)) = true) ∧
 (decide ((↑x.1.2.length : Int) ≤ (64 : Int)) = true → decide ((↑x.1.2.length : Int) ≤ (64 : Int)) = true) ∧
 (decide ((↑x.1.2.length : Int) ≤ (64 : Int)) = true → decide ((↑x.1.2.length : Int) ≤ (64 : Int)) = true) ∧
 (decide ((↑x.1.2.length : Int) ≤ (64 : Int)) = true → decide ((↑x.1.2.length : Int) ≤ (64 : Int)) = true) ∧
 ((decide ((↑x.1.2.length : Int) ≤ (64 : Int)) && decide ((↑x.1.1.length : Int) ≤ (400 : Int))) = true →
 (decide ((↑x.1.2.length : Int) ≤ (64 : Int)) && decide ((↑x.1.1.length : Int) ≤ (400 : Int))) = true) ∧
 ((decide ((↑x.1.2.length : Int) ≤ (64 : Int)) && decide ((↑x.1.1.length : Int) ≤ (400 : Int))) = true →
 (decide ((↑x.1.2.length : Int) ≤ (64 : Int)) && decide ((↑x.1.1.length : Int) ≤ (400 : Int))) = true ∧
 Holds True ∧ (!!x.1.1.all lineOk) = rightT x.1) ∧
 ((decide ((↑x.1.2.length : Int) ≤ (64 : Int)) && decide ((↑x.1.1.length : Int) ≤ (400 : Int))) = !true → false = rightT x.1)

theorem E_right_eq (x : HL (cRight : Ctr).as) : vc (fx_right x) 1 26 Tryd.f26 (cRight) x = E_right x := by kernel_rfl

def E_qright (x : (List (List Int) × List Int) × Unit) : Prop :=
 (decide ((↑x.1.2.length : Int) < (65 : Int)) = true → decide ((↑x.1.2.length : Int) < (65 : Int)) = true) ∧
 (decide ((↑x.1.2.length : Int) < (65 : Int)) = true → decide ((↑x.1.2.length : Int) < (65 : Int)) = true) ∧
 (decide ((↑x.1.2.length : Int) < (65 : Int)) = true → decide ((↑x.1.2.length : Int) < (65 : Int)) = true) ∧
 (decide ((↑x.1.2.length : Int) < (65 : Int)) = true → decide ((↑x.1.2.length : Int) < (65 : Int)) = true) ∧
 ((((0 : Int) ≤ (0 : Int) ∧
 0 ≤ (↑x.1.1.length : Int) ∧
 (decide ((↑x.1.2.length : Int) < (65 : Int)) && decide ((↑x.1.1.length : Int) < (401 : Int))) =
 (decide ((↑x.1.2.length : Int) ≤ (64 : Int)) && decide ((↑x.1.1.length : Int) ≤ (400 : Int)) &&
 (List.take (Int.toNat (0 : Int)) x.1.1).all lineOk)) ∧
 True) ∧
 ((decide ((↑x.1.2.length : Int) < (65 : Int)) && decide ((↑x.1.1.length : Int) < (401 : Int))) =
 (decide ((↑x.1.2.length : Int) < (65 : Int)) && decide ((↑x.1.1.length : Int) < (401 : Int))) ∧
 x.1.1 = x.1.1 ∧ (↑x.1.1.length : Int) = (↑x.1.1.length : Int) ∧ (0 : Int) = (0 : Int) ∧ True) ∧
 True ∧ True) ∧
 ∀ (g : Bool × Int × Unit),
 0 ≤ g.2.1 ∧
 g.2.1 ≤ (↑x.1.1.length : Int) ∧
 g.1 =
 (decide ((↑x.1.2.length : Int) ≤ (64 : Int)) && decide ((↑x.1.1.length : Int) ≤ (400 : Int)) &&
 (List.take g.2.1.toNat x.1.1).all lineOk) →
 True ∧ (-9223372036854775808 ≤ g.2.1 ∧ g.2.1 ≤ 9223372036854775807) ∧ True →
 (decide (g.2.1 < (↑x.1.1.length : Int)) = true →
 (0 ≤ g.2.1 ∧ g.2.1 < (↑x.1.1.length : Int)) ∧
 (g.1 = true → g.1 = true) ∧
 (g.1 = true → g.1 = true) ∧
 (g.1 = true → g.1 = true) ∧
 (-9223372036854775808 ≤ g.2.1 + 1 ∧ g.2.1 + 1 ≤ (9223372036854775807 : Int)) ∧
 ((0 ≤ g.2.1 + 1 ∧
 g.2.1 + 1 ≤ (↑x.1.1.length : Int) ∧
 (g.1 && decide ((↑(x.1.1.getD g.2.1.toNat ([] : List Int)).length : Int) < (66 : Int))) =
 (decide ((↑x.1.2.length : Int) ≤ (64 : Int)) && decide ((↑x.1.1.length : Int) ≤ (400 : Int)) &&
 (List.take (g.2.1 + 1).toNat x.1.1).all lineOk)) ∧
 ((↑x.1.1.length : Int) - (g.2.1 + 1)).toNat < ((↑x.1.1.length : Int) - g.2.1).toNat) ∧
 ((g.1 && decide ((↑(x.1.1.getD g.2.1.toNat ([] : List Int)).length : Int) < (66 : Int))) =
 (g.1 && decide ((↑(x.1.1.getD g.2.1.toNat ([] : List Int)).length : Int) < (66 : Int))) ∧
 x.1.1 = x.1.1 ∧
 (↑x.1.1.length : Int) = (↑x.1.1.length : Int) ∧ g.2.1 + 1 = g.2.1 + 1 ∧ True) ∧
 True ∧ True) ∧
 (decide (g.2.1 < (↑x.1.1.length : Int)) = false → g.1 = rightT x.1)

theorem E_qright_eq (x : HL (cRight : Ctr).as) : vc (fx_qright x) 1 30 Tryd.f30 (cRight) x = E_qright x := by kernel_rfl

def E_read (x : (List (List Int) × List Int) × Int × Unit) : Prop :=
 Holds True ∧
 ((!rightT (x.1.1, x.1.2)) = true →
 (([] : List (List Int)), ([] : List Int)) = (readT x.1 x.2.1).1 ∧
 ([] : List Int) = (readT x.1 x.2.1).2.1 ∧ (1 : Int) = (readT x.1 x.2.1).2.2.1) ∧
 ((!rightT (x.1.1, x.1.2)) = false →
 (decide (x.2.1 < 1) = true →
 (([] : List (List Int)), ([] : List Int)) = (readT x.1 x.2.1).1 ∧
 ([] : List Int) = (readT x.1 x.2.1).2.1 ∧ (2 : Int) = (readT x.1 x.2.1).2.2.1) ∧
 (decide (x.2.1 < 1) = false →
 (((↑x.1.1.length : Int) == (0 : Int)) = true →
 (([] : List (List Int)), ([] : List Int)) = (readT x.1 x.2.1).1 ∧
 ([] : List Int) = (readT x.1 x.2.1).2.1 ∧ (7 : Int) = (readT x.1 x.2.1).2.2.1) ∧
 (((↑x.1.1.length : Int) == (0 : Int)) = false →
 Holds (x.1.2.length ≤ (140737488355328 : Nat)) ∧
 ((((0 : Int) ≤ (0 : Int) ∧
 0 ≤ (↑x.1.1.length : Int) ∧ ([] : List (List Int)) = List.take (Int.toNat (0 : Int)) x.1.1) ∧
 True) ∧
 ((True ∧ True) ∧
 (True ∧ True) ∧
 x.1.1 = x.1.1 ∧ (↑x.1.1.length : Int) = (↑x.1.1.length : Int) ∧ (0 : Int) = (0 : Int) ∧ True) ∧
 ((True ∧ x.1.2 = x.1.2 ∧ True) ∧
 ([] : List (List Int)) = ([] : List (List Int)) ∧
 (x.1.1 = x.1.1 ∧ x.1.2 = x.1.2 ∧ True) ∧
 (Value.slice none (0 : Nat) (0 : Nat) = Value.slice none (0 : Nat) (0 : Nat) ∧
 Value.slice none (0 : Nat) (0 : Nat) = Value.slice none (0 : Nat) (0 : Nat) ∧ True) ∧
 (Value.slice none (0 : Nat) (0 : Nat) = Value.slice none (0 : Nat) (0 : Nat) ∧
 Value.slice none (0 : Nat) (0 : Nat) = Value.slice none (0 : Nat) (0 : Nat) ∧ True) ∧
 True) ∧
 x.1 = x.1 ∧
 x.2.1 = x.2.1 ∧
 (True ∧ True) ∧
 True ∧
 (True ∧ True) ∧
 Value.slice none (0 : Nat) (0 : Nat) = Value.slice none (0 : Nat) (0 : Nat) ∧
 (0 : Int) = (0 : Int) ∧
 True ∧
 True ∧
 True ∧
 True ∧
 false = false ∧
 (x.1.1 = x.1.1 ∧ x.1.2 = x.1.2 ∧ True) ∧
 rightT (x.1.1, x.1.2) = rightT (x.1.1, x.1.2) ∧
 (!rightT (x.1.1, x.1.2)) = !rightT (x.1.1, x.1.2) ∧
 True ∧
 false = false ∧
 x.2.1 = x.2.1 ∧
 decide (x.2.1 < 1) = decide (x.2.1 < 1) ∧
 True ∧
 false = false ∧
 (True ∧ True) ∧
 x.1.1 = x.1.1 ∧
 (↑x.1.1.length : Int) = (↑x.1.1.length : Int) ∧
 ((↑x.1.1.length : Int) == (0 : Int)) =
 ((↑x.1.1.length : Int) == (0 : Int)) ∧
 True ∧
 (x.1.1 = x.1.1 ∧ x.1.2 = x.1.2 ∧ True) ∧
 True ∧
 True ∧
 True ∧
 True ∧
 True ∧
 True ∧
 True ∧
 True ∧
 True ∧
 True ∧
 True ∧
 True ∧
 True ∧
 True ∧
 True ∧
 True ∧
 True ∧
 True ∧
 True ∧
 True ∧
 True ∧
 True ∧
 True ∧
 True ∧
 True ∧
 True ∧
 True ∧
 True ∧
 True ∧
 True ∧ True) ∧
 ∀ (g : (List (List Int) × Unit) × Int × Unit),
 0 ≤ g.2.1 ∧ g.2.1 ≤ (↑x.1.1.length : Int) ∧ g.1.1 = List.take g.2.1.toNat x.1.1 →
 ((g.1.1.length ≤ (9223372036854775807 : Nat) ∧
 ∀ (x : List Int),
 x ∈ g.1.1 →
 x.length ≤ (9223372036854775807 : Nat) ∧ ∀ (x_1 : Int), x_1 ∈ x → 0 ≤ x_1 ∧ x_1 ≤ 255) ∧
 True) ∧
 (-9223372036854775808 ≤ g.2.1 ∧ g.2.1 ≤ 9223372036854775807) ∧ True →
 (decide (g.2.1 < (↑x.1.1.length : Int)) = true →
 (0 ≤ g.2.1 ∧ g.2.1 < (↑x.1.1.length : Int)) ∧
 Holds ((x.1.1.getD g.2.1.toNat ([] : List Int)).length ≤ (140737488355328 : Nat)) ∧
 (g.1.1.length +
 ((([] : List Int) :: ([] : List (List Int))).set (0 : Nat)
 (x.1.1.getD g.2.1.toNat ([] : List Int))).length ≤
 (9223372036854775807 : Nat) ∧
 (g.1.1.length +
 ((([] : List Int) :: ([] : List (List Int))).set (0 : Nat)
 (x.1.1.getD g.2.1.toNat ([] : List Int))).length +
 (g.1.1.length +
 ((([] : List Int) :: ([] : List (List Int))).set (0 : Nat)
 (x.1.1.getD g.2.1.toNat ([] : List Int))).length) /
 (4 : Nat) +
 (192 : Nat)) *
 (24 : Nat) ≤
 (281474976710656 : Nat)) ∧
 (-9223372036854775808 ≤ g.2.1 + 1 ∧ g.2.1 + 1 ≤ (9223372036854775807 : Int)) ∧
 ((0 ≤ g.2.1 + 1 ∧
 g.2.1 + 1 ≤ (↑x.1.1.length : Int) ∧
 g.1.1 ++
 (([] : List Int) :: ([] : List (List Int))).set (0 : Nat)
 (x.1.1.getD g.2.1.toNat ([] : List Int)) =
 List.take (g.2.1 + 1).toNat x.1.1) ∧
 ((↑x.1.1.length : Int) - (g.2.1 + 1)).toNat < ((↑x.1.1.length : Int) - g.2.1).toNat) ∧
 ((True ∧ True) ∧
 (True ∧ True) ∧
 x.1.1 = x.1.1 ∧
 (↑x.1.1.length : Int) = (↑x.1.1.length : Int) ∧
 g.2.1 + 1 = g.2.1 + 1 ∧ True) ∧
 ((True ∧ x.1.2 = x.1.2 ∧ True) ∧
 g.1.1 ++
 (([] : List Int) :: ([] : List (List Int))).set (0 : Nat)
 (x.1.1.getD g.2.1.toNat ([] : List Int)) =
 g.1.1 ++
 (([] : List Int) :: ([] : List (List Int))).set (0 : Nat)
 (x.1.1.getD g.2.1.toNat ([] : List Int)) ∧
 (x.1.1 = x.1.1 ∧ x.1.2 = x.1.2 ∧ True) ∧
 (Value.slice none (0 : Nat) (0 : Nat) = Value.slice none (0 : Nat) (0 : Nat) ∧
 Value.slice none (0 : Nat) (0 : Nat) = Value.slice none (0 : Nat) (0 : Nat) ∧ True) ∧
 (Value.slice none (0 : Nat) (0 : Nat) = Value.slice none (0 : Nat) (0 : Nat) ∧
 Value.slice none (0 : Nat) (0 : Nat) = Value.slice none (0 : Nat) (0 : Nat) ∧ True) ∧
 True) ∧
 x.1 = x.1 ∧
 x.2.1 = x.2.1 ∧
 (True ∧ True) ∧
 True ∧
 (True ∧ True) ∧
 Value.slice none (0 : Nat) (0 : Nat) = Value.slice none (0 : Nat) (0 : Nat) ∧
 (0 : Int) = (0 : Int) ∧
 True ∧
 True ∧
 True ∧
 True ∧
 false = false ∧
 (x.1.1 = x.1.1 ∧ x.1.2 = x.1.2 ∧ True) ∧
 rightT (x.1.1, x.1.2) = rightT (x.1.1, x.1.2) ∧
 (!rightT (x.1.1, x.1.2)) = !rightT (x.1.1, x.1.2) ∧
 True ∧
 false = false ∧
 x.2.1 = x.2.1 ∧
 decide (x.2.1 < 1) = decide (x.2.1 < 1) ∧
 True ∧
 false = false ∧
 (True ∧ True) ∧
 x.1.1 = x.1.1 ∧
 (↑x.1.1.length : Int) = (↑x.1.1.length : Int) ∧
 ((↑x.1.1.length : Int) == (0 : Int)) =
 ((↑x.1.1.length : Int) == (0 : Int)) ∧
 True ∧
 (x.1.1 = x.1.1 ∧ x.1.2 = x.1.2 ∧ True) ∧
 True ∧
 True ∧
 True ∧
 True ∧
 True ∧
 True ∧
 True ∧
 True ∧
 True ∧
 True ∧
 True ∧
 True ∧
 True ∧
 True ∧
 True ∧
 True ∧
 True ∧
 True ∧
 True ∧
 True ∧
 True ∧
 True ∧
 True ∧
 True ∧
 True ∧
 True ∧
 True ∧
 True ∧
 True ∧
 True ∧
 True) ∧
 (decide (g.2.1 < (↑x.1.1.length : Int)) = false →
 ((0 : Int) ≤ (0 : Int) ∧ 0 < (↑g.1.1.length : Int)) ∧
 (((0 : Int) ≤ (0 : Int) ∧ 0 ≤ min x.2.1 (↑(g.1.1.getD (nat_lit 0) ([] : List Int)).length : Int)) ∧
 min x.2.1 (↑(g.1.1.getD (nat_lit 0) ([] : List Int)).length : Int) ≤
 (↑(g.1.1.getD (nat_lit 0) ([] : List Int)).length : Int)) ∧
 Holds
 ((List.drop (Int.toNat (0 : Int))
 (List.take (min x.2.1 (↑(g.1.1.getD (nat_lit 0) ([] : List Int)).length : Int)).toNat
 (g.1.1.getD (nat_lit 0) ([] : List Int)))).length ≤
 (140737488355328 : Nat)) ∧
 ((min x.2.1 (↑(g.1.1.getD (nat_lit 0) ([] : List Int)).length : Int) ==
 (↑(g.1.1.getD (nat_lit 0) ([] : List Int)).length : Int)) =
 true →
 (((0 : Int) ≤ (1 : Int) ∧ 1 ≤ (↑g.1.1.length : Int)) ∧
 (↑g.1.1.length : Int) ≤ (↑g.1.1.length : Int)) ∧
 (List.drop (Int.toNat (1 : Int)) (List.take (↑g.1.1.length : Int).toNat g.1.1), x.1.2) =
 (readT x.1 x.2.1).1 ∧
 List.drop (Int.toNat (0 : Int))
 (List.take (min x.2.1 (↑(g.1.1.getD (nat_lit 0) ([] : List Int)).length : Int)).toNat
 (g.1.1.getD (nat_lit 0) ([] : List Int))) =
 (readT x.1 x.2.1).2.1 ∧
 (0 : Int) = (readT x.1 x.2.1).2.2.1) ∧
 ((min x.2.1 (↑(g.1.1.getD (nat_lit 0) ([] : List Int)).length : Int) ==
 (↑(g.1.1.getD (nat_lit 0) ([] : List Int)).length : Int)) =
 false →
 ((0 ≤ min x.2.1 (↑(g.1.1.getD (nat_lit 0) ([] : List Int)).length : Int) ∧
 min x.2.1 (↑(g.1.1.getD (nat_lit 0) ([] : List Int)).length : Int) ≤
 (↑(g.1.1.getD (nat_lit 0) ([] : List Int)).length : Int)) ∧
 (↑(g.1.1.getD (nat_lit 0) ([] : List Int)).length : Int) ≤
 (↑(g.1.1.getD (nat_lit 0) ([] : List Int)).length : Int)) ∧
 Holds
 ((List.drop (min x.2.1 (↑(g.1.1.getD (nat_lit 0) ([] : List Int)).length : Int)).toNat
 (List.take (↑(g.1.1.getD (nat_lit 0) ([] : List Int)).length : Int).toNat
 (g.1.1.getD (nat_lit 0) ([] : List Int)))).length ≤
 (140737488355328 : Nat)) ∧
 ((0 : Int) ≤ (0 : Int) ∧ 0 < (↑g.1.1.length : Int)) ∧
 (g.1.1.set (nat_lit 0)
 (List.drop (min x.2.1 (↑(g.1.1.getD (nat_lit 0) ([] : List Int)).length : Int)).toNat
 (List.take (↑(g.1.1.getD (nat_lit 0) ([] : List Int)).length : Int).toNat
 (g.1.1.getD (nat_lit 0) ([] : List Int)))),
 x.1.2) =
 (readT x.1 x.2.1).1 ∧
 List.drop (Int.toNat (0 : Int))
 (List.take (min x.2.1 (↑(g.1.1.getD (nat_lit 0) ([] : List Int)).length : Int)).toNat
 (g.1.1.getD (nat_lit 0) ([] : List Int))) =
 (readT x.1 x.2.1).2.1 ∧
 (0 : Int) = (readT x.1 x.2.1).2.2.1)))))

theorem E_read_eq (x : HL (cRead : Ctr).as) : vc (fx_read x) 2 16 Tryd.f16 (cRead) x = E_read x := by kernel_rfl

def E_own (x : (List (List Int) × List Int) × Unit) : Prop :=
 Holds (x.1.2.length ≤ (140737488355328 : Nat)) ∧
 ((((0 : Int) ≤ (0 : Int) ∧ 0 ≤ (↑x.1.1.length : Int) ∧ ([] : List (List Int)) = List.take (Int.toNat (0 : Int)) x.1.1) ∧ True) ∧
 ((True ∧ True) ∧ (True ∧ True) ∧ x.1.1 = x.1.1 ∧ (↑x.1.1.length : Int) = (↑x.1.1.length : Int) ∧ (0 : Int) = (0 : Int) ∧ True) ∧
 ((True ∧ x.1.2 = x.1.2 ∧ True) ∧
 ([] : List (List Int)) = ([] : List (List Int)) ∧
 (Value.slice none (0 : Nat) (0 : Nat) = Value.slice none (0 : Nat) (0 : Nat) ∧
 Value.slice none (0 : Nat) (0 : Nat) = Value.slice none (0 : Nat) (0 : Nat) ∧ True) ∧
 True) ∧
 True) ∧
 ∀ (g : (List (List Int) × Unit) × Int × Unit),
 0 ≤ g.2.1 ∧ g.2.1 ≤ (↑x.1.1.length : Int) ∧ g.1.1 = List.take g.2.1.toNat x.1.1 →
 ((g.1.1.length ≤ (9223372036854775807 : Nat) ∧
 ∀ (x : List Int),
 x ∈ g.1.1 → x.length ≤ (9223372036854775807 : Nat) ∧ ∀ (x_1 : Int), x_1 ∈ x → 0 ≤ x_1 ∧ x_1 ≤ 255) ∧
 True) ∧
 (-9223372036854775808 ≤ g.2.1 ∧ g.2.1 ≤ 9223372036854775807) ∧ True →
 (decide (g.2.1 < (↑x.1.1.length : Int)) = true →
 (0 ≤ g.2.1 ∧ g.2.1 < (↑x.1.1.length : Int)) ∧
 Holds ((x.1.1.getD g.2.1.toNat ([] : List Int)).length ≤ (140737488355328 : Nat)) ∧
 (g.1.1.length +
 ((([] : List Int) :: ([] : List (List Int))).set (0 : Nat) (x.1.1.getD g.2.1.toNat ([] : List Int))).length ≤
 (9223372036854775807 : Nat) ∧
 (g.1.1.length +
 ((([] : List Int) :: ([] : List (List Int))).set (0 : Nat) (x.1.1.getD g.2.1.toNat ([] : List Int))).length +
 (g.1.1.length +
 ((([] : List Int) :: ([] : List (List Int))).set (0 : Nat)
 (x.1.1.getD g.2.1.toNat ([] : List Int))).length) /
 (4 : Nat) +
 (192 : Nat)) *
 (24 : Nat) ≤
 (281474976710656 : Nat)) ∧
 (-9223372036854775808 ≤ g.2.1 + 1 ∧ g.2.1 + 1 ≤ (9223372036854775807 : Int)) ∧
 ((0 ≤ g.2.1 + 1 ∧
 g.2.1 + 1 ≤ (↑x.1.1.length : Int) ∧
 g.1.1 ++
 (([] : List Int) :: ([] : List (List Int))).set (0 : Nat) (x.1.1.getD g.2.1.toNat ([] : List Int)) =
 List.take (g.2.1 + 1).toNat x.1.1) ∧
 ((↑x.1.1.length : Int) - (g.2.1 + 1)).toNat < ((↑x.1.1.length : Int) - g.2.1).toNat) ∧
 ((True ∧ True) ∧
 (True ∧ True) ∧
 x.1.1 = x.1.1 ∧
 (↑x.1.1.length : Int) = (↑x.1.1.length : Int) ∧ g.2.1 + 1 = g.2.1 + 1 ∧ True) ∧
 ((True ∧ x.1.2 = x.1.2 ∧ True) ∧
 g.1.1 ++
 (([] : List Int) :: ([] : List (List Int))).set (0 : Nat) (x.1.1.getD g.2.1.toNat ([] : List Int)) =
 g.1.1 ++
 (([] : List Int) :: ([] : List (List Int))).set (0 : Nat) (x.1.1.getD g.2.1.toNat ([] : List Int)) ∧
 (Value.slice none (0 : Nat) (0 : Nat) = Value.slice none (0 : Nat) (0 : Nat) ∧
 Value.slice none (0 : Nat) (0 : Nat) = Value.slice none (0 : Nat) (0 : Nat) ∧ True) ∧
 True) ∧
 True) ∧
 (decide (g.2.1 < (↑x.1.1.length : Int)) = false → (g.1.1, x.1.2) = x.1)

theorem E_own_eq (x : HL (cOwn : Ctr).as) : vc (fx_own x) 1 27 Tryd.f27 (cOwn) x = E_own x := by kernel_rfl

def E_qread (x : (List (List Int) × List Int) × Int × Unit) : Prop :=
 Holds True ∧
 ((!rightT (x.1.1, x.1.2)) = true →
 (([] : List (List Int)), ([] : List Int)) = (readT x.1 x.2.1).1 ∧
 ([] : List Int) = (readT x.1 x.2.1).2.1 ∧ (1 : Int) = (readT x.1 x.2.1).2.2.1) ∧
 ((!rightT (x.1.1, x.1.2)) = false →
 (decide (x.2.1 < 1) = true →
 (([] : List (List Int)), ([] : List Int)) = (readT x.1 x.2.1).1 ∧
 ([] : List Int) = (readT x.1 x.2.1).2.1 ∧ (2 : Int) = (readT x.1 x.2.1).2.2.1) ∧
 (decide (x.2.1 < 1) = false →
 (((↑x.1.1.length : Int) == (0 : Int)) = true →
 (([] : List (List Int)), ([] : List Int)) = (readT x.1 x.2.1).1 ∧
 ([] : List Int) = (readT x.1 x.2.1).2.1 ∧ (7 : Int) = (readT x.1 x.2.1).2.2.1) ∧
 (((↑x.1.1.length : Int) == (0 : Int)) = false →
 ((0 : Int) ≤ (0 : Int) ∧ 0 < (↑x.1.1.length : Int)) ∧
 (((0 : Int) ≤ (1 : Int) ∧ 1 ≤ (↑x.1.1.length : Int)) ∧ (↑x.1.1.length : Int) ≤ (↑x.1.1.length : Int)) ∧
 (([] : List (List Int)).length + (List.drop (Int.toNat (1 : Int)) (List.take (↑x.1.1.length : Int).toNat x.1.1)).length ≤
 (9223372036854775807 : Nat) ∧
 (([] : List (List Int)).length +
 (List.drop (Int.toNat (1 : Int)) (List.take (↑x.1.1.length : Int).toNat x.1.1)).length +
 (([] : List (List Int)).length +
 (List.drop (Int.toNat (1 : Int)) (List.take (↑x.1.1.length : Int).toNat x.1.1)).length) /
 (4 : Nat) +
 (192 : Nat)) *
 (24 : Nat) ≤
 (281474976710656 : Nat)) ∧
 (decide (x.2.1 < (↑(x.1.1.getD (Int.toNat (0 : Int)) ([] : List Int)).length : Int)) = true →
 ((0 ≤ x.2.1 ∧ x.2.1 ≤ (↑(x.1.1.getD (Int.toNat (0 : Int)) ([] : List Int)).length : Int)) ∧
 (↑(x.1.1.getD (Int.toNat (0 : Int)) ([] : List Int)).length : Int) ≤
 (↑(x.1.1.getD (Int.toNat (0 : Int)) ([] : List Int)).length : Int)) ∧
 (((([] : List Int) :: ([] : List (List Int))).set (0 : Nat)
 (List.drop x.2.1.toNat
 (List.take (↑(x.1.1.getD (Int.toNat (0 : Int)) ([] : List Int)).length : Int).toNat
 (x.1.1.getD (Int.toNat (0 : Int)) ([] : List Int))))).length +
 (([] : List (List Int)) ++
 List.drop (Int.toNat (1 : Int)) (List.take (↑x.1.1.length : Int).toNat x.1.1)).length ≤
 (9223372036854775807 : Nat) ∧
 (((([] : List Int) :: ([] : List (List Int))).set (0 : Nat)
 (List.drop x.2.1.toNat
 (List.take (↑(x.1.1.getD (Int.toNat (0 : Int)) ([] : List Int)).length : Int).toNat
 (x.1.1.getD (Int.toNat (0 : Int)) ([] : List Int))))).length +
 (([] : List (List Int)) ++
 List.drop (Int.toNat (1 : Int)) (List.take (↑x.1.1.length : Int).toNat x.1.1)).length +
 (((([] : List Int) :: ([] : List (List Int))).set (0 : Nat)
 (List.drop x.2.1.toNat
 (List.take (↑(x.1.1.getD (Int.toNat (0 : Int)) ([] : List Int)).length : Int).toNat
 (x.1.1.getD (Int.toNat (0 : Int)) ([] : List Int))))).length +
 (([] : List (List Int)) ++
 List.drop (Int.toNat (1 : Int)) (List.take (↑x.1.1.length : Int).toNat x.1.1)).length) /
 (4 : Nat) +
 (192 : Nat)) *
 (24 : Nat) ≤
 (281474976710656 : Nat)) ∧
 (((0 : Int) ≤ (0 : Int) ∧ 0 ≤ x.2.1) ∧
 x.2.1 ≤ (↑(x.1.1.getD (Int.toNat (0 : Int)) ([] : List Int)).length : Int)) ∧
 ((([] : List Int) :: ([] : List (List Int))).set (0 : Nat)
 (List.drop x.2.1.toNat
 (List.take (↑(x.1.1.getD (Int.toNat (0 : Int)) ([] : List Int)).length : Int).toNat
 (x.1.1.getD (Int.toNat (0 : Int)) ([] : List Int)))) ++
 (([] : List (List Int)) ++
 List.drop (Int.toNat (1 : Int)) (List.take (↑x.1.1.length : Int).toNat x.1.1)),
 x.1.2) =
 (readT x.1 x.2.1).1 ∧
 List.drop (Int.toNat (0 : Int)) (List.take x.2.1.toNat (x.1.1.getD (Int.toNat (0 : Int)) ([] : List Int))) =
 (readT x.1 x.2.1).2.1 ∧
 (0 : Int) = (readT x.1 x.2.1).2.2.1) ∧
 (decide (x.2.1 < (↑(x.1.1.getD (Int.toNat (0 : Int)) ([] : List Int)).length : Int)) = false →
 (([] : List (List Int)) ++ List.drop (Int.toNat (1 : Int)) (List.take (↑x.1.1.length : Int).toNat x.1.1), x.1.2) =
 (readT x.1 x.2.1).1 ∧
 x.1.1.getD (Int.toNat (0 : Int)) ([] : List Int) = (readT x.1 x.2.1).2.1 ∧
 (0 : Int) = (readT x.1 x.2.1).2.2.1))))

theorem E_qread_eq (x : HL (cRead : Ctr).as) : vc (fx_qread x) 1 18 Tryd.f18 (cRead) x = E_qread x := by kernel_rfl

def E_cloneo (x : List Int × Unit) : Prop :=
 ∀ (b : Bool),
 (b = true → x.1 = ([] : List Int)) →
 (b = true → ([] : List Int) = x.1) ∧
 (b = false →
 (([] : List Int).length + x.1.length ≤ (9223372036854775807 : Nat) ∧
 (([] : List Int).length + x.1.length + (([] : List Int).length + x.1.length) / (4 : Nat) + (192 : Nat)) * (1 : Nat) ≤
 (281474976710656 : Nat)) ∧
 ([] : List Int) ++ x.1 = x.1)

theorem E_cloneo_eq (x : HL (cCloneO : Ctr).as) : vc (fx_cloneo x) 1 28 Tryd.f28 (cCloneO) x = E_cloneo x := by kernel_rfl

def E_clonel (x : List (List Int) × Unit) : Prop :=
 ∀ (b : Bool),
 (b = true → x.1 = ([] : List (List Int))) →
 (b = true → ([] : List (List Int)) = x.1) ∧
 (b = false →
 (([] : List (List Int)).length + x.1.length ≤ (9223372036854775807 : Nat) ∧
 (([] : List (List Int)).length + x.1.length + (([] : List (List Int)).length + x.1.length) / (4 : Nat) + (192 : Nat)) * (24 : Nat) ≤
 (281474976710656 : Nat)) ∧
 ([] : List (List Int)) ++ x.1 = x.1)

theorem E_clonel_eq (x : HL (cCloneL : Ctr).as) : vc (fx_clonel x) 1 57 Tryd.f57 (cCloneL) x = E_clonel x := by kernel_rfl

def E_cloney (x : List Int × Unit) : Prop :=
 ∀ (b : Bool),
 (b = true → x.1 = ([] : List Int)) →
 (b = true → ([] : List Int) = x.1) ∧
 (b = false →
 (([] : List Int).length + x.1.length ≤ (9223372036854775807 : Nat) ∧
 (([] : List Int).length + x.1.length + (([] : List Int).length + x.1.length) / (4 : Nat) + (192 : Nat)) * (1 : Nat) ≤
 (281474976710656 : Nat)) ∧
 ([] : List Int) ++ x.1 = x.1)

theorem E_cloney_eq (x : HL (cCloneO : Ctr).as) : vc (fx_cloney x) 1 10 Tryd.f10 (cCloneO) x = E_cloney x := by kernel_rfl

def E_word (x : List Int × Unit) : Prop :=
 (((0 ≤ (↑x.1.length : Int) ∧
 (↑x.1.length : Int) ≤ (↑x.1.length : Int) ∧ dropSp x.1 (↑x.1.length : Int).toNat = dropSp x.1 x.1.length) ∧
 True) ∧
 (x.1 = x.1 ∧ (↑x.1.length : Int) = (↑x.1.length : Int) ∧ True) ∧ True ∧ True) ∧
 ∀ (g : Int × Unit),
 0 ≤ g.1 ∧ g.1 ≤ (↑x.1.length : Int) ∧ dropSp x.1 g.1.toNat = dropSp x.1 x.1.length →
 (-9223372036854775808 ≤ g.1 ∧ g.1 ≤ 9223372036854775807) ∧ True →
 (decide (0 < g.1) = true →
 decide (0 < g.1) = true ∧ -9223372036854775808 ≤ g.1 - 1 ∧ g.1 - 1 ≤ (9223372036854775807 : Int)) ∧
 (decide (0 < g.1) = true →
 (decide (0 < g.1) = true ∧ decide (0 < g.1) = true) ∧
 0 ≤ g.1 - 1 ∧ g.1 - 1 < (↑x.1.length : Int)) ∧
 (decide (0 < g.1) = true → decide (0 < g.1) = true) ∧
 (decide (0 < g.1) = true → decide (0 < g.1) = true) ∧
 (decide (0 < g.1) = true → decide (0 < g.1) = true) ∧
 ((decide (0 < g.1) && x.1.getD (g.1 - 1).toNat (0 : Int) == (32 : Int)) = true →
 (-9223372036854775808 ≤ g.1 - 1 ∧ g.1 - 1 ≤ (9223372036854775807 : Int)) ∧
 ((0 ≤ g.1 - 1 ∧
 g.1 - 1 ≤ (↑x.1.length : Int) ∧ dropSp x.1 (g.1 - 1).toNat = dropSp x.1 x.1.length) ∧
 (g.1 - 1).toNat < g.1.toNat) ∧
 (x.1 = x.1 ∧ g.1 - 1 = g.1 - 1 ∧ True) ∧ True ∧ True) ∧
 ((decide (0 < g.1) && x.1.getD (g.1 - 1).toNat (0 : Int) == (32 : Int)) = false →
 (((0 ≤ g.1 ∧ g.1 ≤ (↑x.1.length : Int) ∧ dropWd x.1 g.1.toNat = wordN x.1) ∧ True) ∧
 (x.1 = x.1 ∧ g.1 = g.1 ∧ True) ∧ True ∧ True) ∧
 ∀ (g : Int × Unit),
 0 ≤ g.1 ∧ g.1 ≤ (↑x.1.length : Int) ∧ dropWd x.1 g.1.toNat = wordN x.1 →
 (-9223372036854775808 ≤ g.1 ∧ g.1 ≤ 9223372036854775807) ∧ True →
 (decide (0 < g.1) = true →
 decide (0 < g.1) = true ∧
 -9223372036854775808 ≤ g.1 - 1 ∧ g.1 - 1 ≤ (9223372036854775807 : Int)) ∧
 (decide (0 < g.1) = true →
 (decide (0 < g.1) = true ∧ decide (0 < g.1) = true) ∧
 0 ≤ g.1 - 1 ∧ g.1 - 1 < (↑x.1.length : Int)) ∧
 (decide (0 < g.1) = true → decide (0 < g.1) = true) ∧
 (decide (0 < g.1) = true → decide (0 < g.1) = true) ∧
 (decide (0 < g.1) = true → decide (0 < g.1) = true) ∧
 ((decide (0 < g.1) && x.1.getD (g.1 - 1).toNat (0 : Int) != (32 : Int)) = true →
 (-9223372036854775808 ≤ g.1 - 1 ∧ g.1 - 1 ≤ (9223372036854775807 : Int)) ∧
 ((0 ≤ g.1 - 1 ∧
 g.1 - 1 ≤ (↑x.1.length : Int) ∧
 dropWd x.1 (g.1 - 1).toNat = wordN x.1) ∧
 (g.1 - 1).toNat < g.1.toNat) ∧
 (x.1 = x.1 ∧ g.1 - 1 = g.1 - 1 ∧ True) ∧ True ∧ True) ∧
 ((decide (0 < g.1) && x.1.getD (g.1 - 1).toNat (0 : Int) != (32 : Int)) = false →
 g.1 = (↑(wordN x.1) : Int)))

theorem E_word_eq (x : HL (cWord : Ctr).as) : vc (fx_word x) 1 44 Tryd.f44 (cWord) x = E_word x := by kernel_rfl

def E_key (x : (List (List Int) × List Int) × Int × Unit) : Prop :=
 Holds True ∧
 ((!rightT (x.1.1, x.1.2)) = true →
 (([] : List (List Int)), ([] : List Int)) = (keyR x.1 x.2.1).1 ∧ (1 : Int) = (keyR x.1 x.2.1).2.1) ∧
 ((!rightT (x.1.1, x.1.2)) = false →
 ((!x.2.1 == 10) = true → (!x.2.1 == 10) = true) ∧
 ((x.2.1 == 10) = false → (!x.2.1 == 10) = true) ∧
 ((x.2.1 == 10 || x.2.1 == 4) = true → (x.2.1 == 10 || x.2.1 == 4) = true) ∧
 ((x.2.1 == 10 || x.2.1 == 4) = true → (x.2.1 == 10 || x.2.1 == 4) = true) ∧
 ((x.2.1 == 10 || x.2.1 == 4) = true → (x.2.1 == 10 || x.2.1 == 4) = true) ∧
 ((x.2.1 == 10 || x.2.1 == 4) = true → (x.2.1 == 10 || x.2.1 == 4) = true) ∧
 (((x.2.1 == 10 || x.2.1 == 4) && (↑x.1.1.length : Int) == (400 : Int)) = true →
 (([] : List (List Int)), ([] : List Int)) = (keyR x.1 x.2.1).1 ∧ (4 : Int) = (keyR x.1 x.2.1).2.1) ∧
 (((x.2.1 == 10 || x.2.1 == 4) && (↑x.1.1.length : Int) == (400 : Int)) = false →
 ((x.2.1 == 10) = true →
 Holds (x.1.1.length * (24 : Nat) ≤ (140737488355328 : Nat)) ∧
 Holds (x.1.2.length ≤ (140737488355328 : Nat)) ∧
 (x.1.2.length + (((0 : Int) :: ([] : List Int)).set (0 : Nat) x.2.1).length ≤ (9223372036854775807 : Nat) ∧
 (x.1.2.length + (((0 : Int) :: ([] : List Int)).set (0 : Nat) x.2.1).length +
 (x.1.2.length + (((0 : Int) :: ([] : List Int)).set (0 : Nat) x.2.1).length) / (4 : Nat) +
 (192 : Nat)) *
 (1 : Nat) ≤
 (281474976710656 : Nat)) ∧
 (x.1.1.length +
 ((([] : List Int) :: ([] : List (List Int))).set (0 : Nat)
 (x.1.2 ++ ((0 : Int) :: ([] : List Int)).set (0 : Nat) x.2.1)).length ≤
 (9223372036854775807 : Nat) ∧
 (x.1.1.length +
 ((([] : List Int) :: ([] : List (List Int))).set (0 : Nat)
 (x.1.2 ++ ((0 : Int) :: ([] : List Int)).set (0 : Nat) x.2.1)).length +
 (x.1.1.length +
 ((([] : List Int) :: ([] : List (List Int))).set (0 : Nat)
 (x.1.2 ++ ((0 : Int) :: ([] : List Int)).set (0 : Nat) x.2.1)).length) /
 (4 : Nat) +
 (192 : Nat)) *
 (24 : Nat) ≤
 (281474976710656 : Nat)) ∧
 Holds
 (rightT
 (x.1.1 ++
 (([] : List Int) :: ([] : List (List Int))).set (0 : Nat)
 (x.1.2 ++ ((0 : Int) :: ([] : List Int)).set (0 : Nat) x.2.1),
 ([] : List Int)) =
 true) ∧
 (x.1.1 ++
 (([] : List Int) :: ([] : List (List Int))).set (0 : Nat)
 (x.1.2 ++ ((0 : Int) :: ([] : List Int)).set (0 : Nat) x.2.1),
 ([] : List Int)) =
 (keyR x.1 x.2.1).1 ∧
 (0 : Int) = (keyR x.1 x.2.1).2.1) ∧
 ((x.2.1 == 10) = false →
 ((x.2.1 == 4) = true →
 Holds (x.1.1.length * (24 : Nat) ≤ (140737488355328 : Nat)) ∧
 Holds (x.1.2.length ≤ (140737488355328 : Nat)) ∧
 (x.1.2.length + ([] : List Int).length ≤ (9223372036854775807 : Nat) ∧
 (x.1.2.length + ([] : List Int).length + (x.1.2.length + ([] : List Int).length) / (4 : Nat) +
 (192 : Nat)) *
 (1 : Nat) ≤
 (281474976710656 : Nat)) ∧
 (x.1.1.length +
 ((([] : List Int) :: ([] : List (List Int))).set (0 : Nat) (x.1.2 ++ ([] : List Int))).length ≤
 (9223372036854775807 : Nat) ∧
 (x.1.1.length +
 ((([] : List Int) :: ([] : List (List Int))).set (0 : Nat) (x.1.2 ++ ([] : List Int))).length +
 (x.1.1.length +
 ((([] : List Int) :: ([] : List (List Int))).set (0 : Nat)
 (x.1.2 ++ ([] : List Int))).length) /
 (4 : Nat) +
 (192 : Nat)) *
 (24 : Nat) ≤
 (281474976710656 : Nat)) ∧
 Holds
 (rightT
 (x.1.1 ++ (([] : List Int) :: ([] : List (List Int))).set (0 : Nat) (x.1.2 ++ ([] : List Int)),
 ([] : List Int)) =
 true) ∧
 (x.1.1 ++ (([] : List Int) :: ([] : List (List Int))).set (0 : Nat) (x.1.2 ++ ([] : List Int)),
 ([] : List Int)) =
 (keyR x.1 x.2.1).1 ∧
 (0 : Int) = (keyR x.1 x.2.1).2.1) ∧
 ((x.2.1 == 4) = false →
 ((x.2.1 == 8) = true →
 (-9223372036854775808 ≤ (↑x.1.2.length : Int) - 1 ∧
 (↑x.1.2.length : Int) - 1 ≤ (9223372036854775807 : Int)) ∧
 (((0 : Int) ≤ (0 : Int) ∧ 0 ≤ max ((↑x.1.2.length : Int) - 1) (0 : Int)) ∧
 max ((↑x.1.2.length : Int) - 1) 0 ≤ (↑x.1.2.length : Int)) ∧
 Holds
 (rightT
 (x.1.1,
 List.drop (Int.toNat (0 : Int))
 (List.take (max ((↑x.1.2.length : Int) - 1) (0 : Int)).toNat x.1.2)) =
 true) ∧
 (x.1.1,
 List.drop (Int.toNat (0 : Int))
 (List.take (max ((↑x.1.2.length : Int) - 1) (0 : Int)).toNat x.1.2)) =
 (keyR x.1 x.2.1).1 ∧
 (0 : Int) = (keyR x.1 x.2.1).2.1) ∧
 ((x.2.1 == 8) = false →
 ((x.2.1 == 21) = true →
 Holds (rightT (x.1.1, ([] : List Int)) = true) ∧
 (x.1.1, ([] : List Int)) = (keyR x.1 x.2.1).1 ∧ (0 : Int) = (keyR x.1 x.2.1).2.1) ∧
 ((x.2.1 == 21) = false →
 ((x.2.1 == 23) = true →
 Holds True ∧
 (((0 : Int) ≤ (0 : Int) ∧ 0 ≤ (↑(wordN x.1.2) : Int)) ∧
 (↑(wordN x.1.2) : Int) ≤ (↑x.1.2.length : Int)) ∧
 Holds
 (rightT
 (x.1.1,
 List.drop (Int.toNat (0 : Int)) (List.take (↑(wordN x.1.2) : Int).toNat x.1.2)) =
 true) ∧
 (x.1.1, List.drop (Int.toNat (0 : Int)) (List.take (↑(wordN x.1.2) : Int).toNat x.1.2)) =
 (keyR x.1 x.2.1).1 ∧
 (0 : Int) = (keyR x.1 x.2.1).2.1) ∧
 ((x.2.1 == 23) = false →
 (((↑x.1.2.length : Int) == (64 : Int)) = true →
 (([] : List (List Int)), ([] : List Int)) = (keyR x.1 x.2.1).1 ∧
 (4 : Int) = (keyR x.1 x.2.1).2.1) ∧
 (((↑x.1.2.length : Int) == (64 : Int)) = false →
 Holds (x.1.2.length ≤ (140737488355328 : Nat)) ∧
 (x.1.2.length + (((0 : Int) :: ([] : List Int)).set (0 : Nat) x.2.1).length ≤
 (9223372036854775807 : Nat) ∧
 (x.1.2.length + (((0 : Int) :: ([] : List Int)).set (0 : Nat) x.2.1).length +
 (x.1.2.length + (((0 : Int) :: ([] : List Int)).set (0 : Nat) x.2.1).length) /
 (4 : Nat) +
 (192 : Nat)) *
 (1 : Nat) ≤
 (281474976710656 : Nat)) ∧
 Holds
 (rightT (x.1.1, x.1.2 ++ ((0 : Int) :: ([] : List Int)).set (0 : Nat) x.2.1) =
 true) ∧
 (x.1.1, x.1.2 ++ ((0 : Int) :: ([] : List Int)).set (0 : Nat) x.2.1) =
 (keyR x.1 x.2.1).1 ∧
 (0 : Int) = (keyR x.1 x.2.1).2.1))))))))

theorem E_key_eq (x : HL (cKey : Ctr).as) : vc (fx_key x) 2 25 Tryd.f25 (cKey) x = E_key x := by kernel_rfl

def E_suf (x : List Int × List Int × Unit) : Prop :=
 (decide ((↑x.2.1.length : Int) ≤ (↑x.1.length : Int)) = true → decide ((↑x.2.1.length : Int) ≤ (↑x.1.length : Int)) = true) ∧
 (decide ((↑x.2.1.length : Int) ≤ (↑x.1.length : Int)) = true → decide ((↑x.2.1.length : Int) ≤ (↑x.1.length : Int)) = true) ∧
 (decide ((↑x.2.1.length : Int) ≤ (↑x.1.length : Int)) = true →
 (decide ((↑x.2.1.length : Int) ≤ (↑x.1.length : Int)) = true ∧ decide ((↑x.2.1.length : Int) ≤ (↑x.1.length : Int)) = true) ∧
 -9223372036854775808 ≤ (↑x.1.length : Int) - (↑x.2.1.length : Int) ∧
 (↑x.1.length : Int) - (↑x.2.1.length : Int) ≤ (9223372036854775807 : Int)) ∧
 (decide ((↑x.2.1.length : Int) ≤ (↑x.1.length : Int)) = true →
 (decide ((↑x.2.1.length : Int) ≤ (↑x.1.length : Int)) = true ∧ decide ((↑x.2.1.length : Int) ≤ (↑x.1.length : Int)) = true) ∧
 (0 ≤ (↑x.1.length : Int) - (↑x.2.1.length : Int) ∧
 (↑x.1.length : Int) - (↑x.2.1.length : Int) ≤ (↑x.1.length : Int)) ∧
 (↑x.1.length : Int) ≤ (↑x.1.length : Int)) ∧
 (decide ((↑x.2.1.length : Int) ≤ (↑x.1.length : Int)) = true →
 decide ((↑x.2.1.length : Int) ≤ (↑x.1.length : Int)) = true ∧ decide ((↑x.2.1.length : Int) ≤ (↑x.1.length : Int)) = true) ∧
 (decide ((↑x.2.1.length : Int) ≤ (↑x.1.length : Int)) = true → decide ((↑x.2.1.length : Int) ≤ (↑x.1.length : Int)) = true) ∧
 (decide ((↑x.2.1.length : Int) ≤ (↑x.1.length : Int)) &&
 decide
 (List.drop ((↑x.1.length : Int) - (↑x.2.1.length : Int)).toNat (List.take (↑x.1.length : Int).toNat x.1) = x.2.1)) =
 (decide (x.2.1.length ≤ x.1.length) && decide (List.drop (x.1.length - x.2.1.length) x.1 = x.2.1))

theorem E_suf_eq (x : HL (cSuf : Ctr).as) : vc (fx_suf x) 1 49 Tryd.f49 (cSuf) x = E_suf x := by kernel_rfl

def E_last (x : List Int × Int × Unit) : Prop :=
 (-9223372036854775808 ≤ (↑x.1.length : Int) - 1 ∧ (↑x.1.length : Int) - 1 ≤ (9223372036854775807 : Int)) ∧
 (((-1 ≤ (↑x.1.length : Int) - 1 ∧
 (↑x.1.length : Int) - 1 < (↑x.1.length : Int) ∧
 lastN x.1 x.2.1 ((↑x.1.length : Int) - 1 + 1).toNat = lastN x.1 x.2.1 x.1.length) ∧
 True) ∧
 (x.1 = x.1 ∧ x.2.1 = x.2.1 ∧ (↑x.1.length : Int) - 1 = (↑x.1.length : Int) - 1 ∧ True) ∧ True ∧ True) ∧
 ∀ (g : Int × Unit),
 -1 ≤ g.1 ∧ g.1 < (↑x.1.length : Int) ∧ lastN x.1 x.2.1 (g.1 + 1).toNat = lastN x.1 x.2.1 x.1.length →
 (-9223372036854775808 ≤ g.1 ∧ g.1 ≤ 9223372036854775807) ∧ True →
 (decide (0 ≤ g.1) = true →
 (0 ≤ g.1 ∧ g.1 < (↑x.1.length : Int)) ∧
 ((x.1.getD g.1.toNat (0 : Int) == x.2.1) = true → g.1 = lastN x.1 x.2.1 x.1.length) ∧
 ((x.1.getD g.1.toNat (0 : Int) == x.2.1) = false →
 (-9223372036854775808 ≤ g.1 - 1 ∧ g.1 - 1 ≤ (9223372036854775807 : Int)) ∧
 ((-1 ≤ g.1 - 1 ∧
 g.1 - 1 < (↑x.1.length : Int) ∧
 lastN x.1 x.2.1 (g.1 - 1 + 1).toNat = lastN x.1 x.2.1 x.1.length) ∧
 (g.1 - 1 + 1).toNat < (g.1 + 1).toNat) ∧
 (x.1 = x.1 ∧ x.2.1 = x.2.1 ∧ g.1 - 1 = g.1 - 1 ∧ True) ∧ True ∧ True)) ∧
 (decide (0 ≤ g.1) = false → (-1 : Int) = lastN x.1 x.2.1 x.1.length)

theorem E_last_eq (x : HL (cLast : Ctr).as) : vc (fx_last x) 1 50 Tryd.f50 (cLast) x = E_last x := by kernel_rfl

def E_qkey (x : (List (List Int) × List Int) × Int × Unit) : Prop :=
 Holds True ∧
 ((!rightT (x.1.1, x.1.2)) = true →
 (([] : List (List Int)), ([] : List Int)) = (keyR x.1 x.2.1).1 ∧ (1 : Int) = (keyR x.1 x.2.1).2.1) ∧
 ((!rightT (x.1.1, x.1.2)) = false →
 (([] : List (List Int)).length + x.1.1.length ≤ (9223372036854775807 : Nat) ∧
 (([] : List (List Int)).length + x.1.1.length + (([] : List (List Int)).length + x.1.1.length) / (4 : Nat) + (192 : Nat)) *
 (24 : Nat) ≤
 (281474976710656 : Nat)) ∧
 ((x.2.1 == 10) = true →
 (decide (399 < (↑(([] : List (List Int)) ++ x.1.1).length : Int)) = true →
 (([] : List (List Int)), ([] : List Int)) = (keyR x.1 x.2.1).1 ∧ (4 : Int) = (keyR x.1 x.2.1).2.1) ∧
 (decide (399 < (↑(([] : List (List Int)) ++ x.1.1).length : Int)) = false →
 ((x.2.1 == 10) = true →
 x.1.2.length +
 ((↑(UInt8.toNat (10 : UInt8)) : Int) :: List.map._f (fun b ↦ (↑b.toNat : Int)) ([] : List UInt8) PUnit.unit).length ≤
 (9223372036854775807 : Nat) ∧
 ((([] : List (List Int)) ++ x.1.1).length +
 ((([] : List Int) :: ([] : List (List Int))).set (0 : Nat)
 (x.1.2 ++
 (↑(UInt8.toNat (10 : UInt8)) : Int) ::
 List.map._f (fun b ↦ (↑b.toNat : Int)) ([] : List UInt8) PUnit.unit)).length ≤
 (9223372036854775807 : Nat) ∧
 ((([] : List (List Int)) ++ x.1.1).length +
 ((([] : List Int) :: ([] : List (List Int))).set (0 : Nat)
 (x.1.2 ++
 (↑(UInt8.toNat (10 : UInt8)) : Int) ::
 List.map._f (fun b ↦ (↑b.toNat : Int)) ([] : List UInt8) PUnit.unit)).length +
 ((([] : List (List Int)) ++ x.1.1).length +
 ((([] : List Int) :: ([] : List (List Int))).set (0 : Nat)
 (x.1.2 ++
 (↑(UInt8.toNat (10 : UInt8)) : Int) ::
 List.map._f (fun b ↦ (↑b.toNat : Int)) ([] : List UInt8) PUnit.unit)).length) /
 (4 : Nat) +
 (192 : Nat)) *
 (24 : Nat) ≤
 (281474976710656 : Nat)) ∧
 (([] : List (List Int)) ++ x.1.1 ++
 (([] : List Int) :: ([] : List (List Int))).set (0 : Nat)
 (x.1.2 ++
 (↑(UInt8.toNat (10 : UInt8)) : Int) :: List.map._f (fun b ↦ (↑b.toNat : Int)) ([] : List UInt8) PUnit.unit),
 ([] : List Int)) =
 (keyR x.1 x.2.1).1 ∧
 (0 : Int) = (keyR x.1 x.2.1).2.1) ∧
 ((x.2.1 == 10) = false →
 ((([] : List (List Int)) ++ x.1.1).length + ((([] : List Int) :: ([] : List (List Int))).set (0 : Nat) x.1.2).length ≤
 (9223372036854775807 : Nat) ∧
 ((([] : List (List Int)) ++ x.1.1).length + ((([] : List Int) :: ([] : List (List Int))).set (0 : Nat) x.1.2).length +
 ((([] : List (List Int)) ++ x.1.1).length +
 ((([] : List Int) :: ([] : List (List Int))).set (0 : Nat) x.1.2).length) /
 (4 : Nat) +
 (192 : Nat)) *
 (24 : Nat) ≤
 (281474976710656 : Nat)) ∧
 (([] : List (List Int)) ++ x.1.1 ++ (([] : List Int) :: ([] : List (List Int))).set (0 : Nat) x.1.2, ([] : List Int)) =
 (keyR x.1 x.2.1).1 ∧
 (0 : Int) = (keyR x.1 x.2.1).2.1))) ∧
 ((x.2.1 == 10) = false →
 ((x.2.1 == 4) = true →
 (decide (399 < (↑(([] : List (List Int)) ++ x.1.1).length : Int)) = true →
 (([] : List (List Int)), ([] : List Int)) = (keyR x.1 x.2.1).1 ∧ (4 : Int) = (keyR x.1 x.2.1).2.1) ∧
 (decide (399 < (↑(([] : List (List Int)) ++ x.1.1).length : Int)) = false →
 ((x.2.1 == 10) = true →
 x.1.2.length +
 ((↑(UInt8.toNat (10 : UInt8)) : Int) :: List.map._f (fun b ↦ (↑b.toNat : Int)) ([] : List UInt8) PUnit.unit).length ≤
 (9223372036854775807 : Nat) ∧
 ((([] : List (List Int)) ++ x.1.1).length +
 ((([] : List Int) :: ([] : List (List Int))).set (0 : Nat)
 (x.1.2 ++
 (↑(UInt8.toNat (10 : UInt8)) : Int) ::
 List.map._f (fun b ↦ (↑b.toNat : Int)) ([] : List UInt8) PUnit.unit)).length ≤
 (9223372036854775807 : Nat) ∧
 ((([] : List (List Int)) ++ x.1.1).length +
 ((([] : List Int) :: ([] : List (List Int))).set (0 : Nat)
 (x.1.2 ++
 (↑(UInt8.toNat (10 : UInt8)) : Int) ::
 List.map._f (fun b ↦ (↑b.toNat : Int)) ([] : List UInt8) PUnit.unit)).length +
 ((([] : List (List Int)) ++ x.1.1).length +
 ((([] : List Int) :: ([] : List (List Int))).set (0 : Nat)
 (x.1.2 ++
 (↑(UInt8.toNat (10 : UInt8)) : Int) ::
 List.map._f (fun b ↦ (↑b.toNat : Int)) ([] : List UInt8) PUnit.unit)).length) /
 (4 : Nat) +
 (192 : Nat)) *
 (24 : Nat) ≤
 (281474976710656 : Nat)) ∧
 (([] : List (List Int)) ++ x.1.1 ++
 (([] : List Int) :: ([] : List (List Int))).set (0 : Nat)
 (x.1.2 ++
 (↑(UInt8.toNat (10 : UInt8)) : Int) :: List.map._f (fun b ↦ (↑b.toNat : Int)) ([] : List UInt8) PUnit.unit),
 ([] : List Int)) =
 (keyR x.1 x.2.1).1 ∧
 (0 : Int) = (keyR x.1 x.2.1).2.1) ∧
 ((x.2.1 == 10) = false →
 ((([] : List (List Int)) ++ x.1.1).length + ((([] : List Int) :: ([] : List (List Int))).set (0 : Nat) x.1.2).length ≤
 (9223372036854775807 : Nat) ∧
 ((([] : List (List Int)) ++ x.1.1).length +
 ((([] : List Int) :: ([] : List (List Int))).set (0 : Nat) x.1.2).length +
 ((([] : List (List Int)) ++ x.1.1).length +
 ((([] : List Int) :: ([] : List (List Int))).set (0 : Nat) x.1.2).length) /
 (4 : Nat) +
 (192 : Nat)) *
 (24 : Nat) ≤
 (281474976710656 : Nat)) ∧
 (([] : List (List Int)) ++ x.1.1 ++ (([] : List Int) :: ([] : List (List Int))).set (0 : Nat) x.1.2,
 ([] : List Int)) =
 (keyR x.1 x.2.1).1 ∧
 (0 : Int) = (keyR x.1 x.2.1).2.1))) ∧
 ((x.2.1 == 4) = false →
 ((x.2.1 == 8) = true →
 ((!decide (x.1.2 = ([] : List Int))) = true →
 (-9223372036854775808 ≤ (↑x.1.2.length : Int) - 1 ∧
 (↑x.1.2.length : Int) - 1 ≤ (9223372036854775807 : Int)) ∧
 (((0 : Int) ≤ (0 : Int) ∧ 0 ≤ (↑x.1.2.length : Int) - 1) ∧
 (↑x.1.2.length : Int) - 1 ≤ (↑x.1.2.length : Int)) ∧
 (([] : List (List Int)) ++ x.1.1,
 List.drop (Int.toNat (0 : Int)) (List.take ((↑x.1.2.length : Int) - 1).toNat x.1.2)) =
 (keyR x.1 x.2.1).1 ∧
 (0 : Int) = (keyR x.1 x.2.1).2.1) ∧
 ((!decide (x.1.2 = ([] : List Int))) = false →
 (([] : List (List Int)) ++ x.1.1, x.1.2) = (keyR x.1 x.2.1).1 ∧ (0 : Int) = (keyR x.1 x.2.1).2.1)) ∧
 ((x.2.1 == 8) = false →
 ((x.2.1 == 21) = true →
 (([] : List (List Int)) ++ x.1.1, ([] : List Int)) = (keyR x.1 x.2.1).1 ∧
 (0 : Int) = (keyR x.1 x.2.1).2.1) ∧
 ((x.2.1 == 21) = false →
 ((x.2.1 == 23) = true →
 (((x.1.2.length ≤ x.1.2.length ∧
 x.1.2 = List.take x.1.2.length x.1.2 ∧
 dropSp x.1.2 x.1.2.length = dropSp x.1.2 x.1.2.length) ∧
 True) ∧
 ((True ∧ True) ∧ x.1.2 = x.1.2 ∧ True ∧ True) ∧
 ((Value.slice none (0 : Nat) (0 : Nat) = Value.slice none (0 : Nat) (0 : Nat) ∧
 Value.slice none (0 : Nat) (0 : Nat) = Value.slice none (0 : Nat) (0 : Nat) ∧ True) ∧
 ([] : List (List Int)) ++ x.1.1 = ([] : List (List Int)) ++ x.1.1 ∧ True) ∧
 True) ∧
 ∀ (g : List Int × Unit),
 g.1.length ≤ x.1.2.length ∧
 g.1 = List.take g.1.length x.1.2 ∧ dropSp x.1.2 g.1.length = dropSp x.1.2 x.1.2.length →
 (g.1.length ≤ (9223372036854775807 : Nat) ∧ ∀ (b : Int), b ∈ g.1 → 0 ≤ b ∧ b ≤ 255) ∧ True →
 Holds True ∧
 ((decide
 (((↑(UInt8.toNat (32 : UInt8)) : Int) ::
 List.map._f (fun b ↦ (↑b.toNat : Int)) ([] : List UInt8) PUnit.unit).length ≤
 g.1.length) &&
 decide
 (List.drop
 (g.1.length -
 ((↑(UInt8.toNat (32 : UInt8)) : Int) ::
 List.map._f (fun b ↦ (↑b.toNat : Int)) ([] : List UInt8) PUnit.unit).length)
 g.1 =
 (↑(UInt8.toNat (32 : UInt8)) : Int) ::
 List.map._f (fun b ↦ (↑b.toNat : Int)) ([] : List UInt8) PUnit.unit)) =
 true →
 (-9223372036854775808 ≤ (↑g.1.length : Int) - 1 ∧
 (↑g.1.length : Int) - 1 ≤ (9223372036854775807 : Int)) ∧
 (((0 : Int) ≤ (0 : Int) ∧ 0 ≤ (↑g.1.length : Int) - 1) ∧
 (↑g.1.length : Int) - 1 ≤ (↑g.1.length : Int)) ∧
 (((List.drop (Int.toNat (0 : Int)) (List.take ((↑g.1.length : Int) - 1).toNat g.1)).length ≤
 x.1.2.length ∧
 List.drop (Int.toNat (0 : Int)) (List.take ((↑g.1.length : Int) - 1).toNat g.1) =
 List.take
 (List.drop (Int.toNat (0 : Int))
 (List.take ((↑g.1.length : Int) - 1).toNat g.1)).length
 x.1.2 ∧
 dropSp x.1.2
 (List.drop (Int.toNat (0 : Int))
 (List.take ((↑g.1.length : Int) - 1).toNat g.1)).length =
 dropSp x.1.2 x.1.2.length) ∧
 (List.drop (Int.toNat (0 : Int))
 (List.take ((↑g.1.length : Int) - 1).toNat g.1)).length <
 g.1.length) ∧
 ((True ∧ True) ∧
 List.drop (Int.toNat (0 : Int)) (List.take ((↑g.1.length : Int) - 1).toNat g.1) =
 List.drop (Int.toNat (0 : Int)) (List.take ((↑g.1.length : Int) - 1).toNat g.1) ∧
 True ∧ True) ∧
 ((Value.slice none (0 : Nat) (0 : Nat) = Value.slice none (0 : Nat) (0 : Nat) ∧
 Value.slice none (0 : Nat) (0 : Nat) = Value.slice none (0 : Nat) (0 : Nat) ∧ True) ∧
 ([] : List (List Int)) ++ x.1.1 = ([] : List (List Int)) ++ x.1.1 ∧ True) ∧
 True) ∧
 ((decide
 (((↑(UInt8.toNat (32 : UInt8)) : Int) ::
 List.map._f (fun b ↦ (↑b.toNat : Int)) ([] : List UInt8) PUnit.unit).length ≤
 g.1.length) &&
 decide
 (List.drop
 (g.1.length -
 ((↑(UInt8.toNat (32 : UInt8)) : Int) ::
 List.map._f (fun b ↦ (↑b.toNat : Int)) ([] : List UInt8) PUnit.unit).length)
 g.1 =
 (↑(UInt8.toNat (32 : UInt8)) : Int) ::
 List.map._f (fun b ↦ (↑b.toNat : Int)) ([] : List UInt8) PUnit.unit)) =
 false →
 Holds True ∧
 (-9223372036854775808 ≤ lastN g.1 (32 : Int) g.1.length + 1 ∧
 lastN g.1 (32 : Int) g.1.length + 1 ≤ (9223372036854775807 : Int)) ∧
 (((0 : Int) ≤ (0 : Int) ∧ 0 ≤ lastN g.1 (32 : Int) g.1.length + 1) ∧
 lastN g.1 (32 : Int) g.1.length + 1 ≤ (↑g.1.length : Int)) ∧
 (([] : List (List Int)) ++ x.1.1,
 List.drop (Int.toNat (0 : Int))
 (List.take (lastN g.1 (32 : Int) g.1.length + 1).toNat g.1)) =
 (keyR x.1 x.2.1).1 ∧
 (0 : Int) = (keyR x.1 x.2.1).2.1)) ∧
 ((x.2.1 == 23) = false →
 (decide (63 < (↑x.1.2.length : Int)) = true →
 (([] : List (List Int)), ([] : List Int)) = (keyR x.1 x.2.1).1 ∧ (4 : Int) = (keyR x.1 x.2.1).2.1) ∧
 (decide (63 < (↑x.1.2.length : Int)) = false →
 x.1.2.length + (((0 : Int) :: ([] : List Int)).set (0 : Nat) x.2.1).length ≤ (9223372036854775807 : Nat) ∧
 (([] : List (List Int)) ++ x.1.1, x.1.2 ++ ((0 : Int) :: ([] : List Int)).set (0 : Nat) x.2.1) =
 (keyR x.1 x.2.1).1 ∧
 (0 : Int) = (keyR x.1 x.2.1).2.1)))))))

theorem E_qkey_eq (x : HL (cKey : Ctr).as) : vc (fx_qkey x) 2 19 Tryd.f19 (cKey) x = E_qkey x := by kernel_rfl

def E_same (x : (List (List Int) × List Int) × (List (List Int) × List Int) × Unit) : Prop :=
 ((!!decide (x.1.2 = x.2.1.2)) = true → (!!decide (x.1.2 = x.2.1.2)) = true) ∧
 ((!!decide (x.1.2 = x.2.1.2)) = true → (!!decide (x.1.2 = x.2.1.2)) = true) ∧
 ((!!decide (x.1.2 = x.2.1.2)) = true → (!!decide (x.1.2 = x.2.1.2)) = true) ∧
 ((!!decide (x.1.2 = x.2.1.2)) = true → (!!decide (x.1.2 = x.2.1.2)) = true) ∧
 ((!!decide (x.1.2 = x.2.1.2)) = true →
 (!!decide (x.1.2 = x.2.1.2)) = true ∧ (!!decide (x.1.2 = x.2.1.2)) = true) ∧
 ((!decide (x.1.2 = x.2.1.2)) = false → (!!decide (x.1.2 = x.2.1.2)) = true) ∧
 ((!decide (x.1.2 = x.2.1.2) || (↑x.1.1.length : Int) != (↑x.2.1.1.length : Int)) = true →
 false = decide (x.1 = x.2.1)) ∧
 ((!decide (x.1.2 = x.2.1.2) || (↑x.1.1.length : Int) != (↑x.2.1.1.length : Int)) = false →
 ((((0 : Int) ≤ (0 : Int) ∧
 0 ≤ (↑x.1.1.length : Int) ∧
 List.take (Int.toNat (0 : Int)) x.1.1 = List.take (Int.toNat (0 : Int)) x.2.1.1) ∧
 True) ∧
 ((True ∧ True) ∧ (True ∧ True) ∧ (↑x.1.1.length : Int) = (↑x.1.1.length : Int) ∧ (0 : Int) = (0 : Int) ∧ True) ∧
 ((x.1.1 = x.1.1 ∧ x.1.2 = x.1.2 ∧ True) ∧
 (x.2.1.1 = x.2.1.1 ∧ x.2.1.2 = x.2.1.2 ∧ True) ∧ True) ∧
 True) ∧
 ∀ (g : Int × Unit),
 0 ≤ g.1 ∧ g.1 ≤ (↑x.1.1.length : Int) ∧ List.take g.1.toNat x.1.1 = List.take g.1.toNat x.2.1.1 →
 (-9223372036854775808 ≤ g.1 ∧ g.1 ≤ 9223372036854775807) ∧ True →
 (decide (g.1 < (↑x.1.1.length : Int)) = true →
 (0 ≤ g.1 ∧ g.1 < (↑x.1.1.length : Int)) ∧
 (0 ≤ g.1 ∧ g.1 < (↑x.2.1.1.length : Int)) ∧
 ((!decide (x.1.1.getD g.1.toNat ([] : List Int) = x.2.1.1.getD g.1.toNat ([] : List Int))) = true →
 false = decide (x.1 = x.2.1)) ∧
 ((!decide (x.1.1.getD g.1.toNat ([] : List Int) = x.2.1.1.getD g.1.toNat ([] : List Int))) = false →
 (-9223372036854775808 ≤ g.1 + 1 ∧ g.1 + 1 ≤ (9223372036854775807 : Int)) ∧
 ((0 ≤ g.1 + 1 ∧
 g.1 + 1 ≤ (↑x.1.1.length : Int) ∧
 List.take (g.1 + 1).toNat x.1.1 = List.take (g.1 + 1).toNat x.2.1.1) ∧
 ((↑x.1.1.length : Int) - (g.1 + 1)).toNat < ((↑x.1.1.length : Int) - g.1).toNat) ∧
 ((True ∧ True) ∧
 (True ∧ True) ∧
 (↑x.1.1.length : Int) = (↑x.1.1.length : Int) ∧ g.1 + 1 = g.1 + 1 ∧ True) ∧
 ((x.1.1 = x.1.1 ∧ x.1.2 = x.1.2 ∧ True) ∧
 (x.2.1.1 = x.2.1.1 ∧ x.2.1.2 = x.2.1.2 ∧ True) ∧ True) ∧
 True)) ∧
 (decide (g.1 < (↑x.1.1.length : Int)) = false → true = decide (x.1 = x.2.1)))

theorem E_same_eq (x : HL (cSame : Ctr).as) : vc (fx_same x) 1 12 Tryd.f12 (cSame) x = E_same x := by kernel_rfl

end Go.Proofs.YtppgbcmeagbalaaDoor.Tty
