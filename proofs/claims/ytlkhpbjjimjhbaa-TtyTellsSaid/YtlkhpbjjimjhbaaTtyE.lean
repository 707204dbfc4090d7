/-
  The conditions that the executor comes to, written out (by a tool of ours), and that they are the conditions (by the kernel).
-/
import Derived.Test.YtlkhpbjjimjhbaaTtyC
namespace Go.Proofs.Ytlkhpbjjimjhbaa.Tty
open Go.Sx
set_option maxRecDepth 100000

def E_cloneb (x : List Int × Unit) : Prop :=
 ∀ (b : Bool),
 (b = true → x.fst = ([] : List Int)) →
 (b = true → ([] : List Int) = x.fst) ∧
 (b = false →
 (([] : List Int).length + x.fst.length ≤ (9223372036854775807 : Nat) ∧
 (([] : List Int).length + x.fst.length + (([] : List Int).length + x.fst.length) / (4 : Nat) + (192 : Nat)) * (1 : Nat) ≤
 (281474976710656 : Nat)) ∧
 ([] : List Int) ++ x.fst = x.fst)

theorem E_cloneb_eq (x : HL (cCloneB : Ctr).as) : vc (fx_cloneb x) 1 53 Try.f53 (cCloneB) x = E_cloneb x := by kernel_rfl

def E_any (x : List (List Int) × Unit) : Prop :=
 ((((0 : Int) ≤ (0 : Int) ∧ (0 : Int) ≤ (↑x.fst.length : Int) ∧ (List.take (Int.toNat (0 : Int)) x.fst).all lineOk = true) ∧ True) ∧
 (x.fst = x.fst ∧
 Value.func (Fn.func (58 : Nat)) ([] : List Value).toArray ([] : List Value).toArray =
 Value.func (Fn.func (58 : Nat)) ([] : List Value).toArray ([] : List Value).toArray ∧
 (↑x.fst.length : Int) = (↑x.fst.length : Int) ∧ (0 : Int) = (0 : Int) ∧ True) ∧
 True ∧
 x.fst = x.fst ∧
 Value.func (Fn.func (58 : Nat)) ([] : List Value).toArray ([] : List Value).toArray =
 Value.func (Fn.func (58 : Nat)) ([] : List Value).toArray ([] : List Value).toArray ∧
 True ∧
 True ∧
 false = false ∧
 x.fst = x.fst ∧
 Value.func (Fn.func (58 : Nat)) ([] : List Value).toArray ([] : List Value).toArray =
 Value.func (Fn.func (58 : Nat)) ([] : List Value).toArray ([] : List Value).toArray ∧
 True ∧ True ∧ True) ∧
 ∀ (g : Int × Unit),
 (0 : Int) ≤ g.fst ∧ g.fst ≤ (↑x.fst.length : Int) ∧ (List.take g.fst.toNat x.fst).all lineOk = true →
 ((-9223372036854775808 : Int) ≤ g.fst ∧ g.fst ≤ (9223372036854775807 : Int)) ∧ True →
 (decide (g.fst < (↑x.fst.length : Int)) = true →
 ((0 : Int) ≤ g.fst ∧ g.fst < (↑x.fst.length : Int)) ∧
 (decide ((65 : Int) < (↑(x.fst.getD g.fst.toNat ([] : List Int)).length : Int)) = true →
 decide ((0 : Int) ≤ g.fst) = !x.fst.all lineOk) ∧
 (decide ((65 : Int) < (↑(x.fst.getD g.fst.toNat ([] : List Int)).length : Int)) = false →
 ((-9223372036854775808 : Int) ≤ g.fst + (1 : Int) ∧ g.fst + (1 : Int) ≤ (9223372036854775807 : Int)) ∧
 (((0 : Int) ≤ g.fst + (1 : Int) ∧
 g.fst + (1 : Int) ≤ (↑x.fst.length : Int) ∧ (List.take (g.fst + (1 : Int)).toNat x.fst).all lineOk = true) ∧
 ((↑x.fst.length : Int) - (g.fst + (1 : Int))).toNat < ((↑x.fst.length : Int) - g.fst).toNat) ∧
 (x.fst = x.fst ∧
 Value.func (Fn.func (58 : Nat)) ([] : List Value).toArray ([] : List Value).toArray =
 Value.func (Fn.func (58 : Nat)) ([] : List Value).toArray ([] : List Value).toArray ∧
 (↑x.fst.length : Int) = (↑x.fst.length : Int) ∧ g.fst + (1 : Int) = g.fst + (1 : Int) ∧ True) ∧
 True ∧
 x.fst = x.fst ∧
 Value.func (Fn.func (58 : Nat)) ([] : List Value).toArray ([] : List Value).toArray =
 Value.func (Fn.func (58 : Nat)) ([] : List Value).toArray ([] : List Value).toArray ∧
 True ∧
 True ∧
 false = false ∧
 x.fst = x.fst ∧
 Value.func (Fn.func (58 : Nat)) ([] : List Value).toArray ([] : List Value).toArray =
 Value.func (Fn.func (58 : Nat)) ([] : List Value).toArray ([] : List Value).toArray ∧
 True ∧ True ∧ True)) ∧
 (decide (g.fst < (↑x.fst.length : Int)) = false → decide ((0 : Int) ≤ (-1 : Int)) = !x.fst.all lineOk)

theorem E_any_eq (x : HL (cAny : Ctr).as) : vcF (fx_any x) 3 57 58 Try.f57 (cAny) x = E_any x := by kernel_rfl

def E_right (x : (List (List Int) × List Int) × Unit) : Prop :=
 (decide ((↑x.fst.snd.length : Int) ≤ (64 : Int)) = true → decide ((↑x.fst.snd.length : Int) ≤ (64 : Int)) = true) ∧
 (decide ((↑x.fst.snd.length : Int) ≤ (64 : Int)) = true → decide ((↑x.fst.snd.length : Int) ≤ (64 : Int)) = true) ∧
 (decide ((↑x.fst.snd.length : Int) ≤ (64 : Int)) = true → decide ((↑x.fst.snd.length : Int) ≤ (64 : Int)) = true) ∧
 (decide ((↑x.fst.snd.length : Int) ≤ (64 : Int)) = true → decide ((↑x.fst.snd.length : Int) ≤ (64 : Int)) = true) ∧
 ((decide ((↑x.fst.snd.length : Int) ≤ (64 : Int)) && decide ((↑x.fst.fst.length : Int) ≤ (400 : Int))) = true →
 (decide ((↑x.fst.snd.length : Int) ≤ (64 : Int)) && decide ((↑x.fst.fst.length : Int) ≤ (400 : Int))) = true) ∧
 ((decide ((↑x.fst.snd.length : Int) ≤ (64 : Int)) && decide ((↑x.fst.fst.length : Int) ≤ (400 : Int))) = true →
 (decide ((↑x.fst.snd.length : Int) ≤ (64 : Int)) && decide ((↑x.fst.fst.length : Int) ≤ (400 : Int))) = true ∧
 Holds True ∧ (!!x.fst.fst.all lineOk) = rightT x.fst) ∧
 ((decide ((↑x.fst.snd.length : Int) ≤ (64 : Int)) && decide ((↑x.fst.fst.length : Int) ≤ (400 : Int))) = !true → false = rightT x.fst)

theorem E_right_eq (x : HL (cRight : Ctr).as) : vc (fx_right x) 1 23 Try.f23 (cRight) x = E_right x := by kernel_rfl

def E_qright (x : (List (List Int) × List Int) × Unit) : Prop :=
 (decide ((↑x.fst.snd.length : Int) < (65 : Int)) = true → decide ((↑x.fst.snd.length : Int) < (65 : Int)) = true) ∧
 (decide ((↑x.fst.snd.length : Int) < (65 : Int)) = true → decide ((↑x.fst.snd.length : Int) < (65 : Int)) = true) ∧
 (decide ((↑x.fst.snd.length : Int) < (65 : Int)) = true → decide ((↑x.fst.snd.length : Int) < (65 : Int)) = true) ∧
 (decide ((↑x.fst.snd.length : Int) < (65 : Int)) = true → decide ((↑x.fst.snd.length : Int) < (65 : Int)) = true) ∧
 ((((0 : Int) ≤ (0 : Int) ∧
 (0 : Int) ≤ (↑x.fst.fst.length : Int) ∧
 (decide ((↑x.fst.snd.length : Int) < (65 : Int)) && decide ((↑x.fst.fst.length : Int) < (401 : Int))) =
 (decide ((↑x.fst.snd.length : Int) ≤ (64 : Int)) && decide ((↑x.fst.fst.length : Int) ≤ (400 : Int)) &&
 (List.take (Int.toNat (0 : Int)) x.fst.fst).all lineOk)) ∧
 True) ∧
 ((decide ((↑x.fst.snd.length : Int) < (65 : Int)) && decide ((↑x.fst.fst.length : Int) < (401 : Int))) =
 (decide ((↑x.fst.snd.length : Int) < (65 : Int)) && decide ((↑x.fst.fst.length : Int) < (401 : Int))) ∧
 x.fst.fst = x.fst.fst ∧ (↑x.fst.fst.length : Int) = (↑x.fst.fst.length : Int) ∧ (0 : Int) = (0 : Int) ∧ True) ∧
 True ∧ True) ∧
 ∀ (g : Bool × Int × Unit),
 (0 : Int) ≤ g.snd.fst ∧
 g.snd.fst ≤ (↑x.fst.fst.length : Int) ∧
 g.fst =
 (decide ((↑x.fst.snd.length : Int) ≤ (64 : Int)) && decide ((↑x.fst.fst.length : Int) ≤ (400 : Int)) &&
 (List.take g.snd.fst.toNat x.fst.fst).all lineOk) →
 True ∧ ((-9223372036854775808 : Int) ≤ g.snd.fst ∧ g.snd.fst ≤ (9223372036854775807 : Int)) ∧ True →
 (decide (g.snd.fst < (↑x.fst.fst.length : Int)) = true →
 ((0 : Int) ≤ g.snd.fst ∧ g.snd.fst < (↑x.fst.fst.length : Int)) ∧
 (g.fst = true → g.fst = true) ∧
 (g.fst = true → g.fst = true) ∧
 (g.fst = true → g.fst = true) ∧
 ((-9223372036854775808 : Int) ≤ g.snd.fst + (1 : Int) ∧ g.snd.fst + (1 : Int) ≤ (9223372036854775807 : Int)) ∧
 (((0 : Int) ≤ g.snd.fst + (1 : Int) ∧
 g.snd.fst + (1 : Int) ≤ (↑x.fst.fst.length : Int) ∧
 (g.fst && decide ((↑(x.fst.fst.getD g.snd.fst.toNat ([] : List Int)).length : Int) < (66 : Int))) =
 (decide ((↑x.fst.snd.length : Int) ≤ (64 : Int)) && decide ((↑x.fst.fst.length : Int) ≤ (400 : Int)) &&
 (List.take (g.snd.fst + (1 : Int)).toNat x.fst.fst).all lineOk)) ∧
 ((↑x.fst.fst.length : Int) - (g.snd.fst + (1 : Int))).toNat < ((↑x.fst.fst.length : Int) - g.snd.fst).toNat) ∧
 ((g.fst && decide ((↑(x.fst.fst.getD g.snd.fst.toNat ([] : List Int)).length : Int) < (66 : Int))) =
 (g.fst && decide ((↑(x.fst.fst.getD g.snd.fst.toNat ([] : List Int)).length : Int) < (66 : Int))) ∧
 x.fst.fst = x.fst.fst ∧
 (↑x.fst.fst.length : Int) = (↑x.fst.fst.length : Int) ∧ g.snd.fst + (1 : Int) = g.snd.fst + (1 : Int) ∧ True) ∧
 True ∧ True) ∧
 (decide (g.snd.fst < (↑x.fst.fst.length : Int)) = false → g.fst = rightT x.fst)

theorem E_qright_eq (x : HL (cRight : Ctr).as) : vc (fx_qright x) 1 24 Try.f24 (cRight) x = E_qright x := by kernel_rfl

def E_read (x : (List (List Int) × List Int) × Int × Unit) : Prop :=
 Holds True ∧
 ((!rightT (x.fst.fst, x.fst.snd)) = true →
 (([] : List (List Int)), ([] : List Int)) = (readT x.fst x.snd.fst).fst ∧
 ([] : List Int) = (readT x.fst x.snd.fst).snd.fst ∧ (1 : Int) = (readT x.fst x.snd.fst).snd.snd.fst) ∧
 ((!rightT (x.fst.fst, x.fst.snd)) = false →
 (decide (x.snd.fst < (1 : Int)) = true →
 (([] : List (List Int)), ([] : List Int)) = (readT x.fst x.snd.fst).fst ∧
 ([] : List Int) = (readT x.fst x.snd.fst).snd.fst ∧ (2 : Int) = (readT x.fst x.snd.fst).snd.snd.fst) ∧
 (decide (x.snd.fst < (1 : Int)) = false →
 (((↑x.fst.fst.length : Int) == (0 : Int)) = true →
 (([] : List (List Int)), ([] : List Int)) = (readT x.fst x.snd.fst).fst ∧
 ([] : List Int) = (readT x.fst x.snd.fst).snd.fst ∧ (7 : Int) = (readT x.fst x.snd.fst).snd.snd.fst) ∧
 (((↑x.fst.fst.length : Int) == (0 : Int)) = false →
 Holds (x.fst.snd.length ≤ (140737488355328 : Nat)) ∧
 ((((0 : Int) ≤ (0 : Int) ∧
 (0 : Int) ≤ (↑x.fst.fst.length : Int) ∧ ([] : List (List Int)) = List.take (Int.toNat (0 : Int)) x.fst.fst) ∧
 True) ∧
 ((True ∧ True) ∧
 (True ∧ True) ∧
 x.fst.fst = x.fst.fst ∧ (↑x.fst.fst.length : Int) = (↑x.fst.fst.length : Int) ∧ (0 : Int) = (0 : Int) ∧ True) ∧
 ((True ∧ x.fst.snd = x.fst.snd ∧ True) ∧
 ([] : List (List Int)) = ([] : List (List Int)) ∧
 (x.fst.fst = x.fst.fst ∧ x.fst.snd = x.fst.snd ∧ True) ∧
 (Value.slice none (0 : Nat) (0 : Nat) = Value.slice none (0 : Nat) (0 : Nat) ∧
 Value.slice none (0 : Nat) (0 : Nat) = Value.slice none (0 : Nat) (0 : Nat) ∧ True) ∧
 (Value.slice none (0 : Nat) (0 : Nat) = Value.slice none (0 : Nat) (0 : Nat) ∧
 Value.slice none (0 : Nat) (0 : Nat) = Value.slice none (0 : Nat) (0 : Nat) ∧ True) ∧
 True) ∧
 x.fst = x.fst ∧
 x.snd.fst = x.snd.fst ∧
 (True ∧ True) ∧
 True ∧
 (True ∧ True) ∧
 Value.slice none (0 : Nat) (0 : Nat) = Value.slice none (0 : Nat) (0 : Nat) ∧
 (0 : Int) = (0 : Int) ∧
 True ∧
 True ∧
 True ∧
 True ∧
 false = false ∧
 (x.fst.fst = x.fst.fst ∧ x.fst.snd = x.fst.snd ∧ True) ∧
 rightT (x.fst.fst, x.fst.snd) = rightT (x.fst.fst, x.fst.snd) ∧
 (!rightT (x.fst.fst, x.fst.snd)) = !rightT (x.fst.fst, x.fst.snd) ∧
 True ∧
 false = false ∧
 x.snd.fst = x.snd.fst ∧
 decide (x.snd.fst < (1 : Int)) = decide (x.snd.fst < (1 : Int)) ∧
 True ∧
 false = false ∧
 (True ∧ True) ∧
 x.fst.fst = x.fst.fst ∧
 (↑x.fst.fst.length : Int) = (↑x.fst.fst.length : Int) ∧
 ((↑x.fst.fst.length : Int) == (0 : Int)) =
 ((↑x.fst.fst.length : Int) == (0 : Int)) ∧
 True ∧
 (x.fst.fst = x.fst.fst ∧ x.fst.snd = x.fst.snd ∧ True) ∧
 True ∧
 True ∧
 True ∧
 True ∧
 True ∧
 True ∧
 True ∧
 True ∧
 True ∧
 True ∧
 True ∧
 True ∧
 True ∧
 True ∧
 True ∧
 True ∧
 True ∧
 True ∧
 True ∧
 True ∧
 True ∧
 True ∧
 True ∧
 True ∧
 True ∧
 True ∧
 True ∧
 True ∧
 True ∧
 True ∧ True) ∧
 ∀ (g : (List (List Int) × Unit) × Int × Unit),
 (0 : Int) ≤ g.snd.fst ∧ g.snd.fst ≤ (↑x.fst.fst.length : Int) ∧ g.fst.fst = List.take g.snd.fst.toNat x.fst.fst →
 ((g.fst.fst.length ≤ (9223372036854775807 : Nat) ∧
 ∀ (x : List Int),
 x ∈ g.fst.fst →
 x.length ≤ (9223372036854775807 : Nat) ∧ ∀ (x_1 : Int), x_1 ∈ x → (0 : Int) ≤ x_1 ∧ x_1 ≤ (255 : Int)) ∧
 True) ∧
 ((-9223372036854775808 : Int) ≤ g.snd.fst ∧ g.snd.fst ≤ (9223372036854775807 : Int)) ∧ True →
 (decide (g.snd.fst < (↑x.fst.fst.length : Int)) = true →
 ((0 : Int) ≤ g.snd.fst ∧ g.snd.fst < (↑x.fst.fst.length : Int)) ∧
 Holds ((x.fst.fst.getD g.snd.fst.toNat ([] : List Int)).length ≤ (140737488355328 : Nat)) ∧
 (g.fst.fst.length +
 ((([] : List Int) :: ([] : List (List Int))).set (0 : Nat)
 (x.fst.fst.getD g.snd.fst.toNat ([] : List Int))).length ≤
 (9223372036854775807 : Nat) ∧
 (g.fst.fst.length +
 ((([] : List Int) :: ([] : List (List Int))).set (0 : Nat)
 (x.fst.fst.getD g.snd.fst.toNat ([] : List Int))).length +
 (g.fst.fst.length +
 ((([] : List Int) :: ([] : List (List Int))).set (0 : Nat)
 (x.fst.fst.getD g.snd.fst.toNat ([] : List Int))).length) /
 (4 : Nat) +
 (192 : Nat)) *
 (24 : Nat) ≤
 (281474976710656 : Nat)) ∧
 ((-9223372036854775808 : Int) ≤ g.snd.fst + (1 : Int) ∧ g.snd.fst + (1 : Int) ≤ (9223372036854775807 : Int)) ∧
 (((0 : Int) ≤ g.snd.fst + (1 : Int) ∧
 g.snd.fst + (1 : Int) ≤ (↑x.fst.fst.length : Int) ∧
 g.fst.fst ++
 (([] : List Int) :: ([] : List (List Int))).set (0 : Nat)
 (x.fst.fst.getD g.snd.fst.toNat ([] : List Int)) =
 List.take (g.snd.fst + (1 : Int)).toNat x.fst.fst) ∧
 ((↑x.fst.fst.length : Int) - (g.snd.fst + (1 : Int))).toNat < ((↑x.fst.fst.length : Int) - g.snd.fst).toNat) ∧
 ((True ∧ True) ∧
 (True ∧ True) ∧
 x.fst.fst = x.fst.fst ∧
 (↑x.fst.fst.length : Int) = (↑x.fst.fst.length : Int) ∧
 g.snd.fst + (1 : Int) = g.snd.fst + (1 : Int) ∧ True) ∧
 ((True ∧ x.fst.snd = x.fst.snd ∧ True) ∧
 g.fst.fst ++
 (([] : List Int) :: ([] : List (List Int))).set (0 : Nat)
 (x.fst.fst.getD g.snd.fst.toNat ([] : List Int)) =
 g.fst.fst ++
 (([] : List Int) :: ([] : List (List Int))).set (0 : Nat)
 (x.fst.fst.getD g.snd.fst.toNat ([] : List Int)) ∧
 (x.fst.fst = x.fst.fst ∧ x.fst.snd = x.fst.snd ∧ True) ∧
 (Value.slice none (0 : Nat) (0 : Nat) = Value.slice none (0 : Nat) (0 : Nat) ∧
 Value.slice none (0 : Nat) (0 : Nat) = Value.slice none (0 : Nat) (0 : Nat) ∧ True) ∧
 (Value.slice none (0 : Nat) (0 : Nat) = Value.slice none (0 : Nat) (0 : Nat) ∧
 Value.slice none (0 : Nat) (0 : Nat) = Value.slice none (0 : Nat) (0 : Nat) ∧ True) ∧
 True) ∧
 x.fst = x.fst ∧
 x.snd.fst = x.snd.fst ∧
 (True ∧ True) ∧
 True ∧
 (True ∧ True) ∧
 Value.slice none (0 : Nat) (0 : Nat) = Value.slice none (0 : Nat) (0 : Nat) ∧
 (0 : Int) = (0 : Int) ∧
 True ∧
 True ∧
 True ∧
 True ∧
 false = false ∧
 (x.fst.fst = x.fst.fst ∧ x.fst.snd = x.fst.snd ∧ True) ∧
 rightT (x.fst.fst, x.fst.snd) = rightT (x.fst.fst, x.fst.snd) ∧
 (!rightT (x.fst.fst, x.fst.snd)) = !rightT (x.fst.fst, x.fst.snd) ∧
 True ∧
 false = false ∧
 x.snd.fst = x.snd.fst ∧
 decide (x.snd.fst < (1 : Int)) = decide (x.snd.fst < (1 : Int)) ∧
 True ∧
 false = false ∧
 (True ∧ True) ∧
 x.fst.fst = x.fst.fst ∧
 (↑x.fst.fst.length : Int) = (↑x.fst.fst.length : Int) ∧
 ((↑x.fst.fst.length : Int) == (0 : Int)) =
 ((↑x.fst.fst.length : Int) == (0 : Int)) ∧
 True ∧
 (x.fst.fst = x.fst.fst ∧ x.fst.snd = x.fst.snd ∧ True) ∧
 True ∧
 True ∧
 True ∧
 True ∧
 True ∧
 True ∧
 True ∧
 True ∧
 True ∧
 True ∧
 True ∧
 True ∧
 True ∧
 True ∧
 True ∧
 True ∧
 True ∧
 True ∧
 True ∧
 True ∧
 True ∧
 True ∧
 True ∧
 True ∧
 True ∧
 True ∧
 True ∧
 True ∧
 True ∧
 True ∧
 True) ∧
 (decide (g.snd.fst < (↑x.fst.fst.length : Int)) = false →
 ((0 : Int) ≤ (0 : Int) ∧ (0 : Int) < (↑g.fst.fst.length : Int)) ∧
 (((0 : Int) ≤ (0 : Int) ∧ (0 : Int) ≤ min x.snd.fst (↑(g.fst.fst.getD (nat_lit 0) ([] : List Int)).length : Int)) ∧
 min x.snd.fst (↑(g.fst.fst.getD (nat_lit 0) ([] : List Int)).length : Int) ≤
 (↑(g.fst.fst.getD (nat_lit 0) ([] : List Int)).length : Int)) ∧
 Holds
 ((List.drop (Int.toNat (0 : Int))
 (List.take (min x.snd.fst (↑(g.fst.fst.getD (nat_lit 0) ([] : List Int)).length : Int)).toNat
 (g.fst.fst.getD (nat_lit 0) ([] : List Int)))).length ≤
 (140737488355328 : Nat)) ∧
 ((min x.snd.fst (↑(g.fst.fst.getD (nat_lit 0) ([] : List Int)).length : Int) ==
 (↑(g.fst.fst.getD (nat_lit 0) ([] : List Int)).length : Int)) =
 true →
 (((0 : Int) ≤ (1 : Int) ∧ (1 : Int) ≤ (↑g.fst.fst.length : Int)) ∧
 (↑g.fst.fst.length : Int) ≤ (↑g.fst.fst.length : Int)) ∧
 (List.drop (Int.toNat (1 : Int)) (List.take (↑g.fst.fst.length : Int).toNat g.fst.fst), x.fst.snd) =
 (readT x.fst x.snd.fst).fst ∧
 List.drop (Int.toNat (0 : Int))
 (List.take (min x.snd.fst (↑(g.fst.fst.getD (nat_lit 0) ([] : List Int)).length : Int)).toNat
 (g.fst.fst.getD (nat_lit 0) ([] : List Int))) =
 (readT x.fst x.snd.fst).snd.fst ∧
 (0 : Int) = (readT x.fst x.snd.fst).snd.snd.fst) ∧
 ((min x.snd.fst (↑(g.fst.fst.getD (nat_lit 0) ([] : List Int)).length : Int) ==
 (↑(g.fst.fst.getD (nat_lit 0) ([] : List Int)).length : Int)) =
 false →
 (((0 : Int) ≤ min x.snd.fst (↑(g.fst.fst.getD (nat_lit 0) ([] : List Int)).length : Int) ∧
 min x.snd.fst (↑(g.fst.fst.getD (nat_lit 0) ([] : List Int)).length : Int) ≤
 (↑(g.fst.fst.getD (nat_lit 0) ([] : List Int)).length : Int)) ∧
 (↑(g.fst.fst.getD (nat_lit 0) ([] : List Int)).length : Int) ≤
 (↑(g.fst.fst.getD (nat_lit 0) ([] : List Int)).length : Int)) ∧
 Holds
 ((List.drop (min x.snd.fst (↑(g.fst.fst.getD (nat_lit 0) ([] : List Int)).length : Int)).toNat
 (List.take (↑(g.fst.fst.getD (nat_lit 0) ([] : List Int)).length : Int).toNat
 (g.fst.fst.getD (nat_lit 0) ([] : List Int)))).length ≤
 (140737488355328 : Nat)) ∧
 ((0 : Int) ≤ (0 : Int) ∧ (0 : Int) < (↑g.fst.fst.length : Int)) ∧
 (g.fst.fst.set (nat_lit 0)
 (List.drop (min x.snd.fst (↑(g.fst.fst.getD (nat_lit 0) ([] : List Int)).length : Int)).toNat
 (List.take (↑(g.fst.fst.getD (nat_lit 0) ([] : List Int)).length : Int).toNat
 (g.fst.fst.getD (nat_lit 0) ([] : List Int)))),
 x.fst.snd) =
 (readT x.fst x.snd.fst).fst ∧
 List.drop (Int.toNat (0 : Int))
 (List.take (min x.snd.fst (↑(g.fst.fst.getD (nat_lit 0) ([] : List Int)).length : Int)).toNat
 (g.fst.fst.getD (nat_lit 0) ([] : List Int))) =
 (readT x.fst x.snd.fst).snd.fst ∧
 (0 : Int) = (readT x.fst x.snd.fst).snd.snd.fst)))))

theorem E_read_eq (x : HL (cRead : Ctr).as) : vc (fx_read x) 2 21 Try.f21 (cRead) x = E_read x := by kernel_rfl

def E_own (x : (List (List Int) × List Int) × Unit) : Prop :=
 Holds (x.fst.snd.length ≤ (140737488355328 : Nat)) ∧
 ((((0 : Int) ≤ (0 : Int) ∧ (0 : Int) ≤ (↑x.fst.fst.length : Int) ∧ ([] : List (List Int)) = List.take (Int.toNat (0 : Int)) x.fst.fst) ∧ True) ∧
 ((True ∧ True) ∧ (True ∧ True) ∧ x.fst.fst = x.fst.fst ∧ (↑x.fst.fst.length : Int) = (↑x.fst.fst.length : Int) ∧ (0 : Int) = (0 : Int) ∧ True) ∧
 ((True ∧ x.fst.snd = x.fst.snd ∧ True) ∧
 ([] : List (List Int)) = ([] : List (List Int)) ∧
 (Value.slice none (0 : Nat) (0 : Nat) = Value.slice none (0 : Nat) (0 : Nat) ∧
 Value.slice none (0 : Nat) (0 : Nat) = Value.slice none (0 : Nat) (0 : Nat) ∧ True) ∧
 True) ∧
 True) ∧
 ∀ (g : (List (List Int) × Unit) × Int × Unit),
 (0 : Int) ≤ g.snd.fst ∧ g.snd.fst ≤ (↑x.fst.fst.length : Int) ∧ g.fst.fst = List.take g.snd.fst.toNat x.fst.fst →
 ((g.fst.fst.length ≤ (9223372036854775807 : Nat) ∧
 ∀ (x : List Int),
 x ∈ g.fst.fst → x.length ≤ (9223372036854775807 : Nat) ∧ ∀ (x_1 : Int), x_1 ∈ x → (0 : Int) ≤ x_1 ∧ x_1 ≤ (255 : Int)) ∧
 True) ∧
 ((-9223372036854775808 : Int) ≤ g.snd.fst ∧ g.snd.fst ≤ (9223372036854775807 : Int)) ∧ True →
 (decide (g.snd.fst < (↑x.fst.fst.length : Int)) = true →
 ((0 : Int) ≤ g.snd.fst ∧ g.snd.fst < (↑x.fst.fst.length : Int)) ∧
 Holds ((x.fst.fst.getD g.snd.fst.toNat ([] : List Int)).length ≤ (140737488355328 : Nat)) ∧
 (g.fst.fst.length +
 ((([] : List Int) :: ([] : List (List Int))).set (0 : Nat) (x.fst.fst.getD g.snd.fst.toNat ([] : List Int))).length ≤
 (9223372036854775807 : Nat) ∧
 (g.fst.fst.length +
 ((([] : List Int) :: ([] : List (List Int))).set (0 : Nat) (x.fst.fst.getD g.snd.fst.toNat ([] : List Int))).length +
 (g.fst.fst.length +
 ((([] : List Int) :: ([] : List (List Int))).set (0 : Nat)
 (x.fst.fst.getD g.snd.fst.toNat ([] : List Int))).length) /
 (4 : Nat) +
 (192 : Nat)) *
 (24 : Nat) ≤
 (281474976710656 : Nat)) ∧
 ((-9223372036854775808 : Int) ≤ g.snd.fst + (1 : Int) ∧ g.snd.fst + (1 : Int) ≤ (9223372036854775807 : Int)) ∧
 (((0 : Int) ≤ g.snd.fst + (1 : Int) ∧
 g.snd.fst + (1 : Int) ≤ (↑x.fst.fst.length : Int) ∧
 g.fst.fst ++
 (([] : List Int) :: ([] : List (List Int))).set (0 : Nat) (x.fst.fst.getD g.snd.fst.toNat ([] : List Int)) =
 List.take (g.snd.fst + (1 : Int)).toNat x.fst.fst) ∧
 ((↑x.fst.fst.length : Int) - (g.snd.fst + (1 : Int))).toNat < ((↑x.fst.fst.length : Int) - g.snd.fst).toNat) ∧
 ((True ∧ True) ∧
 (True ∧ True) ∧
 x.fst.fst = x.fst.fst ∧
 (↑x.fst.fst.length : Int) = (↑x.fst.fst.length : Int) ∧ g.snd.fst + (1 : Int) = g.snd.fst + (1 : Int) ∧ True) ∧
 ((True ∧ x.fst.snd = x.fst.snd ∧ True) ∧
 g.fst.fst ++
 (([] : List Int) :: ([] : List (List Int))).set (0 : Nat) (x.fst.fst.getD g.snd.fst.toNat ([] : List Int)) =
 g.fst.fst ++
 (([] : List Int) :: ([] : List (List Int))).set (0 : Nat) (x.fst.fst.getD g.snd.fst.toNat ([] : List Int)) ∧
 (Value.slice none (0 : Nat) (0 : Nat) = Value.slice none (0 : Nat) (0 : Nat) ∧
 Value.slice none (0 : Nat) (0 : Nat) = Value.slice none (0 : Nat) (0 : Nat) ∧ True) ∧
 True) ∧
 True) ∧
 (decide (g.snd.fst < (↑x.fst.fst.length : Int)) = false → (g.fst.fst, x.fst.snd) = x.fst)

theorem E_own_eq (x : HL (cOwn : Ctr).as) : vc (fx_own x) 1 54 Try.f54 (cOwn) x = E_own x := by kernel_rfl

def E_qread (x : (List (List Int) × List Int) × Int × Unit) : Prop :=
 Holds True ∧
 ((!rightT (x.fst.fst, x.fst.snd)) = true →
 (([] : List (List Int)), ([] : List Int)) = (readT x.fst x.snd.fst).fst ∧
 ([] : List Int) = (readT x.fst x.snd.fst).snd.fst ∧ (1 : Int) = (readT x.fst x.snd.fst).snd.snd.fst) ∧
 ((!rightT (x.fst.fst, x.fst.snd)) = false →
 (decide (x.snd.fst < (1 : Int)) = true →
 (([] : List (List Int)), ([] : List Int)) = (readT x.fst x.snd.fst).fst ∧
 ([] : List Int) = (readT x.fst x.snd.fst).snd.fst ∧ (2 : Int) = (readT x.fst x.snd.fst).snd.snd.fst) ∧
 (decide (x.snd.fst < (1 : Int)) = false →
 (((↑x.fst.fst.length : Int) == (0 : Int)) = true →
 (([] : List (List Int)), ([] : List Int)) = (readT x.fst x.snd.fst).fst ∧
 ([] : List Int) = (readT x.fst x.snd.fst).snd.fst ∧ (7 : Int) = (readT x.fst x.snd.fst).snd.snd.fst) ∧
 (((↑x.fst.fst.length : Int) == (0 : Int)) = false →
 ((0 : Int) ≤ (0 : Int) ∧ (0 : Int) < (↑x.fst.fst.length : Int)) ∧
 (((0 : Int) ≤ (1 : Int) ∧ (1 : Int) ≤ (↑x.fst.fst.length : Int)) ∧ (↑x.fst.fst.length : Int) ≤ (↑x.fst.fst.length : Int)) ∧
 (([] : List (List Int)).length + (List.drop (Int.toNat (1 : Int)) (List.take (↑x.fst.fst.length : Int).toNat x.fst.fst)).length ≤
 (9223372036854775807 : Nat) ∧
 (([] : List (List Int)).length +
 (List.drop (Int.toNat (1 : Int)) (List.take (↑x.fst.fst.length : Int).toNat x.fst.fst)).length +
 (([] : List (List Int)).length +
 (List.drop (Int.toNat (1 : Int)) (List.take (↑x.fst.fst.length : Int).toNat x.fst.fst)).length) /
 (4 : Nat) +
 (192 : Nat)) *
 (24 : Nat) ≤
 (281474976710656 : Nat)) ∧
 (decide (x.snd.fst < (↑(x.fst.fst.getD (Int.toNat (0 : Int)) ([] : List Int)).length : Int)) = true →
 (((0 : Int) ≤ x.snd.fst ∧ x.snd.fst ≤ (↑(x.fst.fst.getD (Int.toNat (0 : Int)) ([] : List Int)).length : Int)) ∧
 (↑(x.fst.fst.getD (Int.toNat (0 : Int)) ([] : List Int)).length : Int) ≤
 (↑(x.fst.fst.getD (Int.toNat (0 : Int)) ([] : List Int)).length : Int)) ∧
 (((([] : List Int) :: ([] : List (List Int))).set (0 : Nat)
 (List.drop x.snd.fst.toNat
 (List.take (↑(x.fst.fst.getD (Int.toNat (0 : Int)) ([] : List Int)).length : Int).toNat
 (x.fst.fst.getD (Int.toNat (0 : Int)) ([] : List Int))))).length +
 (([] : List (List Int)) ++
 List.drop (Int.toNat (1 : Int)) (List.take (↑x.fst.fst.length : Int).toNat x.fst.fst)).length ≤
 (9223372036854775807 : Nat) ∧
 (((([] : List Int) :: ([] : List (List Int))).set (0 : Nat)
 (List.drop x.snd.fst.toNat
 (List.take (↑(x.fst.fst.getD (Int.toNat (0 : Int)) ([] : List Int)).length : Int).toNat
 (x.fst.fst.getD (Int.toNat (0 : Int)) ([] : List Int))))).length +
 (([] : List (List Int)) ++
 List.drop (Int.toNat (1 : Int)) (List.take (↑x.fst.fst.length : Int).toNat x.fst.fst)).length +
 (((([] : List Int) :: ([] : List (List Int))).set (0 : Nat)
 (List.drop x.snd.fst.toNat
 (List.take (↑(x.fst.fst.getD (Int.toNat (0 : Int)) ([] : List Int)).length : Int).toNat
 (x.fst.fst.getD (Int.toNat (0 : Int)) ([] : List Int))))).length +
 (([] : List (List Int)) ++
 List.drop (Int.toNat (1 : Int)) (List.take (↑x.fst.fst.length : Int).toNat x.fst.fst)).length) /
 (4 : Nat) +
 (192 : Nat)) *
 (24 : Nat) ≤
 (281474976710656 : Nat)) ∧
 (((0 : Int) ≤ (0 : Int) ∧ (0 : Int) ≤ x.snd.fst) ∧
 x.snd.fst ≤ (↑(x.fst.fst.getD (Int.toNat (0 : Int)) ([] : List Int)).length : Int)) ∧
 ((([] : List Int) :: ([] : List (List Int))).set (0 : Nat)
 (List.drop x.snd.fst.toNat
 (List.take (↑(x.fst.fst.getD (Int.toNat (0 : Int)) ([] : List Int)).length : Int).toNat
 (x.fst.fst.getD (Int.toNat (0 : Int)) ([] : List Int)))) ++
 (([] : List (List Int)) ++
 List.drop (Int.toNat (1 : Int)) (List.take (↑x.fst.fst.length : Int).toNat x.fst.fst)),
 x.fst.snd) =
 (readT x.fst x.snd.fst).fst ∧
 List.drop (Int.toNat (0 : Int)) (List.take x.snd.fst.toNat (x.fst.fst.getD (Int.toNat (0 : Int)) ([] : List Int))) =
 (readT x.fst x.snd.fst).snd.fst ∧
 (0 : Int) = (readT x.fst x.snd.fst).snd.snd.fst) ∧
 (decide (x.snd.fst < (↑(x.fst.fst.getD (Int.toNat (0 : Int)) ([] : List Int)).length : Int)) = false →
 (([] : List (List Int)) ++ List.drop (Int.toNat (1 : Int)) (List.take (↑x.fst.fst.length : Int).toNat x.fst.fst), x.fst.snd) =
 (readT x.fst x.snd.fst).fst ∧
 x.fst.fst.getD (Int.toNat (0 : Int)) ([] : List Int) = (readT x.fst x.snd.fst).snd.fst ∧
 (0 : Int) = (readT x.fst x.snd.fst).snd.snd.fst))))

theorem E_qread_eq (x : HL (cRead : Ctr).as) : vc (fx_qread x) 1 22 Try.f22 (cRead) x = E_qread x := by kernel_rfl

def E_cloneo (x : List Int × Unit) : Prop :=
 ∀ (b : Bool),
 (b = true → x.fst = ([] : List Int)) →
 (b = true → ([] : List Int) = x.fst) ∧
 (b = false →
 (([] : List Int).length + x.fst.length ≤ (9223372036854775807 : Nat) ∧
 (([] : List Int).length + x.fst.length + (([] : List Int).length + x.fst.length) / (4 : Nat) + (192 : Nat)) * (1 : Nat) ≤
 (281474976710656 : Nat)) ∧
 ([] : List Int) ++ x.fst = x.fst)

theorem E_cloneo_eq (x : HL (cCloneO : Ctr).as) : vc (fx_cloneo x) 1 53 Try.f53 (cCloneO) x = E_cloneo x := by kernel_rfl

def E_clonel (x : List (List Int) × Unit) : Prop :=
 ∀ (b : Bool),
 (b = true → x.fst = ([] : List (List Int))) →
 (b = true → ([] : List (List Int)) = x.fst) ∧
 (b = false →
 (([] : List (List Int)).length + x.fst.length ≤ (9223372036854775807 : Nat) ∧
 (([] : List (List Int)).length + x.fst.length + (([] : List (List Int)).length + x.fst.length) / (4 : Nat) + (192 : Nat)) * (24 : Nat) ≤
 (281474976710656 : Nat)) ∧
 ([] : List (List Int)) ++ x.fst = x.fst)

theorem E_clonel_eq (x : HL (cCloneL : Ctr).as) : vc (fx_clonel x) 1 90 Try.f90 (cCloneL) x = E_clonel x := by kernel_rfl

def E_cloney (x : List Int × Unit) : Prop :=
 ∀ (b : Bool),
 (b = true → x.fst = ([] : List Int)) →
 (b = true → ([] : List Int) = x.fst) ∧
 (b = false →
 (([] : List Int).length + x.fst.length ≤ (9223372036854775807 : Nat) ∧
 (([] : List Int).length + x.fst.length + (([] : List Int).length + x.fst.length) / (4 : Nat) + (192 : Nat)) * (1 : Nat) ≤
 (281474976710656 : Nat)) ∧
 ([] : List Int) ++ x.fst = x.fst)

theorem E_cloney_eq (x : HL (cCloneO : Ctr).as) : vc (fx_cloney x) 1 91 Try.f91 (cCloneO) x = E_cloney x := by kernel_rfl

def E_word (x : List Int × Unit) : Prop :=
 ((((0 : Int) ≤ (↑x.fst.length : Int) ∧
 (↑x.fst.length : Int) ≤ (↑x.fst.length : Int) ∧ dropSp x.fst (↑x.fst.length : Int).toNat = dropSp x.fst x.fst.length) ∧
 True) ∧
 (x.fst = x.fst ∧ (↑x.fst.length : Int) = (↑x.fst.length : Int) ∧ True) ∧ True ∧ True) ∧
 ∀ (g : Int × Unit),
 (0 : Int) ≤ g.fst ∧ g.fst ≤ (↑x.fst.length : Int) ∧ dropSp x.fst g.fst.toNat = dropSp x.fst x.fst.length →
 ((-9223372036854775808 : Int) ≤ g.fst ∧ g.fst ≤ (9223372036854775807 : Int)) ∧ True →
 (decide ((0 : Int) < g.fst) = true →
 decide ((0 : Int) < g.fst) = true ∧ (-9223372036854775808 : Int) ≤ g.fst - (1 : Int) ∧ g.fst - (1 : Int) ≤ (9223372036854775807 : Int)) ∧
 (decide ((0 : Int) < g.fst) = true →
 (decide ((0 : Int) < g.fst) = true ∧ decide ((0 : Int) < g.fst) = true) ∧
 (0 : Int) ≤ g.fst - (1 : Int) ∧ g.fst - (1 : Int) < (↑x.fst.length : Int)) ∧
 (decide ((0 : Int) < g.fst) = true → decide ((0 : Int) < g.fst) = true) ∧
 (decide ((0 : Int) < g.fst) = true → decide ((0 : Int) < g.fst) = true) ∧
 (decide ((0 : Int) < g.fst) = true → decide ((0 : Int) < g.fst) = true) ∧
 ((decide ((0 : Int) < g.fst) && x.fst.getD (g.fst - (1 : Int)).toNat (0 : Int) == (32 : Int)) = true →
 ((-9223372036854775808 : Int) ≤ g.fst - (1 : Int) ∧ g.fst - (1 : Int) ≤ (9223372036854775807 : Int)) ∧
 (((0 : Int) ≤ g.fst - (1 : Int) ∧
 g.fst - (1 : Int) ≤ (↑x.fst.length : Int) ∧ dropSp x.fst (g.fst - (1 : Int)).toNat = dropSp x.fst x.fst.length) ∧
 (g.fst - (1 : Int)).toNat < g.fst.toNat) ∧
 (x.fst = x.fst ∧ g.fst - (1 : Int) = g.fst - (1 : Int) ∧ True) ∧ True ∧ True) ∧
 ((decide ((0 : Int) < g.fst) && x.fst.getD (g.fst - (1 : Int)).toNat (0 : Int) == (32 : Int)) = false →
 ((((0 : Int) ≤ g.fst ∧ g.fst ≤ (↑x.fst.length : Int) ∧ dropWd x.fst g.fst.toNat = wordN x.fst) ∧ True) ∧
 (x.fst = x.fst ∧ g.fst = g.fst ∧ True) ∧ True ∧ True) ∧
 ∀ (g : Int × Unit),
 (0 : Int) ≤ g.fst ∧ g.fst ≤ (↑x.fst.length : Int) ∧ dropWd x.fst g.fst.toNat = wordN x.fst →
 ((-9223372036854775808 : Int) ≤ g.fst ∧ g.fst ≤ (9223372036854775807 : Int)) ∧ True →
 (decide ((0 : Int) < g.fst) = true →
 decide ((0 : Int) < g.fst) = true ∧
 (-9223372036854775808 : Int) ≤ g.fst - (1 : Int) ∧ g.fst - (1 : Int) ≤ (9223372036854775807 : Int)) ∧
 (decide ((0 : Int) < g.fst) = true →
 (decide ((0 : Int) < g.fst) = true ∧ decide ((0 : Int) < g.fst) = true) ∧
 (0 : Int) ≤ g.fst - (1 : Int) ∧ g.fst - (1 : Int) < (↑x.fst.length : Int)) ∧
 (decide ((0 : Int) < g.fst) = true → decide ((0 : Int) < g.fst) = true) ∧
 (decide ((0 : Int) < g.fst) = true → decide ((0 : Int) < g.fst) = true) ∧
 (decide ((0 : Int) < g.fst) = true → decide ((0 : Int) < g.fst) = true) ∧
 ((decide ((0 : Int) < g.fst) && x.fst.getD (g.fst - (1 : Int)).toNat (0 : Int) != (32 : Int)) = true →
 ((-9223372036854775808 : Int) ≤ g.fst - (1 : Int) ∧ g.fst - (1 : Int) ≤ (9223372036854775807 : Int)) ∧
 (((0 : Int) ≤ g.fst - (1 : Int) ∧
 g.fst - (1 : Int) ≤ (↑x.fst.length : Int) ∧
 dropWd x.fst (g.fst - (1 : Int)).toNat = wordN x.fst) ∧
 (g.fst - (1 : Int)).toNat < g.fst.toNat) ∧
 (x.fst = x.fst ∧ g.fst - (1 : Int) = g.fst - (1 : Int) ∧ True) ∧ True ∧ True) ∧
 ((decide ((0 : Int) < g.fst) && x.fst.getD (g.fst - (1 : Int)).toNat (0 : Int) != (32 : Int)) = false →
 g.fst = (↑(wordN x.fst) : Int)))

theorem E_word_eq (x : HL (cWord : Ctr).as) : vc (fx_word x) 1 52 Try.f52 (cWord) x = E_word x := by kernel_rfl

def E_key (x : (List (List Int) × List Int) × Int × Unit) : Prop :=
 Holds True ∧
 ((!rightT (x.fst.fst, x.fst.snd)) = true →
 (([] : List (List Int)), ([] : List Int)) = (keyR x.fst x.snd.fst).fst ∧ (1 : Int) = (keyR x.fst x.snd.fst).snd.fst) ∧
 ((!rightT (x.fst.fst, x.fst.snd)) = false →
 ((!x.snd.fst == (10 : Int)) = true → (!x.snd.fst == (10 : Int)) = true) ∧
 ((x.snd.fst == (10 : Int)) = false → (!x.snd.fst == (10 : Int)) = true) ∧
 ((x.snd.fst == (10 : Int) || x.snd.fst == (4 : Int)) = true → (x.snd.fst == (10 : Int) || x.snd.fst == (4 : Int)) = true) ∧
 ((x.snd.fst == (10 : Int) || x.snd.fst == (4 : Int)) = true → (x.snd.fst == (10 : Int) || x.snd.fst == (4 : Int)) = true) ∧
 ((x.snd.fst == (10 : Int) || x.snd.fst == (4 : Int)) = true → (x.snd.fst == (10 : Int) || x.snd.fst == (4 : Int)) = true) ∧
 ((x.snd.fst == (10 : Int) || x.snd.fst == (4 : Int)) = true → (x.snd.fst == (10 : Int) || x.snd.fst == (4 : Int)) = true) ∧
 (((x.snd.fst == (10 : Int) || x.snd.fst == (4 : Int)) && (↑x.fst.fst.length : Int) == (400 : Int)) = true →
 (([] : List (List Int)), ([] : List Int)) = (keyR x.fst x.snd.fst).fst ∧ (4 : Int) = (keyR x.fst x.snd.fst).snd.fst) ∧
 (((x.snd.fst == (10 : Int) || x.snd.fst == (4 : Int)) && (↑x.fst.fst.length : Int) == (400 : Int)) = false →
 ((x.snd.fst == (10 : Int)) = true →
 Holds (x.fst.fst.length * (24 : Nat) ≤ (140737488355328 : Nat)) ∧
 Holds (x.fst.snd.length ≤ (140737488355328 : Nat)) ∧
 (x.fst.snd.length + (((0 : Int) :: ([] : List Int)).set (0 : Nat) x.snd.fst).length ≤ (9223372036854775807 : Nat) ∧
 (x.fst.snd.length + (((0 : Int) :: ([] : List Int)).set (0 : Nat) x.snd.fst).length +
 (x.fst.snd.length + (((0 : Int) :: ([] : List Int)).set (0 : Nat) x.snd.fst).length) / (4 : Nat) +
 (192 : Nat)) *
 (1 : Nat) ≤
 (281474976710656 : Nat)) ∧
 (x.fst.fst.length +
 ((([] : List Int) :: ([] : List (List Int))).set (0 : Nat)
 (x.fst.snd ++ ((0 : Int) :: ([] : List Int)).set (0 : Nat) x.snd.fst)).length ≤
 (9223372036854775807 : Nat) ∧
 (x.fst.fst.length +
 ((([] : List Int) :: ([] : List (List Int))).set (0 : Nat)
 (x.fst.snd ++ ((0 : Int) :: ([] : List Int)).set (0 : Nat) x.snd.fst)).length +
 (x.fst.fst.length +
 ((([] : List Int) :: ([] : List (List Int))).set (0 : Nat)
 (x.fst.snd ++ ((0 : Int) :: ([] : List Int)).set (0 : Nat) x.snd.fst)).length) /
 (4 : Nat) +
 (192 : Nat)) *
 (24 : Nat) ≤
 (281474976710656 : Nat)) ∧
 Holds
 (rightT
 (x.fst.fst ++
 (([] : List Int) :: ([] : List (List Int))).set (0 : Nat)
 (x.fst.snd ++ ((0 : Int) :: ([] : List Int)).set (0 : Nat) x.snd.fst),
 ([] : List Int)) =
 true) ∧
 (x.fst.fst ++
 (([] : List Int) :: ([] : List (List Int))).set (0 : Nat)
 (x.fst.snd ++ ((0 : Int) :: ([] : List Int)).set (0 : Nat) x.snd.fst),
 ([] : List Int)) =
 (keyR x.fst x.snd.fst).fst ∧
 (0 : Int) = (keyR x.fst x.snd.fst).snd.fst) ∧
 ((x.snd.fst == (10 : Int)) = false →
 ((x.snd.fst == (4 : Int)) = true →
 Holds (x.fst.fst.length * (24 : Nat) ≤ (140737488355328 : Nat)) ∧
 Holds (x.fst.snd.length ≤ (140737488355328 : Nat)) ∧
 (x.fst.snd.length + ([] : List Int).length ≤ (9223372036854775807 : Nat) ∧
 (x.fst.snd.length + ([] : List Int).length + (x.fst.snd.length + ([] : List Int).length) / (4 : Nat) +
 (192 : Nat)) *
 (1 : Nat) ≤
 (281474976710656 : Nat)) ∧
 (x.fst.fst.length +
 ((([] : List Int) :: ([] : List (List Int))).set (0 : Nat) (x.fst.snd ++ ([] : List Int))).length ≤
 (9223372036854775807 : Nat) ∧
 (x.fst.fst.length +
 ((([] : List Int) :: ([] : List (List Int))).set (0 : Nat) (x.fst.snd ++ ([] : List Int))).length +
 (x.fst.fst.length +
 ((([] : List Int) :: ([] : List (List Int))).set (0 : Nat)
 (x.fst.snd ++ ([] : List Int))).length) /
 (4 : Nat) +
 (192 : Nat)) *
 (24 : Nat) ≤
 (281474976710656 : Nat)) ∧
 Holds
 (rightT
 (x.fst.fst ++ (([] : List Int) :: ([] : List (List Int))).set (0 : Nat) (x.fst.snd ++ ([] : List Int)),
 ([] : List Int)) =
 true) ∧
 (x.fst.fst ++ (([] : List Int) :: ([] : List (List Int))).set (0 : Nat) (x.fst.snd ++ ([] : List Int)),
 ([] : List Int)) =
 (keyR x.fst x.snd.fst).fst ∧
 (0 : Int) = (keyR x.fst x.snd.fst).snd.fst) ∧
 ((x.snd.fst == (4 : Int)) = false →
 ((x.snd.fst == (8 : Int)) = true →
 ((-9223372036854775808 : Int) ≤ (↑x.fst.snd.length : Int) - (1 : Int) ∧
 (↑x.fst.snd.length : Int) - (1 : Int) ≤ (9223372036854775807 : Int)) ∧
 (((0 : Int) ≤ (0 : Int) ∧ (0 : Int) ≤ max ((↑x.fst.snd.length : Int) - (1 : Int)) (0 : Int)) ∧
 max ((↑x.fst.snd.length : Int) - (1 : Int)) (0 : Int) ≤ (↑x.fst.snd.length : Int)) ∧
 Holds
 (rightT
 (x.fst.fst,
 List.drop (Int.toNat (0 : Int))
 (List.take (max ((↑x.fst.snd.length : Int) - (1 : Int)) (0 : Int)).toNat x.fst.snd)) =
 true) ∧
 (x.fst.fst,
 List.drop (Int.toNat (0 : Int))
 (List.take (max ((↑x.fst.snd.length : Int) - (1 : Int)) (0 : Int)).toNat x.fst.snd)) =
 (keyR x.fst x.snd.fst).fst ∧
 (0 : Int) = (keyR x.fst x.snd.fst).snd.fst) ∧
 ((x.snd.fst == (8 : Int)) = false →
 ((x.snd.fst == (21 : Int)) = true →
 Holds (rightT (x.fst.fst, ([] : List Int)) = true) ∧
 (x.fst.fst, ([] : List Int)) = (keyR x.fst x.snd.fst).fst ∧ (0 : Int) = (keyR x.fst x.snd.fst).snd.fst) ∧
 ((x.snd.fst == (21 : Int)) = false →
 ((x.snd.fst == (23 : Int)) = true →
 Holds True ∧
 (((0 : Int) ≤ (0 : Int) ∧ (0 : Int) ≤ (↑(wordN x.fst.snd) : Int)) ∧
 (↑(wordN x.fst.snd) : Int) ≤ (↑x.fst.snd.length : Int)) ∧
 Holds
 (rightT
 (x.fst.fst,
 List.drop (Int.toNat (0 : Int)) (List.take (↑(wordN x.fst.snd) : Int).toNat x.fst.snd)) =
 true) ∧
 (x.fst.fst, List.drop (Int.toNat (0 : Int)) (List.take (↑(wordN x.fst.snd) : Int).toNat x.fst.snd)) =
 (keyR x.fst x.snd.fst).fst ∧
 (0 : Int) = (keyR x.fst x.snd.fst).snd.fst) ∧
 ((x.snd.fst == (23 : Int)) = false →
 (((↑x.fst.snd.length : Int) == (64 : Int)) = true →
 (([] : List (List Int)), ([] : List Int)) = (keyR x.fst x.snd.fst).fst ∧
 (4 : Int) = (keyR x.fst x.snd.fst).snd.fst) ∧
 (((↑x.fst.snd.length : Int) == (64 : Int)) = false →
 Holds (x.fst.snd.length ≤ (140737488355328 : Nat)) ∧
 (x.fst.snd.length + (((0 : Int) :: ([] : List Int)).set (0 : Nat) x.snd.fst).length ≤
 (9223372036854775807 : Nat) ∧
 (x.fst.snd.length + (((0 : Int) :: ([] : List Int)).set (0 : Nat) x.snd.fst).length +
 (x.fst.snd.length + (((0 : Int) :: ([] : List Int)).set (0 : Nat) x.snd.fst).length) /
 (4 : Nat) +
 (192 : Nat)) *
 (1 : Nat) ≤
 (281474976710656 : Nat)) ∧
 Holds
 (rightT (x.fst.fst, x.fst.snd ++ ((0 : Int) :: ([] : List Int)).set (0 : Nat) x.snd.fst) =
 true) ∧
 (x.fst.fst, x.fst.snd ++ ((0 : Int) :: ([] : List Int)).set (0 : Nat) x.snd.fst) =
 (keyR x.fst x.snd.fst).fst ∧
 (0 : Int) = (keyR x.fst x.snd.fst).snd.fst))))))))

theorem E_key_eq (x : HL (cKey : Ctr).as) : vc (fx_key x) 2 19 Try.f19 (cKey) x = E_key x := by kernel_rfl

def E_suf (x : List Int × List Int × Unit) : Prop :=
 (decide ((↑x.snd.fst.length : Int) ≤ (↑x.fst.length : Int)) = true → decide ((↑x.snd.fst.length : Int) ≤ (↑x.fst.length : Int)) = true) ∧
 (decide ((↑x.snd.fst.length : Int) ≤ (↑x.fst.length : Int)) = true → decide ((↑x.snd.fst.length : Int) ≤ (↑x.fst.length : Int)) = true) ∧
 (decide ((↑x.snd.fst.length : Int) ≤ (↑x.fst.length : Int)) = true →
 (decide ((↑x.snd.fst.length : Int) ≤ (↑x.fst.length : Int)) = true ∧ decide ((↑x.snd.fst.length : Int) ≤ (↑x.fst.length : Int)) = true) ∧
 (-9223372036854775808 : Int) ≤ (↑x.fst.length : Int) - (↑x.snd.fst.length : Int) ∧
 (↑x.fst.length : Int) - (↑x.snd.fst.length : Int) ≤ (9223372036854775807 : Int)) ∧
 (decide ((↑x.snd.fst.length : Int) ≤ (↑x.fst.length : Int)) = true →
 (decide ((↑x.snd.fst.length : Int) ≤ (↑x.fst.length : Int)) = true ∧ decide ((↑x.snd.fst.length : Int) ≤ (↑x.fst.length : Int)) = true) ∧
 ((0 : Int) ≤ (↑x.fst.length : Int) - (↑x.snd.fst.length : Int) ∧
 (↑x.fst.length : Int) - (↑x.snd.fst.length : Int) ≤ (↑x.fst.length : Int)) ∧
 (↑x.fst.length : Int) ≤ (↑x.fst.length : Int)) ∧
 (decide ((↑x.snd.fst.length : Int) ≤ (↑x.fst.length : Int)) = true →
 decide ((↑x.snd.fst.length : Int) ≤ (↑x.fst.length : Int)) = true ∧ decide ((↑x.snd.fst.length : Int) ≤ (↑x.fst.length : Int)) = true) ∧
 (decide ((↑x.snd.fst.length : Int) ≤ (↑x.fst.length : Int)) = true → decide ((↑x.snd.fst.length : Int) ≤ (↑x.fst.length : Int)) = true) ∧
 (decide ((↑x.snd.fst.length : Int) ≤ (↑x.fst.length : Int)) &&
 decide
 (List.drop ((↑x.fst.length : Int) - (↑x.snd.fst.length : Int)).toNat (List.take (↑x.fst.length : Int).toNat x.fst) = x.snd.fst)) =
 (decide (x.snd.fst.length ≤ x.fst.length) && decide (List.drop (x.fst.length - x.snd.fst.length) x.fst = x.snd.fst))

theorem E_suf_eq (x : HL (cSuf : Ctr).as) : vc (fx_suf x) 1 92 Try.f92 (cSuf) x = E_suf x := by kernel_rfl

def E_last (x : List Int × Int × Unit) : Prop :=
 ((-9223372036854775808 : Int) ≤ (↑x.fst.length : Int) - (1 : Int) ∧ (↑x.fst.length : Int) - (1 : Int) ≤ (9223372036854775807 : Int)) ∧
 ((((-1 : Int) ≤ (↑x.fst.length : Int) - (1 : Int) ∧
 (↑x.fst.length : Int) - (1 : Int) < (↑x.fst.length : Int) ∧
 lastN x.fst x.snd.fst ((↑x.fst.length : Int) - (1 : Int) + (1 : Int)).toNat = lastN x.fst x.snd.fst x.fst.length) ∧
 True) ∧
 (x.fst = x.fst ∧ x.snd.fst = x.snd.fst ∧ (↑x.fst.length : Int) - (1 : Int) = (↑x.fst.length : Int) - (1 : Int) ∧ True) ∧ True ∧ True) ∧
 ∀ (g : Int × Unit),
 (-1 : Int) ≤ g.fst ∧ g.fst < (↑x.fst.length : Int) ∧ lastN x.fst x.snd.fst (g.fst + (1 : Int)).toNat = lastN x.fst x.snd.fst x.fst.length →
 ((-9223372036854775808 : Int) ≤ g.fst ∧ g.fst ≤ (9223372036854775807 : Int)) ∧ True →
 (decide ((0 : Int) ≤ g.fst) = true →
 ((0 : Int) ≤ g.fst ∧ g.fst < (↑x.fst.length : Int)) ∧
 ((x.fst.getD g.fst.toNat (0 : Int) == x.snd.fst) = true → g.fst = lastN x.fst x.snd.fst x.fst.length) ∧
 ((x.fst.getD g.fst.toNat (0 : Int) == x.snd.fst) = false →
 ((-9223372036854775808 : Int) ≤ g.fst - (1 : Int) ∧ g.fst - (1 : Int) ≤ (9223372036854775807 : Int)) ∧
 (((-1 : Int) ≤ g.fst - (1 : Int) ∧
 g.fst - (1 : Int) < (↑x.fst.length : Int) ∧
 lastN x.fst x.snd.fst (g.fst - (1 : Int) + (1 : Int)).toNat = lastN x.fst x.snd.fst x.fst.length) ∧
 (g.fst - (1 : Int) + (1 : Int)).toNat < (g.fst + (1 : Int)).toNat) ∧
 (x.fst = x.fst ∧ x.snd.fst = x.snd.fst ∧ g.fst - (1 : Int) = g.fst - (1 : Int) ∧ True) ∧ True ∧ True)) ∧
 (decide ((0 : Int) ≤ g.fst) = false → (-1 : Int) = lastN x.fst x.snd.fst x.fst.length)

theorem E_last_eq (x : HL (cLast : Ctr).as) : vc (fx_last x) 1 93 Try.f93 (cLast) x = E_last x := by kernel_rfl

def E_qkey (x : (List (List Int) × List Int) × Int × Unit) : Prop :=
 Holds True ∧
 ((!rightT (x.fst.fst, x.fst.snd)) = true →
 (([] : List (List Int)), ([] : List Int)) = (keyR x.fst x.snd.fst).fst ∧ (1 : Int) = (keyR x.fst x.snd.fst).snd.fst) ∧
 ((!rightT (x.fst.fst, x.fst.snd)) = false →
 (([] : List (List Int)).length + x.fst.fst.length ≤ (9223372036854775807 : Nat) ∧
 (([] : List (List Int)).length + x.fst.fst.length + (([] : List (List Int)).length + x.fst.fst.length) / (4 : Nat) + (192 : Nat)) *
 (24 : Nat) ≤
 (281474976710656 : Nat)) ∧
 ((x.snd.fst == (10 : Int)) = true →
 (decide ((399 : Int) < (↑(([] : List (List Int)) ++ x.fst.fst).length : Int)) = true →
 (([] : List (List Int)), ([] : List Int)) = (keyR x.fst x.snd.fst).fst ∧ (4 : Int) = (keyR x.fst x.snd.fst).snd.fst) ∧
 (decide ((399 : Int) < (↑(([] : List (List Int)) ++ x.fst.fst).length : Int)) = false →
 ((x.snd.fst == (10 : Int)) = true →
 x.fst.snd.length +
 ((↑(UInt8.toNat (10 : UInt8)) : Int) :: List.map._f (fun b ↦ (↑b.toNat : Int)) ([] : List UInt8) PUnit.unit).length ≤
 (9223372036854775807 : Nat) ∧
 ((([] : List (List Int)) ++ x.fst.fst).length +
 ((([] : List Int) :: ([] : List (List Int))).set (0 : Nat)
 (x.fst.snd ++
 (↑(UInt8.toNat (10 : UInt8)) : Int) ::
 List.map._f (fun b ↦ (↑b.toNat : Int)) ([] : List UInt8) PUnit.unit)).length ≤
 (9223372036854775807 : Nat) ∧
 ((([] : List (List Int)) ++ x.fst.fst).length +
 ((([] : List Int) :: ([] : List (List Int))).set (0 : Nat)
 (x.fst.snd ++
 (↑(UInt8.toNat (10 : UInt8)) : Int) ::
 List.map._f (fun b ↦ (↑b.toNat : Int)) ([] : List UInt8) PUnit.unit)).length +
 ((([] : List (List Int)) ++ x.fst.fst).length +
 ((([] : List Int) :: ([] : List (List Int))).set (0 : Nat)
 (x.fst.snd ++
 (↑(UInt8.toNat (10 : UInt8)) : Int) ::
 List.map._f (fun b ↦ (↑b.toNat : Int)) ([] : List UInt8) PUnit.unit)).length) /
 (4 : Nat) +
 (192 : Nat)) *
 (24 : Nat) ≤
 (281474976710656 : Nat)) ∧
 (([] : List (List Int)) ++ x.fst.fst ++
 (([] : List Int) :: ([] : List (List Int))).set (0 : Nat)
 (x.fst.snd ++
 (↑(UInt8.toNat (10 : UInt8)) : Int) :: List.map._f (fun b ↦ (↑b.toNat : Int)) ([] : List UInt8) PUnit.unit),
 ([] : List Int)) =
 (keyR x.fst x.snd.fst).fst ∧
 (0 : Int) = (keyR x.fst x.snd.fst).snd.fst) ∧
 ((x.snd.fst == (10 : Int)) = false →
 ((([] : List (List Int)) ++ x.fst.fst).length + ((([] : List Int) :: ([] : List (List Int))).set (0 : Nat) x.fst.snd).length ≤
 (9223372036854775807 : Nat) ∧
 ((([] : List (List Int)) ++ x.fst.fst).length + ((([] : List Int) :: ([] : List (List Int))).set (0 : Nat) x.fst.snd).length +
 ((([] : List (List Int)) ++ x.fst.fst).length +
 ((([] : List Int) :: ([] : List (List Int))).set (0 : Nat) x.fst.snd).length) /
 (4 : Nat) +
 (192 : Nat)) *
 (24 : Nat) ≤
 (281474976710656 : Nat)) ∧
 (([] : List (List Int)) ++ x.fst.fst ++ (([] : List Int) :: ([] : List (List Int))).set (0 : Nat) x.fst.snd, ([] : List Int)) =
 (keyR x.fst x.snd.fst).fst ∧
 (0 : Int) = (keyR x.fst x.snd.fst).snd.fst))) ∧
 ((x.snd.fst == (10 : Int)) = false →
 ((x.snd.fst == (4 : Int)) = true →
 (decide ((399 : Int) < (↑(([] : List (List Int)) ++ x.fst.fst).length : Int)) = true →
 (([] : List (List Int)), ([] : List Int)) = (keyR x.fst x.snd.fst).fst ∧ (4 : Int) = (keyR x.fst x.snd.fst).snd.fst) ∧
 (decide ((399 : Int) < (↑(([] : List (List Int)) ++ x.fst.fst).length : Int)) = false →
 ((x.snd.fst == (10 : Int)) = true →
 x.fst.snd.length +
 ((↑(UInt8.toNat (10 : UInt8)) : Int) :: List.map._f (fun b ↦ (↑b.toNat : Int)) ([] : List UInt8) PUnit.unit).length ≤
 (9223372036854775807 : Nat) ∧
 ((([] : List (List Int)) ++ x.fst.fst).length +
 ((([] : List Int) :: ([] : List (List Int))).set (0 : Nat)
 (x.fst.snd ++
 (↑(UInt8.toNat (10 : UInt8)) : Int) ::
 List.map._f (fun b ↦ (↑b.toNat : Int)) ([] : List UInt8) PUnit.unit)).length ≤
 (9223372036854775807 : Nat) ∧
 ((([] : List (List Int)) ++ x.fst.fst).length +
 ((([] : List Int) :: ([] : List (List Int))).set (0 : Nat)
 (x.fst.snd ++
 (↑(UInt8.toNat (10 : UInt8)) : Int) ::
 List.map._f (fun b ↦ (↑b.toNat : Int)) ([] : List UInt8) PUnit.unit)).length +
 ((([] : List (List Int)) ++ x.fst.fst).length +
 ((([] : List Int) :: ([] : List (List Int))).set (0 : Nat)
 (x.fst.snd ++
 (↑(UInt8.toNat (10 : UInt8)) : Int) ::
 List.map._f (fun b ↦ (↑b.toNat : Int)) ([] : List UInt8) PUnit.unit)).length) /
 (4 : Nat) +
 (192 : Nat)) *
 (24 : Nat) ≤
 (281474976710656 : Nat)) ∧
 (([] : List (List Int)) ++ x.fst.fst ++
 (([] : List Int) :: ([] : List (List Int))).set (0 : Nat)
 (x.fst.snd ++
 (↑(UInt8.toNat (10 : UInt8)) : Int) :: List.map._f (fun b ↦ (↑b.toNat : Int)) ([] : List UInt8) PUnit.unit),
 ([] : List Int)) =
 (keyR x.fst x.snd.fst).fst ∧
 (0 : Int) = (keyR x.fst x.snd.fst).snd.fst) ∧
 ((x.snd.fst == (10 : Int)) = false →
 ((([] : List (List Int)) ++ x.fst.fst).length + ((([] : List Int) :: ([] : List (List Int))).set (0 : Nat) x.fst.snd).length ≤
 (9223372036854775807 : Nat) ∧
 ((([] : List (List Int)) ++ x.fst.fst).length +
 ((([] : List Int) :: ([] : List (List Int))).set (0 : Nat) x.fst.snd).length +
 ((([] : List (List Int)) ++ x.fst.fst).length +
 ((([] : List Int) :: ([] : List (List Int))).set (0 : Nat) x.fst.snd).length) /
 (4 : Nat) +
 (192 : Nat)) *
 (24 : Nat) ≤
 (281474976710656 : Nat)) ∧
 (([] : List (List Int)) ++ x.fst.fst ++ (([] : List Int) :: ([] : List (List Int))).set (0 : Nat) x.fst.snd,
 ([] : List Int)) =
 (keyR x.fst x.snd.fst).fst ∧
 (0 : Int) = (keyR x.fst x.snd.fst).snd.fst))) ∧
 ((x.snd.fst == (4 : Int)) = false →
 ((x.snd.fst == (8 : Int)) = true →
 ((!decide (x.fst.snd = ([] : List Int))) = true →
 ((-9223372036854775808 : Int) ≤ (↑x.fst.snd.length : Int) - (1 : Int) ∧
 (↑x.fst.snd.length : Int) - (1 : Int) ≤ (9223372036854775807 : Int)) ∧
 (((0 : Int) ≤ (0 : Int) ∧ (0 : Int) ≤ (↑x.fst.snd.length : Int) - (1 : Int)) ∧
 (↑x.fst.snd.length : Int) - (1 : Int) ≤ (↑x.fst.snd.length : Int)) ∧
 (([] : List (List Int)) ++ x.fst.fst,
 List.drop (Int.toNat (0 : Int)) (List.take ((↑x.fst.snd.length : Int) - (1 : Int)).toNat x.fst.snd)) =
 (keyR x.fst x.snd.fst).fst ∧
 (0 : Int) = (keyR x.fst x.snd.fst).snd.fst) ∧
 ((!decide (x.fst.snd = ([] : List Int))) = false →
 (([] : List (List Int)) ++ x.fst.fst, x.fst.snd) = (keyR x.fst x.snd.fst).fst ∧ (0 : Int) = (keyR x.fst x.snd.fst).snd.fst)) ∧
 ((x.snd.fst == (8 : Int)) = false →
 ((x.snd.fst == (21 : Int)) = true →
 (([] : List (List Int)) ++ x.fst.fst, ([] : List Int)) = (keyR x.fst x.snd.fst).fst ∧
 (0 : Int) = (keyR x.fst x.snd.fst).snd.fst) ∧
 ((x.snd.fst == (21 : Int)) = false →
 ((x.snd.fst == (23 : Int)) = true →
 (((x.fst.snd.length ≤ x.fst.snd.length ∧
 x.fst.snd = List.take x.fst.snd.length x.fst.snd ∧
 dropSp x.fst.snd x.fst.snd.length = dropSp x.fst.snd x.fst.snd.length) ∧
 True) ∧
 ((True ∧ True) ∧ x.fst.snd = x.fst.snd ∧ True ∧ True) ∧
 ((Value.slice none (0 : Nat) (0 : Nat) = Value.slice none (0 : Nat) (0 : Nat) ∧
 Value.slice none (0 : Nat) (0 : Nat) = Value.slice none (0 : Nat) (0 : Nat) ∧ True) ∧
 ([] : List (List Int)) ++ x.fst.fst = ([] : List (List Int)) ++ x.fst.fst ∧ True) ∧
 True) ∧
 ∀ (g : List Int × Unit),
 g.fst.length ≤ x.fst.snd.length ∧
 g.fst = List.take g.fst.length x.fst.snd ∧ dropSp x.fst.snd g.fst.length = dropSp x.fst.snd x.fst.snd.length →
 (g.fst.length ≤ (9223372036854775807 : Nat) ∧ ∀ (b : Int), b ∈ g.fst → (0 : Int) ≤ b ∧ b ≤ (255 : Int)) ∧ True →
 Holds True ∧
 ((decide
 (((↑(UInt8.toNat (32 : UInt8)) : Int) ::
 List.map._f (fun b ↦ (↑b.toNat : Int)) ([] : List UInt8) PUnit.unit).length ≤
 g.fst.length) &&
 decide
 (List.drop
 (g.fst.length -
 ((↑(UInt8.toNat (32 : UInt8)) : Int) ::
 List.map._f (fun b ↦ (↑b.toNat : Int)) ([] : List UInt8) PUnit.unit).length)
 g.fst =
 (↑(UInt8.toNat (32 : UInt8)) : Int) ::
 List.map._f (fun b ↦ (↑b.toNat : Int)) ([] : List UInt8) PUnit.unit)) =
 true →
 ((-9223372036854775808 : Int) ≤ (↑g.fst.length : Int) - (1 : Int) ∧
 (↑g.fst.length : Int) - (1 : Int) ≤ (9223372036854775807 : Int)) ∧
 (((0 : Int) ≤ (0 : Int) ∧ (0 : Int) ≤ (↑g.fst.length : Int) - (1 : Int)) ∧
 (↑g.fst.length : Int) - (1 : Int) ≤ (↑g.fst.length : Int)) ∧
 (((List.drop (Int.toNat (0 : Int)) (List.take ((↑g.fst.length : Int) - (1 : Int)).toNat g.fst)).length ≤
 x.fst.snd.length ∧
 List.drop (Int.toNat (0 : Int)) (List.take ((↑g.fst.length : Int) - (1 : Int)).toNat g.fst) =
 List.take
 (List.drop (Int.toNat (0 : Int))
 (List.take ((↑g.fst.length : Int) - (1 : Int)).toNat g.fst)).length
 x.fst.snd ∧
 dropSp x.fst.snd
 (List.drop (Int.toNat (0 : Int))
 (List.take ((↑g.fst.length : Int) - (1 : Int)).toNat g.fst)).length =
 dropSp x.fst.snd x.fst.snd.length) ∧
 (List.drop (Int.toNat (0 : Int))
 (List.take ((↑g.fst.length : Int) - (1 : Int)).toNat g.fst)).length <
 g.fst.length) ∧
 ((True ∧ True) ∧
 List.drop (Int.toNat (0 : Int)) (List.take ((↑g.fst.length : Int) - (1 : Int)).toNat g.fst) =
 List.drop (Int.toNat (0 : Int)) (List.take ((↑g.fst.length : Int) - (1 : Int)).toNat g.fst) ∧
 True ∧ True) ∧
 ((Value.slice none (0 : Nat) (0 : Nat) = Value.slice none (0 : Nat) (0 : Nat) ∧
 Value.slice none (0 : Nat) (0 : Nat) = Value.slice none (0 : Nat) (0 : Nat) ∧ True) ∧
 ([] : List (List Int)) ++ x.fst.fst = ([] : List (List Int)) ++ x.fst.fst ∧ True) ∧
 True) ∧
 ((decide
 (((↑(UInt8.toNat (32 : UInt8)) : Int) ::
 List.map._f (fun b ↦ (↑b.toNat : Int)) ([] : List UInt8) PUnit.unit).length ≤
 g.fst.length) &&
 decide
 (List.drop
 (g.fst.length -
 ((↑(UInt8.toNat (32 : UInt8)) : Int) ::
 List.map._f (fun b ↦ (↑b.toNat : Int)) ([] : List UInt8) PUnit.unit).length)
 g.fst =
 (↑(UInt8.toNat (32 : UInt8)) : Int) ::
 List.map._f (fun b ↦ (↑b.toNat : Int)) ([] : List UInt8) PUnit.unit)) =
 false →
 Holds True ∧
 ((-9223372036854775808 : Int) ≤ lastN g.fst (32 : Int) g.fst.length + (1 : Int) ∧
 lastN g.fst (32 : Int) g.fst.length + (1 : Int) ≤ (9223372036854775807 : Int)) ∧
 (((0 : Int) ≤ (0 : Int) ∧ (0 : Int) ≤ lastN g.fst (32 : Int) g.fst.length + (1 : Int)) ∧
 lastN g.fst (32 : Int) g.fst.length + (1 : Int) ≤ (↑g.fst.length : Int)) ∧
 (([] : List (List Int)) ++ x.fst.fst,
 List.drop (Int.toNat (0 : Int))
 (List.take (lastN g.fst (32 : Int) g.fst.length + (1 : Int)).toNat g.fst)) =
 (keyR x.fst x.snd.fst).fst ∧
 (0 : Int) = (keyR x.fst x.snd.fst).snd.fst)) ∧
 ((x.snd.fst == (23 : Int)) = false →
 (decide ((63 : Int) < (↑x.fst.snd.length : Int)) = true →
 (([] : List (List Int)), ([] : List Int)) = (keyR x.fst x.snd.fst).fst ∧ (4 : Int) = (keyR x.fst x.snd.fst).snd.fst) ∧
 (decide ((63 : Int) < (↑x.fst.snd.length : Int)) = false →
 x.fst.snd.length + (((0 : Int) :: ([] : List Int)).set (0 : Nat) x.snd.fst).length ≤ (9223372036854775807 : Nat) ∧
 (([] : List (List Int)) ++ x.fst.fst, x.fst.snd ++ ((0 : Int) :: ([] : List Int)).set (0 : Nat) x.snd.fst) =
 (keyR x.fst x.snd.fst).fst ∧
 (0 : Int) = (keyR x.fst x.snd.fst).snd.fst)))))))

theorem E_qkey_eq (x : HL (cKey : Ctr).as) : vc (fx_qkey x) 2 20 Try.f20 (cKey) x = E_qkey x := by kernel_rfl

def E_same (x : (List (List Int) × List Int) × (List (List Int) × List Int) × Unit) : Prop :=
 ((!!decide (x.fst.snd = x.snd.fst.snd)) = true → (!!decide (x.fst.snd = x.snd.fst.snd)) = true) ∧
 ((!!decide (x.fst.snd = x.snd.fst.snd)) = true → (!!decide (x.fst.snd = x.snd.fst.snd)) = true) ∧
 ((!!decide (x.fst.snd = x.snd.fst.snd)) = true → (!!decide (x.fst.snd = x.snd.fst.snd)) = true) ∧
 ((!!decide (x.fst.snd = x.snd.fst.snd)) = true → (!!decide (x.fst.snd = x.snd.fst.snd)) = true) ∧
 ((!!decide (x.fst.snd = x.snd.fst.snd)) = true →
 (!!decide (x.fst.snd = x.snd.fst.snd)) = true ∧ (!!decide (x.fst.snd = x.snd.fst.snd)) = true) ∧
 ((!decide (x.fst.snd = x.snd.fst.snd)) = false → (!!decide (x.fst.snd = x.snd.fst.snd)) = true) ∧
 ((!decide (x.fst.snd = x.snd.fst.snd) || (↑x.fst.fst.length : Int) != (↑x.snd.fst.fst.length : Int)) = true →
 false = decide (x.fst = x.snd.fst)) ∧
 ((!decide (x.fst.snd = x.snd.fst.snd) || (↑x.fst.fst.length : Int) != (↑x.snd.fst.fst.length : Int)) = false →
 ((((0 : Int) ≤ (0 : Int) ∧
 (0 : Int) ≤ (↑x.fst.fst.length : Int) ∧
 List.take (Int.toNat (0 : Int)) x.fst.fst = List.take (Int.toNat (0 : Int)) x.snd.fst.fst) ∧
 True) ∧
 ((True ∧ True) ∧ (True ∧ True) ∧ (↑x.fst.fst.length : Int) = (↑x.fst.fst.length : Int) ∧ (0 : Int) = (0 : Int) ∧ True) ∧
 ((x.fst.fst = x.fst.fst ∧ x.fst.snd = x.fst.snd ∧ True) ∧
 (x.snd.fst.fst = x.snd.fst.fst ∧ x.snd.fst.snd = x.snd.fst.snd ∧ True) ∧ True) ∧
 True) ∧
 ∀ (g : Int × Unit),
 (0 : Int) ≤ g.fst ∧ g.fst ≤ (↑x.fst.fst.length : Int) ∧ List.take g.fst.toNat x.fst.fst = List.take g.fst.toNat x.snd.fst.fst →
 ((-9223372036854775808 : Int) ≤ g.fst ∧ g.fst ≤ (9223372036854775807 : Int)) ∧ True →
 (decide (g.fst < (↑x.fst.fst.length : Int)) = true →
 ((0 : Int) ≤ g.fst ∧ g.fst < (↑x.fst.fst.length : Int)) ∧
 ((0 : Int) ≤ g.fst ∧ g.fst < (↑x.snd.fst.fst.length : Int)) ∧
 ((!decide (x.fst.fst.getD g.fst.toNat ([] : List Int) = x.snd.fst.fst.getD g.fst.toNat ([] : List Int))) = true →
 false = decide (x.fst = x.snd.fst)) ∧
 ((!decide (x.fst.fst.getD g.fst.toNat ([] : List Int) = x.snd.fst.fst.getD g.fst.toNat ([] : List Int))) = false →
 ((-9223372036854775808 : Int) ≤ g.fst + (1 : Int) ∧ g.fst + (1 : Int) ≤ (9223372036854775807 : Int)) ∧
 (((0 : Int) ≤ g.fst + (1 : Int) ∧
 g.fst + (1 : Int) ≤ (↑x.fst.fst.length : Int) ∧
 List.take (g.fst + (1 : Int)).toNat x.fst.fst = List.take (g.fst + (1 : Int)).toNat x.snd.fst.fst) ∧
 ((↑x.fst.fst.length : Int) - (g.fst + (1 : Int))).toNat < ((↑x.fst.fst.length : Int) - g.fst).toNat) ∧
 ((True ∧ True) ∧
 (True ∧ True) ∧
 (↑x.fst.fst.length : Int) = (↑x.fst.fst.length : Int) ∧ g.fst + (1 : Int) = g.fst + (1 : Int) ∧ True) ∧
 ((x.fst.fst = x.fst.fst ∧ x.fst.snd = x.fst.snd ∧ True) ∧
 (x.snd.fst.fst = x.snd.fst.fst ∧ x.snd.fst.snd = x.snd.fst.snd ∧ True) ∧ True) ∧
 True)) ∧
 (decide (g.fst < (↑x.fst.fst.length : Int)) = false → true = decide (x.fst = x.snd.fst)))

theorem E_same_eq (x : HL (cSame : Ctr).as) : vc (fx_same x) 1 12 Try.f12 (cSame) x = E_same x := by kernel_rfl

def E_type (x : List Int × Unit) : Prop :=
 ((((0 : Int) ≤ (0 : Int) ∧
 (0 : Int) ≤ (↑x.fst.length : Int) ∧ (([] : List (List Int)), ([] : List Int)) = typ (List.take (Int.toNat (0 : Int)) x.fst)) ∧
 True) ∧
 ((True ∧ True) ∧ (True ∧ True) ∧ x.fst = x.fst ∧ (↑x.fst.length : Int) = (↑x.fst.length : Int) ∧ (0 : Int) = (0 : Int) ∧ True) ∧
 ((([] : List (List Int)) = ([] : List (List Int)) ∧ ([] : List Int) = ([] : List Int) ∧ True) ∧
 (Value.slice none (0 : Nat) (0 : Nat) = Value.slice none (0 : Nat) (0 : Nat) ∧
 Value.slice none (0 : Nat) (0 : Nat) = Value.slice none (0 : Nat) (0 : Nat) ∧ True) ∧
 True) ∧
 True) ∧
 ∀ (g : (List (List Int) × List Int) × Int × Unit),
 (0 : Int) ≤ g.snd.fst ∧ g.snd.fst ≤ (↑x.fst.length : Int) ∧ g.fst = typ (List.take g.snd.fst.toNat x.fst) →
 ((g.fst.fst.length ≤ (9223372036854775807 : Nat) ∧
 ∀ (x : List Int),
 x ∈ g.fst.fst → x.length ≤ (9223372036854775807 : Nat) ∧ ∀ (x_1 : Int), x_1 ∈ x → (0 : Int) ≤ x_1 ∧ x_1 ≤ (255 : Int)) ∧
 g.fst.snd.length ≤ (9223372036854775807 : Nat) ∧ ∀ (x : Int), x ∈ g.fst.snd → (0 : Int) ≤ x ∧ x ≤ (255 : Int)) ∧
 ((-9223372036854775808 : Int) ≤ g.snd.fst ∧ g.snd.fst ≤ (9223372036854775807 : Int)) ∧ True →
 (decide (g.snd.fst < (↑x.fst.length : Int)) = true →
 ((0 : Int) ≤ g.snd.fst ∧ g.snd.fst < (↑x.fst.length : Int)) ∧
 Holds True ∧
 (((keyR (g.fst.fst, g.fst.snd) (x.fst.getD g.snd.fst.toNat (0 : Int))).snd.fst == (0 : Int)) = true →
 ((-9223372036854775808 : Int) ≤ g.snd.fst + (1 : Int) ∧ g.snd.fst + (1 : Int) ≤ (9223372036854775807 : Int)) ∧
 (((0 : Int) ≤ g.snd.fst + (1 : Int) ∧
 g.snd.fst + (1 : Int) ≤ (↑x.fst.length : Int) ∧
 ((keyR (g.fst.fst, g.fst.snd) (x.fst.getD g.snd.fst.toNat (0 : Int))).fst.fst,
 (keyR (g.fst.fst, g.fst.snd) (x.fst.getD g.snd.fst.toNat (0 : Int))).fst.snd) =
 typ (List.take (g.snd.fst + (1 : Int)).toNat x.fst)) ∧
 ((↑x.fst.length : Int) - (g.snd.fst + (1 : Int))).toNat < ((↑x.fst.length : Int) - g.snd.fst).toNat) ∧
 ((True ∧ True) ∧
 (True ∧ True) ∧
 x.fst = x.fst ∧ (↑x.fst.length : Int) = (↑x.fst.length : Int) ∧ g.snd.fst + (1 : Int) = g.snd.fst + (1 : Int) ∧ True) ∧
 (((keyR (g.fst.fst, g.fst.snd) (x.fst.getD g.snd.fst.toNat (0 : Int))).fst.fst =
 (keyR (g.fst.fst, g.fst.snd) (x.fst.getD g.snd.fst.toNat (0 : Int))).fst.fst ∧
 (keyR (g.fst.fst, g.fst.snd) (x.fst.getD g.snd.fst.toNat (0 : Int))).fst.snd =
 (keyR (g.fst.fst, g.fst.snd) (x.fst.getD g.snd.fst.toNat (0 : Int))).fst.snd ∧
 True) ∧
 (Value.slice none (0 : Nat) (0 : Nat) = Value.slice none (0 : Nat) (0 : Nat) ∧
 Value.slice none (0 : Nat) (0 : Nat) = Value.slice none (0 : Nat) (0 : Nat) ∧ True) ∧
 True) ∧
 True) ∧
 (((keyR (g.fst.fst, g.fst.snd) (x.fst.getD g.snd.fst.toNat (0 : Int))).snd.fst == (0 : Int)) = false →
 ((-9223372036854775808 : Int) ≤ g.snd.fst + (1 : Int) ∧ g.snd.fst + (1 : Int) ≤ (9223372036854775807 : Int)) ∧
 (((0 : Int) ≤ g.snd.fst + (1 : Int) ∧
 g.snd.fst + (1 : Int) ≤ (↑x.fst.length : Int) ∧
 (g.fst.fst, g.fst.snd) = typ (List.take (g.snd.fst + (1 : Int)).toNat x.fst)) ∧
 ((↑x.fst.length : Int) - (g.snd.fst + (1 : Int))).toNat < ((↑x.fst.length : Int) - g.snd.fst).toNat) ∧
 ((True ∧ True) ∧
 (True ∧ True) ∧
 x.fst = x.fst ∧ (↑x.fst.length : Int) = (↑x.fst.length : Int) ∧ g.snd.fst + (1 : Int) = g.snd.fst + (1 : Int) ∧ True) ∧
 ((g.fst.fst = g.fst.fst ∧ g.fst.snd = g.fst.snd ∧ True) ∧
 (Value.slice none (0 : Nat) (0 : Nat) = Value.slice none (0 : Nat) (0 : Nat) ∧
 Value.slice none (0 : Nat) (0 : Nat) = Value.slice none (0 : Nat) (0 : Nat) ∧ True) ∧
 True) ∧
 True)) ∧
 (decide (g.snd.fst < (↑x.fst.length : Int)) = false → (g.fst.fst, g.fst.snd) = typ x.fst)

theorem E_type_eq (x : HL (cType : Ctr).as) : vc (fx_type x) 1 13 Try.f13 (cType) x = E_type x := by kernel_rfl

def E_qtype (x : List Int × Unit) : Prop :=
 ((((0 : Int) ≤ (0 : Int) ∧
 (0 : Int) ≤ (↑x.fst.length : Int) ∧ (([] : List (List Int)), ([] : List Int)) = typ (List.take (Int.toNat (0 : Int)) x.fst)) ∧
 True) ∧
 ((True ∧ True) ∧ (True ∧ True) ∧ x.fst = x.fst ∧ (↑x.fst.length : Int) = (↑x.fst.length : Int) ∧ (0 : Int) = (0 : Int) ∧ True) ∧
 ((([] : List (List Int)) = ([] : List (List Int)) ∧ ([] : List Int) = ([] : List Int) ∧ True) ∧
 (Value.slice none (0 : Nat) (0 : Nat) = Value.slice none (0 : Nat) (0 : Nat) ∧
 Value.slice none (0 : Nat) (0 : Nat) = Value.slice none (0 : Nat) (0 : Nat) ∧ True) ∧
 True) ∧
 True) ∧
 ∀ (g : (List (List Int) × List Int) × Int × Unit),
 (0 : Int) ≤ g.snd.fst ∧ g.snd.fst ≤ (↑x.fst.length : Int) ∧ g.fst = typ (List.take g.snd.fst.toNat x.fst) →
 ((g.fst.fst.length ≤ (9223372036854775807 : Nat) ∧
 ∀ (x : List Int),
 x ∈ g.fst.fst → x.length ≤ (9223372036854775807 : Nat) ∧ ∀ (x_1 : Int), x_1 ∈ x → (0 : Int) ≤ x_1 ∧ x_1 ≤ (255 : Int)) ∧
 g.fst.snd.length ≤ (9223372036854775807 : Nat) ∧ ∀ (x : Int), x ∈ g.fst.snd → (0 : Int) ≤ x ∧ x ≤ (255 : Int)) ∧
 ((-9223372036854775808 : Int) ≤ g.snd.fst ∧ g.snd.fst ≤ (9223372036854775807 : Int)) ∧ True →
 (decide (g.snd.fst < (↑x.fst.length : Int)) = true →
 ((0 : Int) ≤ g.snd.fst ∧ g.snd.fst < (↑x.fst.length : Int)) ∧
 Holds True ∧
 (((keyR (g.fst.fst, g.fst.snd) (x.fst.getD g.snd.fst.toNat (0 : Int))).snd.fst == (0 : Int)) = true →
 ((-9223372036854775808 : Int) ≤ g.snd.fst + (1 : Int) ∧ g.snd.fst + (1 : Int) ≤ (9223372036854775807 : Int)) ∧
 (((0 : Int) ≤ g.snd.fst + (1 : Int) ∧
 g.snd.fst + (1 : Int) ≤ (↑x.fst.length : Int) ∧
 ((keyR (g.fst.fst, g.fst.snd) (x.fst.getD g.snd.fst.toNat (0 : Int))).fst.fst,
 (keyR (g.fst.fst, g.fst.snd) (x.fst.getD g.snd.fst.toNat (0 : Int))).fst.snd) =
 typ (List.take (g.snd.fst + (1 : Int)).toNat x.fst)) ∧
 ((↑x.fst.length : Int) - (g.snd.fst + (1 : Int))).toNat < ((↑x.fst.length : Int) - g.snd.fst).toNat) ∧
 ((True ∧ True) ∧
 (True ∧ True) ∧
 x.fst = x.fst ∧ (↑x.fst.length : Int) = (↑x.fst.length : Int) ∧ g.snd.fst + (1 : Int) = g.snd.fst + (1 : Int) ∧ True) ∧
 (((keyR (g.fst.fst, g.fst.snd) (x.fst.getD g.snd.fst.toNat (0 : Int))).fst.fst =
 (keyR (g.fst.fst, g.fst.snd) (x.fst.getD g.snd.fst.toNat (0 : Int))).fst.fst ∧
 (keyR (g.fst.fst, g.fst.snd) (x.fst.getD g.snd.fst.toNat (0 : Int))).fst.snd =
 (keyR (g.fst.fst, g.fst.snd) (x.fst.getD g.snd.fst.toNat (0 : Int))).fst.snd ∧
 True) ∧
 (Value.slice none (0 : Nat) (0 : Nat) = Value.slice none (0 : Nat) (0 : Nat) ∧
 Value.slice none (0 : Nat) (0 : Nat) = Value.slice none (0 : Nat) (0 : Nat) ∧ True) ∧
 True) ∧
 True) ∧
 (((keyR (g.fst.fst, g.fst.snd) (x.fst.getD g.snd.fst.toNat (0 : Int))).snd.fst == (0 : Int)) = false →
 ((-9223372036854775808 : Int) ≤ g.snd.fst + (1 : Int) ∧ g.snd.fst + (1 : Int) ≤ (9223372036854775807 : Int)) ∧
 (((0 : Int) ≤ g.snd.fst + (1 : Int) ∧
 g.snd.fst + (1 : Int) ≤ (↑x.fst.length : Int) ∧
 (g.fst.fst, g.fst.snd) = typ (List.take (g.snd.fst + (1 : Int)).toNat x.fst)) ∧
 ((↑x.fst.length : Int) - (g.snd.fst + (1 : Int))).toNat < ((↑x.fst.length : Int) - g.snd.fst).toNat) ∧
 ((True ∧ True) ∧
 (True ∧ True) ∧
 x.fst = x.fst ∧ (↑x.fst.length : Int) = (↑x.fst.length : Int) ∧ g.snd.fst + (1 : Int) = g.snd.fst + (1 : Int) ∧ True) ∧
 ((g.fst.fst = g.fst.fst ∧ g.fst.snd = g.fst.snd ∧ True) ∧
 (Value.slice none (0 : Nat) (0 : Nat) = Value.slice none (0 : Nat) (0 : Nat) ∧
 Value.slice none (0 : Nat) (0 : Nat) = Value.slice none (0 : Nat) (0 : Nat) ∧ True) ∧
 True) ∧
 True)) ∧
 (decide (g.snd.fst < (↑x.fst.length : Int)) = false → (g.fst.fst, g.fst.snd) = typ x.fst)

theorem E_qtype_eq (x : HL (cType : Ctr).as) : vc (fx_qtype x) 1 14 Try.f14 (cType) x = E_qtype x := by kernel_rfl

def E_types (x : List Int × Unit) : Prop :=
 Holds True ∧ Holds True ∧ Holds True ∧ decide (((typ x.fst).fst, (typ x.fst).snd) = ((typ x.fst).fst, (typ x.fst).snd)) = true

theorem E_types_eq (x : HL (cTypes : Ctr).as) : vc (fx_types x) 1 3 Try.f3 (cTypes) x = E_types x := by kernel_rfl

def E_tells (x : (List (List Int) × List Int) × Int × Int × Unit) : Prop :=
 Holds True ∧
 Holds True ∧
 Holds True ∧
 Holds True ∧
 Holds True ∧
 Holds True ∧
 ((rightT (x.fst.fst, x.fst.snd) == rightT (x.fst.fst, x.fst.snd)) = true →
 (((keyR (x.fst.fst, x.fst.snd) x.snd.fst).snd.fst == (keyR (x.fst.fst, x.fst.snd) x.snd.fst).snd.fst) = true →
 Holds True ∧
 (decide
 (((keyR (x.fst.fst, x.fst.snd) x.snd.fst).fst.fst, (keyR (x.fst.fst, x.fst.snd) x.snd.fst).fst.snd) =
 ((keyR (x.fst.fst, x.fst.snd) x.snd.fst).fst.fst, (keyR (x.fst.fst, x.fst.snd) x.snd.fst).fst.snd)) =
 true →
 (((readT (x.fst.fst, x.fst.snd) x.snd.snd.fst).snd.snd.fst == (readT (x.fst.fst, x.fst.snd) x.snd.snd.fst).snd.snd.fst) =
 true →
 Holds True ∧
 (decide
 (((readT (x.fst.fst, x.fst.snd) x.snd.snd.fst).fst.fst,
 (readT (x.fst.fst, x.fst.snd) x.snd.snd.fst).fst.snd) =
 ((readT (x.fst.fst, x.fst.snd) x.snd.snd.fst).fst.fst,
 (readT (x.fst.fst, x.fst.snd) x.snd.snd.fst).fst.snd)) =
 true →
 decide
 ((readT (x.fst.fst, x.fst.snd) x.snd.snd.fst).snd.fst =
 (readT (x.fst.fst, x.fst.snd) x.snd.snd.fst).snd.fst) =
 true) ∧
 (decide
 (((readT (x.fst.fst, x.fst.snd) x.snd.snd.fst).fst.fst,
 (readT (x.fst.fst, x.fst.snd) x.snd.snd.fst).fst.snd) =
 ((readT (x.fst.fst, x.fst.snd) x.snd.snd.fst).fst.fst,
 (readT (x.fst.fst, x.fst.snd) x.snd.snd.fst).fst.snd)) =
 !true →
 false = true)) ∧
 (((readT (x.fst.fst, x.fst.snd) x.snd.snd.fst).snd.snd.fst == (readT (x.fst.fst, x.fst.snd) x.snd.snd.fst).snd.snd.fst) =
 !true →
 false = true)) ∧
 (decide
 (((keyR (x.fst.fst, x.fst.snd) x.snd.fst).fst.fst, (keyR (x.fst.fst, x.fst.snd) x.snd.fst).fst.snd) =
 ((keyR (x.fst.fst, x.fst.snd) x.snd.fst).fst.fst, (keyR (x.fst.fst, x.fst.snd) x.snd.fst).fst.snd)) =
 !true →
 false = true)) ∧
 (((keyR (x.fst.fst, x.fst.snd) x.snd.fst).snd.fst == (keyR (x.fst.fst, x.fst.snd) x.snd.fst).snd.fst) = !true → false = true)) ∧
 ((rightT (x.fst.fst, x.fst.snd) == rightT (x.fst.fst, x.fst.snd)) = !true → false = true)

theorem E_tells_eq (x : HL (cTells : Ctr).as) : vc (fx_tells x) 1 5 Try.f5 (cTells) x = E_tells x := by kernel_rfl

end Go.Proofs.Ytlkhpbjjimjhbaa.Tty
