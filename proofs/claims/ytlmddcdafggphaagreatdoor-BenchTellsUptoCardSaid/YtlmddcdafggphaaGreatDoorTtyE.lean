/-
 The conditions that the executor comes to, written out (by a tool of ours), and that they are the conditions (by the kernel).
-/
import Derived.Test.YtlmddcdafggphaaGreatDoorTtyC
namespace Go.Proofs.YtlmddcdafggphaaGreatDoor.Tty
open Go.Sx
set_option maxRecDepth 100000
noncomputable section
def E_cloneb (x : List Int × Unit) : Prop :=
 ∀ (b : Bool),
 (b = true → x.1 = ([] : List Int)) →
 (b = true → ([] : List Int) = x.1) ∧
 (b = false →
 (([] : List Int).length + x.1.length ≤ (9223372036854775807 : Nat) ∧
 (([] : List Int).length + x.1.length + (([] : List Int).length + x.1.length) / (4 : Nat) + (192 : Nat)) * (1 : Nat) ≤
 (281474976710656 : Nat)) ∧
 ([] : List Int) ++ x.1 = x.1)

theorem E_cloneb_eq (x : HL (cCloneB : Ctr).as) : vc (fx_cloneb x) 1 56 Tryz.f56 (cCloneB) x = E_cloneb x := by kernel_rfl

def E_any (x : List (List Int) × Unit) : Prop := ((((0 : Int) ≤ (0 : Int) ∧ 0 ≤ (↑x.1.length : Int) ∧ (List.take (Int.toNat (0 : Int)) x.1).all lineOk = true) ∧ True) ∧ (x.1 = x.1 ∧ Value.func (Fn.func (91 : Nat)) ([] : List Value).toArray ([] : List Value).toArray = Value.func (Fn.func (91 : Nat)) ([] : List Value).toArray ([] : List Value).toArray ∧ (↑x.1.length : Int) = (↑x.1.length : Int) ∧ (0 : Int) = (0 : Int) ∧ True) ∧ True ∧ x.1 = x.1 ∧ Value.func (Fn.func (91 : Nat)) ([] : List Value).toArray ([] : List Value).toArray = Value.func (Fn.func (91 : Nat)) ([] : List Value).toArray ([] : List Value).toArray ∧ True ∧ True ∧ false = false ∧ x.1 = x.1 ∧ Value.func (Fn.func (91 : Nat)) ([] : List Value).toArray ([] : List Value).toArray = Value.func (Fn.func (91 : Nat)) ([] : List Value).toArray ([] : List Value).toArray ∧ True ∧ True ∧ True) ∧ ∀ (v0_0 : Int × Unit), 0 ≤ v0_0.1 ∧ v0_0.1 ≤ (↑x.1.length : Int) ∧ (List.take v0_0.1.toNat x.1).all lineOk = true → (-9223372036854775808 ≤ v0_0.1 ∧ v0_0.1 ≤ 9223372036854775807) ∧ True → (decide (v0_0.1 < (↑x.1.length : Int)) = true → (0 ≤ v0_0.1 ∧ v0_0.1 < (↑x.1.length : Int)) ∧ (decide (65 < (↑(x.1.getD v0_0.1.toNat ([] : List Int)).length : Int)) = true → decide (0 ≤ v0_0.1) = !x.1.all lineOk) ∧ (decide (65 < (↑(x.1.getD v0_0.1.toNat ([] : List Int)).length : Int)) = false → (-9223372036854775808 ≤ v0_0.1 + 1 ∧ v0_0.1 + 1 ≤ (9223372036854775807 : Int)) ∧ ((0 ≤ v0_0.1 + 1 ∧ v0_0.1 + 1 ≤ (↑x.1.length : Int) ∧ (List.take (v0_0.1 + 1).toNat x.1).all lineOk = true) ∧ ((↑x.1.length : Int) - (v0_0.1 + 1)).toNat < ((↑x.1.length : Int) - v0_0.1).toNat) ∧ (x.1 = x.1 ∧ Value.func (Fn.func (91 : Nat)) ([] : List Value).toArray ([] : List Value).toArray = Value.func (Fn.func (91 : Nat)) ([] : List Value).toArray ([] : List Value).toArray ∧ (↑x.1.length : Int) = (↑x.1.length : Int) ∧ v0_0.1 + 1 = v0_0.1 + 1 ∧ True) ∧ True ∧ x.1 = x.1 ∧ Value.func (Fn.func (91 : Nat)) ([] : List Value).toArray ([] : List Value).toArray = Value.func (Fn.func (91 : Nat)) ([] : List Value).toArray ([] : List Value).toArray ∧ True ∧ True ∧ false = false ∧ x.1 = x.1 ∧ Value.func (Fn.func (91 : Nat)) ([] : List Value).toArray ([] : List Value).toArray = Value.func (Fn.func (91 : Nat)) ([] : List Value).toArray ([] : List Value).toArray ∧ True ∧ True ∧ True)) ∧ (decide (v0_0.1 < (↑x.1.length : Int)) = false → decide ((0 : Int) ≤ (-1 : Int)) = !x.1.all lineOk)

theorem E_any_eq (x : HL (cAny : Ctr).as) : vcF (fx_any x) 3 90 91 Tryz.f90 (cAny) x = E_any x := by kernel_rfl

def E_right (x : (List (List Int) × List Int) × Unit) : Prop :=
 (decide ((↑x.1.2.length : Int) ≤ (64 : Int)) = true → decide ((↑x.1.2.length : Int) ≤ (64 : Int)) = true) ∧
 (decide ((↑x.1.2.length : Int) ≤ (64 : Int)) = true → decide ((↑x.1.2.length : Int) ≤ (64 : Int)) = true) ∧
 (decide ((↑x.1.2.length : Int) ≤ (64 : Int)) = true → decide ((↑x.1.2.length : Int) ≤ (64 : Int)) = true) ∧
 (decide ((↑x.1.2.length : Int) ≤ (64 : Int)) = true → decide ((↑x.1.2.length : Int) ≤ (64 : Int)) = true) ∧
 ((decide ((↑x.1.2.length : Int) ≤ (64 : Int)) && decide ((↑x.1.1.length : Int) ≤ (400 : Int))) = true →
 (decide ((↑x.1.2.length : Int) ≤ (64 : Int)) && decide ((↑x.1.1.length : Int) ≤ (400 : Int))) = true) ∧
 ((decide ((↑x.1.2.length : Int) ≤ (64 : Int)) && decide ((↑x.1.1.length : Int) ≤ (400 : Int))) = true →
 (decide ((↑x.1.2.length : Int) ≤ (64 : Int)) && decide ((↑x.1.1.length : Int) ≤ (400 : Int))) = true ∧
 Holds True ∧ (!!x.1.1.all lineOk) = rightT x.1) ∧
 ((decide ((↑x.1.2.length : Int) ≤ (64 : Int)) && decide ((↑x.1.1.length : Int) ≤ (400 : Int))) = !true → false = rightT x.1)

theorem E_right_eq (x : HL (cRight : Ctr).as) : vc (fx_right x) 1 54 Tryz.f54 (cRight) x = E_right x := by kernel_rfl

abbrev qqright_1 (x : (List (List Int) × List Int) × Unit) := (decide ((↑x.1.2.length : Int) < (65 : Int)) = true → decide ((↑x.1.2.length : Int) < (65 : Int)) = true)
abbrev qqright_2 (x : (List (List Int) × List Int) × Unit) := (decide ((↑x.1.2.length : Int) < (65 : Int)) && decide ((↑x.1.1.length : Int) < (401 : Int)))
abbrev qqright_3 (v0_0 : Bool × Int × Unit) (x : (List (List Int) × List Int) × Unit) := (v0_0.1 && decide ((↑(x.1.1.getD v0_0.2.1.toNat ([] : List Int)).length : Int) < (66 : Int)))
def E_qright (x : (List (List Int) × List Int) × Unit) : Prop := (qqright_1 x) ∧ (qqright_1 x) ∧ (qqright_1 x) ∧ (qqright_1 x) ∧ ((((0 : Int) ≤ (0 : Int) ∧ 0 ≤ (↑x.1.1.length : Int) ∧ (qqright_2 x) = (decide ((↑x.1.2.length : Int) ≤ (64 : Int)) && decide ((↑x.1.1.length : Int) ≤ (400 : Int)) && (List.take (Int.toNat (0 : Int)) x.1.1).all lineOk)) ∧ True) ∧ ((qqright_2 x) = (qqright_2 x) ∧ x.1.1 = x.1.1 ∧ (↑x.1.1.length : Int) = (↑x.1.1.length : Int) ∧ (0 : Int) = (0 : Int) ∧ True) ∧ True ∧ True) ∧ ∀ (v0_0 : Bool × Int × Unit), 0 ≤ v0_0.2.1 ∧ v0_0.2.1 ≤ (↑x.1.1.length : Int) ∧ v0_0.1 = (decide ((↑x.1.2.length : Int) ≤ (64 : Int)) && decide ((↑x.1.1.length : Int) ≤ (400 : Int)) && (List.take v0_0.2.1.toNat x.1.1).all lineOk) → True ∧ (-9223372036854775808 ≤ v0_0.2.1 ∧ v0_0.2.1 ≤ 9223372036854775807) ∧ True → (decide (v0_0.2.1 < (↑x.1.1.length : Int)) = true → (0 ≤ v0_0.2.1 ∧ v0_0.2.1 < (↑x.1.1.length : Int)) ∧ (v0_0.1 = true → v0_0.1 = true) ∧ (v0_0.1 = true → v0_0.1 = true) ∧ (v0_0.1 = true → v0_0.1 = true) ∧ (-9223372036854775808 ≤ v0_0.2.1 + 1 ∧ v0_0.2.1 + 1 ≤ (9223372036854775807 : Int)) ∧ ((0 ≤ v0_0.2.1 + 1 ∧ v0_0.2.1 + 1 ≤ (↑x.1.1.length : Int) ∧ (qqright_3 v0_0 x) = (decide ((↑x.1.2.length : Int) ≤ (64 : Int)) && decide ((↑x.1.1.length : Int) ≤ (400 : Int)) && (List.take (v0_0.2.1 + 1).toNat x.1.1).all lineOk)) ∧ ((↑x.1.1.length : Int) - (v0_0.2.1 + 1)).toNat < ((↑x.1.1.length : Int) - v0_0.2.1).toNat) ∧ ((qqright_3 v0_0 x) = (qqright_3 v0_0 x) ∧ x.1.1 = x.1.1 ∧ (↑x.1.1.length : Int) = (↑x.1.1.length : Int) ∧ v0_0.2.1 + 1 = v0_0.2.1 + 1 ∧ True) ∧ True ∧ True) ∧ (decide (v0_0.2.1 < (↑x.1.1.length : Int)) = false → v0_0.1 = rightT x.1)

theorem E_qright_eq (x : HL (cRight : Ctr).as) : vc (fx_qright x) 1 61 Tryz.f61 (cRight) x = E_qright x := by kernel_rfl

abbrev qread_t1 := (List (List Int) × List Int) × Int × Unit
abbrev qread_2 := (Value.slice none (0 : Nat) (0 : Nat) = Value.slice none (0 : Nat) (0 : Nat) ∧ Value.slice none (0 : Nat) (0 : Nat) = Value.slice none (0 : Nat) (0 : Nat) ∧ True)
abbrev qread_3 := (([] : List Int) :: ([] : List (List Int)))
abbrev qread_4 (x : qread_t1) := (x.1.1 = x.1.1 ∧ x.1.2 = x.1.2 ∧ True)
abbrev qread_5 (v0_0 : (List (List Int) × Unit) × Int × Unit) := (v0_0.1.1.getD (nat_lit 0) ([] : List Int))
abbrev qread_6 (x : qread_t1) := ((↑x.1.1.length : Int) == (0 : Int))
abbrev qread_7 (v0_0 : (List (List Int) × Unit) × Int × Unit) (x : qread_t1) := (x.1.1.getD v0_0.2.1.toNat ([] : List Int))
abbrev qread_8 := (([] : List (List Int)), ([] : List Int))
abbrev qread_1 (v0_0 : (List (List Int) × Unit) × Int × Unit) := (↑(qread_5 v0_0).length : Int)
def E_read (x : (List (List Int) × List Int) × Int × Unit) : Prop := Holds True ∧ ((!rightT (x.1.1, x.1.2)) = true → qread_8 = (readT x.1 x.2.1).1 ∧ ([] : List Int) = (readT x.1 x.2.1).2.1 ∧ (1 : Int) = (readT x.1 x.2.1).2.2.1) ∧ ((!rightT (x.1.1, x.1.2)) = false → (decide (x.2.1 < 1) = true → qread_8 = (readT x.1 x.2.1).1 ∧ ([] : List Int) = (readT x.1 x.2.1).2.1 ∧ (2 : Int) = (readT x.1 x.2.1).2.2.1) ∧ (decide (x.2.1 < 1) = false → ((qread_6 x) = true → qread_8 = (readT x.1 x.2.1).1 ∧ ([] : List Int) = (readT x.1 x.2.1).2.1 ∧ (7 : Int) = (readT x.1 x.2.1).2.2.1) ∧ ((qread_6 x) = false → Holds (x.1.2.length ≤ (140737488355328 : Nat)) ∧ ((((0 : Int) ≤ (0 : Int) ∧ 0 ≤ (↑x.1.1.length : Int) ∧ ([] : List (List Int)) = List.take (Int.toNat (0 : Int)) x.1.1) ∧ True) ∧ ((True ∧ True) ∧ (True ∧ True) ∧ x.1.1 = x.1.1 ∧ (↑x.1.1.length : Int) = (↑x.1.1.length : Int) ∧ (0 : Int) = (0 : Int) ∧ True) ∧ ((True ∧ x.1.2 = x.1.2 ∧ True) ∧ ([] : List (List Int)) = ([] : List (List Int)) ∧ (qread_4 x) ∧ qread_2 ∧ qread_2 ∧ True) ∧ x.1 = x.1 ∧ x.2.1 = x.2.1 ∧ (True ∧ True) ∧ True ∧ (True ∧ True) ∧ Value.slice none (0 : Nat) (0 : Nat) = Value.slice none (0 : Nat) (0 : Nat) ∧ (0 : Int) = (0 : Int) ∧ True ∧ True ∧ True ∧ True ∧ false = false ∧ (qread_4 x) ∧ rightT (x.1.1, x.1.2) = rightT (x.1.1, x.1.2) ∧ (!rightT (x.1.1, x.1.2)) = !rightT (x.1.1, x.1.2) ∧ True ∧ false = false ∧ x.2.1 = x.2.1 ∧ decide (x.2.1 < 1) = decide (x.2.1 < 1) ∧ True ∧ false = false ∧ (True ∧ True) ∧ x.1.1 = x.1.1 ∧ (↑x.1.1.length : Int) = (↑x.1.1.length : Int) ∧ (qread_6 x) = (qread_6 x) ∧ True ∧ (qread_4 x) ∧ True ∧ True ∧ True ∧ True ∧ True ∧ True ∧ True ∧ True ∧ True ∧ True ∧ True ∧ True ∧ True ∧ True ∧ True ∧ True ∧ True ∧ True ∧ True ∧ True ∧ True ∧ True ∧ True ∧ True ∧ True ∧ True ∧ True ∧ True ∧ True ∧ True ∧ True) ∧ ∀ (v0_0 : (List (List Int) × Unit) × Int × Unit), 0 ≤ v0_0.2.1 ∧ v0_0.2.1 ≤ (↑x.1.1.length : Int) ∧ v0_0.1.1 = List.take v0_0.2.1.toNat x.1.1 → ((v0_0.1.1.length ≤ (9223372036854775807 : Nat) ∧ ∀ (v1_0 : List Int), v1_0 ∈ v0_0.1.1 → v1_0.length ≤ (9223372036854775807 : Nat) ∧ ∀ (v2_0 : Int), v2_0 ∈ v1_0 → 0 ≤ v2_0 ∧ v2_0 ≤ 255) ∧ True) ∧ (-9223372036854775808 ≤ v0_0.2.1 ∧ v0_0.2.1 ≤ 9223372036854775807) ∧ True → (decide (v0_0.2.1 < (↑x.1.1.length : Int)) = true → (0 ≤ v0_0.2.1 ∧ v0_0.2.1 < (↑x.1.1.length : Int)) ∧ Holds ((qread_7 v0_0 x).length ≤ (140737488355328 : Nat)) ∧ (v0_0.1.1.length + (qread_3.set (0 : Nat) (qread_7 v0_0 x)).length ≤ (9223372036854775807 : Nat) ∧ (v0_0.1.1.length + (qread_3.set (0 : Nat) (qread_7 v0_0 x)).length + (v0_0.1.1.length + (qread_3.set (0 : Nat) (qread_7 v0_0 x)).length) / (4 : Nat) + (192 : Nat)) * (24 : Nat) ≤ (281474976710656 : Nat)) ∧ (-9223372036854775808 ≤ v0_0.2.1 + 1 ∧ v0_0.2.1 + 1 ≤ (9223372036854775807 : Int)) ∧ ((0 ≤ v0_0.2.1 + 1 ∧ v0_0.2.1 + 1 ≤ (↑x.1.1.length : Int) ∧ v0_0.1.1 ++ qread_3.set (0 : Nat) (qread_7 v0_0 x) = List.take (v0_0.2.1 + 1).toNat x.1.1) ∧ ((↑x.1.1.length : Int) - (v0_0.2.1 + 1)).toNat < ((↑x.1.1.length : Int) - v0_0.2.1).toNat) ∧ ((True ∧ True) ∧ (True ∧ True) ∧ x.1.1 = x.1.1 ∧ (↑x.1.1.length : Int) = (↑x.1.1.length : Int) ∧ v0_0.2.1 + 1 = v0_0.2.1 + 1 ∧ True) ∧ ((True ∧ x.1.2 = x.1.2 ∧ True) ∧ v0_0.1.1 ++ qread_3.set (0 : Nat) (qread_7 v0_0 x) = v0_0.1.1 ++ qread_3.set (0 : Nat) (qread_7 v0_0 x) ∧ (qread_4 x) ∧ qread_2 ∧ qread_2 ∧ True) ∧ x.1 = x.1 ∧ x.2.1 = x.2.1 ∧ (True ∧ True) ∧ True ∧ (True ∧ True) ∧ Value.slice none (0 : Nat) (0 : Nat) = Value.slice none (0 : Nat) (0 : Nat) ∧ (0 : Int) = (0 : Int) ∧ True ∧ True ∧ True ∧ True ∧ false = false ∧ (qread_4 x) ∧ rightT (x.1.1, x.1.2) = rightT (x.1.1, x.1.2) ∧ (!rightT (x.1.1, x.1.2)) = !rightT (x.1.1, x.1.2) ∧ True ∧ false = false ∧ x.2.1 = x.2.1 ∧ decide (x.2.1 < 1) = decide (x.2.1 < 1) ∧ True ∧ false = false ∧ (True ∧ True) ∧ x.1.1 = x.1.1 ∧ (↑x.1.1.length : Int) = (↑x.1.1.length : Int) ∧ (qread_6 x) = (qread_6 x) ∧ True ∧ (qread_4 x) ∧ True ∧ True ∧ True ∧ True ∧ True ∧ True ∧ True ∧ True ∧ True ∧ True ∧ True ∧ True ∧ True ∧ True ∧ True ∧ True ∧ True ∧ True ∧ True ∧ True ∧ True ∧ True ∧ True ∧ True ∧ True ∧ True ∧ True ∧ True ∧ True ∧ True ∧ True) ∧ (decide (v0_0.2.1 < (↑x.1.1.length : Int)) = false → ((0 : Int) ≤ (0 : Int) ∧ 0 < (↑v0_0.1.1.length : Int)) ∧ (((0 : Int) ≤ (0 : Int) ∧ 0 ≤ min x.2.1 (qread_1 v0_0)) ∧ min x.2.1 (qread_1 v0_0) ≤ (qread_1 v0_0)) ∧ Holds ((List.drop (Int.toNat (0 : Int)) (List.take (min x.2.1 (qread_1 v0_0)).toNat (qread_5 v0_0))).length ≤ (140737488355328 : Nat)) ∧ ((min x.2.1 (qread_1 v0_0) == (qread_1 v0_0)) = true → (((0 : Int) ≤ (1 : Int) ∧ 1 ≤ (↑v0_0.1.1.length : Int)) ∧ (↑v0_0.1.1.length : Int) ≤ (↑v0_0.1.1.length : Int)) ∧ (List.drop (Int.toNat (1 : Int)) (List.take (↑v0_0.1.1.length : Int).toNat v0_0.1.1), x.1.2) = (readT x.1 x.2.1).1 ∧ List.drop (Int.toNat (0 : Int)) (List.take (min x.2.1 (qread_1 v0_0)).toNat (qread_5 v0_0)) = (readT x.1 x.2.1).2.1 ∧ (0 : Int) = (readT x.1 x.2.1).2.2.1) ∧ ((min x.2.1 (qread_1 v0_0) == (qread_1 v0_0)) = false → ((0 ≤ min x.2.1 (qread_1 v0_0) ∧ min x.2.1 (qread_1 v0_0) ≤ (qread_1 v0_0)) ∧ (qread_1 v0_0) ≤ (qread_1 v0_0)) ∧ Holds ((List.drop (min x.2.1 (qread_1 v0_0)).toNat (List.take (qread_1 v0_0).toNat (qread_5 v0_0))).length ≤ (140737488355328 : Nat)) ∧ ((0 : Int) ≤ (0 : Int) ∧ 0 < (↑v0_0.1.1.length : Int)) ∧ (v0_0.1.1.set (nat_lit 0) (List.drop (min x.2.1 (qread_1 v0_0)).toNat (List.take (qread_1 v0_0).toNat (qread_5 v0_0))), x.1.2) = (readT x.1 x.2.1).1 ∧ List.drop (Int.toNat (0 : Int)) (List.take (min x.2.1 (qread_1 v0_0)).toNat (qread_5 v0_0)) = (readT x.1 x.2.1).2.1 ∧ (0 : Int) = (readT x.1 x.2.1).2.2.1)))))

theorem E_read_eq (x : HL (cRead : Ctr).as) : vc (fx_read x) 2 33 Tryz.f33 (cRead) x = E_read x := by kernel_rfl

abbrev qown_1 := (([] : List Int) :: ([] : List (List Int)))
abbrev qown_2 := (Value.slice none (0 : Nat) (0 : Nat) = Value.slice none (0 : Nat) (0 : Nat) ∧ Value.slice none (0 : Nat) (0 : Nat) = Value.slice none (0 : Nat) (0 : Nat) ∧ True)
abbrev qown_3 (v0_0 : (List (List Int) × Unit) × Int × Unit) (x : (List (List Int) × List Int) × Unit) := (x.1.1.getD v0_0.2.1.toNat ([] : List Int))
def E_own (x : (List (List Int) × List Int) × Unit) : Prop := Holds (x.1.2.length ≤ (140737488355328 : Nat)) ∧ ((((0 : Int) ≤ (0 : Int) ∧ 0 ≤ (↑x.1.1.length : Int) ∧ ([] : List (List Int)) = List.take (Int.toNat (0 : Int)) x.1.1) ∧ True) ∧ ((True ∧ True) ∧ (True ∧ True) ∧ x.1.1 = x.1.1 ∧ (↑x.1.1.length : Int) = (↑x.1.1.length : Int) ∧ (0 : Int) = (0 : Int) ∧ True) ∧ ((True ∧ x.1.2 = x.1.2 ∧ True) ∧ ([] : List (List Int)) = ([] : List (List Int)) ∧ qown_2 ∧ True) ∧ True) ∧ ∀ (v0_0 : (List (List Int) × Unit) × Int × Unit), 0 ≤ v0_0.2.1 ∧ v0_0.2.1 ≤ (↑x.1.1.length : Int) ∧ v0_0.1.1 = List.take v0_0.2.1.toNat x.1.1 → ((v0_0.1.1.length ≤ (9223372036854775807 : Nat) ∧ ∀ (v1_0 : List Int), v1_0 ∈ v0_0.1.1 → v1_0.length ≤ (9223372036854775807 : Nat) ∧ ∀ (v2_0 : Int), v2_0 ∈ v1_0 → 0 ≤ v2_0 ∧ v2_0 ≤ 255) ∧ True) ∧ (-9223372036854775808 ≤ v0_0.2.1 ∧ v0_0.2.1 ≤ 9223372036854775807) ∧ True → (decide (v0_0.2.1 < (↑x.1.1.length : Int)) = true → (0 ≤ v0_0.2.1 ∧ v0_0.2.1 < (↑x.1.1.length : Int)) ∧ Holds ((qown_3 v0_0 x).length ≤ (140737488355328 : Nat)) ∧ (v0_0.1.1.length + (qown_1.set (0 : Nat) (qown_3 v0_0 x)).length ≤ (9223372036854775807 : Nat) ∧ (v0_0.1.1.length + (qown_1.set (0 : Nat) (qown_3 v0_0 x)).length + (v0_0.1.1.length + (qown_1.set (0 : Nat) (qown_3 v0_0 x)).length) / (4 : Nat) + (192 : Nat)) * (24 : Nat) ≤ (281474976710656 : Nat)) ∧ (-9223372036854775808 ≤ v0_0.2.1 + 1 ∧ v0_0.2.1 + 1 ≤ (9223372036854775807 : Int)) ∧ ((0 ≤ v0_0.2.1 + 1 ∧ v0_0.2.1 + 1 ≤ (↑x.1.1.length : Int) ∧ v0_0.1.1 ++ qown_1.set (0 : Nat) (qown_3 v0_0 x) = List.take (v0_0.2.1 + 1).toNat x.1.1) ∧ ((↑x.1.1.length : Int) - (v0_0.2.1 + 1)).toNat < ((↑x.1.1.length : Int) - v0_0.2.1).toNat) ∧ ((True ∧ True) ∧ (True ∧ True) ∧ x.1.1 = x.1.1 ∧ (↑x.1.1.length : Int) = (↑x.1.1.length : Int) ∧ v0_0.2.1 + 1 = v0_0.2.1 + 1 ∧ True) ∧ ((True ∧ x.1.2 = x.1.2 ∧ True) ∧ v0_0.1.1 ++ qown_1.set (0 : Nat) (qown_3 v0_0 x) = v0_0.1.1 ++ qown_1.set (0 : Nat) (qown_3 v0_0 x) ∧ qown_2 ∧ True) ∧ True) ∧ (decide (v0_0.2.1 < (↑x.1.1.length : Int)) = false → (v0_0.1.1, x.1.2) = x.1)

theorem E_own_eq (x : HL (cOwn : Ctr).as) : vc (fx_own x) 1 55 Tryz.f55 (cOwn) x = E_own x := by kernel_rfl

abbrev qqread_t1 := (List (List Int) × List Int) × Int × Unit
abbrev qqread_1 (x : qqread_t1) := (x.1.1.getD (Int.toNat (0 : Int)) ([] : List Int))
abbrev qqread_2 (x : qqread_t1) := (([] : List (List Int)) ++ List.drop (Int.toNat (1 : Int)) (List.take (↑x.1.1.length : Int).toNat x.1.1))
abbrev qqread_4 (x : qqread_t1) := (List.drop (Int.toNat (1 : Int)) (List.take (↑x.1.1.length : Int).toNat x.1.1))
abbrev qqread_5 := (([] : List (List Int)), ([] : List Int))
abbrev qqread_3 (x : qqread_t1) := ((([] : List Int) :: ([] : List (List Int))).set (0 : Nat) (List.drop x.2.1.toNat (List.take (↑(qqread_1 x).length : Int).toNat (qqread_1 x))))
def E_qread (x : (List (List Int) × List Int) × Int × Unit) : Prop := Holds True ∧ ((!rightT (x.1.1, x.1.2)) = true → qqread_5 = (readT x.1 x.2.1).1 ∧ ([] : List Int) = (readT x.1 x.2.1).2.1 ∧ (1 : Int) = (readT x.1 x.2.1).2.2.1) ∧ ((!rightT (x.1.1, x.1.2)) = false → (decide (x.2.1 < 1) = true → qqread_5 = (readT x.1 x.2.1).1 ∧ ([] : List Int) = (readT x.1 x.2.1).2.1 ∧ (2 : Int) = (readT x.1 x.2.1).2.2.1) ∧ (decide (x.2.1 < 1) = false → (((↑x.1.1.length : Int) == (0 : Int)) = true → qqread_5 = (readT x.1 x.2.1).1 ∧ ([] : List Int) = (readT x.1 x.2.1).2.1 ∧ (7 : Int) = (readT x.1 x.2.1).2.2.1) ∧ (((↑x.1.1.length : Int) == (0 : Int)) = false → ((0 : Int) ≤ (0 : Int) ∧ 0 < (↑x.1.1.length : Int)) ∧ (((0 : Int) ≤ (1 : Int) ∧ 1 ≤ (↑x.1.1.length : Int)) ∧ (↑x.1.1.length : Int) ≤ (↑x.1.1.length : Int)) ∧ (([] : List (List Int)).length + (qqread_4 x).length ≤ (9223372036854775807 : Nat) ∧ (([] : List (List Int)).length + (qqread_4 x).length + (([] : List (List Int)).length + (qqread_4 x).length) / (4 : Nat) + (192 : Nat)) * (24 : Nat) ≤ (281474976710656 : Nat)) ∧ (decide (x.2.1 < (↑(qqread_1 x).length : Int)) = true → ((0 ≤ x.2.1 ∧ x.2.1 ≤ (↑(qqread_1 x).length : Int)) ∧ (↑(qqread_1 x).length : Int) ≤ (↑(qqread_1 x).length : Int)) ∧ ((qqread_3 x).length + (qqread_2 x).length ≤ (9223372036854775807 : Nat) ∧ ((qqread_3 x).length + (qqread_2 x).length + ((qqread_3 x).length + (qqread_2 x).length) / (4 : Nat) + (192 : Nat)) * (24 : Nat) ≤ (281474976710656 : Nat)) ∧ (((0 : Int) ≤ (0 : Int) ∧ 0 ≤ x.2.1) ∧ x.2.1 ≤ (↑(qqread_1 x).length : Int)) ∧ ((([] : List Int) :: ([] : List (List Int))).set (0 : Nat) (List.drop x.2.1.toNat (List.take (↑(qqread_1 x).length : Int).toNat (qqread_1 x))) ++ (qqread_2 x), x.1.2) = (readT x.1 x.2.1).1 ∧ List.drop (Int.toNat (0 : Int)) (List.take x.2.1.toNat (qqread_1 x)) = (readT x.1 x.2.1).2.1 ∧ (0 : Int) = (readT x.1 x.2.1).2.2.1) ∧ (decide (x.2.1 < (↑(qqread_1 x).length : Int)) = false → (([] : List (List Int)) ++ List.drop (Int.toNat (1 : Int)) (List.take (↑x.1.1.length : Int).toNat x.1.1), x.1.2) = (readT x.1 x.2.1).1 ∧ x.1.1.getD (Int.toNat (0 : Int)) ([] : List Int) = (readT x.1 x.2.1).2.1 ∧ (0 : Int) = (readT x.1 x.2.1).2.2.1))))

theorem E_qread_eq (x : HL (cRead : Ctr).as) : vc (fx_qread x) 1 39 Tryz.f39 (cRead) x = E_qread x := by kernel_rfl

def E_cloneo (x : List Int × Unit) : Prop :=
 ∀ (b : Bool),
 (b = true → x.1 = ([] : List Int)) →
 (b = true → ([] : List Int) = x.1) ∧
 (b = false →
 (([] : List Int).length + x.1.length ≤ (9223372036854775807 : Nat) ∧
 (([] : List Int).length + x.1.length + (([] : List Int).length + x.1.length) / (4 : Nat) + (192 : Nat)) * (1 : Nat) ≤
 (281474976710656 : Nat)) ∧
 ([] : List Int) ++ x.1 = x.1)

theorem E_cloneo_eq (x : HL (cCloneO : Ctr).as) : vc (fx_cloneo x) 1 56 Tryz.f56 (cCloneO) x = E_cloneo x := by kernel_rfl

def E_clonel (x : List (List Int) × Unit) : Prop :=
 ∀ (b : Bool),
 (b = true → x.1 = ([] : List (List Int))) →
 (b = true → ([] : List (List Int)) = x.1) ∧
 (b = false →
 (([] : List (List Int)).length + x.1.length ≤ (9223372036854775807 : Nat) ∧
 (([] : List (List Int)).length + x.1.length + (([] : List (List Int)).length + x.1.length) / (4 : Nat) + (192 : Nat)) * (24 : Nat) ≤
 (281474976710656 : Nat)) ∧
 ([] : List (List Int)) ++ x.1 = x.1)

theorem E_clonel_eq (x : HL (cCloneL : Ctr).as) : vc (fx_clonel x) 1 110 Tryz.f110 (cCloneL) x = E_clonel x := by kernel_rfl

def E_cloney (x : List Int × Unit) : Prop :=
 ∀ (b : Bool),
 (b = true → x.1 = ([] : List Int)) →
 (b = true → ([] : List Int) = x.1) ∧
 (b = false →
 (([] : List Int).length + x.1.length ≤ (9223372036854775807 : Nat) ∧
 (([] : List Int).length + x.1.length + (([] : List Int).length + x.1.length) / (4 : Nat) + (192 : Nat)) * (1 : Nat) ≤
 (281474976710656 : Nat)) ∧
 ([] : List Int) ++ x.1 = x.1)

theorem E_cloney_eq (x : HL (cCloneO : Ctr).as) : vc (fx_cloney x) 1 18 Tryz.f18 (cCloneO) x = E_cloney x := by kernel_rfl

abbrev qword_1 (v0_0 : Int × Unit) := (decide (0 < v0_0.1) = true → decide (0 < v0_0.1) = true)
abbrev qword_2 (v0_1 : Int × Unit) := (decide (0 < v0_1.1) = true → decide (0 < v0_1.1) = true)
def E_word (x : List Int × Unit) : Prop := (((0 ≤ (↑x.1.length : Int) ∧ (↑x.1.length : Int) ≤ (↑x.1.length : Int) ∧ dropSp x.1 (↑x.1.length : Int).toNat = dropSp x.1 x.1.length) ∧ True) ∧ (x.1 = x.1 ∧ (↑x.1.length : Int) = (↑x.1.length : Int) ∧ True) ∧ True ∧ True) ∧ ∀ (v0_0 : Int × Unit), 0 ≤ v0_0.1 ∧ v0_0.1 ≤ (↑x.1.length : Int) ∧ dropSp x.1 v0_0.1.toNat = dropSp x.1 x.1.length → (-9223372036854775808 ≤ v0_0.1 ∧ v0_0.1 ≤ 9223372036854775807) ∧ True → (decide (0 < v0_0.1) = true → decide (0 < v0_0.1) = true ∧ -9223372036854775808 ≤ v0_0.1 - 1 ∧ v0_0.1 - 1 ≤ (9223372036854775807 : Int)) ∧ (decide (0 < v0_0.1) = true → (decide (0 < v0_0.1) = true ∧ decide (0 < v0_0.1) = true) ∧ 0 ≤ v0_0.1 - 1 ∧ v0_0.1 - 1 < (↑x.1.length : Int)) ∧ (qword_1 v0_0) ∧ (qword_1 v0_0) ∧ (qword_1 v0_0) ∧ ((decide (0 < v0_0.1) && x.1.getD (v0_0.1 - 1).toNat (0 : Int) == (32 : Int)) = true → (-9223372036854775808 ≤ v0_0.1 - 1 ∧ v0_0.1 - 1 ≤ (9223372036854775807 : Int)) ∧ ((0 ≤ v0_0.1 - 1 ∧ v0_0.1 - 1 ≤ (↑x.1.length : Int) ∧ dropSp x.1 (v0_0.1 - 1).toNat = dropSp x.1 x.1.length) ∧ (v0_0.1 - 1).toNat < v0_0.1.toNat) ∧ (x.1 = x.1 ∧ v0_0.1 - 1 = v0_0.1 - 1 ∧ True) ∧ True ∧ True) ∧ ((decide (0 < v0_0.1) && x.1.getD (v0_0.1 - 1).toNat (0 : Int) == (32 : Int)) = false → (((0 ≤ v0_0.1 ∧ v0_0.1 ≤ (↑x.1.length : Int) ∧ dropWd x.1 v0_0.1.toNat = wordN x.1) ∧ True) ∧ (x.1 = x.1 ∧ v0_0.1 = v0_0.1 ∧ True) ∧ True ∧ True) ∧ ∀ (v0_1 : Int × Unit), 0 ≤ v0_1.1 ∧ v0_1.1 ≤ (↑x.1.length : Int) ∧ dropWd x.1 v0_1.1.toNat = wordN x.1 → (-9223372036854775808 ≤ v0_1.1 ∧ v0_1.1 ≤ 9223372036854775807) ∧ True → (decide (0 < v0_1.1) = true → decide (0 < v0_1.1) = true ∧ -9223372036854775808 ≤ v0_1.1 - 1 ∧ v0_1.1 - 1 ≤ (9223372036854775807 : Int)) ∧ (decide (0 < v0_1.1) = true → (decide (0 < v0_1.1) = true ∧ decide (0 < v0_1.1) = true) ∧ 0 ≤ v0_1.1 - 1 ∧ v0_1.1 - 1 < (↑x.1.length : Int)) ∧ (qword_2 v0_1) ∧ (qword_2 v0_1) ∧ (qword_2 v0_1) ∧ ((decide (0 < v0_1.1) && x.1.getD (v0_1.1 - 1).toNat (0 : Int) != (32 : Int)) = true → (-9223372036854775808 ≤ v0_1.1 - 1 ∧ v0_1.1 - 1 ≤ (9223372036854775807 : Int)) ∧ ((0 ≤ v0_1.1 - 1 ∧ v0_1.1 - 1 ≤ (↑x.1.length : Int) ∧ dropWd x.1 (v0_1.1 - 1).toNat = wordN x.1) ∧ (v0_1.1 - 1).toNat < v0_1.1.toNat) ∧ (x.1 = x.1 ∧ v0_1.1 - 1 = v0_1.1 - 1 ∧ True) ∧ True ∧ True) ∧ ((decide (0 < v0_1.1) && x.1.getD (v0_1.1 - 1).toNat (0 : Int) != (32 : Int)) = false → v0_1.1 = (↑(wordN x.1) : Int)))

theorem E_word_eq (x : HL (cWord : Ctr).as) : vc (fx_word x) 1 89 Tryz.f89 (cWord) x = E_word x := by kernel_rfl

abbrev qkey_t1 := (List (List Int) × List Int) × Int × Unit
abbrev qkey_2 := (([] : List Int) :: ([] : List (List Int)))
abbrev qkey_4 (x : qkey_t1) := (x.1.2 ++ ((0 : Int) :: ([] : List Int)).set (0 : Nat) x.2.1)
abbrev qkey_5 (x : qkey_t1) := (x.1.1, List.drop (Int.toNat (0 : Int)) (List.take (max ((↑x.1.2.length : Int) - 1) (0 : Int)).toNat x.1.2))
abbrev qkey_6 (x : qkey_t1) := (x.2.1 == 10 || x.2.1 == 4)
abbrev qkey_7 := (([] : List (List Int)), ([] : List Int))
abbrev qkey_8 (x : qkey_t1) := (((0 : Int) :: ([] : List Int)).set (0 : Nat) x.2.1)
abbrev qkey_9 (x : qkey_t1) := (x.1.1, List.drop (Int.toNat (0 : Int)) (List.take (↑(wordN x.1.2) : Int).toNat x.1.2))
abbrev qkey_1 (x : qkey_t1) := (x.1.2.length + (qkey_8 x).length ≤ (9223372036854775807 : Nat) ∧ (x.1.2.length + (qkey_8 x).length + (x.1.2.length + (qkey_8 x).length) / (4 : Nat) + (192 : Nat)) * (1 : Nat) ≤ (281474976710656 : Nat))
abbrev qkey_3 (x : qkey_t1) := ((qkey_6 x) = true → (qkey_6 x) = true)
def E_key (x : (List (List Int) × List Int) × Int × Unit) : Prop := Holds True ∧ ((!rightT (x.1.1, x.1.2)) = true → qkey_7 = (keyR x.1 x.2.1).1 ∧ (1 : Int) = (keyR x.1 x.2.1).2.1) ∧ ((!rightT (x.1.1, x.1.2)) = false → ((!x.2.1 == 10) = true → (!x.2.1 == 10) = true) ∧ ((x.2.1 == 10) = false → (!x.2.1 == 10) = true) ∧ (qkey_3 x) ∧ (qkey_3 x) ∧ (qkey_3 x) ∧ (qkey_3 x) ∧ (((qkey_6 x) && (↑x.1.1.length : Int) == (400 : Int)) = true → qkey_7 = (keyR x.1 x.2.1).1 ∧ (4 : Int) = (keyR x.1 x.2.1).2.1) ∧ (((qkey_6 x) && (↑x.1.1.length : Int) == (400 : Int)) = false → ((x.2.1 == 10) = true → Holds (x.1.1.length * (24 : Nat) ≤ (140737488355328 : Nat)) ∧ Holds (x.1.2.length ≤ (140737488355328 : Nat)) ∧ (qkey_1 x) ∧ (x.1.1.length + (qkey_2.set (0 : Nat) (qkey_4 x)).length ≤ (9223372036854775807 : Nat) ∧ (x.1.1.length + (qkey_2.set (0 : Nat) (qkey_4 x)).length + (x.1.1.length + (qkey_2.set (0 : Nat) (qkey_4 x)).length) / (4 : Nat) + (192 : Nat)) * (24 : Nat) ≤ (281474976710656 : Nat)) ∧ Holds (rightT (x.1.1 ++ qkey_2.set (0 : Nat) (qkey_4 x), ([] : List Int)) = true) ∧ (x.1.1 ++ qkey_2.set (0 : Nat) (qkey_4 x), ([] : List Int)) = (keyR x.1 x.2.1).1 ∧ (0 : Int) = (keyR x.1 x.2.1).2.1) ∧ ((x.2.1 == 10) = false → ((x.2.1 == 4) = true → Holds (x.1.1.length * (24 : Nat) ≤ (140737488355328 : Nat)) ∧ Holds (x.1.2.length ≤ (140737488355328 : Nat)) ∧ (x.1.2.length + ([] : List Int).length ≤ (9223372036854775807 : Nat) ∧ (x.1.2.length + ([] : List Int).length + (x.1.2.length + ([] : List Int).length) / (4 : Nat) + (192 : Nat)) * (1 : Nat) ≤ (281474976710656 : Nat)) ∧ (x.1.1.length + (qkey_2.set (0 : Nat) (x.1.2 ++ ([] : List Int))).length ≤ (9223372036854775807 : Nat) ∧ (x.1.1.length + (qkey_2.set (0 : Nat) (x.1.2 ++ ([] : List Int))).length + (x.1.1.length + (qkey_2.set (0 : Nat) (x.1.2 ++ ([] : List Int))).length) / (4 : Nat) + (192 : Nat)) * (24 : Nat) ≤ (281474976710656 : Nat)) ∧ Holds (rightT (x.1.1 ++ qkey_2.set (0 : Nat) (x.1.2 ++ ([] : List Int)), ([] : List Int)) = true) ∧ (x.1.1 ++ qkey_2.set (0 : Nat) (x.1.2 ++ ([] : List Int)), ([] : List Int)) = (keyR x.1 x.2.1).1 ∧ (0 : Int) = (keyR x.1 x.2.1).2.1) ∧ ((x.2.1 == 4) = false → ((x.2.1 == 8) = true → (-9223372036854775808 ≤ (↑x.1.2.length : Int) - 1 ∧ (↑x.1.2.length : Int) - 1 ≤ (9223372036854775807 : Int)) ∧ (((0 : Int) ≤ (0 : Int) ∧ 0 ≤ max ((↑x.1.2.length : Int) - 1) (0 : Int)) ∧ max ((↑x.1.2.length : Int) - 1) 0 ≤ (↑x.1.2.length : Int)) ∧ Holds (rightT (qkey_5 x) = true) ∧ (qkey_5 x) = (keyR x.1 x.2.1).1 ∧ (0 : Int) = (keyR x.1 x.2.1).2.1) ∧ ((x.2.1 == 8) = false → ((x.2.1 == 21) = true → Holds (rightT (x.1.1, ([] : List Int)) = true) ∧ (x.1.1, ([] : List Int)) = (keyR x.1 x.2.1).1 ∧ (0 : Int) = (keyR x.1 x.2.1).2.1) ∧ ((x.2.1 == 21) = false → ((x.2.1 == 23) = true → Holds True ∧ (((0 : Int) ≤ (0 : Int) ∧ 0 ≤ (↑(wordN x.1.2) : Int)) ∧ (↑(wordN x.1.2) : Int) ≤ (↑x.1.2.length : Int)) ∧ Holds (rightT (qkey_9 x) = true) ∧ (qkey_9 x) = (keyR x.1 x.2.1).1 ∧ (0 : Int) = (keyR x.1 x.2.1).2.1) ∧ ((x.2.1 == 23) = false → (((↑x.1.2.length : Int) == (64 : Int)) = true → qkey_7 = (keyR x.1 x.2.1).1 ∧ (4 : Int) = (keyR x.1 x.2.1).2.1) ∧ (((↑x.1.2.length : Int) == (64 : Int)) = false → Holds (x.1.2.length ≤ (140737488355328 : Nat)) ∧ (qkey_1 x) ∧ Holds (rightT (x.1.1, x.1.2 ++ ((0 : Int) :: ([] : List Int)).set (0 : Nat) x.2.1) = true) ∧ (x.1.1, x.1.2 ++ ((0 : Int) :: ([] : List Int)).set (0 : Nat) x.2.1) = (keyR x.1 x.2.1).1 ∧ (0 : Int) = (keyR x.1 x.2.1).2.1))))))))

theorem E_key_eq (x : HL (cKey : Ctr).as) : vc (fx_key x) 2 53 Tryz.f53 (cKey) x = E_key x := by kernel_rfl

def E_suf (x : List Int × List Int × Unit) : Prop :=
 (decide ((↑x.2.1.length : Int) ≤ (↑x.1.length : Int)) = true → decide ((↑x.2.1.length : Int) ≤ (↑x.1.length : Int)) = true) ∧
 (decide ((↑x.2.1.length : Int) ≤ (↑x.1.length : Int)) = true → decide ((↑x.2.1.length : Int) ≤ (↑x.1.length : Int)) = true) ∧
 (decide ((↑x.2.1.length : Int) ≤ (↑x.1.length : Int)) = true →
 (decide ((↑x.2.1.length : Int) ≤ (↑x.1.length : Int)) = true ∧ decide ((↑x.2.1.length : Int) ≤ (↑x.1.length : Int)) = true) ∧
 -9223372036854775808 ≤ (↑x.1.length : Int) - (↑x.2.1.length : Int) ∧
 (↑x.1.length : Int) - (↑x.2.1.length : Int) ≤ (9223372036854775807 : Int)) ∧
 (decide ((↑x.2.1.length : Int) ≤ (↑x.1.length : Int)) = true →
 (decide ((↑x.2.1.length : Int) ≤ (↑x.1.length : Int)) = true ∧ decide ((↑x.2.1.length : Int) ≤ (↑x.1.length : Int)) = true) ∧
 (0 ≤ (↑x.1.length : Int) - (↑x.2.1.length : Int) ∧
 (↑x.1.length : Int) - (↑x.2.1.length : Int) ≤ (↑x.1.length : Int)) ∧
 (↑x.1.length : Int) ≤ (↑x.1.length : Int)) ∧
 (decide ((↑x.2.1.length : Int) ≤ (↑x.1.length : Int)) = true →
 decide ((↑x.2.1.length : Int) ≤ (↑x.1.length : Int)) = true ∧ decide ((↑x.2.1.length : Int) ≤ (↑x.1.length : Int)) = true) ∧
 (decide ((↑x.2.1.length : Int) ≤ (↑x.1.length : Int)) = true → decide ((↑x.2.1.length : Int) ≤ (↑x.1.length : Int)) = true) ∧
 (decide ((↑x.2.1.length : Int) ≤ (↑x.1.length : Int)) &&
 decide
 (List.drop ((↑x.1.length : Int) - (↑x.2.1.length : Int)).toNat (List.take (↑x.1.length : Int).toNat x.1) = x.2.1)) =
 (decide (x.2.1.length ≤ x.1.length) && decide (List.drop (x.1.length - x.2.1.length) x.1 = x.2.1))

theorem E_suf_eq (x : HL (cSuf : Ctr).as) : vc (fx_suf x) 1 96 Tryz.f96 (cSuf) x = E_suf x := by kernel_rfl

def E_last (x : List Int × Int × Unit) : Prop :=
 (-9223372036854775808 ≤ (↑x.1.length : Int) - 1 ∧ (↑x.1.length : Int) - 1 ≤ (9223372036854775807 : Int)) ∧
 (((-1 ≤ (↑x.1.length : Int) - 1 ∧
 (↑x.1.length : Int) - 1 < (↑x.1.length : Int) ∧
 lastN x.1 x.2.1 ((↑x.1.length : Int) - 1 + 1).toNat = lastN x.1 x.2.1 x.1.length) ∧
 True) ∧
 (x.1 = x.1 ∧ x.2.1 = x.2.1 ∧ (↑x.1.length : Int) - 1 = (↑x.1.length : Int) - 1 ∧ True) ∧ True ∧ True) ∧
 ∀ (g : Int × Unit),
 -1 ≤ g.1 ∧ g.1 < (↑x.1.length : Int) ∧ lastN x.1 x.2.1 (g.1 + 1).toNat = lastN x.1 x.2.1 x.1.length →
 (-9223372036854775808 ≤ g.1 ∧ g.1 ≤ 9223372036854775807) ∧ True →
 (decide (0 ≤ g.1) = true →
 (0 ≤ g.1 ∧ g.1 < (↑x.1.length : Int)) ∧
 ((x.1.getD g.1.toNat (0 : Int) == x.2.1) = true → g.1 = lastN x.1 x.2.1 x.1.length) ∧
 ((x.1.getD g.1.toNat (0 : Int) == x.2.1) = false →
 (-9223372036854775808 ≤ g.1 - 1 ∧ g.1 - 1 ≤ (9223372036854775807 : Int)) ∧
 ((-1 ≤ g.1 - 1 ∧
 g.1 - 1 < (↑x.1.length : Int) ∧
 lastN x.1 x.2.1 (g.1 - 1 + 1).toNat = lastN x.1 x.2.1 x.1.length) ∧
 (g.1 - 1 + 1).toNat < (g.1 + 1).toNat) ∧
 (x.1 = x.1 ∧ x.2.1 = x.2.1 ∧ g.1 - 1 = g.1 - 1 ∧ True) ∧ True ∧ True)) ∧
 (decide (0 ≤ g.1) = false → (-1 : Int) = lastN x.1 x.2.1 x.1.length)

theorem E_last_eq (x : HL (cLast : Ctr).as) : vc (fx_last x) 1 97 Tryz.f97 (cLast) x = E_last x := by kernel_rfl

abbrev qqkey_t1 := (List (List Int) × List Int) × Int × Unit
abbrev qqkey_4 (v0_0 : List Int × Unit) := (List.take ((↑v0_0.1.length : Int) - 1).toNat v0_0.1)
abbrev qqkey_5 (x : qqkey_t1) := ((Value.slice none (0 : Nat) (0 : Nat) = Value.slice none (0 : Nat) (0 : Nat) ∧ Value.slice none (0 : Nat) (0 : Nat) = Value.slice none (0 : Nat) (0 : Nat) ∧ True) ∧ ([] : List (List Int)) ++ x.1.1 = ([] : List (List Int)) ++ x.1.1 ∧ True)
abbrev qqkey_6 := (([] : List Int) :: ([] : List (List Int)))
abbrev qqkey_8 := ((↑(UInt8.toNat (32 : UInt8)) : Int) :: List.map._f (fun f0 ↦ (↑f0.toNat : Int)) ([] : List UInt8) PUnit.unit)
abbrev qqkey_9 (x : qqkey_t1) := (x.1.2 ++ (↑(UInt8.toNat (10 : UInt8)) : Int) :: List.map._f (fun f0 ↦ (↑f0.toNat : Int)) ([] : List UInt8) PUnit.unit)
abbrev qqkey_11 := (([] : List (List Int)), ([] : List Int))
abbrev qqkey_2 (v0_0 : List Int × Unit) := (decide (qqkey_8.length ≤ v0_0.1.length) && decide (List.drop (v0_0.1.length - qqkey_8.length) v0_0.1 = (↑(UInt8.toNat (32 : UInt8)) : Int) :: List.map._f (fun f0 ↦ (↑f0.toNat : Int)) ([] : List UInt8) PUnit.unit))
abbrev qqkey_3 (x : qqkey_t1) := (qqkey_6.set (0 : Nat) (qqkey_9 x))
abbrev qqkey_7 (x : qqkey_t1) := (decide (399 < (↑(([] : List (List Int)) ++ x.1.1).length : Int)) = true → qqkey_11 = (keyR x.1 x.2.1).1 ∧ (4 : Int) = (keyR x.1 x.2.1).2.1)
abbrev qqkey_10 (v0_0 : List Int × Unit) := (List.drop (Int.toNat (0 : Int)) (qqkey_4 v0_0))
abbrev qqkey_1 (x : qqkey_t1) := (decide (399 < (↑(([] : List (List Int)) ++ x.1.1).length : Int)) = false → ((x.2.1 == 10) = true → x.1.2.length + ((↑(UInt8.toNat (10 : UInt8)) : Int) :: List.map._f (fun f0 ↦ (↑f0.toNat : Int)) ([] : List UInt8) PUnit.unit).length ≤ (9223372036854775807 : Nat) ∧ ((([] : List (List Int)) ++ x.1.1).length + (qqkey_3 x).length ≤ (9223372036854775807 : Nat) ∧ ((([] : List (List Int)) ++ x.1.1).length + (qqkey_3 x).length + ((([] : List (List Int)) ++ x.1.1).length + (qqkey_3 x).length) / (4 : Nat) + (192 : Nat)) * (24 : Nat) ≤ (281474976710656 : Nat)) ∧ (([] : List (List Int)) ++ x.1.1 ++ qqkey_6.set (0 : Nat) (qqkey_9 x), ([] : List Int)) = (keyR x.1 x.2.1).1 ∧ (0 : Int) = (keyR x.1 x.2.1).2.1) ∧ ((x.2.1 == 10) = false → ((([] : List (List Int)) ++ x.1.1).length + (qqkey_6.set (0 : Nat) x.1.2).length ≤ (9223372036854775807 : Nat) ∧ ((([] : List (List Int)) ++ x.1.1).length + (qqkey_6.set (0 : Nat) x.1.2).length + ((([] : List (List Int)) ++ x.1.1).length + (qqkey_6.set (0 : Nat) x.1.2).length) / (4 : Nat) + (192 : Nat)) * (24 : Nat) ≤ (281474976710656 : Nat)) ∧ (([] : List (List Int)) ++ x.1.1 ++ qqkey_6.set (0 : Nat) x.1.2, ([] : List Int)) = (keyR x.1 x.2.1).1 ∧ (0 : Int) = (keyR x.1 x.2.1).2.1))
def E_qkey (x : (List (List Int) × List Int) × Int × Unit) : Prop := Holds True ∧ ((!rightT (x.1.1, x.1.2)) = true → qqkey_11 = (keyR x.1 x.2.1).1 ∧ (1 : Int) = (keyR x.1 x.2.1).2.1) ∧ ((!rightT (x.1.1, x.1.2)) = false → (([] : List (List Int)).length + x.1.1.length ≤ (9223372036854775807 : Nat) ∧ (([] : List (List Int)).length + x.1.1.length + (([] : List (List Int)).length + x.1.1.length) / (4 : Nat) + (192 : Nat)) * (24 : Nat) ≤ (281474976710656 : Nat)) ∧ ((x.2.1 == 10) = true → (qqkey_7 x) ∧ (qqkey_1 x)) ∧ ((x.2.1 == 10) = false → ((x.2.1 == 4) = true → (qqkey_7 x) ∧ (qqkey_1 x)) ∧ ((x.2.1 == 4) = false → ((x.2.1 == 8) = true → ((!decide (x.1.2 = ([] : List Int))) = true → (-9223372036854775808 ≤ (↑x.1.2.length : Int) - 1 ∧ (↑x.1.2.length : Int) - 1 ≤ (9223372036854775807 : Int)) ∧ (((0 : Int) ≤ (0 : Int) ∧ 0 ≤ (↑x.1.2.length : Int) - 1) ∧ (↑x.1.2.length : Int) - 1 ≤ (↑x.1.2.length : Int)) ∧ (([] : List (List Int)) ++ x.1.1, List.drop (Int.toNat (0 : Int)) (List.take ((↑x.1.2.length : Int) - 1).toNat x.1.2)) = (keyR x.1 x.2.1).1 ∧ (0 : Int) = (keyR x.1 x.2.1).2.1) ∧ ((!decide (x.1.2 = ([] : List Int))) = false → (([] : List (List Int)) ++ x.1.1, x.1.2) = (keyR x.1 x.2.1).1 ∧ (0 : Int) = (keyR x.1 x.2.1).2.1)) ∧ ((x.2.1 == 8) = false → ((x.2.1 == 21) = true → (([] : List (List Int)) ++ x.1.1, ([] : List Int)) = (keyR x.1 x.2.1).1 ∧ (0 : Int) = (keyR x.1 x.2.1).2.1) ∧ ((x.2.1 == 21) = false → ((x.2.1 == 23) = true → (((x.1.2.length ≤ x.1.2.length ∧ x.1.2 = List.take x.1.2.length x.1.2 ∧ dropSp x.1.2 x.1.2.length = dropSp x.1.2 x.1.2.length) ∧ True) ∧ ((True ∧ True) ∧ x.1.2 = x.1.2 ∧ True ∧ True) ∧ (qqkey_5 x) ∧ True) ∧ ∀ (v0_0 : List Int × Unit), v0_0.1.length ≤ x.1.2.length ∧ v0_0.1 = List.take v0_0.1.length x.1.2 ∧ dropSp x.1.2 v0_0.1.length = dropSp x.1.2 x.1.2.length → (v0_0.1.length ≤ (9223372036854775807 : Nat) ∧ ∀ (v1_0 : Int), v1_0 ∈ v0_0.1 → 0 ≤ v1_0 ∧ v1_0 ≤ 255) ∧ True → Holds True ∧ ((qqkey_2 v0_0) = true → (-9223372036854775808 ≤ (↑v0_0.1.length : Int) - 1 ∧ (↑v0_0.1.length : Int) - 1 ≤ (9223372036854775807 : Int)) ∧ (((0 : Int) ≤ (0 : Int) ∧ 0 ≤ (↑v0_0.1.length : Int) - 1) ∧ (↑v0_0.1.length : Int) - 1 ≤ (↑v0_0.1.length : Int)) ∧ (((qqkey_10 v0_0).length ≤ x.1.2.length ∧ List.drop (Int.toNat (0 : Int)) (qqkey_4 v0_0) = List.take (qqkey_10 v0_0).length x.1.2 ∧ dropSp x.1.2 (qqkey_10 v0_0).length = dropSp x.1.2 x.1.2.length) ∧ (qqkey_10 v0_0).length < v0_0.1.length) ∧ ((True ∧ True) ∧ List.drop (Int.toNat (0 : Int)) (qqkey_4 v0_0) = List.drop (Int.toNat (0 : Int)) (qqkey_4 v0_0) ∧ True ∧ True) ∧ (qqkey_5 x) ∧ True) ∧ ((qqkey_2 v0_0) = false → Holds True ∧ (-9223372036854775808 ≤ lastN v0_0.1 (32 : Int) v0_0.1.length + 1 ∧ lastN v0_0.1 (32 : Int) v0_0.1.length + 1 ≤ (9223372036854775807 : Int)) ∧ (((0 : Int) ≤ (0 : Int) ∧ 0 ≤ lastN v0_0.1 (32 : Int) v0_0.1.length + 1) ∧ lastN v0_0.1 (32 : Int) v0_0.1.length + 1 ≤ (↑v0_0.1.length : Int)) ∧ (([] : List (List Int)) ++ x.1.1, List.drop (Int.toNat (0 : Int)) (List.take (lastN v0_0.1 (32 : Int) v0_0.1.length + 1).toNat v0_0.1)) = (keyR x.1 x.2.1).1 ∧ (0 : Int) = (keyR x.1 x.2.1).2.1)) ∧ ((x.2.1 == 23) = false → (decide (63 < (↑x.1.2.length : Int)) = true → qqkey_11 = (keyR x.1 x.2.1).1 ∧ (4 : Int) = (keyR x.1 x.2.1).2.1) ∧ (decide (63 < (↑x.1.2.length : Int)) = false → x.1.2.length + (((0 : Int) :: ([] : List Int)).set (0 : Nat) x.2.1).length ≤ (9223372036854775807 : Nat) ∧ (([] : List (List Int)) ++ x.1.1, x.1.2 ++ ((0 : Int) :: ([] : List Int)).set (0 : Nat) x.2.1) = (keyR x.1 x.2.1).1 ∧ (0 : Int) = (keyR x.1 x.2.1).2.1)))))))

theorem E_qkey_eq (x : HL (cKey : Ctr).as) : vc (fx_qkey x) 2 40 Tryz.f40 (cKey) x = E_qkey x := by kernel_rfl

end
end Go.Proofs.YtlmddcdafggphaaGreatDoor.Tty
