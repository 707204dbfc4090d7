/-
 The conditions that the executor comes to, written out (by a tool of ours), and that they are the conditions (by the kernel).
-/
import Derived.Test.YtlnlichdidobpaaGreatDoorTtyC
namespace Go.Proofs.YtlnlichdidobpaaGreatDoor.Tty
open Go.Sx
set_option maxRecDepth 100000
noncomputable section
def ux (x : List Int × Unit) : Prop :=
 ∀ (b : Bool),
 (b = true → x.1 = ([] : List Int)) →
 (b = true → ([] : List Int) = x.1) ∧
 (b = false →
 (([] : List Int).length + x.1.length ≤ (9223372036854775807 : Nat) ∧
 (([] : List Int).length + x.1.length + (([] : List Int).length + x.1.length) / (4 : Nat) + (192 : Nat)) * (1 : Nat) ≤
 (281474976710656 : Nat)) ∧
 ([] : List Int) ++ x.1 = x.1)

theorem Az (x : HL (gq : ah).as) : vc (rN x) 1 88 Tryz.f88 (gq) x = ux x := by kernel_rfl

def HP (x : List (List Int) × Unit) : Prop := ((((0 : Int) ≤ (0 : Int) ∧ 0 ≤ (↑x.1.length : Int) ∧ (List.take (Int.toNat (0 : Int)) x.1).all fF = true) ∧ True) ∧ (x.1 = x.1 ∧ Value.func (Fn.func (120 : Nat)) ([] : List Value).toArray ([] : List Value).toArray = Value.func (Fn.func (120 : Nat)) ([] : List Value).toArray ([] : List Value).toArray ∧ (↑x.1.length : Int) = (↑x.1.length : Int) ∧ (0 : Int) = (0 : Int) ∧ True) ∧ True ∧ x.1 = x.1 ∧ Value.func (Fn.func (120 : Nat)) ([] : List Value).toArray ([] : List Value).toArray = Value.func (Fn.func (120 : Nat)) ([] : List Value).toArray ([] : List Value).toArray ∧ True ∧ True ∧ false = false ∧ x.1 = x.1 ∧ Value.func (Fn.func (120 : Nat)) ([] : List Value).toArray ([] : List Value).toArray = Value.func (Fn.func (120 : Nat)) ([] : List Value).toArray ([] : List Value).toArray ∧ True ∧ True ∧ True) ∧ ∀ (v0_0 : Int × Unit), 0 ≤ v0_0.1 ∧ v0_0.1 ≤ (↑x.1.length : Int) ∧ (List.take v0_0.1.toNat x.1).all fF = true → (-9223372036854775808 ≤ v0_0.1 ∧ v0_0.1 ≤ 9223372036854775807) ∧ True → (decide (v0_0.1 < (↑x.1.length : Int)) = true → (0 ≤ v0_0.1 ∧ v0_0.1 < (↑x.1.length : Int)) ∧ (decide (65 < (↑(x.1.getD v0_0.1.toNat ([] : List Int)).length : Int)) = true → decide (0 ≤ v0_0.1) = !x.1.all fF) ∧ (decide (65 < (↑(x.1.getD v0_0.1.toNat ([] : List Int)).length : Int)) = false → (-9223372036854775808 ≤ v0_0.1 + 1 ∧ v0_0.1 + 1 ≤ (9223372036854775807 : Int)) ∧ ((0 ≤ v0_0.1 + 1 ∧ v0_0.1 + 1 ≤ (↑x.1.length : Int) ∧ (List.take (v0_0.1 + 1).toNat x.1).all fF = true) ∧ ((↑x.1.length : Int) - (v0_0.1 + 1)).toNat < ((↑x.1.length : Int) - v0_0.1).toNat) ∧ (x.1 = x.1 ∧ Value.func (Fn.func (120 : Nat)) ([] : List Value).toArray ([] : List Value).toArray = Value.func (Fn.func (120 : Nat)) ([] : List Value).toArray ([] : List Value).toArray ∧ (↑x.1.length : Int) = (↑x.1.length : Int) ∧ v0_0.1 + 1 = v0_0.1 + 1 ∧ True) ∧ True ∧ x.1 = x.1 ∧ Value.func (Fn.func (120 : Nat)) ([] : List Value).toArray ([] : List Value).toArray = Value.func (Fn.func (120 : Nat)) ([] : List Value).toArray ([] : List Value).toArray ∧ True ∧ True ∧ false = false ∧ x.1 = x.1 ∧ Value.func (Fn.func (120 : Nat)) ([] : List Value).toArray ([] : List Value).toArray = Value.func (Fn.func (120 : Nat)) ([] : List Value).toArray ([] : List Value).toArray ∧ True ∧ True ∧ True)) ∧ (decide (v0_0.1 < (↑x.1.length : Int)) = false → decide ((0 : Int) ≤ (-1 : Int)) = !x.1.all fF)

theorem JY (x : HL (tq : ah).as) : Uo (DB x) 3 119 120 Tryz.f119 (tq) x = HP x := by kernel_rfl

def cy (x : (List (List Int) × List Int) × Unit) : Prop :=
 (decide ((↑x.1.2.length : Int) ≤ (64 : Int)) = true → decide ((↑x.1.2.length : Int) ≤ (64 : Int)) = true) ∧
 (decide ((↑x.1.2.length : Int) ≤ (64 : Int)) = true → decide ((↑x.1.2.length : Int) ≤ (64 : Int)) = true) ∧
 (decide ((↑x.1.2.length : Int) ≤ (64 : Int)) = true → decide ((↑x.1.2.length : Int) ≤ (64 : Int)) = true) ∧
 (decide ((↑x.1.2.length : Int) ≤ (64 : Int)) = true → decide ((↑x.1.2.length : Int) ≤ (64 : Int)) = true) ∧
 ((decide ((↑x.1.2.length : Int) ≤ (64 : Int)) && decide ((↑x.1.1.length : Int) ≤ (400 : Int))) = true →
 (decide ((↑x.1.2.length : Int) ≤ (64 : Int)) && decide ((↑x.1.1.length : Int) ≤ (400 : Int))) = true) ∧
 ((decide ((↑x.1.2.length : Int) ≤ (64 : Int)) && decide ((↑x.1.1.length : Int) ≤ (400 : Int))) = true →
 (decide ((↑x.1.2.length : Int) ≤ (64 : Int)) && decide ((↑x.1.1.length : Int) ≤ (400 : Int))) = true ∧
 Holds True ∧ (!!x.1.1.all fF) = aO x.1) ∧
 ((decide ((↑x.1.2.length : Int) ≤ (64 : Int)) && decide ((↑x.1.1.length : Int) ≤ (400 : Int))) = !true → false = aO x.1)

theorem dK (x : HL (aJ : ah).as) : vc (bQ x) 1 86 Tryz.f86 (aJ) x = cy x := by kernel_rfl

abbrev qV := (List (List Int) × List Int) × Int × Unit
abbrev dq := (Value.slice none (0 : Nat) (0 : Nat) = Value.slice none (0 : Nat) (0 : Nat) ∧ Value.slice none (0 : Nat) (0 : Nat) = Value.slice none (0 : Nat) (0 : Nat) ∧ True)
abbrev cN := (([] : List Int) :: ([] : List (List Int)))
abbrev cO (x : qV) := (x.1.1 = x.1.1 ∧ x.1.2 = x.1.2 ∧ True)
abbrev dM (v0_0 : (List (List Int) × Unit) × Int × Unit) := (v0_0.1.1.getD (nat_lit 0) ([] : List Int))
abbrev eT (x : qV) := ((↑x.1.1.length : Int) == (0 : Int))
abbrev dQ (v0_0 : (List (List Int) × Unit) × Int × Unit) (x : qV) := (x.1.1.getD v0_0.2.1.toNat ([] : List Int))
abbrev ky := (([] : List (List Int)), ([] : List Int))
abbrev aM (v0_0 : (List (List Int) × Unit) × Int × Unit) := (↑(dM v0_0).length : Int)
def pH (x : (List (List Int) × List Int) × Int × Unit) : Prop := Holds True ∧ ((!aO (x.1.1, x.1.2)) = true → ky = (bW x.1 x.2.1).1 ∧ ([] : List Int) = (bW x.1 x.2.1).2.1 ∧ (1 : Int) = (bW x.1 x.2.1).2.2.1) ∧ ((!aO (x.1.1, x.1.2)) = false → (decide (x.2.1 < 1) = true → ky = (bW x.1 x.2.1).1 ∧ ([] : List Int) = (bW x.1 x.2.1).2.1 ∧ (2 : Int) = (bW x.1 x.2.1).2.2.1) ∧ (decide (x.2.1 < 1) = false → ((eT x) = true → ky = (bW x.1 x.2.1).1 ∧ ([] : List Int) = (bW x.1 x.2.1).2.1 ∧ (7 : Int) = (bW x.1 x.2.1).2.2.1) ∧ ((eT x) = false → Holds (x.1.2.length ≤ (140737488355328 : Nat)) ∧ ((((0 : Int) ≤ (0 : Int) ∧ 0 ≤ (↑x.1.1.length : Int) ∧ ([] : List (List Int)) = List.take (Int.toNat (0 : Int)) x.1.1) ∧ True) ∧ ((True ∧ True) ∧ (True ∧ True) ∧ x.1.1 = x.1.1 ∧ (↑x.1.1.length : Int) = (↑x.1.1.length : Int) ∧ (0 : Int) = (0 : Int) ∧ True) ∧ ((True ∧ x.1.2 = x.1.2 ∧ True) ∧ ([] : List (List Int)) = ([] : List (List Int)) ∧ (cO x) ∧ dq ∧ dq ∧ True) ∧ x.1 = x.1 ∧ x.2.1 = x.2.1 ∧ (True ∧ True) ∧ True ∧ (True ∧ True) ∧ Value.slice none (0 : Nat) (0 : Nat) = Value.slice none (0 : Nat) (0 : Nat) ∧ (0 : Int) = (0 : Int) ∧ True ∧ True ∧ True ∧ True ∧ false = false ∧ (cO x) ∧ aO (x.1.1, x.1.2) = aO (x.1.1, x.1.2) ∧ (!aO (x.1.1, x.1.2)) = !aO (x.1.1, x.1.2) ∧ True ∧ false = false ∧ x.2.1 = x.2.1 ∧ decide (x.2.1 < 1) = decide (x.2.1 < 1) ∧ True ∧ false = false ∧ (True ∧ True) ∧ x.1.1 = x.1.1 ∧ (↑x.1.1.length : Int) = (↑x.1.1.length : Int) ∧ (eT x) = (eT x) ∧ True ∧ (cO x) ∧ True ∧ True ∧ True ∧ True ∧ True ∧ True ∧ True ∧ True ∧ True ∧ True ∧ True ∧ True ∧ True ∧ True ∧ True ∧ True ∧ True ∧ True ∧ True ∧ True ∧ True ∧ True ∧ True ∧ True ∧ True ∧ True ∧ True ∧ True ∧ True ∧ True ∧ True) ∧ ∀ (v0_0 : (List (List Int) × Unit) × Int × Unit), 0 ≤ v0_0.2.1 ∧ v0_0.2.1 ≤ (↑x.1.1.length : Int) ∧ v0_0.1.1 = List.take v0_0.2.1.toNat x.1.1 → ((v0_0.1.1.length ≤ (9223372036854775807 : Nat) ∧ ∀ (v1_0 : List Int), v1_0 ∈ v0_0.1.1 → v1_0.length ≤ (9223372036854775807 : Nat) ∧ ∀ (v2_0 : Int), v2_0 ∈ v1_0 → 0 ≤ v2_0 ∧ v2_0 ≤ 255) ∧ True) ∧ (-9223372036854775808 ≤ v0_0.2.1 ∧ v0_0.2.1 ≤ 9223372036854775807) ∧ True → (decide (v0_0.2.1 < (↑x.1.1.length : Int)) = true → (0 ≤ v0_0.2.1 ∧ v0_0.2.1 < (↑x.1.1.length : Int)) ∧ Holds ((dQ v0_0 x).length ≤ (140737488355328 : Nat)) ∧ (v0_0.1.1.length + (cN.set (0 : Nat) (dQ v0_0 x)).length ≤ (9223372036854775807 : Nat) ∧ (v0_0.1.1.length + (cN.set (0 : Nat) (dQ v0_0 x)).length + (v0_0.1.1.length + (cN.set (0 : Nat) (dQ v0_0 x)).length) / (4 : Nat) + (192 : Nat)) * (24 : Nat) ≤ (281474976710656 : Nat)) ∧ (-9223372036854775808 ≤ v0_0.2.1 + 1 ∧ v0_0.2.1 + 1 ≤ (9223372036854775807 : Int)) ∧ ((0 ≤ v0_0.2.1 + 1 ∧ v0_0.2.1 + 1 ≤ (↑x.1.1.length : Int) ∧ v0_0.1.1 ++ cN.set (0 : Nat) (dQ v0_0 x) = List.take (v0_0.2.1 + 1).toNat x.1.1) ∧ ((↑x.1.1.length : Int) - (v0_0.2.1 + 1)).toNat < ((↑x.1.1.length : Int) - v0_0.2.1).toNat) ∧ ((True ∧ True) ∧ (True ∧ True) ∧ x.1.1 = x.1.1 ∧ (↑x.1.1.length : Int) = (↑x.1.1.length : Int) ∧ v0_0.2.1 + 1 = v0_0.2.1 + 1 ∧ True) ∧ ((True ∧ x.1.2 = x.1.2 ∧ True) ∧ v0_0.1.1 ++ cN.set (0 : Nat) (dQ v0_0 x) = v0_0.1.1 ++ cN.set (0 : Nat) (dQ v0_0 x) ∧ (cO x) ∧ dq ∧ dq ∧ True) ∧ x.1 = x.1 ∧ x.2.1 = x.2.1 ∧ (True ∧ True) ∧ True ∧ (True ∧ True) ∧ Value.slice none (0 : Nat) (0 : Nat) = Value.slice none (0 : Nat) (0 : Nat) ∧ (0 : Int) = (0 : Int) ∧ True ∧ True ∧ True ∧ True ∧ false = false ∧ (cO x) ∧ aO (x.1.1, x.1.2) = aO (x.1.1, x.1.2) ∧ (!aO (x.1.1, x.1.2)) = !aO (x.1.1, x.1.2) ∧ True ∧ false = false ∧ x.2.1 = x.2.1 ∧ decide (x.2.1 < 1) = decide (x.2.1 < 1) ∧ True ∧ false = false ∧ (True ∧ True) ∧ x.1.1 = x.1.1 ∧ (↑x.1.1.length : Int) = (↑x.1.1.length : Int) ∧ (eT x) = (eT x) ∧ True ∧ (cO x) ∧ True ∧ True ∧ True ∧ True ∧ True ∧ True ∧ True ∧ True ∧ True ∧ True ∧ True ∧ True ∧ True ∧ True ∧ True ∧ True ∧ True ∧ True ∧ True ∧ True ∧ True ∧ True ∧ True ∧ True ∧ True ∧ True ∧ True ∧ True ∧ True ∧ True ∧ True) ∧ (decide (v0_0.2.1 < (↑x.1.1.length : Int)) = false → ((0 : Int) ≤ (0 : Int) ∧ 0 < (↑v0_0.1.1.length : Int)) ∧ (((0 : Int) ≤ (0 : Int) ∧ 0 ≤ min x.2.1 (aM v0_0)) ∧ min x.2.1 (aM v0_0) ≤ (aM v0_0)) ∧ Holds ((List.drop (Int.toNat (0 : Int)) (List.take (min x.2.1 (aM v0_0)).toNat (dM v0_0))).length ≤ (140737488355328 : Nat)) ∧ ((min x.2.1 (aM v0_0) == (aM v0_0)) = true → (((0 : Int) ≤ (1 : Int) ∧ 1 ≤ (↑v0_0.1.1.length : Int)) ∧ (↑v0_0.1.1.length : Int) ≤ (↑v0_0.1.1.length : Int)) ∧ (List.drop (Int.toNat (1 : Int)) (List.take (↑v0_0.1.1.length : Int).toNat v0_0.1.1), x.1.2) = (bW x.1 x.2.1).1 ∧ List.drop (Int.toNat (0 : Int)) (List.take (min x.2.1 (aM v0_0)).toNat (dM v0_0)) = (bW x.1 x.2.1).2.1 ∧ (0 : Int) = (bW x.1 x.2.1).2.2.1) ∧ ((min x.2.1 (aM v0_0) == (aM v0_0)) = false → ((0 ≤ min x.2.1 (aM v0_0) ∧ min x.2.1 (aM v0_0) ≤ (aM v0_0)) ∧ (aM v0_0) ≤ (aM v0_0)) ∧ Holds ((List.drop (min x.2.1 (aM v0_0)).toNat (List.take (aM v0_0).toNat (dM v0_0))).length ≤ (140737488355328 : Nat)) ∧ ((0 : Int) ≤ (0 : Int) ∧ 0 < (↑v0_0.1.1.length : Int)) ∧ (v0_0.1.1.set (nat_lit 0) (List.drop (min x.2.1 (aM v0_0)).toNat (List.take (aM v0_0).toNat (dM v0_0))), x.1.2) = (bW x.1 x.2.1).1 ∧ List.drop (Int.toNat (0 : Int)) (List.take (min x.2.1 (aM v0_0)).toNat (dM v0_0)) = (bW x.1 x.2.1).2.1 ∧ (0 : Int) = (bW x.1 x.2.1).2.2.1)))))

theorem sn (x : HL (dV : ah).as) : vc (mm x) 2 63 Tryz.f63 (dV) x = pH x := by kernel_rfl

abbrev pT := (([] : List Int) :: ([] : List (List Int)))
abbrev B7 := (Value.slice none (0 : Nat) (0 : Nat) = Value.slice none (0 : Nat) (0 : Nat) ∧ Value.slice none (0 : Nat) (0 : Nat) = Value.slice none (0 : Nat) (0 : Nat) ∧ True)
abbrev nO (v0_0 : (List (List Int) × Unit) × Int × Unit) (x : (List (List Int) × List Int) × Unit) := (x.1.1.getD v0_0.2.1.toNat ([] : List Int))
def Iz (x : (List (List Int) × List Int) × Unit) : Prop := Holds (x.1.2.length ≤ (140737488355328 : Nat)) ∧ ((((0 : Int) ≤ (0 : Int) ∧ 0 ≤ (↑x.1.1.length : Int) ∧ ([] : List (List Int)) = List.take (Int.toNat (0 : Int)) x.1.1) ∧ True) ∧ ((True ∧ True) ∧ (True ∧ True) ∧ x.1.1 = x.1.1 ∧ (↑x.1.1.length : Int) = (↑x.1.1.length : Int) ∧ (0 : Int) = (0 : Int) ∧ True) ∧ ((True ∧ x.1.2 = x.1.2 ∧ True) ∧ ([] : List (List Int)) = ([] : List (List Int)) ∧ B7 ∧ True) ∧ True) ∧ ∀ (v0_0 : (List (List Int) × Unit) × Int × Unit), 0 ≤ v0_0.2.1 ∧ v0_0.2.1 ≤ (↑x.1.1.length : Int) ∧ v0_0.1.1 = List.take v0_0.2.1.toNat x.1.1 → ((v0_0.1.1.length ≤ (9223372036854775807 : Nat) ∧ ∀ (v1_0 : List Int), v1_0 ∈ v0_0.1.1 → v1_0.length ≤ (9223372036854775807 : Nat) ∧ ∀ (v2_0 : Int), v2_0 ∈ v1_0 → 0 ≤ v2_0 ∧ v2_0 ≤ 255) ∧ True) ∧ (-9223372036854775808 ≤ v0_0.2.1 ∧ v0_0.2.1 ≤ 9223372036854775807) ∧ True → (decide (v0_0.2.1 < (↑x.1.1.length : Int)) = true → (0 ≤ v0_0.2.1 ∧ v0_0.2.1 < (↑x.1.1.length : Int)) ∧ Holds ((nO v0_0 x).length ≤ (140737488355328 : Nat)) ∧ (v0_0.1.1.length + (pT.set (0 : Nat) (nO v0_0 x)).length ≤ (9223372036854775807 : Nat) ∧ (v0_0.1.1.length + (pT.set (0 : Nat) (nO v0_0 x)).length + (v0_0.1.1.length + (pT.set (0 : Nat) (nO v0_0 x)).length) / (4 : Nat) + (192 : Nat)) * (24 : Nat) ≤ (281474976710656 : Nat)) ∧ (-9223372036854775808 ≤ v0_0.2.1 + 1 ∧ v0_0.2.1 + 1 ≤ (9223372036854775807 : Int)) ∧ ((0 ≤ v0_0.2.1 + 1 ∧ v0_0.2.1 + 1 ≤ (↑x.1.1.length : Int) ∧ v0_0.1.1 ++ pT.set (0 : Nat) (nO v0_0 x) = List.take (v0_0.2.1 + 1).toNat x.1.1) ∧ ((↑x.1.1.length : Int) - (v0_0.2.1 + 1)).toNat < ((↑x.1.1.length : Int) - v0_0.2.1).toNat) ∧ ((True ∧ True) ∧ (True ∧ True) ∧ x.1.1 = x.1.1 ∧ (↑x.1.1.length : Int) = (↑x.1.1.length : Int) ∧ v0_0.2.1 + 1 = v0_0.2.1 + 1 ∧ True) ∧ ((True ∧ x.1.2 = x.1.2 ∧ True) ∧ v0_0.1.1 ++ pT.set (0 : Nat) (nO v0_0 x) = v0_0.1.1 ++ pT.set (0 : Nat) (nO v0_0 x) ∧ B7 ∧ True) ∧ True) ∧ (decide (v0_0.2.1 < (↑x.1.1.length : Int)) = false → (v0_0.1.1, x.1.2) = x.1)

theorem Lo (x : HL (tr : ah).as) : vc (Db x) 1 87 Tryz.f87 (tr) x = Iz x := by kernel_rfl

def vX (x : List Int × Unit) : Prop :=
 ∀ (b : Bool),
 (b = true → x.1 = ([] : List Int)) →
 (b = true → ([] : List Int) = x.1) ∧
 (b = false →
 (([] : List Int).length + x.1.length ≤ (9223372036854775807 : Nat) ∧
 (([] : List Int).length + x.1.length + (([] : List Int).length + x.1.length) / (4 : Nat) + (192 : Nat)) * (1 : Nat) ≤
 (281474976710656 : Nat)) ∧
 ([] : List Int) ++ x.1 = x.1)

theorem Bf (x : HL (b7 : ah).as) : vc (se x) 1 88 Tryz.f88 (b7) x = vX x := by kernel_rfl

def uJ (x : List (List Int) × Unit) : Prop :=
 ∀ (b : Bool),
 (b = true → x.1 = ([] : List (List Int))) →
 (b = true → ([] : List (List Int)) = x.1) ∧
 (b = false →
 (([] : List (List Int)).length + x.1.length ≤ (9223372036854775807 : Nat) ∧
 (([] : List (List Int)).length + x.1.length + (([] : List (List Int)).length + x.1.length) / (4 : Nat) + (192 : Nat)) * (24 : Nat) ≤
 (281474976710656 : Nat)) ∧
 ([] : List (List Int)) ++ x.1 = x.1)

theorem Bs (x : HL (gu : ah).as) : vc (rX x) 1 139 Tryz.f139 (gu) x = uJ x := by kernel_rfl

def wu (x : List Int × Unit) : Prop :=
 ∀ (b : Bool),
 (b = true → x.1 = ([] : List Int)) →
 (b = true → ([] : List Int) = x.1) ∧
 (b = false →
 (([] : List Int).length + x.1.length ≤ (9223372036854775807 : Nat) ∧
 (([] : List Int).length + x.1.length + (([] : List Int).length + x.1.length) / (4 : Nat) + (192 : Nat)) * (1 : Nat) ≤
 (281474976710656 : Nat)) ∧
 ([] : List Int) ++ x.1 = x.1)

theorem Be (x : HL (b7 : ah).as) : vc (sH x) 1 30 Tryz.f30 (b7) x = wu x := by kernel_rfl

abbrev tV (v0_0 : Int × Unit) := (decide (0 < v0_0.1) = true → decide (0 < v0_0.1) = true)
abbrev tS (v0_1 : Int × Unit) := (decide (0 < v0_1.1) = true → decide (0 < v0_1.1) = true)
def DE (x : List Int × Unit) : Prop := (((0 ≤ (↑x.1.length : Int) ∧ (↑x.1.length : Int) ≤ (↑x.1.length : Int) ∧ ew x.1 (↑x.1.length : Int).toNat = ew x.1 x.1.length) ∧ True) ∧ (x.1 = x.1 ∧ (↑x.1.length : Int) = (↑x.1.length : Int) ∧ True) ∧ True ∧ True) ∧ ∀ (v0_0 : Int × Unit), 0 ≤ v0_0.1 ∧ v0_0.1 ≤ (↑x.1.length : Int) ∧ ew x.1 v0_0.1.toNat = ew x.1 x.1.length → (-9223372036854775808 ≤ v0_0.1 ∧ v0_0.1 ≤ 9223372036854775807) ∧ True → (decide (0 < v0_0.1) = true → decide (0 < v0_0.1) = true ∧ -9223372036854775808 ≤ v0_0.1 - 1 ∧ v0_0.1 - 1 ≤ (9223372036854775807 : Int)) ∧ (decide (0 < v0_0.1) = true → (decide (0 < v0_0.1) = true ∧ decide (0 < v0_0.1) = true) ∧ 0 ≤ v0_0.1 - 1 ∧ v0_0.1 - 1 < (↑x.1.length : Int)) ∧ (tV v0_0) ∧ (tV v0_0) ∧ (tV v0_0) ∧ ((decide (0 < v0_0.1) && x.1.getD (v0_0.1 - 1).toNat (0 : Int) == (32 : Int)) = true → (-9223372036854775808 ≤ v0_0.1 - 1 ∧ v0_0.1 - 1 ≤ (9223372036854775807 : Int)) ∧ ((0 ≤ v0_0.1 - 1 ∧ v0_0.1 - 1 ≤ (↑x.1.length : Int) ∧ ew x.1 (v0_0.1 - 1).toNat = ew x.1 x.1.length) ∧ (v0_0.1 - 1).toNat < v0_0.1.toNat) ∧ (x.1 = x.1 ∧ v0_0.1 - 1 = v0_0.1 - 1 ∧ True) ∧ True ∧ True) ∧ ((decide (0 < v0_0.1) && x.1.getD (v0_0.1 - 1).toNat (0 : Int) == (32 : Int)) = false → (((0 ≤ v0_0.1 ∧ v0_0.1 ≤ (↑x.1.length : Int) ∧ gJ x.1 v0_0.1.toNat = lQ x.1) ∧ True) ∧ (x.1 = x.1 ∧ v0_0.1 = v0_0.1 ∧ True) ∧ True ∧ True) ∧ ∀ (v0_1 : Int × Unit), 0 ≤ v0_1.1 ∧ v0_1.1 ≤ (↑x.1.length : Int) ∧ gJ x.1 v0_1.1.toNat = lQ x.1 → (-9223372036854775808 ≤ v0_1.1 ∧ v0_1.1 ≤ 9223372036854775807) ∧ True → (decide (0 < v0_1.1) = true → decide (0 < v0_1.1) = true ∧ -9223372036854775808 ≤ v0_1.1 - 1 ∧ v0_1.1 - 1 ≤ (9223372036854775807 : Int)) ∧ (decide (0 < v0_1.1) = true → (decide (0 < v0_1.1) = true ∧ decide (0 < v0_1.1) = true) ∧ 0 ≤ v0_1.1 - 1 ∧ v0_1.1 - 1 < (↑x.1.length : Int)) ∧ (tS v0_1) ∧ (tS v0_1) ∧ (tS v0_1) ∧ ((decide (0 < v0_1.1) && x.1.getD (v0_1.1 - 1).toNat (0 : Int) != (32 : Int)) = true → (-9223372036854775808 ≤ v0_1.1 - 1 ∧ v0_1.1 - 1 ≤ (9223372036854775807 : Int)) ∧ ((0 ≤ v0_1.1 - 1 ∧ v0_1.1 - 1 ≤ (↑x.1.length : Int) ∧ gJ x.1 (v0_1.1 - 1).toNat = lQ x.1) ∧ (v0_1.1 - 1).toNat < v0_1.1.toNat) ∧ (x.1 = x.1 ∧ v0_1.1 - 1 = v0_1.1 - 1 ∧ True) ∧ True ∧ True) ∧ ((decide (0 < v0_1.1) && x.1.getD (v0_1.1 - 1).toNat (0 : Int) != (32 : Int)) = false → v0_1.1 = (↑(lQ x.1) : Int)))

theorem EU (x : HL (na : ah).as) : vc (yn x) 1 118 Tryz.f118 (na) x = DE x := by kernel_rfl

abbrev kA := (List (List Int) × List Int) × Int × Unit
abbrev ka := (([] : List Int) :: ([] : List (List Int)))
abbrev sc (x : kA) := (x.1.2 ++ ((0 : Int) :: ([] : List Int)).set (0 : Nat) x.2.1)
abbrev CT (x : kA) := (x.1.1, List.drop (Int.toNat (0 : Int)) (List.take (max ((↑x.1.2.length : Int) - 1) (0 : Int)).toNat x.1.2))
abbrev ug (x : kA) := (x.2.1 == 10 || x.2.1 == 4)
abbrev yS := (([] : List (List Int)), ([] : List Int))
abbrev yf (x : kA) := (((0 : Int) :: ([] : List Int)).set (0 : Nat) x.2.1)
abbrev Dm (x : kA) := (x.1.1, List.drop (Int.toNat (0 : Int)) (List.take (↑(lQ x.1.2) : Int).toNat x.1.2))
abbrev CG (x : kA) := (x.1.2.length + (yf x).length ≤ (9223372036854775807 : Nat) ∧ (x.1.2.length + (yf x).length + (x.1.2.length + (yf x).length) / (4 : Nat) + (192 : Nat)) * (1 : Nat) ≤ (281474976710656 : Nat))
abbrev wM (x : kA) := ((ug x) = true → (ug x) = true)
def Lq (x : (List (List Int) × List Int) × Int × Unit) : Prop := Holds True ∧ ((!aO (x.1.1, x.1.2)) = true → yS = (kj x.1 x.2.1).1 ∧ (1 : Int) = (kj x.1 x.2.1).2.1) ∧ ((!aO (x.1.1, x.1.2)) = false → ((!x.2.1 == 10) = true → (!x.2.1 == 10) = true) ∧ ((x.2.1 == 10) = false → (!x.2.1 == 10) = true) ∧ (wM x) ∧ (wM x) ∧ (wM x) ∧ (wM x) ∧ (((ug x) && (↑x.1.1.length : Int) == (400 : Int)) = true → yS = (kj x.1 x.2.1).1 ∧ (4 : Int) = (kj x.1 x.2.1).2.1) ∧ (((ug x) && (↑x.1.1.length : Int) == (400 : Int)) = false → ((x.2.1 == 10) = true → Holds (x.1.1.length * (24 : Nat) ≤ (140737488355328 : Nat)) ∧ Holds (x.1.2.length ≤ (140737488355328 : Nat)) ∧ (CG x) ∧ (x.1.1.length + (ka.set (0 : Nat) (sc x)).length ≤ (9223372036854775807 : Nat) ∧ (x.1.1.length + (ka.set (0 : Nat) (sc x)).length + (x.1.1.length + (ka.set (0 : Nat) (sc x)).length) / (4 : Nat) + (192 : Nat)) * (24 : Nat) ≤ (281474976710656 : Nat)) ∧ Holds (aO (x.1.1 ++ ka.set (0 : Nat) (sc x), ([] : List Int)) = true) ∧ (x.1.1 ++ ka.set (0 : Nat) (sc x), ([] : List Int)) = (kj x.1 x.2.1).1 ∧ (0 : Int) = (kj x.1 x.2.1).2.1) ∧ ((x.2.1 == 10) = false → ((x.2.1 == 4) = true → Holds (x.1.1.length * (24 : Nat) ≤ (140737488355328 : Nat)) ∧ Holds (x.1.2.length ≤ (140737488355328 : Nat)) ∧ (x.1.2.length + ([] : List Int).length ≤ (9223372036854775807 : Nat) ∧ (x.1.2.length + ([] : List Int).length + (x.1.2.length + ([] : List Int).length) / (4 : Nat) + (192 : Nat)) * (1 : Nat) ≤ (281474976710656 : Nat)) ∧ (x.1.1.length + (ka.set (0 : Nat) (x.1.2 ++ ([] : List Int))).length ≤ (9223372036854775807 : Nat) ∧ (x.1.1.length + (ka.set (0 : Nat) (x.1.2 ++ ([] : List Int))).length + (x.1.1.length + (ka.set (0 : Nat) (x.1.2 ++ ([] : List Int))).length) / (4 : Nat) + (192 : Nat)) * (24 : Nat) ≤ (281474976710656 : Nat)) ∧ Holds (aO (x.1.1 ++ ka.set (0 : Nat) (x.1.2 ++ ([] : List Int)), ([] : List Int)) = true) ∧ (x.1.1 ++ ka.set (0 : Nat) (x.1.2 ++ ([] : List Int)), ([] : List Int)) = (kj x.1 x.2.1).1 ∧ (0 : Int) = (kj x.1 x.2.1).2.1) ∧ ((x.2.1 == 4) = false → ((x.2.1 == 8) = true → (-9223372036854775808 ≤ (↑x.1.2.length : Int) - 1 ∧ (↑x.1.2.length : Int) - 1 ≤ (9223372036854775807 : Int)) ∧ (((0 : Int) ≤ (0 : Int) ∧ 0 ≤ max ((↑x.1.2.length : Int) - 1) (0 : Int)) ∧ max ((↑x.1.2.length : Int) - 1) 0 ≤ (↑x.1.2.length : Int)) ∧ Holds (aO (CT x) = true) ∧ (CT x) = (kj x.1 x.2.1).1 ∧ (0 : Int) = (kj x.1 x.2.1).2.1) ∧ ((x.2.1 == 8) = false → ((x.2.1 == 21) = true → Holds (aO (x.1.1, ([] : List Int)) = true) ∧ (x.1.1, ([] : List Int)) = (kj x.1 x.2.1).1 ∧ (0 : Int) = (kj x.1 x.2.1).2.1) ∧ ((x.2.1 == 21) = false → ((x.2.1 == 23) = true → Holds True ∧ (((0 : Int) ≤ (0 : Int) ∧ 0 ≤ (↑(lQ x.1.2) : Int)) ∧ (↑(lQ x.1.2) : Int) ≤ (↑x.1.2.length : Int)) ∧ Holds (aO (Dm x) = true) ∧ (Dm x) = (kj x.1 x.2.1).1 ∧ (0 : Int) = (kj x.1 x.2.1).2.1) ∧ ((x.2.1 == 23) = false → (((↑x.1.2.length : Int) == (64 : Int)) = true → yS = (kj x.1 x.2.1).1 ∧ (4 : Int) = (kj x.1 x.2.1).2.1) ∧ (((↑x.1.2.length : Int) == (64 : Int)) = false → Holds (x.1.2.length ≤ (140737488355328 : Nat)) ∧ (CG x) ∧ Holds (aO (x.1.1, x.1.2 ++ ((0 : Int) :: ([] : List Int)).set (0 : Nat) x.2.1) = true) ∧ (x.1.1, x.1.2 ++ ((0 : Int) :: ([] : List Int)).set (0 : Nat) x.2.1) = (kj x.1 x.2.1).1 ∧ (0 : Int) = (kj x.1 x.2.1).2.1))))))))

theorem Jh (x : HL (wK : ah).as) : vc (Cu x) 2 85 Tryz.f85 (wK) x = Lq x := by kernel_rfl

end
end Go.Proofs.YtlnlichdidobpaaGreatDoor.Tty
