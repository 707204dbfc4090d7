/-
  SpreadPlans: the turn.
-/
import Derived.Test.YtpmfgdedkmddlaaPlansP1
namespace Go.Proofs.Ytpmfgdedkmddlaa.Plans
open Go.Sx
set_option maxRecDepth 100000
set_option maxHeartbeats 1000000
set_option linter.unusedSimpArgs false
set_option linter.unusedVariables false

def rix (a m b : Int) (k : Nat) : Nat := if (k : Int) < a then k else if (k : Int) < a + (b - m) then (k - a + m).toNat else if (k : Int) < b then (k - (b - m)).toNat else k
def six (a b n : Int) (k : Nat) : Nat := if a ≤ (k : Int) ∧ (k : Int) < a + n then (k - a + b).toNat else if b ≤ (k : Int) ∧ (k : Int) < b + n then (k - b + a).toNat else k
theorem seg_len {d : List Int} {a b : Int} (h : b ≤ d.length) : (seg d a b).length = b.toNat - a.toNat := by
  simp [seg]; omega
theorem seg_get {d : List Int} {a b : Int} {k : Nat} : (seg d a b)[k]? = if a.toNat + k < b.toNat then d[a.toNat + k]? else none := by
  simp [seg, List.getElem?_drop, List.getElem?_take]
theorem rot_get {d : List Int} {a m b : Int} (h0 : 0 ≤ a) (h1 : a ≤ m) (h2 : m ≤ b) (h3 : b ≤ d.length) (k : Nat) : (rot d a m b)[k]? = d[rix a m b k]? := by
  unfold rot rix
  rw [List.getElem?_append, List.getElem?_append, List.getElem?_append, seg_len h3, seg_len (by omega), seg_get, seg_get, List.getElem?_take, List.getElem?_drop, List.length_take]
  grind
theorem swp_get {d : List Int} {i j : Int} (h0 : 0 ≤ i) (h1 : i < d.length) (h2 : 0 ≤ j) (h3 : j < d.length) (k : Nat) : (swp d i j)[k]? = d[if (k : Int) = j then i.toNat else if (k : Int) = i then j.toNat else k]? := by
  unfold swp
  simp only [List.getElem?_set, List.getD_eq_getElem?_getD]
  grind
theorem swaps_get {d : List Int} {a b : Int} {n : Nat} (h0 : 0 ≤ a) (h1 : a + n ≤ b) (h2 : b + n ≤ d.length) (k : Nat) : (swaps d a b n)[k]? = d[six a b n k]? := by
  induction n generalizing k with
  | zero =>
    unfold swaps six
    congr 1
    split <;> (try split) <;> omega
  | succ n ih =>
    rw [swaps, swp_get (by omega) (by rw [swaps_len]; omega) (by omega) (by rw [swaps_len]; omega), ih (by omega) (by omega)]
    congr 1
    unfold six
    repeat' split
    all_goals omega
theorem rot_len {d : List Int} {a m b : Int} (h0 : 0 ≤ a) (h1 : a ≤ m) (h2 : m ≤ b) (h3 : b ≤ d.length) : (rot d a m b).length = d.length := by
  unfold rot
  simp [seg_len h3, seg_len (d := d) (a := a) (b := m) (by omega)]
  omega
theorem rot_lt {d : List Int} {m i j : Int} (h0 : 1 ≤ i) (h1 : 1 ≤ j) (h2 : i ≤ m) (h3 : m + j ≤ d.length) (h : j < i) :
    rot (swaps d (m - i) m j.toNat) (m - (i - j)) m (m + j) = rot d (m - i) m (m + j) := by
  apply List.ext_getElem?
  intro k
  rw [rot_get (by omega) (by omega) (by omega) (by rw [swaps_len]; omega), rot_get (by omega) (by omega) (by omega) (by omega), swaps_get (by omega) (by omega) (by omega)]
  congr 1
  unfold rix six
  repeat' split
  all_goals omega
theorem rot_gt {d : List Int} {m i j : Int} (h0 : 1 ≤ i) (h1 : 1 ≤ j) (h2 : i ≤ m) (h3 : m + j ≤ d.length) (h : i < j) :
    rot (swaps d (m - i) (m + j - i) i.toNat) (m - i) m (m + (j - i)) = rot d (m - i) m (m + j) := by
  apply List.ext_getElem?
  intro k
  rw [rot_get (by omega) (by omega) (by omega) (by rw [swaps_len]; omega), rot_get (by omega) (by omega) (by omega) (by omega), swaps_get (by omega) (by omega) (by omega)]
  congr 1
  unfold rix six
  repeat' split
  all_goals omega
theorem rot_eq {d : List Int} {m i : Int} (h0 : 1 ≤ i) (h2 : i ≤ m) (h3 : m + i ≤ d.length) :
    swaps d (m - i) m i.toNat = rot d (m - i) m (m + i) := by
  apply List.ext_getElem?
  intro k
  rw [rot_get (by omega) (by omega) (by omega) (by omega), swaps_get (by omega) (by omega) (by omega)]
  congr 1
  unfold rix six
  repeat' split
  all_goals omega
theorem e_rot (x : List Int × Int × Int × Int × List Int × Unit) (hp : (0 ≤ x.2.1 ∧ x.2.1 < x.2.2.1 ∧ x.2.2.1 < x.2.2.2.1 ∧ x.2.2.2.1 ≤ x.1.length) ∧ x.1.length ≤ 400) (hl : pRot.lens x) : E_rot x := by
  obtain ⟨d, a, m, b, w, u⟩ := x
  simp only [] at hp
  have e1 : m - (m - a) = a := by omega
  have e2 : m + (b - m) = b := by omega
  unfold E_rot
  simp only [Bool.not_eq_true', Bool.not_eq_false', Bool.not_eq_true, Bool.not_eq_false, beq_self_eq_true, decide_eq_true_eq, decide_eq_false_iff_not, Bool.not_false, Bool.not_true, beq_iff_eq, beq_eq_false_iff_ne, bne_iff_ne, ne_eq, bne_eq_false_iff_eq, holds_iff, true_and, and_true, and_self, eq_self, List.length_cons, List.length_nil, List.length_append, List.length_set, List.length_replicate, List.set_cons_zero, cond_true, cond_false, Bool.false_eq_true, Bool.true_eq_false, forall_const, false_imp_iff, imp_self, implies_true, and_imp, Decidable.not_not, Bool.and_eq_true, Bool.or_eq_true, Bool.and_eq_false_iff, Bool.or_eq_false_iff, ← List.length_eq_zero_iff, or_self, or_false, false_or, Prod.forall, Int.reduceEq, Int.reduceLT, Int.reduceLE, List.nil_append, Nat.zero_add, Int.toNat_zero, List.drop_zero, List.length_drop, List.length_take, not_true_eq_false, not_false_eq_true,  e1, e2, swaps_len]
  clear hl
  repeat' (first | with_reducible apply And.intro | with_reducible intro _)
  all_goals try omega
  · rename_i g i j h1 h2 h3 h4 hlen hr _ _ _ _ _ _ _ _
    rw [rot_lt (by omega) (by omega) (by omega) (by omega) (by omega), hr]
  · rename_i g i j h1 h2 h3 h4 hlen hr _ _ _ _ _ _ _ _
    rw [rot_gt (by omega) (by omega) (by omega) (by omega) (by omega), hr]
  · rename_i g i j h1 h2 h3 h4 hlen hr _ _ _ _ _ _ _
    rw [rot_eq (by omega) (by omega) (by omega)]
    grind

end Go.Proofs.Ytpmfgdedkmddlaa.Plans
