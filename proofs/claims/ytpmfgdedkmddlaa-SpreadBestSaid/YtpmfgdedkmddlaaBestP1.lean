/-
  SpreadBest: the conditions.
-/
import Derived.Test.YtpmfgdedkmddlaaBestP0
namespace Go.Proofs.Ytpmfgdedkmddlaa.Best
open Go.Sx
set_option maxRecDepth 100000
set_option maxHeartbeats 1000000
set_option linter.unusedSimpArgs false
set_option linter.unusedVariables false

theorem takeI_succ {α : Type} (d : α) {l : List α} {k : Int} (h0 : 0 ≤ k) (h1 : k < l.length) : l.take (k + 1).toNat = l.take k.toNat ++ [l.getD k.toNat d] := by
  have e : (k + 1).toNat = k.toNat + 1 := by omega
  have hlt : k.toNat < l.length := by omega
  rw [e, List.take_add_one, List.getElem?_eq_getElem hlt]
  simp [hlt]
theorem takeI_all {α : Type} {l : List α} {k : Int} (h : (l.length : Int) ≤ k) : l.take k.toNat = l := List.take_of_length_le (by omega)
theorem mx_one {l : List Int} (h : 0 < l.length) : l.getD 0 0 = mx (l.take 1) := by
  cases l with
  | nil => simp at h
  | cons a l => rfl
theorem mx_succ {l : List Int} {k : Int} (h0 : 1 ≤ k) (h1 : k < l.length) : mx (l.take (k + 1).toNat) = max (mx (l.take k.toNat)) (l.getD k.toNat 0) := by
  rw [takeI_succ 0 (by omega) h1]
  cases l with
  | nil => simp at h1; omega
  | cons a l =>
    have e : k.toNat = (k.toNat - 1) + 1 := by omega
    rw [e]
    simp [mx, List.foldl_append]
theorem e_max (x : List Int × Unit) (hp : 0 < x.1.length) (hl : LensL cMax.as x) : E_max x := by
  obtain ⟨l, u⟩ := x
  have hlen : l.length ≤ 9223372036854775807 := hl.1.1
  simp only [] at hp
  have h1 := mx_one hp
  have h2 := fun (k : Int) h0 h1 => mx_succ (l := l) (k := k) h0 h1
  unfold E_max
  simp only [Bool.not_eq_true', Bool.not_eq_false', Bool.not_eq_true, Bool.not_eq_false, beq_self_eq_true, decide_eq_true_eq, decide_eq_false_iff_not, Bool.not_false, Bool.not_true, beq_iff_eq, beq_eq_false_iff_ne, bne_iff_ne, ne_eq, bne_eq_false_iff_eq, holds_iff, true_and, and_true, and_self, eq_self, List.length_cons, List.length_nil, List.length_append, List.length_set, List.length_replicate, List.set_cons_zero, cond_true, cond_false, Bool.false_eq_true, Bool.true_eq_false, forall_const, false_imp_iff, imp_self, implies_true, and_imp, Decidable.not_not, Bool.and_eq_true, Bool.or_eq_true, Bool.and_eq_false_iff, Bool.or_eq_false_iff, ← List.length_eq_zero_iff, or_self, or_false, false_or, Prod.forall, Int.reduceEq, Int.reduceLT, Int.reduceLE, List.nil_append, Nat.zero_add, Int.toNat_zero, List.drop_zero, List.length_drop, List.length_take, not_true_eq_false, not_false_eq_true]
  try simp only [flip_f, flip_t, decide_eq_true_eq, decide_eq_false_iff_not]
  repeat' (first | with_reducible apply And.intro | with_reducible intro _)
  all_goals try omega
  all_goals grind [takeI_all]
theorem all_false {l : List Int} {k : Nat} (h : k < l.length) (hb : inS (l.getD k 0) = false) : l.all inS = false := by
  rw [List.all_eq_false]
  refine ⟨l.getD k 0, ?_, by rw [hb]; decide⟩
  rw [List.getD_eq_getElem?_getD, List.getElem?_eq_getElem h]
  exact List.getElem_mem h
theorem inS_bad {a : Int} (h : a < 0 ∨ 1073741824 < a) : inS a = false := by unfold inS; grind
theorem inS_ok {a : Int} (h : 0 ≤ a) (h' : a ≤ 1073741824) : inS a = true := by unfold inS; grind
theorem all_next {l : List Int} {k : Int} (h0 : 0 ≤ k) (h : k < l.length) (ha : (l.take k.toNat).all inS = true) (h1 : ¬ l.getD k.toNat 0 < 0) (h2 : ¬ 1073741824 < l.getD k.toNat 0) : (l.take (k + 1).toNat).all inS = true := by
  rw [takeI_succ 0 h0 h, List.all_append, ha, List.all_cons, inS_ok (by omega) (by omega)]
  rfl
theorem all_get {l : List Int} {k : Nat} (h : k < l.length) (ha : l.all inS = true) : 0 ≤ l.getD k 0 ∧ l.getD k 0 ≤ 1073741824 := by
  have := List.all_eq_true.1 ha (l.getD k 0) (by rw [List.getD_eq_getElem?_getD, List.getElem?_eq_getElem h]; exact List.getElem_mem h)
  unfold inS at this
  grind
theorem e_any (x : List Int × Unit) (hpre : True) (hlens : LensL cAny.as x) : E_any x := by
  obtain ⟨x, u⟩ := x
  have hlx : x.length ≤ 9223372036854775807 := hlens.1.1
  unfold E_any
  simp only [Bool.not_eq_true', Bool.not_eq_false', Bool.not_eq_true, Bool.not_eq_false, beq_self_eq_true, decide_eq_true_eq, decide_eq_false_iff_not, Bool.not_false, Bool.not_true, beq_iff_eq, beq_eq_false_iff_ne, bne_iff_ne, ne_eq, bne_eq_false_iff_eq, holds_iff, true_and, and_true, and_self, eq_self, List.length_cons, List.length_nil, List.length_append, List.length_set, List.length_replicate, List.set_cons_zero, cond_true, cond_false, Bool.false_eq_true, Bool.true_eq_false, forall_const, false_imp_iff, imp_self, implies_true, and_imp, Decidable.not_not, Bool.and_eq_true, Bool.or_eq_true, Bool.and_eq_false_iff, Bool.or_eq_false_iff, ← List.length_eq_zero_iff, or_self, or_false, false_or, Prod.forall, Int.reduceEq, Int.reduceLT, Int.reduceLE, List.nil_append, Nat.zero_add, Int.toNat_zero, List.drop_zero, List.length_drop, List.length_take, not_true_eq_false, not_false_eq_true,  pair_eta]
  refine ⟨⟨by omega, rfl⟩, ?_⟩
  intro k _ h0 h1 h2 _ _
  refine ⟨fun h => ⟨⟨h0, h⟩, fun hb => ?_, fun g1 g2 => ⟨by omega, ⟨by omega, by omega, all_next h0 h h2 g1 g2⟩, by omega⟩⟩, fun h => ?_⟩
  · rw [all_false (by omega) (inS_bad hb), decide_eq_true h0]; rfl
  · rw [takeI_all (by omega)] at h2
    rw [h2]; rfl
theorem e_wrong (x : List Int × Int × Unit) (hp : True) (hl : LensL cWrong.as x) : E_wrong x := by
  obtain ⟨l, c, u⟩ := x
  have hlen : l.length ≤ 9223372036854775807 := hl.1.1
  unfold E_wrong wrong
  simp only [Bool.not_eq_true', Bool.not_eq_false', Bool.not_eq_true, Bool.not_eq_false, beq_self_eq_true, decide_eq_true_eq, decide_eq_false_iff_not, Bool.not_false, Bool.not_true, beq_iff_eq, beq_eq_false_iff_ne, bne_iff_ne, ne_eq, bne_eq_false_iff_eq, holds_iff, true_and, and_true, and_self, eq_self, List.length_cons, List.length_nil, List.length_append, List.length_set, List.length_replicate, List.set_cons_zero, cond_true, cond_false, Bool.false_eq_true, Bool.true_eq_false, forall_const, false_imp_iff, imp_self, implies_true, and_imp, Decidable.not_not, Bool.and_eq_true, Bool.or_eq_true, Bool.and_eq_false_iff, Bool.or_eq_false_iff, ← List.length_eq_zero_iff, or_self, or_false, false_or, Prod.forall, Int.reduceEq, Int.reduceLT, Int.reduceLE, List.nil_append, Nat.zero_add, Int.toNat_zero, List.drop_zero, List.length_drop, List.length_take, not_true_eq_false, not_false_eq_true]
  try simp only [flip_f, flip_t, decide_eq_true_eq, decide_eq_false_iff_not]
  repeat' (first | with_reducible apply And.intro | with_reducible intro _)
  all_goals try omega
  all_goals grind
theorem ok_next {l : List Int} {c k : Int} {ok : Bool} (h0 : 0 ≤ k) (h1 : k < l.length) (h : ok = true ↔ 1 ≤ c ∧ c ≤ 8 ∧ l.length ≤ 400 ∧ (l.take k.toNat).all inS = true) :
    (ok = true ∧ 0 ≤ l.getD k.toNat 0) ∧ l.getD k.toNat 0 ≤ 1073741824 ↔ 1 ≤ c ∧ c ≤ 8 ∧ l.length ≤ 400 ∧ (l.take (k + 1).toNat).all inS = true := by
  have e : (l.take (k + 1).toNat).all inS = true ↔ (l.take k.toNat).all inS = true ∧ 0 ≤ l.getD k.toNat 0 ∧ l.getD k.toNat 0 ≤ 1073741824 := by
    rw [takeI_succ 0 h0 h1, List.all_append, List.all_cons, List.all_nil, Bool.and_true, Bool.and_eq_true]
    unfold inS
    simp
  rw [h, e]
  grind
theorem e_ewrong (x : List Int × Int × Unit) (hp : True) (hl : LensL cWrong.as x) : E_ewrong x := by
  obtain ⟨l, c, u⟩ := x
  have hlen : l.length ≤ 9223372036854775807 := hl.1.1
  unfold E_ewrong wrong
  simp only [Bool.not_eq_true', Bool.not_eq_false', Bool.not_eq_true, Bool.not_eq_false, beq_self_eq_true, decide_eq_true_eq, decide_eq_false_iff_not, Bool.not_false, Bool.not_true, beq_iff_eq, beq_eq_false_iff_ne, bne_iff_ne, ne_eq, bne_eq_false_iff_eq, holds_iff, true_and, and_true, and_self, eq_self, List.length_cons, List.length_nil, List.length_append, List.length_set, List.length_replicate, List.set_cons_zero, cond_true, cond_false, Bool.false_eq_true, Bool.true_eq_false, forall_const, false_imp_iff, imp_self, implies_true, and_imp, Decidable.not_not, Bool.and_eq_true, Bool.or_eq_true, Bool.and_eq_false_iff, Bool.or_eq_false_iff, ← List.length_eq_zero_iff, or_self, or_false, false_or, Prod.forall, Int.reduceEq, Int.reduceLT, Int.reduceLE, List.nil_append, Nat.zero_add, Int.toNat_zero, List.drop_zero, List.length_drop, List.length_take, not_true_eq_false, not_false_eq_true]
  try simp only [flip_f, flip_t, decide_eq_true_eq, decide_eq_false_iff_not]
  repeat' (first | with_reducible apply And.intro | with_reducible intro _)
  all_goals try omega
  all_goals first | (exact ok_next (by assumption) (by assumption) (by assumption)) | grind [takeI_all]

end Go.Proofs.Ytpmfgdedkmddlaa.Best
