/-
  RunqPlays: the plain law of the small functions.
-/
import Derived.Test.YtpmfgdedkmddlaaRunqE
namespace Go.Proofs.Ytpmfgdedkmddlaa.Runq
open Go.Sx
set_option maxRecDepth 100000
set_option maxHeartbeats 1000000
set_option linter.unusedSimpArgs false
set_option linter.unusedVariables false

theorem toNat1 : Int.toNat 1 = 1 := rfl
theorem takeI_succ {α : Type} (d : α) {l : List α} {k : Int} (h0 : 0 ≤ k) (h1 : k < l.length) : l.take (k + 1).toNat = l.take k.toNat ++ [l.getD k.toNat d] := by
  have e : (k + 1).toNat = k.toNat + 1 := by omega
  have hlt : k.toNat < l.length := by omega
  rw [e, List.take_add_one, List.getElem?_eq_getElem hlt]
  simp [hlt]
theorem takeI_all {α : Type} {l : List α} {k : Int} (h : (l.length : Int) ≤ k) : l.take k.toNat = l := List.take_of_length_le (by omega)
theorem idx_at {l : List Int} {x : Int} {k : Nat} (hk : k < l.length) (hn : (l.take k).idxOf? x = none) (hg : l.getD k 0 = x) : idx l x = k := by
  have e : l.idxOf? x = some k := by
    show l.findIdx? (· == x) = some k
    rw [List.findIdx?_eq_some_iff_getElem]
    refine ⟨hk, ?_, fun j hj => ?_⟩
    · have : l[k] = x := by rw [← hg]; simp [List.getD, hk]
      simp [this]
    · rw [List.idxOf?_eq_none_iff] at hn
      intro h
      have h : l[j] = x := by simpa using h
      exact hn (by rw [← h]; exact List.mem_take_iff_getElem.2 ⟨j, by omega, rfl⟩)
  unfold idx
  rw [e]
theorem idx_none {l : List Int} {x : Int} (h : l.idxOf? x = none) : idx l x = -1 := by
  unfold idx
  rw [h]
theorem take_none {l : List Int} {x : Int} {k : Int} (h0 : 0 ≤ k) (h1 : k < l.length) (hn : (l.take k.toNat).idxOf? x = none) (hg : ¬ l.getD k.toNat 0 = x) : (l.take (k + 1).toNat).idxOf? x = none := by
  rw [takeI_succ 0 h0 h1, List.idxOf?_eq_none_iff, List.mem_append]
  rw [List.idxOf?_eq_none_iff] at hn
  rintro (h | h)
  · exact hn h
  · exact hg (List.mem_singleton.1 h).symm
theorem e_index (x : List Int × Int × Unit) (hp : True) (hl : LensL cIndex.as x) : E_index x := by
  obtain ⟨l, b, u⟩ := x
  have hlen : l.length ≤ 9223372036854775807 := hl.1.1
  unfold E_index
  simp only [Bool.not_eq_true', Bool.not_eq_false', Bool.not_eq_true, Bool.not_eq_false, beq_self_eq_true, decide_eq_true_eq, decide_eq_false_iff_not, Bool.not_false, Bool.not_true, beq_iff_eq, beq_eq_false_iff_ne, bne_iff_ne, ne_eq, bne_eq_false_iff_eq, holds_iff, true_and, and_true, and_self, eq_self, List.length_cons, List.length_nil, List.length_append, List.length_set, List.length_replicate, List.set_cons_zero, cond_true, cond_false, Bool.false_eq_true, Bool.true_eq_false, forall_const, false_imp_iff, imp_self, implies_true, and_imp, Decidable.not_not, Bool.and_eq_true, Bool.or_eq_true, Bool.and_eq_false_iff, Bool.or_eq_false_iff, ← List.length_eq_zero_iff, or_self, or_false, false_or, Prod.forall, Int.reduceEq, Int.reduceLT, Int.reduceLE, List.nil_append, Nat.zero_add, Int.toNat_zero, List.drop_zero, List.length_drop, List.length_take, not_true_eq_false, not_false_eq_true]
  try simp only [flip_f, flip_t, decide_eq_true_eq, decide_eq_false_iff_not]
  refine ⟨⟨by omega, rfl⟩, ?_⟩
  intro k k0 k1 hn _ _
  refine ⟨fun k2 => ⟨⟨k0, k2⟩, fun h => ?_, fun h => ?_⟩, fun k2 => ?_⟩
  · rw [idx_at (by omega) hn (by first | exact h | exact h.symm)]; omega
  · refine ⟨by omega, ⟨by omega, by omega, ?_⟩, by omega⟩
    exact take_none k0 k2 hn (by first | exact h | exact fun e => h e.symm)
  · rw [takeI_all (by omega)] at hn
    rw [idx_none hn]
theorem e_equal (x : List Int × List Int × Unit) (_ : True) (hl : LensL cEqual.as x) : E_equal x := by
  obtain ⟨xs, ys, u⟩ := x
  have hlx : xs.length ≤ 9223372036854775807 := hl.1.1
  unfold E_equal
  simp only [Bool.not_eq_true', Bool.not_eq_false', Bool.not_eq_true, Bool.not_eq_false, beq_self_eq_true, decide_eq_true_eq, decide_eq_false_iff_not, Bool.not_false, Bool.not_true, beq_iff_eq, beq_eq_false_iff_ne, bne_iff_ne, ne_eq, bne_eq_false_iff_eq, holds_iff, true_and, and_true, and_self, eq_self, List.length_cons, List.length_nil, List.length_append, List.length_set, List.length_replicate, List.set_cons_zero, cond_true, cond_false, Bool.false_eq_true, Bool.true_eq_false, forall_const, false_imp_iff, imp_self, implies_true, and_imp, Decidable.not_not, Bool.and_eq_true, Bool.or_eq_true, Bool.and_eq_false_iff, Bool.or_eq_false_iff, ← List.length_eq_zero_iff, or_self, or_false, false_or, Prod.forall, Int.reduceEq, Int.reduceLT, Int.reduceLE, List.nil_append, Nat.zero_add, Int.toNat_zero, List.drop_zero, List.length_drop, List.length_take, not_true_eq_false, not_false_eq_true]
  try simp only [flip_f, flip_t, decide_eq_true_eq, decide_eq_false_iff_not]
  repeat' (first | with_reducible apply And.intro | with_reducible intro _)
  all_goals try omega
  all_goals grind [takeI_succ, takeI_all]
theorem e_equali (x : List Int × List Int × Unit) (_ : True) (hl : LensL cEqual.as x) : E_equali x := by
  obtain ⟨xs, ys, u⟩ := x
  have hlx : xs.length ≤ 9223372036854775807 := hl.1.1
  unfold E_equali
  simp only [Bool.not_eq_true', Bool.not_eq_false', Bool.not_eq_true, Bool.not_eq_false, beq_self_eq_true, decide_eq_true_eq, decide_eq_false_iff_not, Bool.not_false, Bool.not_true, beq_iff_eq, beq_eq_false_iff_ne, bne_iff_ne, ne_eq, bne_eq_false_iff_eq, holds_iff, true_and, and_true, and_self, eq_self, List.length_cons, List.length_nil, List.length_append, List.length_set, List.length_replicate, List.set_cons_zero, cond_true, cond_false, Bool.false_eq_true, Bool.true_eq_false, forall_const, false_imp_iff, imp_self, implies_true, and_imp, Decidable.not_not, Bool.and_eq_true, Bool.or_eq_true, Bool.and_eq_false_iff, Bool.or_eq_false_iff, ← List.length_eq_zero_iff, or_self, or_false, false_or, Prod.forall, Int.reduceEq, Int.reduceLT, Int.reduceLE, List.nil_append, Nat.zero_add, Int.toNat_zero, List.drop_zero, List.length_drop, List.length_take, not_true_eq_false, not_false_eq_true]
  try simp only [flip_f, flip_t, decide_eq_true_eq, decide_eq_false_iff_not]
  repeat' (first | with_reducible apply And.intro | with_reducible intro _)
  all_goals try omega
  all_goals grind [takeI_succ, takeI_all]
theorem e_clone (x : QL × Unit) (hp : x.1.length * 16 ≤ 140737488355328) (hl : LensL cCloneP.as x) : E_clone x := by
  obtain ⟨l, u⟩ := x
  simp only [] at hp
  unfold E_clone
  intro b hb
  refine ⟨fun h => (hb h).symm, fun _ => ⟨⟨?_, ?_⟩, rfl⟩⟩
  · simp only [List.length_nil]; omega
  · simp only [List.length_nil]; omega
/- Where one stands in the list. -/
theorem posQ_nil {id : Int} : posQ [] id = -1 := rfl
theorem posQ_neg {l : QL} {id : Int} : posQ l id = -1 ↔ ∀ e ∈ l, e.1 ≠ id := by
  unfold posQ
  cases h : l.findIdx? (fun e => decide (e.1 = id)) with
  | none =>
    rw [List.findIdx?_eq_none_iff] at h
    simp only [true_iff]
    exact fun e he e1 => by have := h e he; simp [e1] at this
  | some i =>
    obtain ⟨hi, h1, _⟩ := List.findIdx?_eq_some_iff_getElem.1 h
    simp only []
    refine ⟨fun e => by omega, fun e => absurd (by simpa using h1) (e _ (List.getElem_mem hi))⟩
theorem posQ_at {l : QL} {id : Int} {k : Nat} (hk : k < l.length) (hn : posQ (l.take k) id = -1) (hg : (l.getD k (0, 0)).1 = id) : posQ l id = k := by
  have e : l.findIdx? (fun e => decide (e.1 = id)) = some k := by
    rw [List.findIdx?_eq_some_iff_getElem]
    refine ⟨hk, ?_, fun j hj => ?_⟩
    · have : (l[k]).1 = id := by rw [← hg]; simp [List.getD, hk]
      simp [this]
    · rw [posQ_neg] at hn
      have := hn l[j] (List.mem_take_iff_getElem.2 ⟨j, by omega, rfl⟩)
      simpa using this
  unfold posQ
  rw [e]
theorem posQ_some {l : QL} {id : Int} (h : 0 ≤ posQ l id) : ∃ (k : Nat) (hk : k < l.length), posQ l id = k ∧ (l[k]).1 = id := by
  unfold posQ at h ⊢
  cases e : l.findIdx? (fun e => decide (e.1 = id)) with
  | none => rw [e] at h; simp at h
  | some i =>
    obtain ⟨hi, h1, _⟩ := List.findIdx?_eq_some_iff_getElem.1 e
    exact ⟨i, hi, rfl, by simpa using h1⟩
theorem posQ_ge {l : QL} {id : Int} : -1 ≤ posQ l id := by
  unfold posQ
  split <;> omega
theorem posQ_iff {l : QL} {id : Int} : 0 ≤ posQ l id ↔ id ∈ ids l := by
  constructor
  · intro h
    obtain ⟨k, hk, _, e⟩ := posQ_some h
    exact List.mem_map.2 ⟨l[k], List.getElem_mem hk, e⟩
  · intro h
    obtain ⟨e, he, e1⟩ := List.mem_map.1 h
    have := posQ_ge (l := l) (id := id)
    rcases Int.lt_or_le (posQ l id) 0 with g | g
    · exact absurd e1 (posQ_neg.1 (by omega) e he)
    · exact g
theorem e_idx (x : QL × RO × Unit) (hp : True) (hl : pIdx.lens x) : E_idx x := by
  obtain ⟨l, y, u⟩ := x
  have hlen : l.length ≤ 9223372036854775807 := hl.1.1
  unfold E_idx
  simp only [Bool.not_eq_true', Bool.not_eq_false', Bool.not_eq_true, Bool.not_eq_false, beq_self_eq_true, decide_eq_true_eq, decide_eq_false_iff_not, Bool.not_false, Bool.not_true, beq_iff_eq, beq_eq_false_iff_ne, bne_iff_ne, ne_eq, bne_eq_false_iff_eq, holds_iff, true_and, and_true, and_self, eq_self, List.length_cons, List.length_nil, List.length_append, List.length_set, List.length_replicate, List.set_cons_zero, cond_true, cond_false, Bool.false_eq_true, Bool.true_eq_false, forall_const, false_imp_iff, imp_self, implies_true, and_imp, Decidable.not_not, Bool.and_eq_true, Bool.or_eq_true, Bool.and_eq_false_iff, Bool.or_eq_false_iff, ← List.length_eq_zero_iff, or_self, or_false, false_or, Prod.forall, Int.reduceEq, Int.reduceLT, Int.reduceLE, List.nil_append, Nat.zero_add, Int.toNat_zero, List.drop_zero, List.length_drop, List.length_take, not_true_eq_false, not_false_eq_true]
  try simp only [flip_f, flip_t, decide_eq_true_eq, decide_eq_false_iff_not]
  refine ⟨⟨by omega, rfl⟩, ?_⟩
  intro k h0 h1 h2 _ _
  refine ⟨fun h => ⟨⟨h0, h⟩, fun hb => ?_, fun hb => ⟨by omega, ⟨⟨by omega, by omega, ?_⟩, by omega⟩⟩⟩, fun h => ?_⟩
  · rw [posQ_at (by omega) h2 hb]; omega
  · rw [takeI_succ (0, 0) h0 h, posQ_neg]
    intro e he
    rcases List.mem_append.1 he with g | g
    · exact posQ_neg.1 h2 e g
    · rw [List.mem_singleton.1 g]; exact hb
  · rw [takeI_all (by omega)] at h2
    exact h2.symm
theorem e_law (x : List RO × Unit) (hp : x.1.length * 24 ≤ 140737488355328) (hl : LensL cLaw.as x) : E_law x := by
  obtain ⟨x, u⟩ := x
  simp only [] at hp
  unfold E_law
  simp [holds_iff, hp]
theorem pre_law (x : HL cLaw.as) (_ : GoodL cLaw.as x) (h : FitL cLaw.as x) : x.1.length * 24 ≤ 140737488355328 := by
  have := h.1.1
  have e : Ty.low tyRunOp = 24 := by decide
  rw [e] at this
  omega

end Go.Proofs.Ytpmfgdedkmddlaa.Runq
