/-
  BitsTell: the conditions hold.
-/
import Derived.Test.YtjajpmemcfdmoaaDoorBittBitfP
namespace Go.Proofs.YtjajpmemcfdmoaaDoor.Bitt
open Go.Sx
set_option maxRecDepth 100000
set_option maxHeartbeats 1000000
set_option linter.unusedSimpArgs false
set_option linter.unusedVariables false

theorem mem_allOf {b : List Int} {a : Int} : a ∈ allOf b ↔ 0 ≤ a ∧ a < 256 ∧ bitN b a.toNat = true := by
  unfold allOf allB
  rw [List.mem_map]
  constructor
  · rintro ⟨j, h, rfl⟩
    rw [List.mem_filter, List.mem_range] at h
    refine ⟨by simp, ?_, by simpa using h.2⟩
    have := h.1
    simp only [Int.ofNat_eq_natCast]
    omega
  · rintro ⟨h0, h1, h2⟩
    exact ⟨a.toNat, by rw [List.mem_filter, List.mem_range]; exact ⟨by omega, h2⟩, by simp only [Int.ofNat_eq_natCast]; omega⟩
theorem all_sorted (f : Nat → Bool) : ∀ m, (allB f m).Pairwise (fun a b => a < b) ∧ ∀ n ∈ allB f m, n < m
  | 0 => ⟨List.Pairwise.nil, fun n hn => by cases hn⟩
  | m + 1 => by
    obtain ⟨h1, h2⟩ := all_sorted f m
    rw [all_succ]
    split
    · refine ⟨List.pairwise_append.2 ⟨h1, by simp, fun a ha b hb => ?_⟩, fun n hn => ?_⟩
      · rw [List.mem_singleton.1 hb]; exact h2 a ha
      · rcases List.mem_append.1 hn with h | h
        · have := h2 n h; omega
        · rw [List.mem_singleton.1 h]; omega
    · exact ⟨h1, fun n hn => by have := h2 n hn; omega⟩
theorem next_least (b : List Int) (n : Int) : (nextOf b n = -1 ∧ ∀ a ∈ allOf b, a < n) ∨ (nextOf b n ∈ allOf b ∧ n ≤ nextOf b n ∧ ∀ a ∈ allOf b, n ≤ a → nextOf b n ≤ a) := by
  by_cases hf : fits (max n 0) = true
  · have hf' := fits_iff.1 hf
    have e : nextOf b n = nextB (bitN b) (max n 0).toNat (256 - (max n 0).toNat) := by unfold nextOf; rw [if_pos hf]
    rw [e]
    rcases next_spec (f := bitN b) (256 - (max n 0).toNat) (max n 0).toNat with ⟨h2, h3⟩ | ⟨r, h2, h3, h4, h5, h6⟩
    · refine Or.inl ⟨h2, fun a ha => ?_⟩
      obtain ⟨q0, q1, q2⟩ := mem_allOf.1 ha
      by_cases hlt : a < n
      · exact hlt
      · have := h3 a.toNat (by omega) (by omega)
        rw [this] at q2; cases q2
    · refine Or.inr ?_
      rw [h2]
      refine ⟨mem_allOf.2 ⟨by omega, by omega, by simpa using h5⟩, by omega, fun a ha hn => ?_⟩
      obtain ⟨q0, q1, q2⟩ := mem_allOf.1 ha
      by_cases hlt : a.toNat < r
      · have := h6 a.toNat (by omega) hlt
        rw [this] at q2; cases q2
      · omega
  · have e : nextOf b n = -1 := by unfold nextOf; rw [if_neg hf]
    refine Or.inl ⟨e, fun a ha => ?_⟩
    have q := mem_allOf.1 ha
    have hg : ¬ (0 ≤ max n 0 ∧ max n 0 < 256) := fun h => hf (fits_iff.2 h)
    omega
theorem getD_at {l : List Int} {k : Nat} (h : k < l.length) : l.getD k 0 = l[k] := by simp [List.getD, h]
theorem next_at {b : List Int} {n : Int} {k : Nat} (hk : k < (allOf b).length) (h : ∀ m ∈ (allOf b).take k, m < n) (hn : n ≤ (allOf b).getD k 0) : nextOf b n = (allOf b).getD k 0 := by
  have hmem : (allOf b).getD k 0 ∈ allOf b := by rw [getD_at hk]; exact List.getElem_mem hk
  rcases next_least b n with ⟨_, h2⟩ | ⟨h1, h2, h3⟩
  · have := h2 _ hmem; omega
  · have hle := h3 _ hmem hn
    obtain ⟨i, hi, hie⟩ := List.mem_iff_getElem.1 h1
    have hge : k ≤ i := by
      by_cases q : i < k
      · have : nextOf b n ∈ (allOf b).take k := by
          rw [← hie]; exact List.mem_iff_getElem.2 ⟨i, by rw [List.length_take]; omega, by simp⟩
        have := h _ this; omega
      · omega
    rw [getD_at hk] at hle ⊢
    by_cases q : k = i
    · subst q; exact hie.symm
    · have := List.pairwise_iff_getElem.1 (all_sorted (bitN b) 256).1 k i hk hi (by omega)
      have e2 : (allB (bitN b) 256)[k] = (allOf b)[k] := rfl
      have e3 : (allB (bitN b) 256)[i] = (allOf b)[i] := rfl
      rw [e2, e3] at this
      omega
theorem takeI_succ {α : Type} (d : α) {l : List α} {k : Int} (h0 : 0 ≤ k) (h1 : k < l.length) : l.take (k + 1).toNat = l.take k.toNat ++ [l.getD k.toNat d] := by
  have e : (k + 1).toNat = k.toNat + 1 := by omega
  have hlt : k.toNat < l.length := by omega
  rw [e, List.take_add_one, List.getElem?_eq_getElem hlt]
  simp [hlt]
theorem takeI_all {α : Type} {l : List α} {k : Int} (h : (l.length : Int) ≤ k) : l.take k.toNat = l := List.take_of_length_le (by omega)
theorem e_ahas (x : List Int × Int × Unit) (hpre : True) (hlens : LensL cHas.as x) : E_ahas x := by
  obtain ⟨b, n, u⟩ := x
  unfold E_ahas
  simp only [Bool.not_eq_true', Bool.not_eq_false', Bool.not_eq_true, Bool.not_eq_false, beq_self_eq_true, decide_eq_true_eq, decide_eq_false_iff_not, Bool.not_false, Bool.not_true, beq_iff_eq, beq_eq_false_iff_ne, bne_iff_ne, ne_eq, bne_eq_false_iff_eq, holds_iff, true_and, and_true, and_self, eq_self, List.length_cons, List.length_nil, List.length_append, List.length_set, List.length_replicate, List.set_cons_zero, cond_true, cond_false, Bool.false_eq_true, Bool.true_eq_false, forall_const, false_imp_iff, imp_self, implies_true, and_imp, Decidable.not_not, Bool.and_eq_true, Bool.or_eq_true, Bool.and_eq_false_iff, Bool.or_eq_false_iff, ← List.length_eq_zero_iff, or_self, or_false, false_or, Prod.forall, Int.reduceEq, Int.reduceLT, Int.reduceLE, List.nil_append, Nat.zero_add, Int.toNat_zero, List.drop_zero, List.length_drop, List.length_take, not_true_eq_false, not_false_eq_true]
  try simp only [flip_f, flip_t, decide_eq_true_eq, decide_eq_false_iff_not]
  unfold hasB fits
  rw [row_fr]
  repeat' (first | with_reducible apply And.intro | with_reducible intro _)
  all_goals try omega
  all_goals try rw [fr_getD _ _ (by omega)]
  all_goals grind
theorem e_anext (x : List Int × Int × Unit) (hpre : True) (hlens : LensL cNext.as x) : E_anext x := by
  obtain ⟨b, n, u⟩ := x
  unfold E_anext
  simp only [Bool.not_eq_true', Bool.not_eq_false', Bool.not_eq_true, Bool.not_eq_false, beq_self_eq_true, decide_eq_true_eq, decide_eq_false_iff_not, Bool.not_false, Bool.not_true, beq_iff_eq, beq_eq_false_iff_ne, bne_iff_ne, ne_eq, bne_eq_false_iff_eq, holds_iff, true_and, and_true, and_self, eq_self, List.length_cons, List.length_nil, List.length_append, List.length_set, List.length_replicate, List.set_cons_zero, cond_true, cond_false, Bool.false_eq_true, Bool.true_eq_false, forall_const, false_imp_iff, imp_self, implies_true, and_imp, Decidable.not_not, Bool.and_eq_true, Bool.or_eq_true, Bool.and_eq_false_iff, Bool.or_eq_false_iff, ← List.length_eq_zero_iff, or_self, or_false, false_or, Prod.forall, Int.reduceEq, Int.reduceLT, Int.reduceLE, List.nil_append, Nat.zero_add, Int.toNat_zero, List.drop_zero, List.length_drop, List.length_take, not_true_eq_false, not_false_eq_true,  pair_eta]
  have hlen : (allOf b).length ≤ 256 := all_len (bitN b) 256
  refine ⟨by simp, ?_⟩
  intro k hk0 hk1 ha _ _
  refine ⟨fun hk => ⟨⟨hk0, hk⟩, fun hge => ?_, fun hlt => ⟨by omega, ⟨by omega, by omega, ?_⟩, by omega⟩⟩, fun hk => ?_⟩
  · exact (next_at (by omega) ha (by omega)).symm
  · rw [takeI_succ 0 hk0 hk]
    intro m hm
    rcases List.mem_append.1 hm with h | h
    · exact ha m h
    · rw [List.mem_singleton.1 h]; omega
  · rw [takeI_all (by omega)] at ha
    rcases next_least b n with ⟨h1, _⟩ | ⟨h1, h2, _⟩
    · exact h1.symm
    · have := ha _ h1; omega
theorem e_equal (x : List Int × List Int × Unit) (_ : True) (hl : LensL cEqual.as x) : E_equal x := by
  obtain ⟨xs, ys, u⟩ := x
  have hlx : xs.length ≤ 9223372036854775807 := hl.1.1
  unfold E_equal
  simp only [Bool.not_eq_true', Bool.not_eq_false', Bool.not_eq_true, Bool.not_eq_false, beq_self_eq_true, decide_eq_true_eq, decide_eq_false_iff_not, Bool.not_false, Bool.not_true, beq_iff_eq, beq_eq_false_iff_ne, bne_iff_ne, ne_eq, bne_eq_false_iff_eq, holds_iff, true_and, and_true, and_self, eq_self, List.length_cons, List.length_nil, List.length_append, List.length_set, List.length_replicate, List.set_cons_zero, cond_true, cond_false, Bool.false_eq_true, Bool.true_eq_false, forall_const, false_imp_iff, imp_self, implies_true, and_imp, Decidable.not_not, Bool.and_eq_true, Bool.or_eq_true, Bool.and_eq_false_iff, Bool.or_eq_false_iff, ← List.length_eq_zero_iff, or_self, or_false, false_or, Prod.forall, Int.reduceEq, Int.reduceLT, Int.reduceLE, List.nil_append, Nat.zero_add, Int.toNat_zero, List.drop_zero, List.length_drop, List.length_take, not_true_eq_false, not_false_eq_true]
  try simp only [flip_f, flip_t, decide_eq_true_eq, decide_eq_false_iff_not]
  repeat' (first | with_reducible apply And.intro | with_reducible intro _)
  all_goals try omega
  all_goals grind [takeI_succ, takeI_all]
theorem e_tells (x : List Int × Int × Unit) (hpre : True) (hlens : LensL cTell.as x) : E_tells x := by
  obtain ⟨b, n, u⟩ := x
  unfold E_tells
  simp only [Bool.not_eq_true', Bool.not_eq_false', Bool.not_eq_true, Bool.not_eq_false, beq_self_eq_true, decide_eq_true_eq, decide_eq_false_iff_not, Bool.not_false, Bool.not_true, beq_iff_eq, beq_eq_false_iff_ne, bne_iff_ne, ne_eq, bne_eq_false_iff_eq, holds_iff, true_and, and_true, and_self, eq_self, List.length_cons, List.length_nil, List.length_append, List.length_set, List.length_replicate, List.set_cons_zero, cond_true, cond_false, Bool.false_eq_true, Bool.true_eq_false, forall_const, false_imp_iff, imp_self, implies_true, and_imp, Decidable.not_not, Bool.and_eq_true, Bool.or_eq_true, Bool.and_eq_false_iff, Bool.or_eq_false_iff, ← List.length_eq_zero_iff, or_self, or_false, false_or, Prod.forall, Int.reduceEq, Int.reduceLT, Int.reduceLE, List.nil_append, Nat.zero_add, Int.toNat_zero, List.drop_zero, List.length_drop, List.length_take, not_true_eq_false, not_false_eq_true,  deq_iff, deq_false, pair_eta]
theorem pre_tells (x : HL cTell.as) (_ : GoodL cTell.as x) (h : FitL cTell.as x) : True := trivial

end Go.Proofs.YtjajpmemcfdmoaaDoor.Bitt
