/-
 ApicTells: the conditions hold.
-/
import Derived.Test.YtppgbcmeagbalaaDoorApicBitfP
namespace Go.Proofs.YtppgbcmeagbalaaDoor.Apic
open Go.Sx
set_option maxRecDepth 100000
set_option maxHeartbeats 1000000
set_option linter.unusedSimpArgs false
set_option linter.unusedVariables false

theorem takeI_succ {α : Type} (d : α) {l : List α} {k : Int} (h0 : 0 ≤ k) (h1 : k < l.length) : l.take (k + 1).toNat = l.take k.toNat ++ [l.getD k.toNat d] := by
 have e : (k + 1).toNat = k.toNat + 1 := by omega
 have hlt : k.toNat < l.length := by omega
 rw [e, List.take_add_one, List.getElem?_eq_getElem hlt]
 simp [hlt]
theorem takeI_all {α : Type} {l : List α} {k : Int} (h : (l.length : Int) ≤ k) : l.take k.toNat = l := List.take_of_length_le (by omega)
theorem all_rise (f : Nat → Bool) : ∀ m, (allB f m).Pairwise (fun a b => a < b) ∧ ∀ n ∈ allB f m, 0 ≤ n ∧ n < m
 | 0 => ⟨List.Pairwise.nil, fun n hn => by cases hn⟩
 | m + 1 => by
  obtain ⟨h1, h2⟩ := all_rise f m
  rw [all_succ]
  split
  ·refine ⟨List.pairwise_append.2 ⟨h1, by simp, fun a ha b hb => ?_⟩, fun n hn => ?_⟩
   ·rw [List.mem_singleton.1 hb]; have := h2 a ha; omega
   ·rcases List.mem_append.1 hn with h | h
    ·have := h2 n h; omega
    ·rw [List.mem_singleton.1 h]; omega
  ·exact ⟨h1, fun n hn => by have := h2 n hn; omega⟩
theorem allOf_range {b : List Int} {n : Int} (h : n ∈ allOf b) : 0 ≤ n ∧ n < 256 := (all_rise _ 256).2 n h
theorem getD_in {l : List Int} {k : Int} (h0 : 0 ≤ k) (h : k < l.length) : l.getD k.toNat 0 ∈ l := getD_mem (by omega)
theorem all_pre (f : Nat → Bool) (m : Nat) : ∀ d, ∃ t, allB f (m + d) = allB f m ++ t
 | 0 => ⟨[], by simp⟩
 | d + 1 => by
  obtain ⟨t, ht⟩ := all_pre f m d
  rw [show m + (d + 1) = (m + d) + 1 by omega, all_succ, ht]
  split
  ·exact ⟨t ++ [((m + d : Nat) : Int)], by rw [List.append_assoc]⟩
  ·exact ⟨t, rfl⟩
theorem drop_at {b : List Int} {n : Int} (h0 : 0 ≤ n) (h1 : n ≤ 255) (h : bitN b n.toNat = true) : (allOf b).drop (posOf b n) = n :: (allOf b).drop (allB (bitN b) (n + 1).toNat).length := by
 obtain ⟨t, ht⟩ := all_pre (bitN b) (n.toNat + 1) (256 - (n.toNat + 1))
 rw [show n.toNat + 1 + (256 - (n.toNat + 1)) = 256 by omega] at ht
 unfold allOf posOf
 rw [if_neg (by omega), ht, show (n + 1).toNat = n.toNat + 1 by omega, List.drop_left, all_succ, if_pos h, List.append_assoc, List.drop_left, Int.toNat_of_nonneg h0]
 rfl
theorem pos_next {b : List Int} {n : Int} (h0 : 0 ≤ n) (h1 : n ≤ 256) : posOf b (nextOf b n) = (allB (bitN b) n.toNat).length ∧ -1 ≤ nextOf b n ∧ nextOf b n ≤ 255 ∧ (nextOf b n = -1 ∨ bitN b (nextOf b n).toNat = true) ∧ (nextOf b n = -1 ∨ n ≤ nextOf b n) := by
 rcases nextOf_spec b n h0 h1 with ⟨q1, q2⟩ | ⟨q1, q2, q3, q4⟩
 ·rw [q1]
  refine ⟨?_, by omega, by omega, Or.inl rfl, Or.inl rfl⟩
  unfold posOf
  rw [if_pos (by omega), q2]
 ·refine ⟨?_, by omega, q2, Or.inr q3, Or.inr q1⟩
  unfold posOf
  rw [if_neg (by omega), q4]
theorem first_all (b : List Int) : (allOf b).all (fun n => decide (32 ≤ n)) = (decide (nextOf b 0 < 0) || decide (32 ≤ nextOf b 0)) := by
 obtain ⟨h1, h2, h3, h4, h5⟩ := pos_next (b := b) (n := 0) (by omega) (by omega)
 have hd : (allOf b).drop (posOf b (nextOf b 0)) = allOf b := by rw [h1]; rfl
 have hr := (all_rise (bitN b) 256).1
 by_cases hn : nextOf b 0 = -1
 ·have : allOf b = [] := by
   rw [← hd, hn]
   unfold posOf
   rw [if_pos (by omega), List.drop_length]
  rw [this, hn]
  rfl
 ·rw [drop_at (by omega) h3 (by rcases h4 with h | h; exact absurd h hn; exact h)] at hd
  have hr : (allOf b).Pairwise (fun a b => a < b) := hr
  rw [← hd] at hr ⊢
  generalize nextOf b 0 = n at *
  generalize (allOf b).drop (allB (bitN b) (0 + 1 : Int).toNat).length = t at *
  rw [Bool.eq_iff_iff, List.all_eq_true, Bool.or_eq_true, decide_eq_true_eq, decide_eq_true_eq]
  constructor
  ·intro h
   have := h n List.mem_cons_self
   rw [decide_eq_true_eq] at this
   exact Or.inr this
  ·intro h m hm
   rw [decide_eq_true_eq]
   rcases List.mem_cons.1 hm with rfl | hm
   ·omega
   ·have := (List.pairwise_cons.1 hr).1 m hm
    omega
theorem cnt_cons (a : Int) (s : List Int) (j : Int) : cnt (a :: s) j = (if a / 16 = j then 1 else 0) + cnt s j := by
 unfold cnt
 rw [List.filter_cons]
 by_cases h : a / 16 = j
 ·rw [if_pos (decide_eq_true h), if_pos h, List.length_cons]; omega
 ·rw [if_neg (by simp [h]), if_neg h]; omega
theorem cnt_nn (s : List Int) (j : Int) : 0 ≤ cnt s j := by unfold cnt; omega
theorem cnt_zero {s : List Int} {j : Int} : cnt s j = 0 ↔ ∀ n ∈ s, ¬ n / 16 = j := by
 induction s with
 | nil => exact ⟨fun _ n hn => (by cases hn), fun _ => rfl⟩
 | cons a s ih =>
  rw [cnt_cons]
  have := cnt_nn s j
  by_cases h : a / 16 = j
  ·rw [if_pos h]
   exact ⟨fun q => by omega, fun q => absurd h (q a List.mem_cons_self)⟩
  ·rw [if_neg h]
   constructor
   ·intro q n hn
    rcases List.mem_cons.1 hn with rfl | hn
    ·exact h
    ·exact ih.1 (by omega) n hn
   ·intro q
    have := ih.2 fun n hn => q n (List.mem_cons_of_mem _ hn)
    omega
theorem okS_iff : ∀ (s : List Int) (last : Int), s.Pairwise (fun a b => a < b) → (∀ n ∈ s, last ≤ n / 16) → (okS last s = true ↔ (∀ n ∈ s, 32 ≤ n ∧ ¬ n / 16 = last) ∧ ∀ j, cnt s j ≤ 1)
 | [], last, _, _ => ⟨fun _ => ⟨fun n hn => (by cases hn), fun j => (by show (0 : Int) ≤ 1; omega)⟩, fun _ => rfl⟩
 | a :: s, last, hp, hl => by
  obtain ⟨hp1, hp2⟩ := List.pairwise_cons.1 hp
  have ha := hl a List.mem_cons_self
  have ih := okS_iff s (a / 16) hp2 (fun n hn => by have := hp1 n hn; omega)
  have e : okS last (a :: s) = (!(decide (a / 16 = last)) && !(decide (a < 32)) && okS (a / 16) s) := rfl
  rw [e, Bool.and_eq_true, Bool.and_eq_true, ih]
  constructor
  ·rintro ⟨⟨h1, h2⟩, h3, h4⟩
   have h1 : ¬ a / 16 = last := by simpa using h1
   have h2 : ¬ a < 32 := by simpa using h2
   refine ⟨fun n hn => ?_, fun j => ?_⟩
   ·rcases List.mem_cons.1 hn with rfl | hn
    ·exact ⟨by omega, h1⟩
    ·have := hp1 n hn
     exact ⟨(h3 n hn).1, by omega⟩
   ·rw [cnt_cons]
    by_cases hj : a / 16 = j
    ·rw [if_pos hj, cnt_zero.2 (fun n hn => by rw [← hj]; exact (h3 n hn).2)]; omega
    ·rw [if_neg hj]; have := h4 j; omega
  ·rintro ⟨h1, h2⟩
   have h3 := h1 a List.mem_cons_self
   refine ⟨⟨by simpa using h3.2, by simp; omega⟩, fun n hn => ⟨(h1 n (List.mem_cons_of_mem _ hn)).1, ?_⟩, fun j => ?_⟩
   ·have := h2 (a / 16)
    rw [cnt_cons, if_pos rfl] at this
    have hz := cnt_nn s (a / 16)
    exact (cnt_zero (s := s) (j := a / 16)).1 (by omega) n hn
   ·have := h2 j
    rw [cnt_cons] at this
    split at this <;> omega
theorem okC_at {s : List Int} {k : Nat} : okC s (k + 1) = (okC s k && (decide (cnt s (k : Int) ≤ 1) && (decide (2 ≤ k) || decide (cnt s (k : Int) = 0)))) := by
 unfold okC
 rw [List.range_succ, List.all_append, List.all_cons, List.all_nil, Bool.and_true]
theorem okC_mem {s : List Int} {m : Nat} : okC s m = true ↔ ∀ j, j < m → cnt s (j : Int) ≤ 1 ∧ (2 ≤ j ∨ cnt s (j : Int) = 0) := by
 unfold okC
 rw [List.all_eq_true]
 constructor
 ·intro h j hj
  have := h j (List.mem_range.2 hj)
  simpa using this
 ·intro h j hj
  have := h j (List.mem_range.1 hj)
  simpa using this
theorem okC_okS {b : List Int} : okC (allOf b) 16 = okS (-1) (allOf b) := by
 have hr := all_rise (bitN b) 256
 have hi := okS_iff (allOf b) (-1) hr.1 (fun n hn => by have := hr.2 n hn; omega)
 rw [Bool.eq_iff_iff, hi, okC_mem]
 have hr2 : ∀ n ∈ allOf b, 0 ≤ n ∧ n < 256 := hr.2
 constructor
 ·intro h
  refine ⟨fun n hn => ⟨?_, by have := hr2 n hn; omega⟩, fun j => ?_⟩
  ·have q := hr2 n hn
   have := h (n / 16).toNat (by omega)
   rw [Int.toNat_of_nonneg (by omega)] at this
   rcases this.2 with h2 | h2
   ·omega
   ·exact absurd rfl (cnt_zero.1 h2 n hn)
  ·by_cases hj : 0 ≤ j ∧ j < 16
   ·have := (h j.toNat (by omega)).1
    rwa [Int.toNat_of_nonneg hj.1] at this
   ·rw [cnt_zero.2 (fun n hn => by have := hr2 n hn; omega)]; omega
 ·rintro ⟨h1, h2⟩ j hj
  refine ⟨h2 j, ?_⟩
  by_cases hj2 : 2 ≤ j
  ·exact Or.inl hj2
  ·exact Or.inr (cnt_zero.2 fun n hn => by have := (h1 n hn).1; omega)
theorem cnts_len (s : List Int) : (cnts s).length = 16 := by simp [cnts]
theorem cnts_get {s : List Int} {j : Nat} (h : j < 16) : (cnts s).getD j 0 = cnt s j := by
 unfold cnts
 rw [List.getD_eq_getElem?_getD, List.getElem?_map, List.getElem?_range h]
 rfl
theorem cnt_le (s : List Int) (j : Int) : cnt s j ≤ s.length := by
 unfold cnt
 have := List.length_filter_le (fun n => decide (n / 16 = j)) s
 omega
theorem cnt_snoc (s : List Int) (a j : Int) : cnt (s ++ [a]) j = cnt s j + (if a / 16 = j then 1 else 0) := by
 induction s with
 | nil => rw [List.nil_append, cnt_cons]; show _ + (0 : Int) = 0 + _; omega
 | cons c s ih => rw [List.cons_append, cnt_cons, cnt_cons, ih]; omega
theorem cnts_set {s : List Int} {a : Int} (h0 : 0 ≤ a) (h1 : a < 256) : (cnts s).set (a / 16).toNat ((cnts s).getD (a / 16).toNat 0 + 1) = cnts (s ++ [a]) := by
 have hk : (a / 16).toNat < 16 := by omega
 have hg := cnts_get (s := s) hk
 generalize (cnts s).getD (a / 16).toNat 0 = v at *
 subst hg
 apply List.ext_getElem
 ·rw [List.length_set, cnts_len, cnts_len]
 ·intro i h2 h3
  rw [cnts_len] at h3
  rw [List.getElem_set]
  simp only [cnts, List.getElem_map, List.getElem_range, cnt_snoc]
  by_cases e : (a / 16).toNat = i
  ·rw [if_pos e, if_pos (by omega), show ((a / 16).toNat : Int) = (i : Int) by omega]
  ·rw [if_neg e, if_neg (by omega)]; omega
theorem e_class (x : Int × Unit) (hpre : 0 ≤ x.1) (hlens : LensL cClass.as x) : E_class x := by
 obtain ⟨x, u⟩ := x
 unfold E_class
 simp only [Bool.not_eq_true', Bool.not_eq_false', Bool.not_eq_true, Bool.not_eq_false, beq_self_eq_true, decide_eq_true_eq, decide_eq_false_iff_not, Bool.not_false, Bool.not_true, beq_iff_eq, beq_eq_false_iff_ne, bne_iff_ne, ne_eq, bne_eq_false_iff_eq, holds_iff, true_and, and_true, and_self, eq_self, List.length_cons, List.length_nil, List.length_append, List.length_set, List.length_replicate, List.set_cons_zero, cond_true, cond_false, Bool.false_eq_true, Bool.true_eq_false, forall_const, false_imp_iff, imp_self, implies_true, and_imp, Decidable.not_not, Bool.and_eq_true, Bool.or_eq_true, Bool.and_eq_false_iff, Bool.or_eq_false_iff, ← List.length_eq_zero_iff, or_self, or_false, false_or, Prod.forall, Int.reduceEq, Int.reduceLT, Int.reduceLE, List.nil_append, Nat.zero_add, Int.toNat_zero, List.drop_zero, List.length_drop, List.length_take, not_true_eq_false, not_false_eq_true,  pair_eta]
 exact hpre
theorem cls_iff {A S : List Int} {c : Int} : clsOk (A, S, c) = true ↔ 0 ≤ c ∧ c ≤ 15 := by unfold clsOk; simp
theorem right_s {A S : List Int} {c : Int} (h : okS (-1) (allOf S) = false) : rightL (A, S, c) = false := by
 unfold rightL
 rw [h]; rfl
theorem right_c {A S : List Int} {c : Int} (h : ¬ (0 ≤ c ∧ c ≤ 15)) : rightL (A, S, c) = false := by
 unfold rightL
 have : clsOk (A, S, c) = false := by rw [← Bool.not_eq_true, cls_iff]; exact h
 rw [this, Bool.false_and, Bool.and_false]
theorem right_t {A S : List Int} {c : Int} (h : okS (-1) (allOf S) = true) (hc : 0 ≤ c ∧ c ≤ 15) : rightL (A, S, c) = (allOf A).all (fun n => decide (32 ≤ n)) := by
 unfold rightL
 rw [h, cls_iff.2 hc, Bool.true_and, Bool.true_and]
theorem e_right (x : LC × Unit) (hpre : True) (hlens : LensL cRightL.as x) : E_right x := by
 obtain ⟨⟨A, S, c⟩, u⟩ := x
 unfold E_right
 simp only [Bool.not_eq_true', Bool.not_eq_false', Bool.not_eq_true, Bool.not_eq_false, beq_self_eq_true, decide_eq_true_eq, decide_eq_false_iff_not, Bool.not_false, Bool.not_true, beq_iff_eq, beq_eq_false_iff_ne, bne_iff_ne, ne_eq, bne_eq_false_iff_eq, holds_iff, true_and, and_true, and_self, eq_self, List.length_cons, List.length_nil, List.length_append, List.length_set, List.length_replicate, List.set_cons_zero, cond_true, cond_false, Bool.false_eq_true, Bool.true_eq_false, forall_const, false_imp_iff, imp_self, implies_true, and_imp, Decidable.not_not, Bool.and_eq_true, Bool.or_eq_true, Bool.and_eq_false_iff, Bool.or_eq_false_iff, ← List.length_eq_zero_iff, or_self, or_false, false_or, Prod.forall, Int.reduceEq, Int.reduceLT, Int.reduceLE, List.nil_append, Nat.zero_add, Int.toNat_zero, List.drop_zero, List.length_drop, List.length_take, not_true_eq_false, not_false_eq_true,  pair_eta]
 refine ⟨?_, ?_⟩
 ·obtain ⟨h1, h2, h3, h4, h5⟩ := pos_next (b := S) (n := 0) (by omega) (by omega)
  exact ⟨h2, h3, h4, by rw [h1]; rfl⟩
 ·intro a a1 b last n _ hab hn0 hn1 hbit hok _ _ _ _ _ _ _ _ _ _
  injection hab with e1 e2
  injection e2 with e2 e3
  subst e1
  subst e2
  subst e3
  refine ⟨fun h0 => ⟨h0, fun h => ?_, fun h h' => ?_⟩, fun h0 => ?_⟩
  ·rw [drop_at h0 hn1 (by rcases hbit with q | q; omega; exact q)] at hok
   have e : okS last (n :: (allOf a1).drop (allB (bitN a1) (n + 1).toNat).length) = (!(decide (n / 16 = last)) && !(decide (n < 32)) && okS (n / 16) ((allOf a1).drop (allB (bitN a1) (n + 1).toNat).length)) := rfl
   rw [e] at hok
   rw [right_s]
   rw [hok]
   rcases h with h | h
   ·rw [decide_eq_true h]; rfl
   ·rw [decide_eq_true h, Bool.not_true, Bool.and_false]; rfl
  ·obtain ⟨h1, h2, h3, h4, h5⟩ := pos_next (b := a1) (n := n + 1) (by omega) (by omega)
   rw [drop_at h0 hn1 (by rcases hbit with q | q; omega; exact q)] at hok
   have e : okS last (n :: (allOf a1).drop (allB (bitN a1) (n + 1).toNat).length) = (!(decide (n / 16 = last)) && !(decide (n < 32)) && okS (n / 16) ((allOf a1).drop (allB (bitN a1) (n + 1).toNat).length)) := rfl
   rw [e, decide_eq_false h, decide_eq_false h'] at hok
   refine ⟨h0, by omega, ⟨rfl, h2, h3, h4, ?_⟩, ?_⟩
   ·rw [h1, hok]; rfl
   ·rw [if_neg (show ¬ n = -1 by omega)]
    by_cases q : nextOf a1 (n + 1) = -1
    ·rw [if_pos q]; omega
    ·rw [if_neg q]; omega
  ·have hn : n = -1 := by omega
   subst hn
   have hd : okS last ((allOf a1).drop (posOf a1 (-1))) = true := by
    unfold posOf
    rw [if_pos (by omega), List.drop_length]; rfl
   rw [hd] at hok
   refine ⟨fun hb0 hb1 => ⟨⟨hb0, hb1⟩, fun h => ⟨h, ?_⟩, fun h => ?_⟩, fun h => ?_⟩
   ·rw [right_t hok ⟨hb0, hb1⟩, first_all, decide_eq_false h, Bool.false_or]
   ·rw [right_t hok ⟨hb0, hb1⟩, first_all, decide_eq_true h, Bool.true_or]
   ·rw [right_c (by omega)]
theorem all_pred {P : Int → Bool} {l : List Int} {k : Int} (h0 : 0 ≤ k) (h : k < l.length) (ha : (l.take k.toNat).all P = true) (h1 : P (l.getD k.toNat 0) = true) : (l.take (k + 1).toNat).all P = true := by
 rw [takeI_succ 0 h0 h, List.all_append, ha, List.all_cons, h1]
 rfl
theorem all_no {P : Int → Bool} {l : List Int} {k : Int} (h0 : 0 ≤ k) (h : k < l.length) (h1 : P (l.getD k.toNat 0) = false) : l.all P = false := by
 rw [List.all_eq_false]
 exact ⟨_, getD_in h0 h, by rw [h1]; decide⟩
theorem e_level (x : LC × Unit) (hpre : True) (hlens : LensL cLvl.as x) : E_level x := by
 obtain ⟨⟨A, S, c⟩, u⟩ := x
 unfold E_level
 simp only [Bool.not_eq_true', Bool.not_eq_false', Bool.not_eq_true, Bool.not_eq_false, beq_self_eq_true, decide_eq_true_eq, decide_eq_false_iff_not, Bool.not_false, Bool.not_true, beq_iff_eq, beq_eq_false_iff_ne, bne_iff_ne, ne_eq, bne_eq_false_iff_eq, holds_iff, true_and, and_true, and_self, eq_self, List.length_cons, List.length_nil, List.length_append, List.length_set, List.length_replicate, List.set_cons_zero, cond_true, cond_false, Bool.false_eq_true, Bool.true_eq_false, forall_const, false_imp_iff, imp_self, implies_true, and_imp, Decidable.not_not, Bool.and_eq_true, Bool.or_eq_true, Bool.and_eq_false_iff, Bool.or_eq_false_iff, ← List.length_eq_zero_iff, or_self, or_false, false_or, Prod.forall, Int.reduceEq, Int.reduceLT, Int.reduceLE, List.nil_append, Nat.zero_add, Int.toNat_zero, List.drop_zero, List.length_drop, List.length_take, not_true_eq_false, not_false_eq_true,  pair_eta]
 exact ⟨by omega, rfl⟩
theorem would_yes {l : LC} (h1 : rightL l = true) (h2 : 0 ≤ topOf l.1) (h3 : lvl l < topOf l.1 / 16) : wouldL l = topOf l.1 := if_pos ⟨h1, h2, h3⟩
theorem would_no {l : LC} (h : rightL l = false ∨ ¬ 0 ≤ topOf l.1 ∨ ¬ lvl l < topOf l.1 / 16) : wouldL l = -1 := by
 unfold wouldL
 rw [if_neg]
 rintro ⟨h1, h2, h3⟩
 rcases h with h | h | h
 ·rw [h1] at h; cases h
 ·exact h h2
 ·exact h h3
theorem e_would (x : LC × Unit) (hpre : True) (hlens : LensL cWould.as x) : E_would x := by
 obtain ⟨⟨A, S, c⟩, u⟩ := x
 unfold E_would
 simp only [Bool.not_eq_true', Bool.not_eq_false', Bool.not_eq_true, Bool.not_eq_false, beq_self_eq_true, decide_eq_true_eq, decide_eq_false_iff_not, Bool.not_false, Bool.not_true, beq_iff_eq, beq_eq_false_iff_ne, bne_iff_ne, ne_eq, bne_eq_false_iff_eq, holds_iff, true_and, and_true, and_self, eq_self, List.length_cons, List.length_nil, List.length_append, List.length_set, List.length_replicate, List.set_cons_zero, cond_true, cond_false, Bool.false_eq_true, Bool.true_eq_false, forall_const, false_imp_iff, imp_self, implies_true, and_imp, Decidable.not_not, Bool.and_eq_true, Bool.or_eq_true, Bool.and_eq_false_iff, Bool.or_eq_false_iff, ← List.length_eq_zero_iff, or_self, or_false, false_or, Prod.forall, Int.reduceEq, Int.reduceLT, Int.reduceLE, List.nil_append, Nat.zero_add, Int.toNat_zero, List.drop_zero, List.length_drop, List.length_take, not_true_eq_false, not_false_eq_true,  pair_eta]
 refine ⟨fun h => ⟨fun h2 => ⟨h2, fun h3 => (would_yes h h2 h3).symm, fun h3 => (would_no (Or.inr (Or.inr h3))).symm⟩, fun h2 => (would_no (Or.inr (Or.inl h2))).symm⟩, fun h => (would_no (Or.inl h)).symm⟩
theorem bst_snoc (l : LC) (s : List Int) (n : Int) : bst l (s ++ [n]) = if may l (allOf l.2.1) n = true then n else bst l s := by simp [bst, List.foldl_append]
theorem bst_none {l : LC} {s : List Int} (h : ∀ n ∈ s, may l (allOf l.2.1) n = false) : bst l s = -1 := by
 generalize hr : s.reverse = r
 have hs : s = r.reverse := by rw [← hr, List.reverse_reverse]
 subst hs
 clear hr
 induction r with
 | nil => rfl
 | cons a r ih =>
  rw [List.reverse_cons, bst_snoc, h a (by simp), if_neg (by decide)]
  exact ih fun n hn => h n (List.mem_reverse.2 (List.mem_cons_of_mem _ (List.mem_reverse.1 hn)))
theorem may_iff {l : LC} {s : List Int} {n : Int} : may l s n = true ↔ l.2.2 < n / 16 ∧ ∀ m ∈ s, m / 16 < n / 16 := by
 unfold may
 rw [Bool.and_eq_true, decide_eq_true_eq, List.all_eq_true]
 simp only [decide_eq_true_eq]
theorem top_in (b : List Int) : (topOf b = -1 ∧ allOf b = []) ∨ ∃ t, allOf b = t ++ [topOf b] ∧ 0 ≤ topOf b ∧ ∀ m ∈ allOf b, m ≤ topOf b := by
 have ht := top_last (bitN b) 256
 have hr := all_rise (bitN b) 256
 have ht : topOf b = if (allOf b).length = 0 then -1 else (allOf b).getD ((allOf b).length - 1) 0 := ht
 have hr1 : (allOf b).Pairwise (fun a b => a < b) := hr.1
 have hr2 : ∀ n ∈ allOf b, 0 ≤ n ∧ n < 256 := hr.2
 generalize hs : (allOf b).reverse = s
 have he : allOf b = s.reverse := by rw [← hs, List.reverse_reverse]
 cases s with
 | nil =>
  refine Or.inl ?_
  rw [he] at ht ⊢
  exact ⟨ht, rfl⟩
 | cons a s =>
  rw [List.reverse_cons] at he
  have hl : (allOf b).getD ((allOf b).length - 1) 0 = a := by
   rw [he]; simp [List.getD]
  rw [if_neg (by rw [he]; simp), hl] at ht
  rw [ht]
  refine Or.inr ⟨s.reverse, he, (hr2 a (by rw [he]; simp)).1, fun m hm => ?_⟩
  rw [he] at hm hr1
  rcases List.mem_append.1 hm with h | h
  ·have := (List.pairwise_append.1 hr1).2.2 m h a (by simp)
   omega
  ·rw [List.mem_singleton.1 h]; omega
theorem bst_would {l : LC} (hr : rightL l = true) : bst l (allOf l.1) = wouldL l := by
 obtain ⟨A, S, c⟩ := l
 have hc : 0 ≤ c := by
  by_cases q : 0 ≤ c ∧ c ≤ 15
  ·exact q.1
  ·rw [right_c q] at hr; cases hr
 have hm : ∀ n, may (A, S, c) (allOf S) n = true ↔ lvl (A, S, c) < n / 16 := by
  intro n
  rw [may_iff]
  unfold lvl
  rcases top_in S with ⟨h1, h2⟩ | ⟨t, h1, h2, h3⟩
  ·simp only [h1, h2]
   refine ⟨fun h => ?_, fun h => ⟨by omega, fun m hm => by cases hm⟩⟩
   have := h.1
   omega
  ·simp only []
   constructor
   ·rintro ⟨q1, q2⟩
    have := q2 (topOf S) (by rw [h1]; simp)
    omega
   ·intro q
    refine ⟨by omega, fun m hm => ?_⟩
    have := h3 m hm
    omega
 show bst (A, S, c) (allOf A) = _
 rcases top_in A with ⟨h1, h2⟩ | ⟨t, h1, h2, h3⟩
 ·rw [would_no (Or.inr (Or.inl (by show ¬ 0 ≤ topOf A; omega))), h2]
  rfl
 ·by_cases q : lvl (A, S, c) < topOf A / 16
  ·rw [would_yes hr h2 q]
   conv => lhs; rw [h1]
   rw [bst_snoc]
   exact if_pos ((hm _).2 q)
  ·rw [would_no (Or.inr (Or.inr q))]
   apply bst_none
   intro n hn
   rw [← Bool.not_eq_true]
   intro hn2
   have q2 := (hm n).1 hn2
   have := h3 n hn
   omega
theorem e_astep (x : LC × (Int × Int) × Unit) (hpre : True) (hlens : LensL cStep.as x) : E_astep x := by
 obtain ⟨⟨A, S, c⟩, ⟨kd, n⟩, u⟩ := x
 unfold E_astep
 simp only [Bool.not_eq_true', Bool.not_eq_false', Bool.not_eq_true, Bool.not_eq_false, beq_self_eq_true, decide_eq_true_eq, decide_eq_false_iff_not, Bool.not_false, Bool.not_true, beq_iff_eq, beq_eq_false_iff_ne, bne_iff_ne, ne_eq, bne_eq_false_iff_eq, holds_iff, true_and, and_true, and_self, eq_self, List.length_cons, List.length_nil, List.length_append, List.length_set, List.length_replicate, List.set_cons_zero, cond_true, cond_false, Bool.false_eq_true, Bool.true_eq_false, forall_const, false_imp_iff, imp_self, implies_true, and_imp, Decidable.not_not, Bool.and_eq_true, Bool.or_eq_true, Bool.and_eq_false_iff, Bool.or_eq_false_iff, ← List.length_eq_zero_iff, or_self, or_false, false_or, Prod.forall, Int.reduceEq, Int.reduceLT, Int.reduceLE, List.nil_append, Nat.zero_add, Int.toNat_zero, List.drop_zero, List.length_drop, List.length_take, not_true_eq_false, not_false_eq_true,  pair_eta]
 repeat' (first | with_reducible apply And.intro | with_reducible intro _)
 all_goals (
  unfold stepL
  simp only []
  (repeat' split) <;> first | rfl | (exfalso; omega) | (exfalso; simp_all; done))

end Go.Proofs.YtppgbcmeagbalaaDoor.Apic
