/-
  WaitPlays: the conditions of the small functions and of corebellref.OPlay.
-/
import Derived.Test.YtlkhpbjjimjhbaaWaitpP0
namespace Go.Proofs.Ytlkhpbjjimjhbaa.Waitp
open Go.Sx
set_option maxRecDepth 100000
set_option maxHeartbeats 1000000
set_option linter.unusedSimpArgs false
set_option linter.unusedVariables false

theorem len64 {l : List Int} (h : l.Nodup) (h2 : ∀ a ∈ l, 0 ≤ a ∧ a ≤ 63) : l.length ≤ 64 := by
  have := List.Nodup.length_le_of_subset (l₂ := (List.range 64).map Int.ofNat) h (fun a ha => by
    have := h2 a ha
    exact List.mem_map.2 ⟨a.toNat, List.mem_range.2 (by omega), Int.toNat_of_nonneg this.1⟩)
  simpa using this
theorem okL_len {l : OL} (h : okL l) : l.length ≤ 64 := by
  have := len64 h.1 (fun a ha => by
    obtain ⟨e, he, rfl⟩ := List.mem_map.1 ha
    exact (h.2 e he).1)
  simpa using this
theorem scan_hit {l : OL} {t j : Int} (hok : okL l) (h0 : 0 ≤ j) (h1 : j < l.length) (h : (l.getD j.toNat (0, 0)).1 = t) : pos l t = j := by
  generalize hj : j.toNat = n at *
  have hn : n < l.length := by omega
  rw [show j = (n : Int) by omega]
  clear hj h0 h1
  induction n generalizing l with
  | zero =>
    cases l with
    | nil => exact absurd hn (by simp)
    | cons e l => rw [pos_cons]; exact if_pos h
  | succ n ih =>
    cases l with
    | nil => exact absurd hn (by simp)
    | cons e l =>
      rw [List.getD_cons_succ] at h
      have hn' : n < l.length := by simpa using hn
      have h3 := ih (okL_tail hok) h hn'
      rw [pos_cons, if_neg, if_neg (by omega), h3]
      · omega
      · intro he
        have hm : l.getD n (0, 0) ∈ l := by
          rw [List.getD_eq_getElem?_getD, List.getElem?_eq_getElem hn']
          exact List.getElem_mem hn'
        exact (okL_head hok).2 _ hm (by rw [h, he])
theorem scan_miss {l : OL} {t j : Int} (h0 : 0 ≤ j) (h : ¬ (l.getD j.toNat (0, 0)).1 = t) : ¬ pos l t = j := by
  intro hp
  have := (st_get (l := l) (t := t) (by omega)).2
  rw [hp] at this
  exact h this
theorem all_next {α : Type} {P : α → Bool} (d : α) {l : List α} {k : Int} (h0 : 0 ≤ k) (h : k < l.length) (ha : (l.take k.toNat).all P = true) (h1 : P (l.getD k.toNat d) = true) : (l.take (k + 1).toNat).all P = true := by
  rw [takeI_succ d h0 h, List.all_append, ha, List.all_cons, h1]
  rfl
theorem sl_next {l : OL} {k : Int} (h0 : 0 ≤ k) (h : k < l.length) : sleepers (l.take (k + 1).toNat) = if (l.getD k.toNat (0, 0)).2 = 1 then sleepers (l.take k.toNat) ++ [(l.getD k.toNat (0, 0)).1] else sleepers (l.take k.toNat) := by
  rw [takeI_succ (0, 0) h0 h]
  unfold sleepers
  rw [List.filter_append, List.map_append]
  split <;> simp_all
theorem st_fin {ops : List (Int × Int)} {k c : Int} {s s' : OS} {e : List Int} {o : Int × Int} (h0 : 0 ≤ k) (h1 : k < ops.length) (he : (e.length : Int) = k) (hp : pl (ops.take k.toNat) = (s, e)) (hg : good s k)
    (ho : ops.getD k.toNat (0, 0) = o) (hs : step s o = (s', c)) : 0 ≤ k + 1 ∧ k + 1 ≤ ops.length ∧ ((e.length + 1 : Nat) : Int) = k + 1 ∧ pl (ops.take (k + 1).toNat) = (s', e ++ [c]) ∧ good s' (k + 1) := by
  refine ⟨by omega, by omega, by omega, ?_, ?_⟩
  · rw [pl_next h0 h1, hp, ho]
    unfold one
    simp only [hs]
  · have := good_step (o := o) hg
    rw [hs] at this
    exact this
theorem app_f {α : Type} (l m : List α) : (List.brecOn.go (motive := fun _ => List α → List α) l List.append._f).1 m = l ++ m := by
  induction l with
  | nil => rfl
  | cons a l ih => exact congrArg (a :: ·) ih
theorem wake1_end {l : OL} {j : Int} (h : (l.take j.toNat).all (fun e => decide (e.2 = 2)) = true) (hj : ¬ j < l.length) : wake1 l = l := wake1_all (by rw [takeI_all (by omega)] at h; exact h)
theorem wakeN_end {l a : OL} {j : Int} (h : a = wakeN l j.toNat) (hj : ¬ j < l.length) : wakeAll l = a := by
  rw [h, wakeN_all l _ (by omega)]
theorem wakeN_next {l a b : OL} {j : Int} (h : a = wakeN l j.toNat) (h0 : 0 ≤ j) (hb : wake1 a = b) : b = wakeN l (j + 1).toNat := by
  rw [show (j + 1).toNat = j.toNat + 1 by omega]
  show b = wake1 (wakeN l j.toNat)
  rw [← h, hb]
theorem getD_fst_pos {l : OL} {t : Int} (h : 0 ≤ pos l t) : (l.getD (pos l t).toNat (0, 0)).1 = t := (st_get h).2
theorem idx_at {l : List Int} {x : Int} {k : Nat} (hk : k < l.length) (hn : (l.take k).idxOf? x = none) (hg : l.getD k 0 = x) : idx l x = k := by
  have e : l.idxOf? x = some k := by
    show l.findIdx? (· == x) = some k
    rw [List.findIdx?_eq_some_iff_getElem]
    refine ⟨hk, ?_, fun j hj => ?_⟩
    · have : l[k] = x := by rw [← hg]; simp [List.getD, hk]
      simp [this]
    · rw [List.idxOf?_eq_none_iff] at hn
      intro h
      have h : l[j] = x := by simpa using h
      exact hn (by rw [← h]; exact List.mem_take_iff_getElem.2 ⟨j, by omega, rfl⟩)
  unfold idx
  rw [e]
theorem idx_none {l : List Int} {x : Int} (h : l.idxOf? x = none) : idx l x = -1 := by
  unfold idx
  rw [h]
theorem take_none {l : List Int} {x : Int} {k : Int} (h0 : 0 ≤ k) (h1 : k < l.length) (hn : (l.take k.toNat).idxOf? x = none) (hg : ¬ l.getD k.toNat 0 = x) : (l.take (k + 1).toNat).idxOf? x = none := by
  rw [takeI_succ 0 h0 h1, List.idxOf?_eq_none_iff, List.mem_append]
  rw [List.idxOf?_eq_none_iff] at hn
  rintro (h | h)
  · exact hn h
  · exact hg (List.mem_singleton.1 h).symm
theorem e_index (x : List Int × Int × Unit) (hp : True) (hl : LensL cIndex.as x) : E_index x := by
  obtain ⟨l, b, u⟩ := x
  have hlen : l.length ≤ 9223372036854775807 := hl.1.1
  unfold E_index
  simp only [Bool.not_eq_true', Bool.not_eq_false', Bool.not_eq_true, Bool.not_eq_false, beq_self_eq_true, decide_eq_true_eq, decide_eq_false_iff_not, Bool.not_false, Bool.not_true, beq_iff_eq, beq_eq_false_iff_ne, bne_iff_ne, ne_eq, bne_eq_false_iff_eq, holds_iff, true_and, and_true, and_self, eq_self, List.length_cons, List.length_nil, List.length_append, List.length_set, List.length_replicate, List.set_cons_zero, cond_true, cond_false, Bool.false_eq_true, Bool.true_eq_false, forall_const, false_imp_iff, imp_self, implies_true, and_imp, Decidable.not_not, Bool.and_eq_true, Bool.or_eq_true, Bool.and_eq_false_iff, Bool.or_eq_false_iff, ← List.length_eq_zero_iff, or_self, or_false, false_or, Prod.forall, Int.reduceEq, Int.reduceLT, Int.reduceLE, List.nil_append, Nat.zero_add, Int.toNat_zero, List.drop_zero, List.length_drop, List.length_take, not_true_eq_false, not_false_eq_true]
  try simp only [flip_f, flip_t, decide_eq_true_eq, decide_eq_false_iff_not]
  refine ⟨⟨by omega, rfl⟩, ?_⟩
  intro k k0 k1 hn _ _
  refine ⟨fun k2 => ⟨⟨k0, k2⟩, fun h => ?_, fun h => ?_⟩, fun k2 => ?_⟩
  · rw [idx_at (by omega) hn (by first | exact h | exact h.symm)]; omega
  · refine ⟨by omega, ⟨by omega, by omega, ?_⟩, by omega⟩
    exact take_none k0 k2 hn (by first | exact h | exact fun e => h e.symm)
  · rw [takeI_all (by omega)] at hn
    rw [idx_none hn]
theorem e_contains (x : List Int × Int × Unit) (hp : True) (hl : LensL cContains.as x) : E_contains x := by
  unfold E_contains
  simp only [Bool.not_eq_true', Bool.not_eq_false', Bool.not_eq_true, Bool.not_eq_false, beq_self_eq_true, decide_eq_true_eq, decide_eq_false_iff_not, Bool.not_false, Bool.not_true, beq_iff_eq, beq_eq_false_iff_ne, bne_iff_ne, ne_eq, bne_eq_false_iff_eq, holds_iff, true_and, and_true, and_self, eq_self, List.length_cons, List.length_nil, List.length_append, List.length_set, List.length_replicate, List.set_cons_zero, cond_true, cond_false, Bool.false_eq_true, Bool.true_eq_false, forall_const, false_imp_iff, imp_self, implies_true, and_imp, Decidable.not_not, Bool.and_eq_true, Bool.or_eq_true, Bool.and_eq_false_iff, Bool.or_eq_false_iff, ← List.length_eq_zero_iff, or_self, or_false, false_or, Prod.forall, Int.reduceEq, Int.reduceLT, Int.reduceLE, List.nil_append, Nat.zero_add, Int.toNat_zero, List.drop_zero, List.length_drop, List.length_take, not_true_eq_false, not_false_eq_true]
  try simp only [flip_f, flip_t, decide_eq_true_eq, decide_eq_false_iff_not]
  try exact trivial
theorem e_clone (x : List Int × Unit) (hx : x.1.length * 8 ≤ 140737488355328) (_ : LensL cClone.as x) : E_clone x := by
  unfold E_clone
  simp only [Bool.not_eq_true', Bool.not_eq_false', Bool.not_eq_true, Bool.not_eq_false, beq_self_eq_true, decide_eq_true_eq, decide_eq_false_iff_not, Bool.not_false, Bool.not_true, beq_iff_eq, beq_eq_false_iff_ne, bne_iff_ne, ne_eq, bne_eq_false_iff_eq, holds_iff, true_and, and_true, and_self, eq_self, List.length_cons, List.length_nil, List.length_append, List.length_set, List.length_replicate, List.set_cons_zero, cond_true, cond_false, Bool.false_eq_true, Bool.true_eq_false, forall_const, false_imp_iff, imp_self, implies_true, and_imp, Decidable.not_not, Bool.and_eq_true, Bool.or_eq_true, Bool.and_eq_false_iff, Bool.or_eq_false_iff, ← List.length_eq_zero_iff, or_self, or_false, false_or, Prod.forall, Int.reduceEq, Int.reduceLT, Int.reduceLE, List.nil_append, Nat.zero_add, Int.toNat_zero, List.drop_zero, List.length_drop, List.length_take, not_true_eq_false, not_false_eq_true]
  try simp only [flip_f, flip_t, decide_eq_true_eq, decide_eq_false_iff_not]
  intro b hb
  refine ⟨fun h => ?_, fun _ => by omega⟩
  have := hb h
  first | exact this.symm | (rw [this]) | (exact (List.length_eq_zero_iff.1 (by omega)).symm)
theorem e_equal (x : List Int × List Int × Unit) (_ : True) (hl : LensL cEqual.as x) : E_equal x := by
  obtain ⟨xs, ys, u⟩ := x
  have hlx : xs.length ≤ 9223372036854775807 := hl.1.1
  unfold E_equal
  simp only [Bool.not_eq_true', Bool.not_eq_false', Bool.not_eq_true, Bool.not_eq_false, beq_self_eq_true, decide_eq_true_eq, decide_eq_false_iff_not, Bool.not_false, Bool.not_true, beq_iff_eq, beq_eq_false_iff_ne, bne_iff_ne, ne_eq, bne_eq_false_iff_eq, holds_iff, true_and, and_true, and_self, eq_self, List.length_cons, List.length_nil, List.length_append, List.length_set, List.length_replicate, List.set_cons_zero, cond_true, cond_false, Bool.false_eq_true, Bool.true_eq_false, forall_const, false_imp_iff, imp_self, implies_true, and_imp, Decidable.not_not, Bool.and_eq_true, Bool.or_eq_true, Bool.and_eq_false_iff, Bool.or_eq_false_iff, ← List.length_eq_zero_iff, or_self, or_false, false_or, Prod.forall, Int.reduceEq, Int.reduceLT, Int.reduceLE, List.nil_append, Nat.zero_add, Int.toNat_zero, List.drop_zero, List.length_drop, List.length_take, not_true_eq_false, not_false_eq_true]
  try simp only [flip_f, flip_t, decide_eq_true_eq, decide_eq_false_iff_not]
  repeat' (first | with_reducible apply And.intro | with_reducible intro _)
  all_goals try omega
  all_goals grind [takeI_succ, takeI_all]
theorem e_equali (x : List Int × List Int × Unit) (_ : True) (hl : LensL cEqual.as x) : E_equali x := by
  obtain ⟨xs, ys, u⟩ := x
  have hlx : xs.length ≤ 9223372036854775807 := hl.1.1
  unfold E_equali
  simp only [Bool.not_eq_true', Bool.not_eq_false', Bool.not_eq_true, Bool.not_eq_false, beq_self_eq_true, decide_eq_true_eq, decide_eq_false_iff_not, Bool.not_false, Bool.not_true, beq_iff_eq, beq_eq_false_iff_ne, bne_iff_ne, ne_eq, bne_eq_false_iff_eq, holds_iff, true_and, and_true, and_self, eq_self, List.length_cons, List.length_nil, List.length_append, List.length_set, List.length_replicate, List.set_cons_zero, cond_true, cond_false, Bool.false_eq_true, Bool.true_eq_false, forall_const, false_imp_iff, imp_self, implies_true, and_imp, Decidable.not_not, Bool.and_eq_true, Bool.or_eq_true, Bool.and_eq_false_iff, Bool.or_eq_false_iff, ← List.length_eq_zero_iff, or_self, or_false, false_or, Prod.forall, Int.reduceEq, Int.reduceLT, Int.reduceLE, List.nil_append, Nat.zero_add, Int.toNat_zero, List.drop_zero, List.length_drop, List.length_take, not_true_eq_false, not_false_eq_true]
  try simp only [flip_f, flip_t, decide_eq_true_eq, decide_eq_false_iff_not]
  repeat' (first | with_reducible apply And.intro | with_reducible intro _)
  all_goals try omega
  all_goals grind [takeI_succ, takeI_all]
set_option maxHeartbeats 16000000 in
theorem e_oplay (x : List (Int × Int) × Unit) (hpre : x.1.length * 16 ≤ 140737488355328) (hlens : LensL cPlay.as x) : E_oplay x := by
  obtain ⟨x, u⟩ := x
  simp only [] at hpre
  unfold E_oplay
  simp only [Bool.not_eq_true', Bool.not_eq_false', Bool.not_eq_true, Bool.not_eq_false, beq_self_eq_true, decide_eq_true_eq, decide_eq_false_iff_not, Bool.not_false, Bool.not_true, beq_iff_eq, beq_eq_false_iff_ne, bne_iff_ne, ne_eq, bne_eq_false_iff_eq, holds_iff, true_and, and_true, and_self, eq_self, List.length_cons, List.length_nil, List.length_append, List.length_set, List.length_replicate, List.set_cons_zero, cond_true, cond_false, Bool.false_eq_true, Bool.true_eq_false, forall_const, false_imp_iff, imp_self, implies_true, and_imp, Decidable.not_not, Bool.and_eq_true, Bool.or_eq_true, Bool.and_eq_false_iff, Bool.or_eq_false_iff, ← List.length_eq_zero_iff, or_self, or_false, false_or, Prod.forall, Int.reduceEq, Int.reduceLT, Int.reduceLE, List.nil_append, Nat.zero_add, Int.toNat_zero, List.drop_zero, List.length_drop, List.length_take, not_true_eq_false, not_false_eq_true,  pair_eta, take_all, toNat1, Int.toNat_natCast, Nat.min_self, List.take_length, app_f]
  refine ⟨⟨by omega, rfl, rfl, ⟨by simp, by simp⟩, by simp, by simp⟩, ?_⟩
  intro l e d n k hk0 hk1 hel hpl hg hll _ _ _ _ _ _ _ _ _
  have hst := fun (s' : OS) (c : Int) (hlt : k < x.length) hs => st_fin (s' := s') (c := c) hk0 hlt hel hpl hg rfl hs
  have hok : okL l := hg.1
  have hl64 := okL_len hok
  have hn4 : 0 ≤ n ∧ n ≤ 400 := hg.2.1
  have hdl : (d.length : Int) ≤ k := hg.2.2
  generalize ho : x.getD k.toNat (0, 0) = o at *
  obtain ⟨kd, th⟩ := o
  simp only []
  have hpr := pos_range l th
  refine ⟨fun hlt => ⟨⟨hk0, hlt⟩, ⟨by omega, by split <;> omega⟩, fun m j hj0 hj1 hm _ _ _ _ => ⟨fun hjl => ⟨⟨hj0, hjl⟩, fun hh => ?_, fun hh => ?_⟩, fun hjl => ?_⟩⟩, fun hge => ⟨⟨by omega, rfl⟩, fun z j hj0 hj1 hz _ _ _ _ => ⟨fun hjl => ⟨⟨hj0, hjl⟩, fun hh => ?_, fun hh => ?_⟩, fun hjl => ?_⟩⟩⟩
  · have := scan_hit hok hj0 hjl hh
    exact ⟨by omega, ⟨by omega, by omega, by rw [if_pos (by omega), this]⟩, by omega⟩
  · have := scan_miss hj0 hh
    refine ⟨by omega, ⟨by omega, by omega, ?_⟩, by omega⟩
    rw [hm]
    by_cases hp : pos l th < j
    · rw [if_pos hp, if_pos (by omega)]
    · rw [if_neg hp, if_neg (by omega)]
  · rw [if_pos (by omega)] at hm
    subst hm
    by_cases hp : 0 ≤ pos l th
    · have hs1 := (st_get hp).1
      have hs2 := (st_get hp).2
      have hdel := del_pos hok hp
      have hset := fun v => set_pos (v := v) hok hp
      have hdl2 := congrArg List.length hdel
      simp only [List.length_append, List.length_take, List.length_drop] at hdl2
      rw [hs2, hdel, ← hs1]
      simp only [hset, hdl2]
      repeat' (first
        | refine hst _ _ (by assumption) ?_
        | with_reducible apply And.intro
        | with_reducible intro _)
      all_goals try omega
      all_goals try first
        | rfl
        | exact all_next (0, 0) (by assumption) (by assumption) (by assumption) (decide_eq_true (by assumption))
        | exact wakeN_next (by assumption) (by assumption) (wake1_at (by assumption) (by assumption) (by assumption) (by assumption))
        | exact wakeN_next (by assumption) (by assumption) (wake1_end (by assumption) (by assumption))
      all_goals try (
        unfold step
        simp only []
        (repeat' split) <;> first
          | (exfalso; omega)
          | rfl
          | (refine congrArg (fun w => ((w, _, _), _)) ?_; exact wake1_at (by assumption) (by assumption) (by assumption) (by assumption))
          | (refine congrArg (fun w => ((w, _, _), _)) ?_; exact wake1_end (by assumption) (by assumption))
          | (refine congrArg (fun w => ((w, _, _), _)) ?_; exact wakeN_end (by assumption) (by assumption))
          | skip)
    · have hs1 := st_none (l := l) (t := th) (by omega)
      repeat' (first
        | refine hst _ _ (by assumption) ?_
        | with_reducible apply And.intro
        | with_reducible intro _)
      all_goals try omega
      all_goals try first
        | rfl
        | exact all_next (0, 0) (by assumption) (by assumption) (by assumption) (decide_eq_true (by assumption))
        | exact wakeN_next (by assumption) (by assumption) (wake1_at (by assumption) (by assumption) (by assumption) (by assumption))
        | exact wakeN_next (by assumption) (by assumption) (wake1_end (by assumption) (by assumption))
      all_goals try (
        unfold step
        simp only []
        (repeat' split) <;> first
          | (exfalso; omega)
          | rfl
          | (refine congrArg (fun w => ((w, _, _), _)) ?_; exact wake1_at (by assumption) (by assumption) (by assumption) (by assumption))
          | (refine congrArg (fun w => ((w, _, _), _)) ?_; exact wake1_end (by assumption) (by assumption))
          | (refine congrArg (fun w => ((w, _, _), _)) ?_; exact wakeN_end (by assumption) (by assumption))
          | skip)
  · rw [sl_next hj0 hjl, if_pos hh, hz]
    have h5 : (sleepers (l.take j.toNat)).length ≤ l.length := by
      unfold sleepers
      rw [List.length_map]
      exact Nat.le_trans (List.length_filter_le _ _) (by rw [List.length_take]; omega)
    exact ⟨⟨by omega, by omega⟩, by omega, ⟨by omega, by omega, rfl⟩, by omega⟩
  · rw [sl_next hj0 hjl, if_neg hh]
    exact ⟨by omega, ⟨by omega, by omega, hz⟩, by omega⟩
  · rw [takeI_all (by omega)] at hz hpl
    unfold play
    rw [hpl]
    exact ⟨rfl, rfl, hz, rfl⟩

end Go.Proofs.Ytlkhpbjjimjhbaa.Waitp
