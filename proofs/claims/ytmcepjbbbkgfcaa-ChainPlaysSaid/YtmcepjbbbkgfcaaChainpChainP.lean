/-
  ChainServes: the conditions hold.
-/
import Derived.Test.YtmcepjbbbkgfcaaChainpE
namespace Go.Proofs.Ytmcepjbbbkgfcaa.Chainp
open Go.Sx
set_option maxRecDepth 100000
set_option maxHeartbeats 1000000
set_option linter.unusedSimpArgs false
set_option linter.unusedVariables false

theorem e_equal (x : List Int × List Int × Unit) (_ : True) (hl : LensL cEqual.as x) : E_equal x := by
  obtain ⟨xs, ys, u⟩ := x
  have hlx : xs.length ≤ 9223372036854775807 := hl.1.1
  unfold E_equal
  simp only [Bool.not_eq_true', Bool.not_eq_false', Bool.not_eq_true, Bool.not_eq_false, beq_self_eq_true, decide_eq_true_eq, decide_eq_false_iff_not, Bool.not_false, Bool.not_true, beq_iff_eq, beq_eq_false_iff_ne, bne_iff_ne, ne_eq, bne_eq_false_iff_eq, holds_iff, true_and, and_true, and_self, eq_self, List.length_cons, List.length_nil, List.length_append, List.length_set, List.length_replicate, List.set_cons_zero, cond_true, cond_false, Bool.false_eq_true, Bool.true_eq_false, forall_const, false_imp_iff, imp_self, implies_true, and_imp, Decidable.not_not, Bool.and_eq_true, Bool.or_eq_true, Bool.and_eq_false_iff, Bool.or_eq_false_iff, ← List.length_eq_zero_iff, or_self, or_false, false_or, Prod.forall, Int.reduceEq, Int.reduceLT, Int.reduceLE, List.nil_append, Nat.zero_add, Int.toNat_zero, List.drop_zero, List.length_drop, List.length_take, not_true_eq_false, not_false_eq_true]
  try simp only [flip_f, flip_t, decide_eq_true_eq, decide_eq_false_iff_not]
  repeat' (first | with_reducible apply And.intro | with_reducible intro _)
  all_goals try omega
  all_goals grind [takeI_succ, takeI_all]
theorem okH_alt (h : HA) : okH h = ((h.1 == 1 || h.1 == 2) && decide (0 ≤ h.2) && decide (h.2 ≤ 1099511627776)) := by
  ((try rw [Bool.eq_iff_iff]); (try simp only [okH, eq_self, natlit_lt, natlit_le, lit_lt, lit_le, natlit_eq, Bool.and_eq_true, Bool.or_eq_true, Bool.and_eq_false_iff, Bool.or_eq_false_iff, Bool.not_eq_true', Bool.not_eq_false', Bool.not_eq_true, Bool.not_eq_false, decide_eq_true_eq, decide_eq_false_iff_not, beq_iff_eq, beq_eq_false_iff_ne, bne_iff_ne, ne_eq, bne_eq_false_iff_eq, Decidable.not_not, Bool.false_eq_true, Bool.true_eq_false]); (try simp only [flip_f, flip_t]); (try simp only [eq_self, natlit_lt, natlit_le, lit_lt, lit_le, natlit_eq, Bool.and_eq_true, Bool.or_eq_true, Bool.and_eq_false_iff, Bool.or_eq_false_iff, Bool.not_eq_true', Bool.not_eq_false', Bool.not_eq_true, Bool.not_eq_false, decide_eq_true_eq, decide_eq_false_iff_not, beq_iff_eq, beq_eq_false_iff_ne, bne_iff_ne, ne_eq, bne_eq_false_iff_eq, Decidable.not_not, Bool.false_eq_true, Bool.true_eq_false]); (try first | omega | grind))
theorem set_step {α : Type} {f : α → α} {xs : List α} {k : Int} (d : α) (h0 : 0 ≤ k) (h : k < xs.length) : ((xs.take k.toNat).map f ++ xs.drop k.toNat).set k.toNat (f (xs.getD k.toNat d)) = (xs.take (k + 1).toNat).map f ++ xs.drop (k + 1).toNat := by
  rw [takeI_succ d h0 h, List.set_append_right _ _ (by rw [List.length_map, List.length_take]; omega), List.length_map, List.length_take, Nat.min_eq_left (by omega), Nat.sub_self,
    List.drop_eq_getElem_cons (i := k.toNat) (by omega), List.set_cons_zero, List.map_append, List.append_assoc]
  rw [show (k + 1).toNat = k.toNat + 1 by omega]; rfl
theorem same_step {α : Type} {f : α → α} {xs : List α} {k : Int} (d : α) (h0 : 0 ≤ k) (h : k < xs.length) (hf : f (xs.getD k.toNat d) = xs.getD k.toNat d) : (xs.take k.toNat).map f ++ xs.drop k.toNat = (xs.take (k + 1).toNat).map f ++ xs.drop (k + 1).toNat := by
  rw [← set_step d h0 h, hf]
  apply List.ext_getElem (by simp)
  intro i h1 h2
  rw [List.getElem_set]
  split
  · subst_vars
    rw [List.getElem_append_right (by rw [List.length_map, List.length_take]; omega), List.getElem_drop]
    rw [getD_lt (by omega)]
    congr 1
    rw [List.length_map, List.length_take]; omega
  · rfl
theorem getD_step {α : Type} {f : α → α} {xs : List α} {k : Int} (d : α) (h0 : 0 ≤ k) (h : k < xs.length) : ((xs.take k.toNat).map f ++ xs.drop k.toNat).getD k.toNat d = xs.getD k.toNat d := by
  rw [getD_lt (by simp; omega), getD_lt (by omega), List.getElem_append_right (by rw [List.length_map, List.length_take]; omega), List.getElem_drop]
  congr 1
  rw [List.length_map, List.length_take]; omega
theorem map_takeI {α β : Type} {f : α → β} {xs : List α} {k : Int} (d : α) (h0 : 0 ≤ k) (h : k < xs.length) : (xs.take (k + 1).toNat).map f = (xs.take k.toNat).map f ++ [f (xs.getD k.toNat d)] := by
  rw [takeI_succ d h0 h]; simp
theorem set_getD {α : Type} {xs : List α} {k : Nat} {y d : α} (h : k < xs.length) : (xs.set k y).getD k d = y := by
  rw [getD_lt (by simpa using h)]; simp
theorem right_all {l : List HA} (h : right l = true) : (l.length : Int) ≤ 16 ∧ l.all okH = true := by
  simpa [right] using h
theorem okH_of {l : List HA} (h : right l = true) {k : Int} (h0 : 0 ≤ k) (hk : k < l.length) : 1 ≤ (l.getD k.toNat (0, 0)).1 ∧ (l.getD k.toNat (0, 0)).1 ≤ 2 ∧ 0 ≤ (l.getD k.toNat (0, 0)).2 ∧ (l.getD k.toNat (0, 0)).2 ≤ 1099511627776 := by
  have := (List.all_eq_true.1 (right_all h).2) _ (getD_mem (d := (0, 0)) (k := k.toNat) (xs := l) (by omega))
  simpa [okH, and_assoc] using this
theorem serve_bad {l : List HA} {t : TA} (h : ¬ (right l = true ∧ okT t)) : serve l t = bad 1 := if_neg h
theorem serve_ok {l : List HA} {c n : Int} {o : Bool} (h : right l = true) (ht : okT (c, n, o)) (ho : o = false) (hc : c ≠ 1099511627776) : serve l (c, n, o) = (l.map dec, wk l, (c + 1, nob l n, decide (nob l n = 5)), 0, ()) := by
  subst ho
  unfold serve
  rw [if_pos ⟨h, ht⟩, if_neg (by simp), if_neg hc]
theorem e_right (x : List HA × Unit) (_ : True) (_ : LensL cRight.as x) : E_right x := by
  obtain ⟨l, u⟩ := x
  unfold E_right
  simp only [Bool.not_eq_true', Bool.not_eq_false', Bool.not_eq_true, Bool.not_eq_false, beq_self_eq_true, decide_eq_true_eq, decide_eq_false_iff_not, Bool.not_false, Bool.not_true, beq_iff_eq, beq_eq_false_iff_ne, bne_iff_ne, ne_eq, bne_eq_false_iff_eq, holds_iff, true_and, and_true, and_self, eq_self, List.length_cons, List.length_nil, List.length_append, List.length_set, List.length_replicate, List.set_cons_zero, cond_true, cond_false, Bool.false_eq_true, Bool.true_eq_false, forall_const, false_imp_iff, imp_self, implies_true, and_imp, Decidable.not_not, Bool.and_eq_true, Bool.or_eq_true, Bool.and_eq_false_iff, Bool.or_eq_false_iff, ← List.length_eq_zero_iff, or_self, or_false, false_or, Prod.forall, Int.reduceEq, Int.reduceLT, Int.reduceLE, List.nil_append, Nat.zero_add, Int.toNat_zero, List.drop_zero, List.length_drop, List.length_take, not_true_eq_false, not_false_eq_true]
  try simp only [flip_f, flip_t, decide_eq_true_eq, decide_eq_false_iff_not]
  refine ⟨fun hl => ⟨hl, ⟨by omega, by simp⟩, fun k _ h0 h1 h2 h3 h4 => ⟨fun hk => ⟨⟨h0, hk⟩, fun hb => ?_, fun hb => ?_⟩, fun hk => ?_⟩⟩, fun hl => ?_⟩
  · simp only [right]
    rw [all_false_of (d := (0, 0)) (k := k.toNat) (by omega) hb]
    simp [h0]
  · refine ⟨by omega, ⟨by omega, by omega, ?_⟩, by omega⟩
    rw [all_takeI (0, 0) h0 hk, h2]; exact hb
  · rw [takeI_all (by omega)] at h2
    simp [right, h2, hl]
  · simp [right]; omega
theorem e_iright (x : List HA × Unit) (_ : True) (hx : LensL cRight.as x) : E_iright x := by
  obtain ⟨l, u⟩ := x
  have hlx : l.length ≤ 9223372036854775807 := hx.1.1
  unfold E_iright
  simp only [Bool.not_eq_true', Bool.not_eq_false', Bool.not_eq_true, Bool.not_eq_false, beq_self_eq_true, decide_eq_true_eq, decide_eq_false_iff_not, Bool.not_false, Bool.not_true, beq_iff_eq, beq_eq_false_iff_ne, bne_iff_ne, ne_eq, bne_eq_false_iff_eq, holds_iff, true_and, and_true, and_self, eq_self, List.length_cons, List.length_nil, List.length_append, List.length_set, List.length_replicate, List.set_cons_zero, cond_true, cond_false, Bool.false_eq_true, Bool.true_eq_false, forall_const, false_imp_iff, imp_self, implies_true, and_imp, Decidable.not_not, Bool.and_eq_true, Bool.or_eq_true, Bool.and_eq_false_iff, Bool.or_eq_false_iff, ← List.length_eq_zero_iff, or_self, or_false, false_or, Prod.forall, Int.reduceEq, Int.reduceLT, Int.reduceLE, List.nil_append, Nat.zero_add, Int.toNat_zero, List.drop_zero, List.length_drop, List.length_take, not_true_eq_false, not_false_eq_true]
  try simp only [flip_f, flip_t, decide_eq_true_eq, decide_eq_false_iff_not]
  refine ⟨⟨by omega, ?_⟩, fun b k _ h0 h1 hb h2 h3 => ⟨fun hk => ⟨⟨h0, hk⟩, fun e => ⟨e, fun q => ⟨e, q⟩⟩, by omega, ⟨by omega, by omega, ?_⟩, by omega⟩, fun hk => ?_⟩⟩
  · rw [Bool.eq_iff_iff]; simp; omega
  · rw [all_takeI (0, 0) h0 hk, hb, okH_alt]
    simp only [Bool.and_assoc]
  · rw [takeI_all (by omega)] at hb
    rw [hb]; rfl
theorem e_serve (x : List HA × TA × Unit) (_ : True) (_ : LensL cServe.as x) : E_serve x := by
  obtain ⟨l, ⟨c, n, o⟩, u⟩ := x
  unfold E_serve
  simp only [Bool.not_eq_true', Bool.not_eq_false', Bool.not_eq_true, Bool.not_eq_false, beq_self_eq_true, decide_eq_true_eq, decide_eq_false_iff_not, Bool.not_false, Bool.not_true, beq_iff_eq, beq_eq_false_iff_ne, bne_iff_ne, ne_eq, bne_eq_false_iff_eq, holds_iff, true_and, and_true, and_self, eq_self, List.length_cons, List.length_nil, List.length_append, List.length_set, List.length_replicate, List.set_cons_zero, cond_true, cond_false, Bool.false_eq_true, Bool.true_eq_false, forall_const, false_imp_iff, imp_self, implies_true, and_imp, Decidable.not_not, Bool.and_eq_true, Bool.or_eq_true, Bool.and_eq_false_iff, Bool.or_eq_false_iff, ← List.length_eq_zero_iff, or_self, or_false, false_or, Prod.forall, Int.reduceEq, Int.reduceLT, Int.reduceLE, List.nil_append, Nat.zero_add, Int.toNat_zero, List.drop_zero, List.length_drop, List.length_take, not_true_eq_false, not_false_eq_true,  bne_self_eq_false, Bool.or_false]
  refine ⟨fun h => ?_, fun hr h1 h2 h3 h4 h5 => ?_⟩
  · rw [serve_bad]
    · simp [bad]
    · rintro ⟨a, b⟩
      simp only [okT] at b
      rcases h with h | h
      · simp [a] at h; omega
      · exact h (by rw [Bool.eq_iff_iff, beq_iff_eq]; exact b.2.2.2.2)
  have ht : okT (c, n, o) := ⟨by dsimp only; omega, by dsimp only; omega, by dsimp only; omega, by dsimp only; omega, by rw [h5, beq_iff_eq]⟩
  refine ⟨fun ho => ?_, fun ho => ⟨fun hc => ?_, fun hc => ?_⟩⟩
  · unfold serve; rw [if_pos ⟨hr, ht⟩, if_pos ho]; simp [bad]
  · unfold serve; rw [if_pos ⟨hr, ht⟩, if_neg (by simp [ho]), if_pos hc]; simp [bad]
  rw [serve_ok hr ht ho hc]
  have hl := (right_all hr).1
  refine ⟨by omega, ⟨by omega, by simp, by simp, by simp, by simp⟩, ?_⟩
  intro a w b k h0 h1 ha hw hwl hb _ _ _ _ _ _
  have hlen : a.length = l.length := by rw [ha]; simp; omega
  refine ⟨fun hk => ?_, fun hk => ?_⟩
  · have hg := getD_step (f := dec) (0, 0) h0 hk
    have hs := set_step (f := dec) (0, 0) h0 hk
    have hd := same_step (f := dec) (0, 0) h0 hk
    have hf := foldl_takeI (f := wk1) (b := (0, [])) (0, 0) h0 hk
    have hany := any_takeI (p := act) (0, 0) h0 hk
    have hok := okH_of hr h0 hk
    rw [← ha] at hg hs hd
    rw [hw] at hf
    rw [← hb] at hany
    have hsg : ∀ y, (a.set k.toNat y).getD k.toNat (0, 0) = y := fun y => set_getD (by omega)
    rw [hf, hany]
    simp only [hsg, hg]
    clear hg hsg ha hb hw hf hany
    generalize l.getD k.toNat (0, 0) = h at *
    obtain ⟨h1', h2'⟩ := h
    simp only [dec, wk1, act] at *
    by_cases hz : h2' = 0
    · simp only [hz] at *
      simp at *
      repeat' (first | with_reducible apply And.intro | with_reducible intro _)
      all_goals first
        | omega
        | exact hd
    · have hge : 1 ≤ h2' := by omega
      have e1 : (b || h1' != 0) = (b || !decide (h2' = 0)) := by
        have : h1' ≠ 0 := by omega
        simp [this, hz]
      simp only [hz, e1] at *
      simp at *
      repeat' (first | with_reducible apply And.intro | with_reducible intro _)
      all_goals first
        | omega
        | exact hs
        | exact .inr (by omega)
  · rw [takeI_all (by omega)] at ha hw hb
    rw [List.drop_of_length_le (by omega), List.append_nil] at ha
    have hw' : wk l = w := by simp [wk, hw]
    rw [hw', ha, hb]
    have hbe : ∀ m : Int, (m == 5) = decide (m = 5) := fun m => by rw [Bool.eq_iff_iff]; simp
    cases hany : l.any act with
    | true =>
      simp only [nob, hany, hbe]
      repeat' (first | with_reducible apply And.intro | with_reducible intro _)
      all_goals first
        | omega
        | rfl
        | contradiction
    | false =>
      simp only [nob, hany, hbe]
      repeat' (first | with_reducible apply And.intro | with_reducible intro _)
      all_goals first
        | omega
        | rfl
        | contradiction
theorem e_iserve (x : List HA × TA × Unit) (_ : True) (_ : LensL cServe.as x) : E_iserve x := by
  obtain ⟨l, ⟨c, n, o⟩, u⟩ := x
  unfold E_iserve
  simp only [Bool.not_eq_true', Bool.not_eq_false', Bool.not_eq_true, Bool.not_eq_false, beq_self_eq_true, decide_eq_true_eq, decide_eq_false_iff_not, Bool.not_false, Bool.not_true, beq_iff_eq, beq_eq_false_iff_ne, bne_iff_ne, ne_eq, bne_eq_false_iff_eq, holds_iff, true_and, and_true, and_self, eq_self, List.length_cons, List.length_nil, List.length_append, List.length_set, List.length_replicate, List.set_cons_zero, cond_true, cond_false, Bool.false_eq_true, Bool.true_eq_false, forall_const, false_imp_iff, imp_self, implies_true, and_imp, Decidable.not_not, Bool.and_eq_true, Bool.or_eq_true, Bool.and_eq_false_iff, Bool.or_eq_false_iff, ← List.length_eq_zero_iff, or_self, or_false, false_or, Prod.forall, Int.reduceEq, Int.reduceLT, Int.reduceLE, List.nil_append, Nat.zero_add, Int.toNat_zero, List.drop_zero, List.length_drop, List.length_take, not_true_eq_false, not_false_eq_true]
  try simp only [flip_f, flip_t, decide_eq_true_eq, decide_eq_false_iff_not]
  refine ⟨fun h => ?_, fun hr h1 h2 h3 h4 h5 => ?_⟩
  · rw [serve_bad]
    · simp [bad]
    · rintro ⟨a, b⟩
      simp only [okT] at b
      rcases h with h | h
      · simp [a] at h; omega
      · exact h (by rw [Bool.eq_iff_iff, beq_iff_eq]; exact b.2.2.2.2.symm)
  have ht : okT (c, n, o) := ⟨by dsimp only; omega, by dsimp only; omega, by dsimp only; omega, by dsimp only; omega, by rw [← h5, beq_iff_eq]⟩
  refine ⟨fun ho => ?_, fun ho => ⟨fun hc => ?_, fun hc => ?_⟩⟩
  · unfold serve; rw [if_pos ⟨hr, ht⟩, if_pos ho]; simp [bad]
  · unfold serve; rw [if_pos ⟨hr, ht⟩, if_neg (by simp [ho]), if_pos (by dsimp only; omega)]; simp [bad]
  rw [serve_ok hr ht ho (by omega)]
  have hl := (right_all hr).1
  refine ⟨by omega, ⟨by omega, by simp, by simp, by simp, by simp [nob]⟩, ?_⟩
  intro a w m k h0 h1 ha hw hwl hm _ _ _ _ _ _ _ _
  have hlen : (a.length : Int) = k := by rw [ha, List.length_map, List.length_take]; omega
  refine ⟨fun hk => ?_, fun hk => ?_⟩
  · have hs := map_takeI (f := dec) (0, 0) h0 hk
    have hf := foldl_takeI (f := wk1) (b := (0, [])) (0, 0) h0 hk
    have hany := any_takeI (p := act) (0, 0) h0 hk
    have hok := okH_of hr h0 hk
    have hnob : nob (l.take (k + 1).toNat) n = if (l.getD k.toNat (0, 0)).2 = 0 then m else 0 := by
      simp only [nob, hany, hm]
      by_cases h : (l.getD k.toNat (0, 0)).2 = 0
      · have : act (l.getD k.toNat (0, 0)) = false := by simp only [act, h]; decide
        rw [if_pos h, this, Bool.or_false]
      · have : act (l.getD k.toNat (0, 0)) = true := decide_eq_true h
        rw [if_neg h, this, Bool.or_true]; rfl
    rw [← ha] at hs
    rw [hw] at hf
    rw [hf, hnob, hs]
    clear hs hf hany hnob hm
    generalize l.getD k.toNat (0, 0) = h at *
    obtain ⟨s, f⟩ := h
    simp only [dec, wk1] at *
    by_cases hz : f = 0
    · subst hz
      simp
      repeat' (first | with_reducible apply And.intro | with_reducible intro _)
      all_goals first
        | omega
        | assumption
    · have hge : 1 ≤ f := by omega
      simp only [if_neg hz, hz]
      simp
      repeat' (first | with_reducible apply And.intro | with_reducible intro _)
      all_goals first
        | omega
        | assumption
        | simp_all
  · rw [takeI_all (by omega)] at ha hw hm
    have hw' : wk l = w := by simp [wk, hw]
    have hbe : ∀ m : Int, (m == 5) = decide (m = 5) := fun m => by rw [Bool.eq_iff_iff]; simp
    rw [hw', ha, ← hm, hbe]
    exact ⟨by omega, rfl, rfl, rfl, rfl⟩
theorem e_eqh (x : List HA × List HA × Unit) (_ : True) (hl : LensL cEqH.as x) : E_eqh x := by
  obtain ⟨xs, ys, u⟩ := x
  have hlx : xs.length ≤ 9223372036854775807 := hl.1.1
  unfold E_eqh
  simp only [Bool.not_eq_true', Bool.not_eq_false', Bool.not_eq_true, Bool.not_eq_false, beq_self_eq_true, decide_eq_true_eq, decide_eq_false_iff_not, Bool.not_false, Bool.not_true, beq_iff_eq, beq_eq_false_iff_ne, bne_iff_ne, ne_eq, bne_eq_false_iff_eq, holds_iff, true_and, and_true, and_self, eq_self, List.length_cons, List.length_nil, List.length_append, List.length_set, List.length_replicate, List.set_cons_zero, cond_true, cond_false, Bool.false_eq_true, Bool.true_eq_false, forall_const, false_imp_iff, imp_self, implies_true, and_imp, Decidable.not_not, Bool.and_eq_true, Bool.or_eq_true, Bool.and_eq_false_iff, Bool.or_eq_false_iff, ← List.length_eq_zero_iff, or_self, or_false, false_or, Prod.forall, Int.reduceEq, Int.reduceLT, Int.reduceLE, List.nil_append, Nat.zero_add, Int.toNat_zero, List.drop_zero, List.length_drop, List.length_take, not_true_eq_false, not_false_eq_true,  deq_iff, deq_false, Prod.mk.injEq]
  repeat' (first | with_reducible apply And.intro | with_reducible intro _)
  all_goals try omega
  all_goals grind [takeI_succ, takeI_all]
theorem e_clone (x : List HA × Unit) (hp : cClone.pre x) (_ : LensL cClone.as x) : E_clone x := by
  obtain ⟨xs, u⟩ := x
  have hp : xs.length * 16 ≤ 140737488355328 := hp
  unfold E_clone
  intro b hb
  refine ⟨fun h => (hb h).symm, fun h => ?_⟩
  simp only [List.length_nil, List.nil_append, and_true]
  omega
theorem e_badh (x : HA × Unit) (_ : True) (_ : LensL cBad.as x) : E_badh x := by
  obtain ⟨⟨s, f⟩, u⟩ := x
  unfold E_badh
  simp only [Bool.not_eq_true', Bool.not_eq_false', Bool.not_eq_true, Bool.not_eq_false, beq_self_eq_true, decide_eq_true_eq, decide_eq_false_iff_not, Bool.not_false, Bool.not_true, beq_iff_eq, beq_eq_false_iff_ne, bne_iff_ne, ne_eq, bne_eq_false_iff_eq, holds_iff, true_and, and_true, and_self, eq_self, List.length_cons, List.length_nil, List.length_append, List.length_set, List.length_replicate, List.set_cons_zero, cond_true, cond_false, Bool.false_eq_true, Bool.true_eq_false, forall_const, false_imp_iff, imp_self, implies_true, and_imp, Decidable.not_not, Bool.and_eq_true, Bool.or_eq_true, Bool.and_eq_false_iff, Bool.or_eq_false_iff, ← List.length_eq_zero_iff, or_self, or_false, false_or, Prod.forall, Int.reduceEq, Int.reduceLT, Int.reduceLE, List.nil_append, Nat.zero_add, Int.toNat_zero, List.drop_zero, List.length_drop, List.length_take, not_true_eq_false, not_false_eq_true]
  try simp only [flip_f, flip_t, decide_eq_true_eq, decide_eq_false_iff_not]
  repeat' (first | with_reducible apply And.intro | with_reducible intro _)
  all_goals ((try rw [Bool.eq_iff_iff]); (try simp only [okH, eq_self, natlit_lt, natlit_le, lit_lt, lit_le, natlit_eq, Bool.and_eq_true, Bool.or_eq_true, Bool.and_eq_false_iff, Bool.or_eq_false_iff, Bool.not_eq_true', Bool.not_eq_false', Bool.not_eq_true, Bool.not_eq_false, decide_eq_true_eq, decide_eq_false_iff_not, beq_iff_eq, beq_eq_false_iff_ne, bne_iff_ne, ne_eq, bne_eq_false_iff_eq, Decidable.not_not, Bool.false_eq_true, Bool.true_eq_false]); (try simp only [flip_f, flip_t]); (try simp only [eq_self, natlit_lt, natlit_le, lit_lt, lit_le, natlit_eq, Bool.and_eq_true, Bool.or_eq_true, Bool.and_eq_false_iff, Bool.or_eq_false_iff, Bool.not_eq_true', Bool.not_eq_false', Bool.not_eq_true, Bool.not_eq_false, decide_eq_true_eq, decide_eq_false_iff_not, beq_iff_eq, beq_eq_false_iff_ne, bne_iff_ne, ne_eq, bne_eq_false_iff_eq, Decidable.not_not, Bool.false_eq_true, Bool.true_eq_false]); (try first | omega | grind))
theorem e_serves (x : List HA × TA × Unit) (_ : True) (_ : LensL cLaw.as x) : E_serves x := by
  unfold E_serves
  simp only [Bool.not_eq_true', Bool.not_eq_false', Bool.not_eq_true, Bool.not_eq_false, beq_self_eq_true, decide_eq_true_eq, decide_eq_false_iff_not, Bool.not_false, Bool.not_true, beq_iff_eq, beq_eq_false_iff_ne, bne_iff_ne, ne_eq, bne_eq_false_iff_eq, holds_iff, true_and, and_true, and_self, eq_self, List.length_cons, List.length_nil, List.length_append, List.length_set, List.length_replicate, List.set_cons_zero, cond_true, cond_false, Bool.false_eq_true, Bool.true_eq_false, forall_const, false_imp_iff, imp_self, implies_true, and_imp, Decidable.not_not, Bool.and_eq_true, Bool.or_eq_true, Bool.and_eq_false_iff, Bool.or_eq_false_iff, ← List.length_eq_zero_iff, or_self, or_false, false_or, Prod.forall, Int.reduceEq, Int.reduceLT, Int.reduceLE, List.nil_append, Nat.zero_add, Int.toNat_zero, List.drop_zero, List.length_drop, List.length_take, not_true_eq_false, not_false_eq_true,  deq_iff, deq_false, Prod.mk.injEq]
theorem pre_serves (x : HL cLaw.as) (_ : GoodL cLaw.as x) (h : FitL cLaw.as x) : True := trivial

end Go.Proofs.Ytmcepjbbbkgfcaa.Chainp
