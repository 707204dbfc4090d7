/-
  LinePlays: the conditions hold.
-/
import Derived.Test.YtmcepjbbbkgfcaaLinepLineP
namespace Go.Proofs.Ytmcepjbbbkgfcaa.Linep
open Go.Sx
set_option maxRecDepth 100000
set_option maxHeartbeats 1000000
set_option linter.unusedSimpArgs false
set_option linter.unusedVariables false

theorem okP_step {p : PN} {k : Int} (h : okP p = true) : okP (cstep p k).1 = true := by
  obtain ⟨c, v, lv, m, u, kp, s⟩ := p
  simp only [okP, Bool.and_eq_true, decide_eq_true_eq, Bool.not_eq_true'] at h
  obtain ⟨⟨⟨⟨⟨⟨⟨h1, h2⟩, h3⟩, h4⟩, h5⟩, h6⟩, h7⟩, h8⟩ := h
  cases lv <;> simp only [cstep, note, fire, okP, h1, h2, h3, h4] <;> cases m <;> cases u <;> cases kp <;> cases s <;> grind
theorem right_step {l : List PN} {k i : Int} (h : right l = true) (h0 : 0 ≤ i) (h1 : i < l.length) : right (out l k i) = true := by
  simp only [right, Bool.and_eq_true, decide_eq_true_eq] at h ⊢
  refine ⟨by simp only [out, List.length_set]; exact h.1, ?_⟩
  rw [List.all_eq_true] at h ⊢
  intro q hq
  rcases List.mem_or_eq_of_mem_set hq with hq | rfl
  · exact h.2 q hq
  · exact okP_step (h.2 _ (getD_mem (by omega)))
theorem ask_len (l : List PN) (k i : Int) : (ask l k i).length ≤ 1 := by
  unfold ask; split <;> simp
theorem e_play (x : List PN × List (Int × Int) × Unit) (hp : x.2.1.length * 16 ≤ 140737488351232) (_ : LensL cPlay.as x) : E_play x := by
  obtain ⟨l, xs, u'⟩ := x
  dsimp only at hp
  unfold E_play
  simp only [Bool.not_eq_true', Bool.not_eq_false', Bool.not_eq_true, Bool.not_eq_false, beq_self_eq_true, decide_eq_true_eq, decide_eq_false_iff_not, Bool.not_false, Bool.not_true, beq_iff_eq, beq_eq_false_iff_ne, bne_iff_ne, ne_eq, bne_eq_false_iff_eq, holds_iff, true_and, and_true, and_self, eq_self, List.length_cons, List.length_nil, List.length_append, List.length_set, List.length_replicate, List.set_cons_zero, cond_true, cond_false, Bool.false_eq_true, Bool.true_eq_false, forall_const, false_imp_iff, imp_self, implies_true, and_imp, Decidable.not_not, Bool.and_eq_true, Bool.or_eq_true, Bool.and_eq_false_iff, Bool.or_eq_false_iff, ← List.length_eq_zero_iff, or_self, or_false, false_or, Prod.forall, Int.reduceEq, Int.reduceLT, Int.reduceLE, List.nil_append, Nat.zero_add, Int.toNat_zero, List.drop_zero, List.length_drop, List.length_take, not_true_eq_false, not_false_eq_true,  pair_eta]
  refine ⟨fun hr => by simp [lplay, hr], fun hr => ⟨⟨by omega, by simp [play_nil], by simp, hr⟩, ?_⟩⟩
  intro o w k h0 h1 h2 h3 h4 _ _ _ _ _ _
  refine ⟨fun hk => ?_, fun hk => ?_⟩
  · have key := play_next (l := l) h0 hk
    rw [h2] at key
    simp only [one] at key
    generalize xs.getD k.toNat (0, 0) = r at *
    obtain ⟨a, i⟩ := r
    have hl := ask_len o a i
    have hb := fun e h he => step_bad (l := o) (k := a) (i := i) (e := e) h he
    by_cases hc : a < 1 ∨ 5 < a ∨ i < 0 ∨ (o.length : Int) ≤ i
    · rw [if_pos hc] at key
      have hs : (step o a i).2.2.1 ≠ 0 := by
        by_cases hc1 : a < 1 ∨ 5 < a
        · rw [hb 5 (by simp [err, h4, hc1]) (by decide)]; simp [bad]
        · rw [hb 3 (by simp only [err, h4]; grind) (by decide)]; simp [bad]
      refine ⟨⟨h0, hk⟩, fun q => absurd q hs, fun _ => ⟨by omega, ⟨by omega, by omega, key, by omega, h4⟩, by omega⟩⟩
    · rw [if_neg hc] at key
      have hst := step_ok (l := o) (k := a) (i := i) (by simp only [err, h4]; grind)
      have hr' := right_step (k := a) (i := i) h4 (by omega) (by omega)
      rw [hst]
      refine ⟨⟨h0, hk⟩, fun _ => ⟨by simp only []; omega, by omega, ⟨by omega, by omega, key, by simp only []; omega, hr'⟩, by omega⟩, fun q => absurd rfl q⟩
  · rw [takeI_all (by omega)] at h2
    have := right_len h4
    refine ⟨by omega, ?_⟩
    simp [lplay, hr, h2]
theorem e_plays (x : List PN × List (Int × Int) × Unit) (h : x.1.length * 24 ≤ 140737488355328 ∧ x.2.1.length * 16 ≤ 140737488351232) (_ : LensL cLawP.as x) : E_plays x := by
  obtain ⟨l, xs, u'⟩ := x
  obtain ⟨h1, h2⟩ := h
  dsimp only at h1 h2
  unfold E_plays
  simp only [Bool.not_eq_true', Bool.not_eq_false', Bool.not_eq_true, Bool.not_eq_false, beq_self_eq_true, decide_eq_true_eq, decide_eq_false_iff_not, Bool.not_false, Bool.not_true, beq_iff_eq, beq_eq_false_iff_ne, bne_iff_ne, ne_eq, bne_eq_false_iff_eq, holds_iff, true_and, and_true, and_self, eq_self, List.length_cons, List.length_nil, List.length_append, List.length_set, List.length_replicate, List.set_cons_zero, cond_true, cond_false, Bool.false_eq_true, Bool.true_eq_false, forall_const, false_imp_iff, imp_self, implies_true, and_imp, Decidable.not_not, Bool.and_eq_true, Bool.or_eq_true, Bool.and_eq_false_iff, Bool.or_eq_false_iff, ← List.length_eq_zero_iff, or_self, or_false, false_or, Prod.forall, Int.reduceEq, Int.reduceLT, Int.reduceLE, List.nil_append, Nat.zero_add, Int.toNat_zero, List.drop_zero, List.length_drop, List.length_take, not_true_eq_false, not_false_eq_true,  deq_iff, deq_false, pair_eta]
  cases hr : right l <;> simp [lplay, hr, h1, h2]
theorem pre_plays (x : HL cLawP.as) (_ : GoodL cLawP.as x) (h : FitL cLawP.as x) : x.1.length * 24 ≤ 140737488355328 ∧ x.2.1.length * 16 ≤ 140737488351232 := by
  have h1 : x.1.length * 24 ≤ 140737488351232 := h.1.1
  have h2 : x.2.1.length * 16 ≤ 140737488351232 := h.2.1.1
  exact ⟨by omega, h2⟩

end Go.Proofs.Ytmcepjbbbkgfcaa.Linep
