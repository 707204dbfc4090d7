/-
  LineSteps: the conditions hold.
-/
import Derived.Test.YtmcepjbbbkgfcaaLinepE
namespace Go.Proofs.Ytmcepjbbbkgfcaa.Linep
open Go.Sx
set_option maxRecDepth 100000
set_option maxHeartbeats 1000000
set_option linter.unusedSimpArgs false
set_option linter.unusedVariables false

theorem e_badp (x : PN × Unit) (_ : True) (_ : LensL cBad.as x) : E_badp x := by
  obtain ⟨⟨c, v, lv, m, u, kp, s⟩, u'⟩ := x
  unfold E_badp
  simp only [Bool.not_eq_true', Bool.not_eq_false', Bool.not_eq_true, Bool.not_eq_false, beq_self_eq_true, decide_eq_true_eq, decide_eq_false_iff_not, Bool.not_false, Bool.not_true, beq_iff_eq, beq_eq_false_iff_ne, bne_iff_ne, ne_eq, bne_eq_false_iff_eq, holds_iff, true_and, and_true, and_self, eq_self, List.length_cons, List.length_nil, List.length_append, List.length_set, List.length_replicate, List.set_cons_zero, cond_true, cond_false, Bool.false_eq_true, Bool.true_eq_false, forall_const, false_imp_iff, imp_self, implies_true, and_imp, Decidable.not_not, Bool.and_eq_true, Bool.or_eq_true, Bool.and_eq_false_iff, Bool.or_eq_false_iff, ← List.length_eq_zero_iff, or_self, or_false, false_or, Prod.forall, Int.reduceEq, Int.reduceLT, Int.reduceLE, List.nil_append, Nat.zero_add, Int.toNat_zero, List.drop_zero, List.length_drop, List.length_take, not_true_eq_false, not_false_eq_true]
  try simp only [flip_f, flip_t, decide_eq_true_eq, decide_eq_false_iff_not]
  repeat' (first | with_reducible apply And.intro | with_reducible intro _)
  all_goals first
    | omega
    | assumption
    | (cases lv <;> cases m <;> cases u <;> cases kp <;> cases s <;> ((try rw [Bool.eq_iff_iff]); (try simp only [okP, eq_self, natlit_lt, natlit_le, lit_lt, lit_le, natlit_eq, Bool.and_eq_true, Bool.or_eq_true, Bool.and_eq_false_iff, Bool.or_eq_false_iff, Bool.not_eq_true', Bool.not_eq_false', Bool.not_eq_true, Bool.not_eq_false, decide_eq_true_eq, decide_eq_false_iff_not, beq_iff_eq, beq_eq_false_iff_ne, bne_iff_ne, ne_eq, bne_eq_false_iff_eq, Decidable.not_not, Bool.false_eq_true, Bool.true_eq_false]); (try simp only [flip_f, flip_t]); (try simp only [eq_self, natlit_lt, natlit_le, lit_lt, lit_le, natlit_eq, Bool.and_eq_true, Bool.or_eq_true, Bool.and_eq_false_iff, Bool.or_eq_false_iff, Bool.not_eq_true', Bool.not_eq_false', Bool.not_eq_true, Bool.not_eq_false, decide_eq_true_eq, decide_eq_false_iff_not, beq_iff_eq, beq_eq_false_iff_ne, bne_iff_ne, ne_eq, bne_eq_false_iff_eq, Decidable.not_not, Bool.false_eq_true, Bool.true_eq_false]); (try first | omega | grind)))
theorem e_right (x : List PN × Unit) (_ : True) (_ : LensL cRight.as x) : E_right x := by
  obtain ⟨l, u⟩ := x
  unfold E_right
  simp only [Bool.not_eq_true', Bool.not_eq_false', Bool.not_eq_true, Bool.not_eq_false, beq_self_eq_true, decide_eq_true_eq, decide_eq_false_iff_not, Bool.not_false, Bool.not_true, beq_iff_eq, beq_eq_false_iff_ne, bne_iff_ne, ne_eq, bne_eq_false_iff_eq, holds_iff, true_and, and_true, and_self, eq_self, List.length_cons, List.length_nil, List.length_append, List.length_set, List.length_replicate, List.set_cons_zero, cond_true, cond_false, Bool.false_eq_true, Bool.true_eq_false, forall_const, false_imp_iff, imp_self, implies_true, and_imp, Decidable.not_not, Bool.and_eq_true, Bool.or_eq_true, Bool.and_eq_false_iff, Bool.or_eq_false_iff, ← List.length_eq_zero_iff, or_self, or_false, false_or, Prod.forall, Int.reduceEq, Int.reduceLT, Int.reduceLE, List.nil_append, Nat.zero_add, Int.toNat_zero, List.drop_zero, List.length_drop, List.length_take, not_true_eq_false, not_false_eq_true]
  try simp only [flip_f, flip_t, decide_eq_true_eq, decide_eq_false_iff_not]
  refine ⟨fun hl => ⟨hl, ⟨by omega, by simp⟩, fun k _ h0 h1 h2 h3 h4 => ⟨fun hk => ⟨⟨h0, hk⟩, fun hb => ?_, fun hb => ?_⟩, fun hk => ?_⟩⟩, fun hl => ?_⟩
  · simp only [right]
    rw [all_false_of (d := (0, 0, false, false, false, false, false)) (k := k.toNat) (by omega) hb]
    simp [h0]
  · refine ⟨by omega, ⟨by omega, by omega, ?_⟩, by omega⟩
    rw [all_takeI (0, 0, false, false, false, false, false) h0 hk, h2]; exact hb
  · rw [takeI_all (by omega)] at h2
    simp [right, h2, hl]
  · simp [right]; omega
theorem right_bad {l : List PN} {k : Int} (h0 : 0 ≤ k) (hk : k < l.length) (hb : okP (l.getD k.toNat (0, 0, false, false, false, false, false)) = false) : right l = false := by
  simp only [right]
  rw [all_false_of (d := (0, 0, false, false, false, false, false)) (k := k.toNat) (by omega) hb]; simp
theorem e_cright (x : List PN × Unit) (_ : True) (_ : LensL cRight.as x) : E_cright x := by
  obtain ⟨l, u'⟩ := x
  unfold E_cright
  simp only [Bool.not_eq_true', Bool.not_eq_false', Bool.not_eq_true, Bool.not_eq_false, beq_self_eq_true, decide_eq_true_eq, decide_eq_false_iff_not, Bool.not_false, Bool.not_true, beq_iff_eq, beq_eq_false_iff_ne, bne_iff_ne, ne_eq, bne_eq_false_iff_eq, holds_iff, true_and, and_true, and_self, eq_self, List.length_cons, List.length_nil, List.length_append, List.length_set, List.length_replicate, List.set_cons_zero, cond_true, cond_false, Bool.false_eq_true, Bool.true_eq_false, forall_const, false_imp_iff, imp_self, implies_true, and_imp, Decidable.not_not, Bool.and_eq_true, Bool.or_eq_true, Bool.and_eq_false_iff, Bool.or_eq_false_iff, ← List.length_eq_zero_iff, or_self, or_false, false_or, Prod.forall, Int.reduceEq, Int.reduceLT, Int.reduceLE, List.nil_append, Nat.zero_add, Int.toNat_zero, List.drop_zero, List.length_drop, List.length_take, not_true_eq_false, not_false_eq_true]
  try simp only [flip_f, flip_t, decide_eq_true_eq, decide_eq_false_iff_not]
  refine ⟨fun hl => by simp [right]; omega, fun hl => ⟨⟨by omega, by simp⟩, fun k h0 h1 h2 h3 h4 => ⟨fun hk => ⟨⟨h0, hk⟩, ?_⟩, fun hk => ?_⟩⟩⟩
  · have hb := fun h => right_bad (l := l) (k := k) h0 hk h
    have hn := all_takeI (p := okP) (0, 0, false, false, false, false, false) h0 hk
    rw [h2] at hn
    generalize l.getD k.toNat (0, 0, false, false, false, false, false) = p at *
    obtain ⟨c, v, lv, m, u, kp, s⟩ := p
    simp only [] at *
    repeat' (first | with_reducible apply And.intro | with_reducible intro _)
    all_goals first
      | omega
      | assumption
      | (refine hb ?_; clear hn hb h2; simp only [okP]; grind)
      | (rw [hn, Bool.true_and]; clear hn hb h2; simp only [okP]; grind)
  · rw [takeI_all (by omega)] at h2
    simp [right, h2]; omega
theorem e_cstep (x : PN × Int × Unit) (_ : True) (_ : LensL cCStep.as x) : E_cstep x := by
  obtain ⟨⟨c, v, lv, m, u, kp, s⟩, k, u'⟩ := x
  unfold E_cstep
  simp only [Bool.not_eq_true', Bool.not_eq_false', Bool.not_eq_true, Bool.not_eq_false, beq_self_eq_true, decide_eq_true_eq, decide_eq_false_iff_not, Bool.not_false, Bool.not_true, beq_iff_eq, beq_eq_false_iff_ne, bne_iff_ne, ne_eq, bne_eq_false_iff_eq, holds_iff, true_and, and_true, and_self, eq_self, List.length_cons, List.length_nil, List.length_append, List.length_set, List.length_replicate, List.set_cons_zero, cond_true, cond_false, Bool.false_eq_true, Bool.true_eq_false, forall_const, false_imp_iff, imp_self, implies_true, and_imp, Decidable.not_not, Bool.and_eq_true, Bool.or_eq_true, Bool.and_eq_false_iff, Bool.or_eq_false_iff, ← List.length_eq_zero_iff, or_self, or_false, false_or, Prod.forall, Int.reduceEq, Int.reduceLT, Int.reduceLE, List.nil_append, Nat.zero_add, Int.toNat_zero, List.drop_zero, List.length_drop, List.length_take, not_true_eq_false, not_false_eq_true]
  try simp only [flip_f, flip_t, decide_eq_true_eq, decide_eq_false_iff_not]
  cases lv <;> simp only [cstep, note, fire]
  all_goals (repeat' (first | with_reducible apply And.intro | with_reducible intro _))
  all_goals first
    | omega
    | contradiction
    | (cases m <;> cases u <;> cases kp <;> cases s <;> grind)
theorem set_getD {α : Type} {xs : List α} {k : Nat} {y d : α} (h : k < xs.length) : (xs.set k y).getD k d = y := by
  rw [getD_lt (by simpa using h)]; simp
theorem step_bad {l : List PN} {k i e : Int} (h : err l k i = e) (he : e ≠ 0) : step l k i = bad e := by subst h; exact if_neg he
theorem step_ok {l : List PN} {k i : Int} (h : err l k i = 0) : step l k i = (out l k i, ask l k i, 0, ()) := if_pos h
theorem right_len {l : List PN} (h : right l = true) : (l.length : Int) ≤ 24 := by
  simp only [right, Bool.and_eq_true, decide_eq_true_eq] at h; exact h.1
theorem e_step (x : List PN × (Int × Int) × Unit) (_ : True) (_ : LensL cStep.as x) : E_step x := by
  obtain ⟨l, ⟨k, i⟩, u'⟩ := x
  unfold E_step
  simp only [Bool.not_eq_true', Bool.not_eq_false', Bool.not_eq_true, Bool.not_eq_false, beq_self_eq_true, decide_eq_true_eq, decide_eq_false_iff_not, Bool.not_false, Bool.not_true, beq_iff_eq, beq_eq_false_iff_ne, bne_iff_ne, ne_eq, bne_eq_false_iff_eq, holds_iff, true_and, and_true, and_self, eq_self, List.length_cons, List.length_nil, List.length_append, List.length_set, List.length_replicate, List.set_cons_zero, cond_true, cond_false, Bool.false_eq_true, Bool.true_eq_false, forall_const, false_imp_iff, imp_self, implies_true, and_imp, Decidable.not_not, Bool.and_eq_true, Bool.or_eq_true, Bool.and_eq_false_iff, Bool.or_eq_false_iff, ← List.length_eq_zero_iff, or_self, or_false, false_or, Prod.forall, Int.reduceEq, Int.reduceLT, Int.reduceLE, List.nil_append, Nat.zero_add, Int.toNat_zero, List.drop_zero, List.length_drop, List.length_take, not_true_eq_false, not_false_eq_true]
  try simp only [flip_f, flip_t, decide_eq_true_eq, decide_eq_false_iff_not]
  refine ⟨fun hr => ?_, fun hr => ⟨fun hk => ?_, fun k1 k5 => ⟨fun hi => ?_, fun i0 i1 => ?_⟩⟩⟩
  · rw [step_bad (e := 1) (by simp [err, hr]) (by decide)]; simp [bad]
  · rw [step_bad (e := 5) (by simp [err, hr, hk]) (by decide)]; simp [bad]
  · rw [step_bad (e := 3) (by simp only [err, hr]; grind) (by decide)]; simp [bad]
  have hl := right_len hr
  have hlen : i.toNat < l.length := by omega
  have hst := step_ok (l := l) (k := k) (i := i) (by simp only [err, hr]; grind)
  have hz : (0, 0, false, false, false, false, false) = zero := rfl
  refine ⟨by omega, ⟨by omega, by omega⟩, ?_, ?_⟩
  · simp only [at_, hz]
    generalize l.getD i.toNat zero = p
    obtain ⟨c, v, lv, m, u, kp, s⟩ := p
    simp only [note]
    repeat' (first | with_reducible apply And.intro | with_reducible intro _)
    all_goals first
      | omega
      | (subst_vars; rfl)
      | grind
  · intro a ha _ _
    have hg : a.getD i.toNat zero = note (at_ l i) k := by rw [ha]; exact set_getD hlen
    have hs : ∀ y, a.set i.toNat y = l.set i.toNat y := fun y => by rw [ha, List.set_set]
    have hgs : ∀ y, (l.set i.toNat y).getD i.toNat zero = y := fun y => set_getD hlen
    rw [hst]
    simp only [hz, hs, hg, hgs, out, ask, cstep, at_]
    clear hg hs hgs hst
    rw [ha]
    clear ha
    simp only [at_]
    obtain ⟨c, v, lv, m, u, kp, s, hpe⟩ : ∃ c v lv m u kp s, l.getD i.toNat zero = (c, v, lv, m, u, kp, s) := ⟨_, _, _, _, _, _, _, rfl⟩
    simp only [hpe]
    clear hpe
    cases lv <;> simp only [note, fire]
    all_goals (repeat' (first | with_reducible apply And.intro | with_reducible intro _))
    all_goals first
      | omega
      | contradiction
      | (cases m <;> cases u <;> cases kp <;> cases s <;> grind)
theorem cstep_keep (p : PN) (k : Int) : (cstep p k).1.1 = p.1 ∧ (cstep p k).1.2.1 = p.2.1 := by
  obtain ⟨c, v, lv, m, u, kp, s⟩ := p
  cases lv <;> exact ⟨rfl, rfl⟩
theorem play_nil {l : List PN} : play l [] = (l, []) := rfl
theorem play_next {l : List PN} {xs : List (Int × Int)} {k : Int} (h0 : 0 ≤ k) (h : k < xs.length) : play l (xs.take (k + 1).toNat) = one (play l (xs.take k.toNat)) (xs.getD k.toNat (0, 0)) := foldl_takeI (0, 0) h0 h
theorem e_cplay (x : List PN × List (Int × Int) × Unit) (hp : x.1.length * 24 ≤ 140737488355328 ∧ x.2.1.length * 16 ≤ 140737488351232) (_ : LensL cCPlay.as x) : E_cplay x := by
  obtain ⟨l, xs, u'⟩ := x
  obtain ⟨hp1, hp2⟩ := hp
  dsimp only at hp1 hp2
  unfold E_cplay
  simp only [Bool.not_eq_true', Bool.not_eq_false', Bool.not_eq_true, Bool.not_eq_false, beq_self_eq_true, decide_eq_true_eq, decide_eq_false_iff_not, Bool.not_false, Bool.not_true, beq_iff_eq, beq_eq_false_iff_ne, bne_iff_ne, ne_eq, bne_eq_false_iff_eq, holds_iff, true_and, and_true, and_self, eq_self, List.length_cons, List.length_nil, List.length_append, List.length_set, List.length_replicate, List.set_cons_zero, cond_true, cond_false, Bool.false_eq_true, Bool.true_eq_false, forall_const, false_imp_iff, imp_self, implies_true, and_imp, Decidable.not_not, Bool.and_eq_true, Bool.or_eq_true, Bool.and_eq_false_iff, Bool.or_eq_false_iff, ← List.length_eq_zero_iff, or_self, or_false, false_or, Prod.forall, Int.reduceEq, Int.reduceLT, Int.reduceLE, List.nil_append, Nat.zero_add, Int.toNat_zero, List.drop_zero, List.length_drop, List.length_take, not_true_eq_false, not_false_eq_true,  pair_eta]
  refine ⟨by omega, ⟨by omega, by simp [play_nil]⟩, ?_⟩
  intro o w k h0 h1 h2 h3 _ _ _ _ _ _
  refine ⟨fun hk => ?_, fun hk => ?_⟩
  · have key := play_next (l := l) h0 hk
    rw [h2] at key
    simp only [one] at key
    have hz : (0, 0, false, false, false, false, false) = zero := rfl
    generalize xs.getD k.toNat (0, 0) = r at *
    obtain ⟨a, i⟩ := r
    simp only [hz] at *
    have hc := cstep_keep (at_ o i) a
    repeat' (first | with_reducible apply And.intro | with_reducible intro _)
    all_goals first
      | omega
      | (rw [key, if_pos (by omega)]; done)
      | (rename_i hask
         rw [key, if_neg (by omega), show ask o a i = [(i, (at_ o i).1, (at_ o i).2.1)] from if_pos hask]
         show _ = (out o a i, w ++ [(i, (cstep (at_ o i) a).1.1, (cstep (at_ o i) a).1.2.1)])
         rw [hc.1, hc.2])
      | (rename_i hask
         rw [key, if_neg (by omega), show ask o a i = [] from if_neg (by rw [show (cstep (at_ o i) a).2 = false from hask]; decide), List.append_nil]
         rfl)
  · rw [takeI_all (by omega)] at h2
    simp [h2]
theorem e_steps (x : List PN × (Int × Int) × Unit) (h : x.1.length * 24 ≤ 140737488355328) (_ : LensL cLaw.as x) : E_steps x := by
  obtain ⟨l, ⟨k, i⟩, u'⟩ := x
  dsimp only at h
  unfold E_steps
  simp only [Bool.not_eq_true', Bool.not_eq_false', Bool.not_eq_true, Bool.not_eq_false, beq_self_eq_true, decide_eq_true_eq, decide_eq_false_iff_not, Bool.not_false, Bool.not_true, beq_iff_eq, beq_eq_false_iff_ne, bne_iff_ne, ne_eq, bne_eq_false_iff_eq, holds_iff, true_and, and_true, and_self, eq_self, List.length_cons, List.length_nil, List.length_append, List.length_set, List.length_replicate, List.set_cons_zero, cond_true, cond_false, Bool.false_eq_true, Bool.true_eq_false, forall_const, false_imp_iff, imp_self, implies_true, and_imp, Decidable.not_not, Bool.and_eq_true, Bool.or_eq_true, Bool.and_eq_false_iff, Bool.or_eq_false_iff, ← List.length_eq_zero_iff, or_self, or_false, false_or, Prod.forall, Int.reduceEq, Int.reduceLT, Int.reduceLE, List.nil_append, Nat.zero_add, Int.toNat_zero, List.drop_zero, List.length_drop, List.length_take, not_true_eq_false, not_false_eq_true,  deq_iff, deq_false, pair_eta]
  have hl := fun h => right_len (l := l) h
  have hb := fun e h he => step_bad (l := l) (k := k) (i := i) (e := e) h he
  refine ⟨fun hr => ?_, fun hr => ⟨fun hk => ?_, fun k1 k5 => ⟨fun hi => ?_, fun i0 i1 => ?_⟩⟩⟩
  · rw [hb 1 (by simp [err, hr]) (by decide)]; simp [bad]
  · rw [hb 5 (by simp [err, hr, hk]) (by decide)]; simp [bad]
  · rw [hb 3 (by simp only [err, hr]; grind) (by decide)]; simp [bad]
  have hst := step_ok (l := l) (k := k) (i := i) (by simp only [err, hr]; grind)
  have hpl : play l [(k, i)] = (out l k i, ask l k i) := by
    show one (l, []) (k, i) = _
    simp only [one]
    rw [if_neg (by omega)]; rfl
  rw [hst]
  simp [hpl, h]
theorem e_eqp (x : List PN × List PN × Unit) (_ : True) (hl : LensL cEqP.as x) : E_eqp x := by
  obtain ⟨xs, ys, u⟩ := x
  have hlx : xs.length ≤ 9223372036854775807 := hl.1.1
  unfold E_eqp
  simp only [flip_f, flip_t, deq_iff, deq_false, pair_eta]
  simp only [Bool.not_eq_true', Bool.not_eq_false', Bool.not_eq_true, Bool.not_eq_false, beq_self_eq_true, decide_eq_true_eq, decide_eq_false_iff_not, Bool.not_false, Bool.not_true, beq_iff_eq, beq_eq_false_iff_ne, bne_iff_ne, ne_eq, bne_eq_false_iff_eq, holds_iff, true_and, and_true, and_self, eq_self, List.length_cons, List.length_nil, List.length_append, List.length_set, List.length_replicate, List.set_cons_zero, cond_true, cond_false, Bool.false_eq_true, Bool.true_eq_false, forall_const, false_imp_iff, imp_self, implies_true, and_imp, Decidable.not_not, Bool.and_eq_true, Bool.or_eq_true, Bool.and_eq_false_iff, Bool.or_eq_false_iff, ← List.length_eq_zero_iff, or_self, or_false, false_or, Prod.forall, Int.reduceEq, Int.reduceLT, Int.reduceLE, List.nil_append, Nat.zero_add, Int.toNat_zero, List.drop_zero, List.length_drop, List.length_take, not_true_eq_false, not_false_eq_true,  deq_iff, deq_false, pair_eta]
  repeat' (first | with_reducible apply And.intro | with_reducible intro _)
  all_goals try omega
  all_goals grind [takeI_succ, takeI_all]
theorem e_eqs (x : List SE × List SE × Unit) (_ : True) (hl : LensL cEqS.as x) : E_eqs x := by
  obtain ⟨xs, ys, u⟩ := x
  have hlx : xs.length ≤ 9223372036854775807 := hl.1.1
  unfold E_eqs
  simp only [flip_f, flip_t, deq_iff, deq_false, pair_eta]
  simp only [Bool.not_eq_true', Bool.not_eq_false', Bool.not_eq_true, Bool.not_eq_false, beq_self_eq_true, decide_eq_true_eq, decide_eq_false_iff_not, Bool.not_false, Bool.not_true, beq_iff_eq, beq_eq_false_iff_ne, bne_iff_ne, ne_eq, bne_eq_false_iff_eq, holds_iff, true_and, and_true, and_self, eq_self, List.length_cons, List.length_nil, List.length_append, List.length_set, List.length_replicate, List.set_cons_zero, cond_true, cond_false, Bool.false_eq_true, Bool.true_eq_false, forall_const, false_imp_iff, imp_self, implies_true, and_imp, Decidable.not_not, Bool.and_eq_true, Bool.or_eq_true, Bool.and_eq_false_iff, Bool.or_eq_false_iff, ← List.length_eq_zero_iff, or_self, or_false, false_or, Prod.forall, Int.reduceEq, Int.reduceLT, Int.reduceLE, List.nil_append, Nat.zero_add, Int.toNat_zero, List.drop_zero, List.length_drop, List.length_take, not_true_eq_false, not_false_eq_true,  deq_iff, deq_false, pair_eta]
  repeat' (first | with_reducible apply And.intro | with_reducible intro _)
  all_goals try omega
  all_goals grind [takeI_succ, takeI_all]
theorem e_clone (x : List PN × Unit) (hp : cClone.pre x) (_ : LensL cClone.as x) : E_clone x := by
  obtain ⟨xs, u⟩ := x
  have hp : xs.length * 24 ≤ 140737488355328 := hp
  unfold E_clone
  intro b hb
  refine ⟨fun h => (hb h).symm, fun h => ?_⟩
  simp only [List.length_nil, List.nil_append, and_true]
  omega
theorem pre_steps (x : HL cLaw.as) (_ : GoodL cLaw.as x) (h : FitL cLaw.as x) : x.1.length * 24 ≤ 140737488355328 := by
  have h : x.1.length * 24 ≤ 140737488351232 := h.1.1
  omega

end Go.Proofs.Ytmcepjbbbkgfcaa.Linep
