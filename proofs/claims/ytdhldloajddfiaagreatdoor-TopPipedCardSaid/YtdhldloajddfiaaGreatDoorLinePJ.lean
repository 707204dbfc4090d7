/-
 The conditions, proved.
-/
import Derived.Test.YtdhldloajddfiaaGreatDoorLineE
namespace Go.Proofs.YtdhldloajddfiaaGreatDoor.Line
open Go.Sx
set_option maxRecDepth 100000
set_option maxHeartbeats 1000000
set_option linter.unusedSimpArgs false
set_option linter.unusedVariables false

theorem e_badp (x : PN × Unit) (_ : True) (_ : LensL cBad.as x) : E_badp x := by
 obtain ⟨⟨c, v, lv, m, u, kp, s⟩, u'⟩ := x
 unfold E_badp
 delta qbadp_t1 qbadp_1 qbadp_2 qbadp_3 qbadp_4 qbadp_5 qbadp_6 qbadp_7 qbadp_8 qbadp_9
 simp only [Bool.not_eq_true', Bool.not_eq_false', Bool.not_eq_true, Bool.not_eq_false, beq_self_eq_true, decide_eq_true_eq, decide_eq_false_iff_not, Bool.not_false, Bool.not_true, beq_iff_eq, beq_eq_false_iff_ne, bne_iff_ne, ne_eq, bne_eq_false_iff_eq, holds_iff, true_and, and_true, and_self, eq_self, List.length_cons, List.length_nil, List.length_append, List.length_set, List.length_replicate, List.set_cons_zero, cond_true, cond_false, Bool.false_eq_true, Bool.true_eq_false, forall_const, false_imp_iff, imp_self, implies_true, and_imp, Decidable.not_not, Bool.and_eq_true, Bool.or_eq_true, Bool.and_eq_false_iff, Bool.or_eq_false_iff, ← List.length_eq_zero_iff, or_self, or_false, false_or, Prod.forall, Int.reduceEq, Int.reduceLT, Int.reduceLE, List.nil_append, Nat.zero_add, Int.toNat_zero, List.drop_zero, List.length_drop, List.length_take, not_true_eq_false, not_false_eq_true]
 try simp only [flip_f, flip_t, decide_eq_true_eq, decide_eq_false_iff_not]
 repeat' (first | with_reducible apply And.intro | with_reducible intro _)
 all_goals first
  | omega
  | assumption
  | (cases lv <;> cases m <;> cases u <;> cases kp <;> cases s <;> ((try rw [Bool.eq_iff_iff]); (try simp only [okP, eq_self, natlit_lt, natlit_le, lit_lt, lit_le, natlit_eq, Bool.and_eq_true, Bool.or_eq_true, Bool.and_eq_false_iff, Bool.or_eq_false_iff, Bool.not_eq_true', Bool.not_eq_false', Bool.not_eq_true, Bool.not_eq_false, decide_eq_true_eq, decide_eq_false_iff_not, beq_iff_eq, beq_eq_false_iff_ne, bne_iff_ne, ne_eq, bne_eq_false_iff_eq, Decidable.not_not, Bool.false_eq_true, Bool.true_eq_false]); (try simp only [flip_f, flip_t]); (try simp only [eq_self, natlit_lt, natlit_le, lit_lt, lit_le, natlit_eq, Bool.and_eq_true, Bool.or_eq_true, Bool.and_eq_false_iff, Bool.or_eq_false_iff, Bool.not_eq_true', Bool.not_eq_false', Bool.not_eq_true, Bool.not_eq_false, decide_eq_true_eq, decide_eq_false_iff_not, beq_iff_eq, beq_eq_false_iff_ne, bne_iff_ne, ne_eq, bne_eq_false_iff_eq, Decidable.not_not, Bool.false_eq_true, Bool.true_eq_false]); (try first | omega | grind)))
theorem e_right (x : List PN × Unit) (_ : True) (_ : LensL cRight.as x) : E_right x := by
 obtain ⟨l, u⟩ := x
 unfold E_right
 delta qright_t1 qright_1 qright_2
 simp only [Bool.not_eq_true', Bool.not_eq_false', Bool.not_eq_true, Bool.not_eq_false, beq_self_eq_true, decide_eq_true_eq, decide_eq_false_iff_not, Bool.not_false, Bool.not_true, beq_iff_eq, beq_eq_false_iff_ne, bne_iff_ne, ne_eq, bne_eq_false_iff_eq, holds_iff, true_and, and_true, and_self, eq_self, List.length_cons, List.length_nil, List.length_append, List.length_set, List.length_replicate, List.set_cons_zero, cond_true, cond_false, Bool.false_eq_true, Bool.true_eq_false, forall_const, false_imp_iff, imp_self, implies_true, and_imp, Decidable.not_not, Bool.and_eq_true, Bool.or_eq_true, Bool.and_eq_false_iff, Bool.or_eq_false_iff, ← List.length_eq_zero_iff, or_self, or_false, false_or, Prod.forall, Int.reduceEq, Int.reduceLT, Int.reduceLE, List.nil_append, Nat.zero_add, Int.toNat_zero, List.drop_zero, List.length_drop, List.length_take, not_true_eq_false, not_false_eq_true]
 try simp only [flip_f, flip_t, decide_eq_true_eq, decide_eq_false_iff_not]
 refine ⟨fun hl => ⟨hl, ⟨by omega, by simp⟩, fun k _ h0 h1 h2 h3 h4 => ⟨fun hk => ⟨⟨h0, hk⟩, fun hb => ?_, fun hb => ?_⟩, fun hk => ?_⟩⟩, fun hl => ?_⟩
 ·simp only [right]
  rw [all_false_of (d := (0, 0, false, false, false, false, false)) (k := k.toNat) (by omega) hb]
  simp [h0]
 ·refine ⟨by omega, ⟨by omega, by omega, ?_⟩, by omega⟩
  rw [all_takeI (0, 0, false, false, false, false, false) h0 hk, h2]; exact hb
 ·rw [takeI_all (by omega)] at h2
  simp [right, h2, hl]
 ·simp [right]; omega
theorem right_bad {l : List PN} {k : Int} (h0 : 0 ≤ k) (hk : k < l.length) (hb : okP (l.getD k.toNat (0, 0, false, false, false, false, false)) = false) : right l = false := by
 simp only [right]
 rw [all_false_of (d := (0, 0, false, false, false, false, false)) (k := k.toNat) (by omega) hb]; simp
theorem set_getD {α : Type} {xs : List α} {k : Nat} {y d : α} (h : k < xs.length) : (xs.set k y).getD k d = y := by
 rw [getD_lt (by simpa using h)]; simp
theorem step_bad {l : List PN} {k i e : Int} (h : err l k i = e) (he : e ≠ 0) : step l k i = bad e := by subst h; exact if_neg he
theorem step_ok {l : List PN} {k i : Int} (h : err l k i = 0) : step l k i = (out l k i, ask l k i, 0, ()) := if_pos h
theorem right_len {l : List PN} (h : right l = true) : (l.length : Int) ≤ 24 := by
 simp only [right, Bool.and_eq_true, decide_eq_true_eq] at h; exact h.1
theorem e_step (x : List PN × (Int × Int) × Unit) (_ : True) (_ : LensL cStep.as x) : E_step x := by
 obtain ⟨l, ⟨k, i⟩, u'⟩ := x
 unfold E_step
 delta qstep_t1 qstep_t2 qstep_t3 qstep_1 qstep_12 qstep_13 qstep_14 qstep_15 qstep_2 qstep_3 qstep_4 qstep_5 qstep_6 qstep_8 qstep_9 qstep_10 qstep_11 qstep_17 qstep_7 qstep_16 qstep_18 qstep_19 qstep_20 qstep_21 qstep_22
 simp only [Bool.not_eq_true', Bool.not_eq_false', Bool.not_eq_true, Bool.not_eq_false, beq_self_eq_true, decide_eq_true_eq, decide_eq_false_iff_not, Bool.not_false, Bool.not_true, beq_iff_eq, beq_eq_false_iff_ne, bne_iff_ne, ne_eq, bne_eq_false_iff_eq, holds_iff, true_and, and_true, and_self, eq_self, List.length_cons, List.length_nil, List.length_append, List.length_set, List.length_replicate, List.set_cons_zero, cond_true, cond_false, Bool.false_eq_true, Bool.true_eq_false, forall_const, false_imp_iff, imp_self, implies_true, and_imp, Decidable.not_not, Bool.and_eq_true, Bool.or_eq_true, Bool.and_eq_false_iff, Bool.or_eq_false_iff, ← List.length_eq_zero_iff, or_self, or_false, false_or, Prod.forall, Int.reduceEq, Int.reduceLT, Int.reduceLE, List.nil_append, Nat.zero_add, Int.toNat_zero, List.drop_zero, List.length_drop, List.length_take, not_true_eq_false, not_false_eq_true]
 try simp only [flip_f, flip_t, decide_eq_true_eq, decide_eq_false_iff_not]
 refine ⟨fun hr => ?_, fun hr => ⟨fun hk => ?_, fun k1 k5 => ⟨fun hi => ?_, fun i0 i1 => ?_⟩⟩⟩
 ·rw [step_bad (e := 1) (by simp [err, hr]) (by decide)]; simp [bad]
 ·rw [step_bad (e := 5) (by simp [err, hr, hk]) (by decide)]; simp [bad]
 ·rw [step_bad (e := 3) (by simp only [err, hr]; grind) (by decide)]; simp [bad]
 have hl := right_len hr
 have hlen : i.toNat < l.length := by omega
 have hst := step_ok (l := l) (k := k) (i := i) (by simp only [err, hr]; grind)
 have hz : (0, 0, false, false, false, false, false) = zero := rfl
 refine ⟨by omega, ⟨by omega, by omega⟩, ?_, ?_⟩
 ·simp only [at_, hz]
  generalize l.getD i.toNat zero = p
  obtain ⟨c, v, lv, m, u, kp, s⟩ := p
  simp only [note]
  repeat' (first | with_reducible apply And.intro | with_reducible intro _)
  all_goals first
   | omega
   | (subst_vars; rfl)
   | grind
 ·intro a ha _ _
  have hg : a.getD i.toNat zero = note (at_ l i) k := by rw [ha]; exact set_getD hlen
  have hs : ∀ y, a.set i.toNat y = l.set i.toNat y := fun y => by rw [ha, List.set_set]
  have hgs : ∀ y, (l.set i.toNat y).getD i.toNat zero = y := fun y => set_getD hlen
  rw [hst]
  simp only [hz, hs, hg, hgs, out, ask, cstep, at_]
  clear hg hs hgs hst
  rw [ha]
  clear ha
  simp only [at_]
  obtain ⟨c, v, lv, m, u, kp, s, hpe⟩ : ∃ c v lv m u kp s, l.getD i.toNat zero = (c, v, lv, m, u, kp, s) := ⟨_, _, _, _, _, _, _, rfl⟩
  simp only [hpe]
  clear hpe
  cases lv <;> simp only [note, fire]
  all_goals (repeat' (first | with_reducible apply And.intro | with_reducible intro _))
  all_goals first
   | omega
   | contradiction
   | (cases m <;> cases u <;> cases kp <;> cases s <;> grind)
theorem cstep_keep (p : PN) (k : Int) : (cstep p k).1.1 = p.1 ∧ (cstep p k).1.2.1 = p.2.1 := by
 obtain ⟨c, v, lv, m, u, kp, s⟩ := p
 cases lv <;> exact ⟨rfl, rfl⟩
theorem play_nil {l : List PN} : play l [] = (l, []) := rfl
theorem play_next {l : List PN} {xs : List (Int × Int)} {k : Int} (h0 : 0 ≤ k) (h : k < xs.length) : play l (xs.take (k + 1).toNat) = one (play l (xs.take k.toNat)) (xs.getD k.toNat (0, 0)) := foldl_takeI (0, 0) h0 h
theorem e_clone (x : List PN × Unit) (hp : cClone.pre x) (_ : LensL cClone.as x) : E_clone x := by
 obtain ⟨xs, u⟩ := x
 have hp : xs.length * 24 ≤ 140737488355328 := hp
 unfold E_clone
 intro b hb
 refine ⟨fun h => (hb h).symm, fun h => ?_⟩
 simp only [List.length_nil, List.nil_append, and_true]
 omega

end Go.Proofs.YtdhldloajddfiaaGreatDoor.Line
