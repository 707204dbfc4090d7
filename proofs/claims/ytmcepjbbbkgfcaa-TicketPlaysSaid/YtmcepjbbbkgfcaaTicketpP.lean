/-
  TicketPlays: the conditions hold.
-/
import Derived.Test.YtmcepjbbbkgfcaaTicketpTicketP
namespace Go.Proofs.Ytmcepjbbbkgfcaa.Ticketp
open Go.Sx
set_option maxRecDepth 100000
set_option maxHeartbeats 1000000
set_option linter.unusedSimpArgs false
set_option linter.unusedVariables false

theorem step_core {l : LK} {k c : Int} (h : (step l k c).2.2.1 = 0) : 0 ≤ c ∧ c < 8 := by
  unfold step at h
  by_cases h1 : right l = false
  · rw [if_pos h1] at h; simp [bad] at h
  rw [if_neg h1] at h
  by_cases h2 : k < 1 ∨ 3 < k
  · rw [if_pos h2] at h; simp [bad] at h
  rw [if_neg h2] at h
  by_cases h3 : c < 0 ∨ 8 ≤ c
  · rw [if_pos h3] at h; simp [bad] at h
  omega
theorem pl_next {l : List (Int × Int)} {k : Int} (h0 : 0 ≤ k) (hk : k < l.length) : pl (l.take (k + 1).toNat) = one (pl (l.take k.toNat)) (l.getD k.toNat (0, 0)) := by
  unfold pl
  exact foldl_takeI (f := one) (b := (new, [])) (0, 0) h0 hk
theorem one_bad {s : LK × List Int} {o : Int × Int} (h : ¬ (step s.1 o.1 o.2).2.2.1 = 0) : one s o = s := by
  unfold one; rw [if_neg h]
theorem one_in {s : LK × List Int} {o : Int × Int} (h : (step s.1 o.1 o.2).2.2.1 = 0) (h1 : (step s.1 o.1 o.2).2.1 = true) (h2 : inn s.1 o.2 = false) : one s o = ((step s.1 o.1 o.2).1, s.2 ++ [o.2]) := by
  unfold one; rw [if_pos h, if_pos ⟨h1, h2⟩]
theorem one_out {s : LK × List Int} {o : Int × Int} (h : (step s.1 o.1 o.2).2.2.1 = 0) (h1 : (step s.1 o.1 o.2).2.1 = false ∨ inn s.1 o.2 = true) : one s o = ((step s.1 o.1 o.2).1, s.2) := by
  unfold one; rw [if_pos h, if_neg]
  rintro ⟨a, b⟩
  rcases h1 with h1 | h1
  · rw [h1] at a; cases a
  · rw [h1] at b; cases b
theorem e_equal (x : List Int × List Int × Unit) (_ : True) (hl : LensL cEqual.as x) : E_equal x := by
  obtain ⟨xs, ys, u⟩ := x
  have hlx : xs.length ≤ 9223372036854775807 := hl.1.1
  unfold E_equal
  simp only [Bool.not_eq_true', Bool.not_eq_false', Bool.not_eq_true, Bool.not_eq_false, beq_self_eq_true, decide_eq_true_eq, decide_eq_false_iff_not, Bool.not_false, Bool.not_true, beq_iff_eq, beq_eq_false_iff_ne, bne_iff_ne, ne_eq, bne_eq_false_iff_eq, holds_iff, true_and, and_true, and_self, eq_self, List.length_cons, List.length_nil, List.length_append, List.length_set, List.length_replicate, List.set_cons_zero, cond_true, cond_false, Bool.false_eq_true, Bool.true_eq_false, forall_const, false_imp_iff, imp_self, implies_true, and_imp, Decidable.not_not, Bool.and_eq_true, Bool.or_eq_true, Bool.and_eq_false_iff, Bool.or_eq_false_iff, ← List.length_eq_zero_iff, or_self, or_false, false_or, Prod.forall, Int.reduceEq, Int.reduceLT, Int.reduceLE, List.nil_append, Nat.zero_add, Int.toNat_zero, List.drop_zero, List.length_drop, List.length_take, not_true_eq_false, not_false_eq_true]
  try simp only [flip_f, flip_t, decide_eq_true_eq, decide_eq_false_iff_not]
  repeat' (first | with_reducible apply And.intro | with_reducible intro _)
  all_goals try omega
  all_goals grind [takeI_succ, takeI_all]
theorem e_new (x : Unit) (_ : True) (_ : LensL cNew.as x) : E_new x := by
  unfold E_new
  simp only [Bool.not_eq_true', Bool.not_eq_false', Bool.not_eq_true, Bool.not_eq_false, beq_self_eq_true, decide_eq_true_eq, decide_eq_false_iff_not, Bool.not_false, Bool.not_true, beq_iff_eq, beq_eq_false_iff_ne, bne_iff_ne, ne_eq, bne_eq_false_iff_eq, holds_iff, true_and, and_true, and_self, eq_self, List.length_cons, List.length_nil, List.length_append, List.length_set, List.length_replicate, List.set_cons_zero, cond_true, cond_false, Bool.false_eq_true, Bool.true_eq_false, forall_const, false_imp_iff, imp_self, implies_true, and_imp, Decidable.not_not, Bool.and_eq_true, Bool.or_eq_true, Bool.and_eq_false_iff, Bool.or_eq_false_iff, ← List.length_eq_zero_iff, or_self, or_false, false_or, Prod.forall, Int.reduceEq, Int.reduceLT, Int.reduceLE, List.nil_append, Nat.zero_add, Int.toNat_zero, List.drop_zero, List.length_drop, List.length_take, not_true_eq_false, not_false_eq_true,  pair_eta]
  refine ⟨rfl, ?_⟩
  intro a b c d k h0 h1 he _ _ _ _ _ _ _ _ _
  simp only [Prod.mk.injEq] at he
  obtain ⟨rfl, rfl, rfl, rfl⟩ := he
  refine ⟨fun hk => ⟨⟨h0, by omega⟩, by omega, ⟨by omega, by omega, ?_⟩, by omega⟩, fun hk => ?_⟩
  · obtain ⟨n, rfl⟩ : ∃ n : Nat, k = n := ⟨k.toNat, by omega⟩
    have : n = 0 ∨ n = 1 ∨ n = 2 ∨ n = 3 ∨ n = 4 ∨ n = 5 ∨ n = 6 ∨ n = 7 := by omega
    rcases this with rfl | rfl | rfl | rfl | rfl | rfl | rfl | rfl <;> rfl
  · obtain rfl : k = 8 := by omega
    rfl
theorem e_play (x : List (Int × Int) × Unit) (hx : x.1.length * 16 ≤ 140737488355328) (_ : LensL cPlay.as x) : E_play x := by
  obtain ⟨l, u⟩ := x
  have hx : l.length * 16 ≤ 140737488355328 := hx
  unfold E_play
  simp only [Bool.not_eq_true', Bool.not_eq_false', Bool.not_eq_true, Bool.not_eq_false, beq_self_eq_true, decide_eq_true_eq, decide_eq_false_iff_not, Bool.not_false, Bool.not_true, beq_iff_eq, beq_eq_false_iff_ne, bne_iff_ne, ne_eq, bne_eq_false_iff_eq, holds_iff, true_and, and_true, and_self, eq_self, List.length_cons, List.length_nil, List.length_append, List.length_set, List.length_replicate, List.set_cons_zero, cond_true, cond_false, Bool.false_eq_true, Bool.true_eq_false, forall_const, false_imp_iff, imp_self, implies_true, and_imp, Decidable.not_not, Bool.and_eq_true, Bool.or_eq_true, Bool.and_eq_false_iff, Bool.or_eq_false_iff, ← List.length_eq_zero_iff, or_self, or_false, false_or, Prod.forall, Int.reduceEq, Int.reduceLT, Int.reduceLE, List.nil_append, Nat.zero_add, Int.toNat_zero, List.drop_zero, List.length_drop, List.length_take, not_true_eq_false, not_false_eq_true,  pair_eta]
  refine ⟨⟨by omega, rfl, by omega⟩, ?_⟩
  intro a b c d w k h0 h1 he hw _ _ _ _ _ _ _ _ _ _ _
  refine ⟨fun hk => ?_, fun hk => ?_⟩
  · have hn := pl_next h0 hk
    rw [he] at hn
    rw [hn]
    generalize l.getD k.toNat (0, 0) = o
    refine ⟨⟨h0, hk⟩, fun hb => ⟨by omega, ⟨by omega, by omega, one_bad hb, by omega⟩, by omega⟩, fun hb => ⟨fun hg => ⟨hg, step_core hb⟩, fun hg hi => ?_, fun hg => ?_⟩⟩
    · exact ⟨by omega, by omega, ⟨by omega, by omega, one_in hb hg hi, by omega⟩, by omega⟩
    · exact ⟨by omega, ⟨by omega, by omega, one_out hb hg, by omega⟩, by omega⟩
  · rw [takeI_all (by omega)] at he
    rw [he]; exact ⟨rfl, rfl⟩
theorem e_fplay (x : List (Int × Int) × Unit) (hx : x.1.length * 16 ≤ 140737488355328) (_ : LensL cPlay.as x) : E_fplay x := by
  obtain ⟨l, u⟩ := x
  have hx : l.length * 16 ≤ 140737488355328 := hx
  unfold E_fplay
  simp only [Bool.not_eq_true', Bool.not_eq_false', Bool.not_eq_true, Bool.not_eq_false, beq_self_eq_true, decide_eq_true_eq, decide_eq_false_iff_not, Bool.not_false, Bool.not_true, beq_iff_eq, beq_eq_false_iff_ne, bne_iff_ne, ne_eq, bne_eq_false_iff_eq, holds_iff, true_and, and_true, and_self, eq_self, List.length_cons, List.length_nil, List.length_append, List.length_set, List.length_replicate, List.set_cons_zero, cond_true, cond_false, Bool.false_eq_true, Bool.true_eq_false, forall_const, false_imp_iff, imp_self, implies_true, and_imp, Decidable.not_not, Bool.and_eq_true, Bool.or_eq_true, Bool.and_eq_false_iff, Bool.or_eq_false_iff, ← List.length_eq_zero_iff, or_self, or_false, false_or, Prod.forall, Int.reduceEq, Int.reduceLT, Int.reduceLE, List.nil_append, Nat.zero_add, Int.toNat_zero, List.drop_zero, List.length_drop, List.length_take, not_true_eq_false, not_false_eq_true,  pair_eta]
  refine ⟨⟨by omega, rfl, by omega⟩, ?_⟩
  intro a b c d w k h0 h1 he hw _ _ _ _ _ _ _ _ _ _ _
  refine ⟨fun hk => ?_, fun hk => ?_⟩
  · have hn := pl_next h0 hk
    rw [he] at hn
    rw [hn]
    generalize l.getD k.toNat (0, 0) = o
    refine ⟨⟨h0, hk⟩, fun hb => ⟨fun hg => ⟨hg, step_core hb⟩, fun hg hi => ?_, fun hg => ?_⟩, fun hb => ⟨by omega, ⟨by omega, by omega, one_bad hb, by omega⟩, by omega⟩⟩
    · exact ⟨by omega, by omega, ⟨by omega, by omega, one_in hb hg hi, by omega⟩, by omega⟩
    · exact ⟨by omega, ⟨by omega, by omega, one_out hb hg, by omega⟩, by omega⟩
  · rw [takeI_all (by omega)] at he
    rw [he]; exact ⟨rfl, rfl⟩
theorem e_plays (x : List (Int × Int) × Unit) (hx : x.1.length * 16 ≤ 140737488355328) (_ : LensL cLawP.as x) : E_plays x := by
  unfold E_plays
  simp only [Bool.not_eq_true', Bool.not_eq_false', Bool.not_eq_true, Bool.not_eq_false, beq_self_eq_true, decide_eq_true_eq, decide_eq_false_iff_not, Bool.not_false, Bool.not_true, beq_iff_eq, beq_eq_false_iff_ne, bne_iff_ne, ne_eq, bne_eq_false_iff_eq, holds_iff, true_and, and_true, and_self, eq_self, List.length_cons, List.length_nil, List.length_append, List.length_set, List.length_replicate, List.set_cons_zero, cond_true, cond_false, Bool.false_eq_true, Bool.true_eq_false, forall_const, false_imp_iff, imp_self, implies_true, and_imp, Decidable.not_not, Bool.and_eq_true, Bool.or_eq_true, Bool.and_eq_false_iff, Bool.or_eq_false_iff, ← List.length_eq_zero_iff, or_self, or_false, false_or, Prod.forall, Int.reduceEq, Int.reduceLT, Int.reduceLE, List.nil_append, Nat.zero_add, Int.toNat_zero, List.drop_zero, List.length_drop, List.length_take, not_true_eq_false, not_false_eq_true,  deq_iff, deq_false, pair_eta]
  first | exact ⟨hx, hx⟩ | trivial | (trace_state; done)
theorem pre_plays (x : HL cLawP.as) (_ : GoodL cLawP.as x) (h : FitL cLawP.as x) : x.1.length * 16 ≤ 140737488355328 := by
  have h : x.1.length * 16 ≤ 140737488351232 := h.1.1
  omega

end Go.Proofs.Ytmcepjbbbkgfcaa.Ticketp
