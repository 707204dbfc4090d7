/-
  WorkPlays: the conditions of the small functions and of work.Play.
-/
import Derived.Test.YtlkhpbjjimjhbaaWorkP0
namespace Go.Proofs.Ytlkhpbjjimjhbaa.Work
open Go.Sx
set_option maxRecDepth 100000
set_option maxHeartbeats 1000000
set_option linter.unusedSimpArgs false
set_option linter.unusedVariables false

theorem e_index (x : List Int × Int × Unit) (hp : True) (hl : LensL cIndex.as x) : E_index x := by
  obtain ⟨l, b, u⟩ := x
  have hlen : l.length ≤ 9223372036854775807 := hl.1.1
  unfold E_index
  simp only [Bool.not_eq_true', Bool.not_eq_false', Bool.not_eq_true, Bool.not_eq_false, beq_self_eq_true, decide_eq_true_eq, decide_eq_false_iff_not, Bool.not_false, Bool.not_true, beq_iff_eq, beq_eq_false_iff_ne, bne_iff_ne, ne_eq, bne_eq_false_iff_eq, holds_iff, true_and, and_true, and_self, eq_self, List.length_cons, List.length_nil, List.length_append, List.length_set, List.length_replicate, List.set_cons_zero, cond_true, cond_false, Bool.false_eq_true, Bool.true_eq_false, forall_const, false_imp_iff, imp_self, implies_true, and_imp, Decidable.not_not, Bool.and_eq_true, Bool.or_eq_true, Bool.and_eq_false_iff, Bool.or_eq_false_iff, ← List.length_eq_zero_iff, or_self, or_false, false_or, Prod.forall, Int.reduceEq, Int.reduceLT, Int.reduceLE, List.nil_append, Nat.zero_add, Int.toNat_zero, List.drop_zero, List.length_drop, List.length_take, not_true_eq_false, not_false_eq_true]
  try simp only [flip_f, flip_t, decide_eq_true_eq, decide_eq_false_iff_not]
  refine ⟨⟨by omega, rfl⟩, ?_⟩
  intro k k0 k1 hn _ _
  refine ⟨fun k2 => ⟨⟨k0, k2⟩, fun h => ?_, fun h => ?_⟩, fun k2 => ?_⟩
  · rw [idx_at (by omega) hn (by first | exact h | exact h.symm)]; omega
  · refine ⟨by omega, ⟨by omega, by omega, ?_⟩, by omega⟩
    exact take_none k0 k2 hn (by first | exact h | exact fun e => h e.symm)
  · rw [takeI_all (by omega)] at hn
    rw [idx_none hn]
theorem e_contains (x : List Int × Int × Unit) (hp : True) (hl : LensL cContains.as x) : E_contains x := by
  unfold E_contains
  simp only [Bool.not_eq_true', Bool.not_eq_false', Bool.not_eq_true, Bool.not_eq_false, beq_self_eq_true, decide_eq_true_eq, decide_eq_false_iff_not, Bool.not_false, Bool.not_true, beq_iff_eq, beq_eq_false_iff_ne, bne_iff_ne, ne_eq, bne_eq_false_iff_eq, holds_iff, true_and, and_true, and_self, eq_self, List.length_cons, List.length_nil, List.length_append, List.length_set, List.length_replicate, List.set_cons_zero, cond_true, cond_false, Bool.false_eq_true, Bool.true_eq_false, forall_const, false_imp_iff, imp_self, implies_true, and_imp, Decidable.not_not, Bool.and_eq_true, Bool.or_eq_true, Bool.and_eq_false_iff, Bool.or_eq_false_iff, ← List.length_eq_zero_iff, or_self, or_false, false_or, Prod.forall, Int.reduceEq, Int.reduceLT, Int.reduceLE, List.nil_append, Nat.zero_add, Int.toNat_zero, List.drop_zero, List.length_drop, List.length_take, not_true_eq_false, not_false_eq_true]
  try simp only [flip_f, flip_t, decide_eq_true_eq, decide_eq_false_iff_not]
  try exact trivial
theorem e_clone (x : List Int × Unit) (hx : x.1.length * 8 ≤ 140737488355328) (_ : LensL cClone.as x) : E_clone x := by
  unfold E_clone
  simp only [Bool.not_eq_true', Bool.not_eq_false', Bool.not_eq_true, Bool.not_eq_false, beq_self_eq_true, decide_eq_true_eq, decide_eq_false_iff_not, Bool.not_false, Bool.not_true, beq_iff_eq, beq_eq_false_iff_ne, bne_iff_ne, ne_eq, bne_eq_false_iff_eq, holds_iff, true_and, and_true, and_self, eq_self, List.length_cons, List.length_nil, List.length_append, List.length_set, List.length_replicate, List.set_cons_zero, cond_true, cond_false, Bool.false_eq_true, Bool.true_eq_false, forall_const, false_imp_iff, imp_self, implies_true, and_imp, Decidable.not_not, Bool.and_eq_true, Bool.or_eq_true, Bool.and_eq_false_iff, Bool.or_eq_false_iff, ← List.length_eq_zero_iff, or_self, or_false, false_or, Prod.forall, Int.reduceEq, Int.reduceLT, Int.reduceLE, List.nil_append, Nat.zero_add, Int.toNat_zero, List.drop_zero, List.length_drop, List.length_take, not_true_eq_false, not_false_eq_true]
  try simp only [flip_f, flip_t, decide_eq_true_eq, decide_eq_false_iff_not]
  intro b hb
  refine ⟨fun h => ?_, fun _ => by omega⟩
  have := hb h
  first | exact this.symm | (rw [this]) | (exact (List.length_eq_zero_iff.1 (by omega)).symm)
theorem e_equal (x : List Int × List Int × Unit) (_ : True) (hl : LensL cEqual.as x) : E_equal x := by
  obtain ⟨xs, ys, u⟩ := x
  have hlx : xs.length ≤ 9223372036854775807 := hl.1.1
  unfold E_equal
  simp only [Bool.not_eq_true', Bool.not_eq_false', Bool.not_eq_true, Bool.not_eq_false, beq_self_eq_true, decide_eq_true_eq, decide_eq_false_iff_not, Bool.not_false, Bool.not_true, beq_iff_eq, beq_eq_false_iff_ne, bne_iff_ne, ne_eq, bne_eq_false_iff_eq, holds_iff, true_and, and_true, and_self, eq_self, List.length_cons, List.length_nil, List.length_append, List.length_set, List.length_replicate, List.set_cons_zero, cond_true, cond_false, Bool.false_eq_true, Bool.true_eq_false, forall_const, false_imp_iff, imp_self, implies_true, and_imp, Decidable.not_not, Bool.and_eq_true, Bool.or_eq_true, Bool.and_eq_false_iff, Bool.or_eq_false_iff, ← List.length_eq_zero_iff, or_self, or_false, false_or, Prod.forall, Int.reduceEq, Int.reduceLT, Int.reduceLE, List.nil_append, Nat.zero_add, Int.toNat_zero, List.drop_zero, List.length_drop, List.length_take, not_true_eq_false, not_false_eq_true]
  try simp only [flip_f, flip_t, decide_eq_true_eq, decide_eq_false_iff_not]
  repeat' (first | with_reducible apply And.intro | with_reducible intro _)
  all_goals try omega
  all_goals grind [takeI_succ, takeI_all]
theorem e_equali (x : List Int × List Int × Unit) (_ : True) (hl : LensL cEqual.as x) : E_equali x := by
  obtain ⟨xs, ys, u⟩ := x
  have hlx : xs.length ≤ 9223372036854775807 := hl.1.1
  unfold E_equali
  simp only [Bool.not_eq_true', Bool.not_eq_false', Bool.not_eq_true, Bool.not_eq_false, beq_self_eq_true, decide_eq_true_eq, decide_eq_false_iff_not, Bool.not_false, Bool.not_true, beq_iff_eq, beq_eq_false_iff_ne, bne_iff_ne, ne_eq, bne_eq_false_iff_eq, holds_iff, true_and, and_true, and_self, eq_self, List.length_cons, List.length_nil, List.length_append, List.length_set, List.length_replicate, List.set_cons_zero, cond_true, cond_false, Bool.false_eq_true, Bool.true_eq_false, forall_const, false_imp_iff, imp_self, implies_true, and_imp, Decidable.not_not, Bool.and_eq_true, Bool.or_eq_true, Bool.and_eq_false_iff, Bool.or_eq_false_iff, ← List.length_eq_zero_iff, or_self, or_false, false_or, Prod.forall, Int.reduceEq, Int.reduceLT, Int.reduceLE, List.nil_append, Nat.zero_add, Int.toNat_zero, List.drop_zero, List.length_drop, List.length_take, not_true_eq_false, not_false_eq_true]
  try simp only [flip_f, flip_t, decide_eq_true_eq, decide_eq_false_iff_not]
  repeat' (first | with_reducible apply And.intro | with_reducible intro _)
  all_goals try omega
  all_goals grind [takeI_succ, takeI_all]
theorem play_le {ops : List (Int × Int)} (h : ¬ (400 : Int) < ops.length) : play ops = ((pl ops).2, (pl ops).1.2.2, (pl ops).1.1, (pl ops).1.2.1, 0, ()) := by
  unfold play
  rw [if_neg (by omega)]
theorem play_gt {ops : List (Int × Int)} (h : (400 : Int) < ops.length) : play ops = ([], [], [], 0, 2, ()) := by
  unfold play
  rw [if_pos (by omega)]
theorem e_play (x : List (Int × Int) × Unit) (hpre : True) (hlens : LensL cPlay.as x) : E_play x := by
  obtain ⟨x, u⟩ := x
  unfold E_play
  simp only [Bool.not_eq_true', Bool.not_eq_false', Bool.not_eq_true, Bool.not_eq_false, beq_self_eq_true, decide_eq_true_eq, decide_eq_false_iff_not, Bool.not_false, Bool.not_true, beq_iff_eq, beq_eq_false_iff_ne, bne_iff_ne, ne_eq, bne_eq_false_iff_eq, holds_iff, true_and, and_true, and_self, eq_self, List.length_cons, List.length_nil, List.length_append, List.length_set, List.length_replicate, List.set_cons_zero, cond_true, cond_false, Bool.false_eq_true, Bool.true_eq_false, forall_const, false_imp_iff, imp_self, implies_true, and_imp, Decidable.not_not, Bool.and_eq_true, Bool.or_eq_true, Bool.and_eq_false_iff, Bool.or_eq_false_iff, ← List.length_eq_zero_iff, or_self, or_false, false_or, Prod.forall, Int.reduceEq, Int.reduceLT, Int.reduceLE, List.nil_append, Nat.zero_add, Int.toNat_zero, List.drop_zero, List.length_drop, List.length_take, not_true_eq_false, not_false_eq_true,  pair_eta, take_all, toNat1, Int.toNat_natCast, Nat.min_self, List.take_length]
  refine ⟨fun h => by rw [play_gt h]; exact ⟨rfl, rfl, rfl, rfl, rfl⟩, fun h => ⟨⟨by omega, rfl, ⟨by simp, by simp, by simp [lst]⟩, rfl⟩, ?_⟩⟩
  intro w b d e k hk0 hk1 hpl hg hel _ _ _ _ _ _ _ _ _ _
  have hgl := hg.2.2
  have hgw := hg.1
  have hgb := hg.2.1
  simp only [] at hgw hgb
  have hlw : (w.length : Int) + (if 0 ≤ b then 1 else 0) + d.length ≤ k := by
    unfold lst at hgl
    simp only [] at hgl
    by_cases hb : 0 ≤ b
    · rw [if_pos hb] at hgl ⊢
      simp only [List.length_cons] at hgl
      omega
    · rw [if_neg hb] at hgl ⊢
      omega
  have hlw2 : (w.length : Int) + d.length ≤ k := by
    by_cases hb : 0 ≤ b
    · rw [if_pos hb] at hlw; omega
    · rw [if_neg hb] at hlw; omega
  refine ⟨fun hlt => ⟨⟨hk0, hlt⟩, ?_⟩, fun hge => ?_⟩
  case refine_2 =>
    rw [play_le h]
    rw [takeI_all (by omega)] at hpl
    rw [hpl]
    exact ⟨by omega, rfl, rfl, rfl, rfl, rfl⟩
  have hst := fun (s' : WS) (c : Int) (hs : step (w, b, d) (x.getD k.toNat (0, 0)) = (s', c)) => st_fin hk0 hlt hpl hg hel rfl hs
  generalize x.getD k.toNat (0, 0) = o at *
  obtain ⟨kd, it⟩ := o
  simp only []
  have hi := idx_range w it
  clear hpl hpre hlens
  have hgl : ((lst (w, b, d)).length : Int) + d.length ≤ k := hgl
  repeat' (first
    | refine hst _ _ ?_
    | with_reducible apply And.intro
    | with_reducible intro _)
  all_goals try omega
  all_goals try first
    | (exact (hgw _ (by assumption)).1)
    | (exact fl_end (by assumption) (by assumption) (by omega) (by assumption))
    | (exact len_end (by assumption) (by assumption))
    | (exact mea_end (by assumption))
    | (exact absurd (by assumption) (busy_ne (by assumption) (by omega) (by assumption)))
    | (exact fl_begin (by assumption) (by assumption) (by assumption) (by assumption) (by omega) (by assumption))
    | (exact len_begin (by assumption) (by assumption) (by assumption) (by assumption))
    | (exact mea_begin (by assumption) (by assumption))
    | (rename_i hgg _; exact hgg _ (List.mem_of_mem_drop (by assumption)))
  all_goals try first
    | (solve_by_elim)
    | (exact drop_ge (by assumption) (by assumption))
  all_goals try (rw [del_eq] <;> first | rfl | omega | skip)
  all_goals try omega
  all_goals try (
    unfold step
    simp only []
    (repeat' split) <;> first | rfl | (exfalso; omega) | (exact fl_exit (by assumption) (by omega) (by assumption) (by assumption)))

end Go.Proofs.Ytlkhpbjjimjhbaa.Work
