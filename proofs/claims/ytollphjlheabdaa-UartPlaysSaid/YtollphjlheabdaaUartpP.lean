/-
  UartPlays: the conditions hold.
-/
import Derived.Test.YtollphjlheabdaaUartpUartP
namespace Go.Proofs.Ytollphjlheabdaa.Uartp
open Go.Sx
set_option maxRecDepth 100000
set_option maxHeartbeats 1000000
set_option linter.unusedSimpArgs false
set_option linter.unusedVariables false

theorem step_kind {u : UT} {k c : Int} (h : (step u k c).2.2.1 = 0) : k = 1 ∨ k = 2 ∨ k = 3 ∨ k = 4 := by
  revert h
  unfold step
  repeat' split
  all_goals first | (intro _; omega) | (intro h; cases h)
theorem ppl_next {l : List (Int × Int)} {k : Int} (h0 : 0 ≤ k) (hk : k < l.length) : ppl (l.take (k + 1).toNat) = pone (ppl (l.take k.toNat)) (l.getD k.toNat (0, 0)) := by
  unfold ppl
  exact foldl_takeI (f := pone) (b := (([], [], 0, false), [], [])) (0, 0) h0 hk
theorem e_play (x : List (Int × Int) × Unit) (hp : x.1.length * 16 ≤ 140737488355328) (_ : LensL cPlay.as x) : E_play x := by
  obtain ⟨l, u⟩ := x
  have hp : l.length * 16 ≤ 140737488355328 := hp
  unfold E_play
  simp only [Bool.not_eq_true', Bool.not_eq_false', Bool.not_eq_true, Bool.not_eq_false, beq_self_eq_true, decide_eq_true_eq, decide_eq_false_iff_not, Bool.not_false, Bool.not_true, beq_iff_eq, beq_eq_false_iff_ne, bne_iff_ne, ne_eq, bne_eq_false_iff_eq, holds_iff, true_and, and_true, and_self, eq_self, List.length_cons, List.length_nil, List.length_append, List.length_set, List.length_replicate, List.set_cons_zero, cond_true, cond_false, Bool.false_eq_true, Bool.true_eq_false, forall_const, false_imp_iff, imp_self, implies_true, and_imp, Decidable.not_not, Bool.and_eq_true, Bool.or_eq_true, Bool.and_eq_false_iff, Bool.or_eq_false_iff, ← List.length_eq_zero_iff, or_self, or_false, false_or, Prod.forall, Int.reduceEq, Int.reduceLT, Int.reduceLE, List.nil_append, Nat.zero_add, Int.toNat_zero, List.drop_zero, List.length_drop, List.length_take, not_true_eq_false, not_false_eq_true,  pair_eta]
  refine ⟨⟨by omega, rfl, by omega⟩, ?_⟩
  intro i o n b r q k k0 k1 hpl hl _ _ _ _ _ _ _ _ _ _ _ _
  refine ⟨fun k2 => ?_, fun k2 => ?_⟩
  · have hn := ppl_next k0 k2
    rw [hpl] at hn
    rw [hn]
    generalize l.getD k.toNat (0, 0) = op
    clear hpl hn
    unfold pone
    refine ⟨⟨k0, k2⟩, fun h => ⟨by omega, ⟨by omega, by omega, by rw [if_neg h], by omega⟩, by omega⟩, fun h => ?_⟩
    rw [if_pos h]
    refine ⟨fun h2 => ?_, fun h2 => ⟨fun h4 => ?_, fun h4 => ?_⟩⟩
    · rw [if_pos h2, if_neg (by omega)]
      exact ⟨by omega, by omega, ⟨by omega, by omega, rfl, by omega⟩, by omega⟩
    · rw [if_neg h2, if_pos h4]
      exact ⟨by omega, by omega, ⟨by omega, by omega, rfl, by omega⟩, by omega⟩
    · rw [if_neg h2, if_neg h4]
      exact ⟨by omega, ⟨by omega, by omega, rfl, by omega⟩, by omega⟩
  · rw [takeI_all (by omega)] at hpl
    rw [hpl]; exact ⟨rfl, rfl, rfl⟩
theorem e_pplay (x : List (Int × Int) × Unit) (hp : x.1.length * 16 ≤ 140737488355328) (_ : LensL cPlay.as x) : E_pplay x := by
  obtain ⟨l, u⟩ := x
  have hp : l.length * 16 ≤ 140737488355328 := hp
  unfold E_pplay
  simp only [Bool.not_eq_true', Bool.not_eq_false', Bool.not_eq_true, Bool.not_eq_false, beq_self_eq_true, decide_eq_true_eq, decide_eq_false_iff_not, Bool.not_false, Bool.not_true, beq_iff_eq, beq_eq_false_iff_ne, bne_iff_ne, ne_eq, bne_eq_false_iff_eq, holds_iff, true_and, and_true, and_self, eq_self, List.length_cons, List.length_nil, List.length_append, List.length_set, List.length_replicate, List.set_cons_zero, cond_true, cond_false, Bool.false_eq_true, Bool.true_eq_false, forall_const, false_imp_iff, imp_self, implies_true, and_imp, Decidable.not_not, Bool.and_eq_true, Bool.or_eq_true, Bool.and_eq_false_iff, Bool.or_eq_false_iff, ← List.length_eq_zero_iff, or_self, or_false, false_or, Prod.forall, Int.reduceEq, Int.reduceLT, Int.reduceLE, List.nil_append, Nat.zero_add, Int.toNat_zero, List.drop_zero, List.length_drop, List.length_take, not_true_eq_false, not_false_eq_true,  pair_eta]
  refine ⟨⟨by omega, rfl, by omega⟩, ?_⟩
  intro i o n b r q k k0 k1 hpl hl _ _ _ _ _ _ _ _ _ _ _ _
  refine ⟨fun k2 => ?_, fun k2 => ?_⟩
  · have hn := ppl_next k0 k2
    rw [hpl] at hn
    rw [hn]
    generalize l.getD k.toNat (0, 0) = op
    clear hpl hn
    unfold pone
    refine ⟨⟨k0, k2⟩, fun h => ⟨step_kind h, ?_, ?_, ?_, ?_⟩, fun h => ⟨by omega, ⟨by omega, by omega, by rw [if_neg h], by omega⟩, by omega⟩⟩
    all_goals rw [if_pos h]
    all_goals intro a1 a2 a3 a4 he hk _ _ _ _ _ _
    all_goals rw [hk]
    all_goals rw [hk] at he
    all_goals refine ⟨fun h2 => ?_, fun h2 => ?_⟩
    all_goals first
      | omega
      | exact ⟨by omega, by omega, by omega, by omega, by omega, by omega, ⟨by omega, by omega, by rw [he]; rfl, by omega⟩, by omega⟩
      | exact ⟨by omega, ⟨by omega, by omega, by rw [he]; rfl, by omega⟩, by omega⟩
  · rw [takeI_all (by omega)] at hpl
    rw [hpl]; exact ⟨by omega, by omega, rfl, rfl, rfl⟩
theorem same_self (u : UT) : same u u = true := by simp [same]
theorem e_plays (x : List (Int × Int) × Unit) (hp : x.1.length * 16 ≤ 140737488355328) (_ : LensL cLawP.as x) : E_plays x := by
  unfold E_plays
  simp only [Bool.not_eq_true', Bool.not_eq_false', Bool.not_eq_true, Bool.not_eq_false, beq_self_eq_true, decide_eq_true_eq, decide_eq_false_iff_not, Bool.not_false, Bool.not_true, beq_iff_eq, beq_eq_false_iff_ne, bne_iff_ne, ne_eq, bne_eq_false_iff_eq, holds_iff, true_and, and_true, and_self, eq_self, List.length_cons, List.length_nil, List.length_append, List.length_set, List.length_replicate, List.set_cons_zero, cond_true, cond_false, Bool.false_eq_true, Bool.true_eq_false, forall_const, false_imp_iff, imp_self, implies_true, and_imp, Decidable.not_not, Bool.and_eq_true, Bool.or_eq_true, Bool.and_eq_false_iff, Bool.or_eq_false_iff, ← List.length_eq_zero_iff, or_self, or_false, false_or, Prod.forall, Int.reduceEq, Int.reduceLT, Int.reduceLE, List.nil_append, Nat.zero_add, Int.toNat_zero, List.drop_zero, List.length_drop, List.length_take, not_true_eq_false, not_false_eq_true,  deq_iff, deq_false, pair_eta, same_self]
  first | exact hp | exact ⟨hp, hp⟩ | (trace_state; done)
theorem pre_plays (x : HL cLawP.as) (_ : GoodL cLawP.as x) (h : FitL cLawP.as x) : x.1.length * 16 ≤ 140737488355328 := by
  have h1 : x.1.length * 16 ≤ 140737488351232 := h.1.1
  omega

end Go.Proofs.Ytollphjlheabdaa.Uartp
