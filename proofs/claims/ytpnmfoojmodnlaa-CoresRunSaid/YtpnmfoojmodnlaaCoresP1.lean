/-
  CoresRun: what is wrong with how it begins; the law.
-/
import Derived.Test.YtpnmfoojmodnlaaCoresP0
namespace Go.Proofs.Ytpnmfoojmodnlaa.Cores
open Go.Sx
set_option maxRecDepth 100000
set_option maxHeartbeats 1000000
set_option linter.unusedSimpArgs false
set_option linter.unusedVariables false

theorem e_wrong (x : Int × Int × List Th × Unit) (hp : True) (hl : LensL cWrong.as x) : E_wrong x := by
  obtain ⟨n, sl, l, u⟩ := x
  have hlen : l.length ≤ 9223372036854775807 := hl.2.2.1.1
  unfold E_wrong
  simp only [Bool.not_eq_true', Bool.not_eq_false', Bool.not_eq_true, Bool.not_eq_false, beq_self_eq_true, decide_eq_true_eq, decide_eq_false_iff_not, Bool.not_false, Bool.not_true, beq_iff_eq, beq_eq_false_iff_ne, bne_iff_ne, ne_eq, bne_eq_false_iff_eq, holds_iff, true_and, and_true, and_self, eq_self, List.length_cons, List.length_nil, List.length_append, List.length_set, List.length_replicate, List.set_cons_zero, cond_true, cond_false, Bool.false_eq_true, Bool.true_eq_false, forall_const, false_imp_iff, imp_self, implies_true, and_imp, Decidable.not_not, Bool.and_eq_true, Bool.or_eq_true, Bool.and_eq_false_iff, Bool.or_eq_false_iff, ← List.length_eq_zero_iff, or_self, or_false, false_or, Prod.forall, Int.reduceEq, Int.reduceLT, Int.reduceLE, List.nil_append, Nat.zero_add, Int.toNat_zero, List.drop_zero, List.length_drop, List.length_take, not_true_eq_false, not_false_eq_true]
  try simp only [flip_f, flip_t, decide_eq_true_eq, decide_eq_false_iff_not]
  refine ⟨fun h => (wr_bad (by unfold okA; omega)).symm, fun a1 a2 a3 a4 a5 => ⟨⟨by omega, rfl⟩, fun k h0 h1 h2 _ _ => ⟨fun h => ⟨⟨h0, h⟩, fun hb => ?_, fun b1 b2 b3 b4 b5 b6 => ?_⟩, fun h => ?_⟩⟩⟩
  · refine (wr_badT h0 h ?_).symm
    rw [← Bool.not_eq_true, okT_iff]
    omega
  · refine ⟨by omega, ⟨by omega, by omega, ?_⟩, by omega⟩
    rw [all_succ h0 h h2, okT_iff]
    omega
  · rw [takeI_all (by omega)] at h2
    exact (wr_ok (by unfold okA; omega) h2).symm
theorem e_nwrong (x : Int × Int × List Th × Unit) (hp : True) (hl : LensL cWrong.as x) : E_nwrong x := by
  obtain ⟨n, sl, l, u⟩ := x
  have hlen : l.length ≤ 9223372036854775807 := hl.2.2.1.1
  unfold E_nwrong
  simp only [Bool.not_eq_true', Bool.not_eq_false', Bool.not_eq_true, Bool.not_eq_false, beq_self_eq_true, decide_eq_true_eq, decide_eq_false_iff_not, Bool.not_false, Bool.not_true, beq_iff_eq, beq_eq_false_iff_ne, bne_iff_ne, ne_eq, bne_eq_false_iff_eq, holds_iff, true_and, and_true, and_self, eq_self, List.length_cons, List.length_nil, List.length_append, List.length_set, List.length_replicate, List.set_cons_zero, cond_true, cond_false, Bool.false_eq_true, Bool.true_eq_false, forall_const, false_imp_iff, imp_self, implies_true, and_imp, Decidable.not_not, Bool.and_eq_true, Bool.or_eq_true, Bool.and_eq_false_iff, Bool.or_eq_false_iff, ← List.length_eq_zero_iff, or_self, or_false, false_or, Prod.forall, Int.reduceEq, Int.reduceLT, Int.reduceLE, List.nil_append, Nat.zero_add, Int.toNat_zero, List.drop_zero, List.length_drop, List.length_take, not_true_eq_false, not_false_eq_true]
  try simp only [flip_f, flip_t, decide_eq_true_eq, decide_eq_false_iff_not]
  refine ⟨⟨by omega, ?_⟩, fun b k _ h0 h1 h2 _ _ => ⟨fun h => ⟨⟨h0, h⟩, by omega, ⟨by omega, by omega, ?_⟩, by omega⟩, fun h => ⟨fun hb => ?_, fun hb => ?_⟩⟩⟩
  · rw [List.take_zero, List.all_nil, Bool.and_true]
    by_cases e : okA n sl l
    · rw [decide_eq_true e]
      unfold okA at e
      simp only [Bool.and_eq_true, decide_eq_true_eq]
      omega
    · rw [decide_eq_false e, Bool.eq_false_iff]
      intro h
      simp only [Bool.and_eq_true, decide_eq_true_eq] at h
      exact e (by unfold okA; omega)
  · rw [takeI_succ (0, 0, 0) h0 h, List.all_append, h2]
    generalize (l.take k.toNat).all okT = c
    generalize decide (okA n sl l) = d
    cases d <;> cases c <;> simp only [Bool.false_and, Bool.true_and, Bool.and_false, List.all_cons, List.all_nil, Bool.and_true]
    rw [Bool.eq_iff_iff, okT_iff]
    simp only [Bool.and_eq_true, decide_eq_true_eq]
    omega
  · rw [takeI_all (by omega)] at h2
    unfold wr
    rw [if_neg]
    rintro ⟨e1, e2⟩
    rw [hb, e2, decide_eq_true e1] at h2
    cases h2
  · rw [takeI_all (by omega), hb] at h2
    have := h2.symm
    simp only [Bool.and_eq_true, decide_eq_true_eq] at this
    exact (wr_ok this.1 this.2).symm
theorem wr_cases (n sl : Int) (l : List Th) : wr n sl l = 0 ∨ wr n sl l = 2 := by unfold wr; split <;> simp
theorem e_law (x : Int × Int × List Th × Int × Unit) (hp : True) (hl : LensL cLaw.as x) : E_law x := by
  obtain ⟨n, sl, l, t, u⟩ := x
  unfold E_law crun
  simp only [holds_iff]
  rcases wr_cases n sl l with h | h
  · by_cases h1 : t < 0 ∨ 2000 < t
    · have h2 : (wr n sl l ≠ 0 ∨ t < 0 ∨ 2000 < t) := .inr h1
      simp only [if_pos h2, h]
      rcases h1 with h1 | h1
      · simp [h1]
      · simp [h1]
    · have h2 : ¬ (wr n sl l ≠ 0 ∨ t < 0 ∨ 2000 < t) := by rintro (e | e); exact e h; exact h1 e
      simp only [if_neg h2, h]
      have h3 : ¬ t < 0 := by omega
      have h4 : ¬ 2000 < t := by omega
      simp [h3, h4]
      omega
  · have h2 : (wr n sl l ≠ 0 ∨ t < 0 ∨ 2000 < t) := .inl (by rw [h]; decide)
    simp only [if_pos h2, h]
    simp
theorem pre_law (x : HL cLaw.as) (_ : GoodL cLaw.as x) (_ : FitL cLaw.as x) : True := trivial

end Go.Proofs.Ytpnmfoojmodnlaa.Cores
