/-
  BenchReads: the law's own condition, a line, a line read.
-/
import Derived.Test.YtjafnenkgmbgaaaDoorBenchP2
namespace Go.Proofs.YtjafnenkgmbgaaaDoor.Bench
open Go.Sx
set_option maxRecDepth 100000
set_option maxHeartbeats 1000000
set_option linter.unusedSimpArgs false
set_option linter.unusedVariables false

theorem e_law (x : List KO × List Int × Unit) (hp : x.1.length ≤ 1048576 ∧ x.2.1.length ≤ 1048576) (hl : LensL cLaw.as x) : E_law x := by
  obtain ⟨ops, s, u⟩ := x
  have hp : ops.length ≤ 1048576 ∧ s.length ≤ 1048576 := hp
  unfold E_law
  simp only [Bool.not_eq_true', Bool.not_eq_false', Bool.not_eq_true, Bool.not_eq_false, beq_self_eq_true, decide_eq_true_eq, decide_eq_false_iff_not, Bool.not_false, Bool.not_true, beq_iff_eq, beq_eq_false_iff_ne, bne_iff_ne, ne_eq, bne_eq_false_iff_eq, holds_iff, true_and, and_true, and_self, eq_self, List.length_cons, List.length_nil, List.length_append, List.length_set, List.length_replicate, List.set_cons_zero, cond_true, cond_false, Bool.false_eq_true, Bool.true_eq_false, forall_const, false_imp_iff, imp_self, implies_true, and_imp, Decidable.not_not, Bool.and_eq_true, Bool.or_eq_true, Bool.and_eq_false_iff, Bool.or_eq_false_iff, ← List.length_eq_zero_iff, or_self, or_false, false_or, Prod.forall, Int.reduceEq, Int.reduceLT, Int.reduceLE, List.nil_append, Nat.zero_add, Int.toNat_zero, List.drop_zero, List.length_drop, List.length_take, not_true_eq_false, not_false_eq_true,  hp.1, hp.2]
theorem word_len {k : Int} (h1 : ¬ k < 1) (h2 : ¬ 6 < k) : (wordsK.getD (k - 1).toNat []).length ≤ 7 := by
  have : k = 1 ∨ k = 2 ∨ k = 3 ∨ k = 4 ∨ k = 5 ∨ k = 6 := by omega
  rcases this with e | e | e | e | e | e <;> subst e <;> decide
theorem okK_bad {k c n b : Int} (h : k < 1 ∨ 6 < k) : okK (k, c, n, b) = false := by
  unfold okK
  exact decide_eq_false fun h' => by
    have h1 : 1 ≤ k := h'.1
    have h2 : k ≤ 6 := h'.2.1
    omega
theorem okK_no {k c n b m : Int} (e : numK (k, c, n, b) = m) (h : m < 0 ∨ 1099511627776 < m) : okK (k, c, n, b) = false := by
  unfold okK
  rw [e]
  exact decide_eq_false fun h' => by
    have h1 := h'.2.2
    omega
theorem okK_yes {k c n b m : Int} (e : numK (k, c, n, b) = m) (h1 : ¬ k < 1) (h2 : ¬ 6 < k) (h3 : ¬ m < 0) (h4 : ¬ 1099511627776 < m) : okK (k, c, n, b) = true := by
  unfold okK
  rw [e]
  refine decide_eq_true ⟨?_, ?_, ?_, ?_⟩
  · show 1 ≤ k
    omega
  · show k ≤ 6
    omega
  · omega
  · omega
theorem line_yes {k c n b m : Int} (e : numK (k, c, n, b) = m) (h1 : ¬ k < 1) (h2 : ¬ 6 < k) (h3 : ¬ m < 0) (h4 : ¬ 1099511627776 < m) :
    (-9223372036854775808 ≤ k - 1 ∧ k - 1 ≤ 9223372036854775807) ∧ (0 ≤ k - 1 ∧ k - 1 < (wordsK.length : Int)) ∧ (wordsK.getD (k - 1).toNat []).length + 1 ≤ 9223372036854775807 ∧
    (0 ≤ m ∧ m ≤ 1099511627776) ∧ (wordsK.getD (k - 1).toNat []).length + 1 + (dec m).length ≤ 9223372036854775807 ∧
    (wordsK.getD (k - 1).toNat [] ++ [32] ++ dec m = if okK (k, c, n, b) = true then txtK (k, c, n, b) else []) ∧ okK (k, c, n, b) = true := by
  have hw := word_len h1 h2
  have hd := dec_len (n := m) (by omega)
  have hk : (wordsK.length : Int) = 6 := rfl
  refine ⟨by omega, by omega, by omega, by omega, by omega, ?_, okK_yes e h1 h2 h3 h4⟩
  rw [if_pos (okK_yes e h1 h2 h3 h4), txtK, e, List.append_assoc]
theorem e_line (x : KO × Unit) (_ : True) (hl : LensL cLine.as x) : E_line x := by
  obtain ⟨⟨k, c, n, b⟩, u⟩ := x
  have hb : 0 ≤ b ∧ b ≤ 255 := hl.1.2.2.2
  change Int at k c n b
  unfold E_line
  simp only [Bool.not_eq_true', Bool.not_eq_false', Bool.not_eq_true, Bool.not_eq_false, beq_self_eq_true, decide_eq_true_eq, decide_eq_false_iff_not, Bool.not_false, Bool.not_true, beq_iff_eq, beq_eq_false_iff_ne, bne_iff_ne, ne_eq, bne_eq_false_iff_eq, holds_iff, true_and, and_true, and_self, eq_self, List.length_cons, List.length_nil, List.length_append, List.length_set, List.length_replicate, List.set_cons_zero, cond_true, cond_false, Bool.false_eq_true, Bool.true_eq_false, forall_const, false_imp_iff, imp_self, implies_true, and_imp, Decidable.not_not, Bool.and_eq_true, Bool.or_eq_true, Bool.and_eq_false_iff, Bool.or_eq_false_iff, ← List.length_eq_zero_iff, or_self, or_false, false_or, Prod.forall, Int.reduceEq, Int.reduceLT, Int.reduceLE, List.nil_append, Nat.zero_add, Int.toNat_zero, List.drop_zero, List.length_drop, List.length_take, not_true_eq_false, not_false_eq_true]
  try simp only [flip_f, flip_t, decide_eq_true_eq, decide_eq_false_iff_not]
  refine ⟨fun h => by rw [okK_bad h]; exact ⟨rfl, rfl⟩, fun h1 h2 => ⟨fun e3 => ⟨fun e1 => by omega, fun e1 => ⟨fun h => ?_, fun h3 h4 => ?_⟩⟩, fun e3 => ⟨fun e1 => ⟨by omega, fun h => ?_, fun h3 h4 => ?_⟩, fun e1 => ⟨fun h => ?_, fun h3 h4 => ?_⟩⟩⟩⟩
  · rw [okK_no (m := n) (by simp [numK, e3]) h]
    exact ⟨rfl, rfl⟩
  · exact line_yes (m := n) (by simp [numK, e3]) h1 h2 h3 h4
  · rw [okK_no (m := b) (by simp [numK, e1]) h]
    exact ⟨rfl, rfl⟩
  · exact line_yes (m := b) (by simp [numK, e1]) h1 h2 h3 h4
  · rw [okK_no (m := c) (by simp [numK, e1, e3]) h]
    exact ⟨rfl, rfl⟩
  · exact line_yes (m := c) (by simp [numK, e1, e3]) h1 h2 h3 h4
theorem readO_step {w : List Int} {n : Int} {s : List Int} {a : Int} (h0 : 0 ≤ a) (h1 : a < 6) : readO w n s (6 - a).toNat = if wordsK.getD a.toNat [] = w then (mkO (1 + a) n, okK (mkO (1 + a) n) && decide (txtK (mkO (1 + a) n) = s)) else readO w n s (6 - (a + 1)).toNat := by
  have : a = 0 ∨ a = 1 ∨ a = 2 ∨ a = 3 ∨ a = 4 ∨ a = 5 := by omega
  rcases this with e | e | e | e | e | e <;> subst e <;> rfl
theorem ok_and {o : KO} {s : List Int} (hs : s ≠ []) : (okK o && decide ((if okK o = true then txtK o else []) = s)) = (okK o && decide (txtK o = s)) := by
  cases okK o with
  | true => simp
  | false => simp
theorem ok_and' {o : KO} {s : List Int} : (okK o && decide ((if okK o = true then txtK o else []) = s)) = (okK o && decide (txtK o = s)) := by
  cases okK o with
  | true => simp
  | false => simp
theorem e_read (x : List Int × Unit) (hp : x.1.length ≤ 1048576) (hl : LensL cRead.as x) : E_read x := by
  obtain ⟨s, u⟩ := x
  have hp : s.length ≤ 1048576 := hp
  have hcl := pcut_len s [32]
  have hwl : (wordsK.length : Int) = 6 := rfl
  unfold E_read
  simp only [Bool.not_eq_true', Bool.not_eq_false', Bool.not_eq_true, Bool.not_eq_false, beq_self_eq_true, decide_eq_true_eq, decide_eq_false_iff_not, Bool.not_false, Bool.not_true, beq_iff_eq, beq_eq_false_iff_ne, bne_iff_ne, ne_eq, bne_eq_false_iff_eq, holds_iff, true_and, and_true, and_self, eq_self, List.length_cons, List.length_nil, List.length_append, List.length_set, List.length_replicate, List.set_cons_zero, cond_true, cond_false, Bool.false_eq_true, Bool.true_eq_false, forall_const, false_imp_iff, imp_self, implies_true, and_imp, Decidable.not_not, Bool.and_eq_true, Bool.or_eq_true, Bool.and_eq_false_iff, Bool.or_eq_false_iff, ← List.length_eq_zero_iff, or_self, or_false, false_or, Prod.forall, Int.reduceEq, Int.reduceLT, Int.reduceLE, List.nil_append, Nat.zero_add, Int.toNat_zero, List.drop_zero, List.length_drop, List.length_take, not_true_eq_false, not_false_eq_true,  RR_eq, wrap8]
  refine ⟨hp, by omega, rfl, fun a _ h0 h6 hr _ _ => ⟨fun h1 => ⟨by omega, fun h2 => ⟨by omega, ⟨by omega, by omega, ?_⟩, by omega⟩, fun e1 e2 => ?_⟩, fun h1 => ?_⟩⟩
  · rw [hr]
    by_cases hE : atoiE (cutB s [32]) = true
    · rw [if_pos hE, if_pos hE]
    · rw [if_neg hE, if_neg hE, readO_step h0 (by omega), if_neg (h2.resolve_right hE)]
  · rw [e2, if_neg (by decide), readO_step h0 (by omega), if_pos e1] at hr
    rw [hr]
    refine ⟨by omega, fun k1 => ⟨?_, ?_⟩, fun k1 => ⟨fun k3 => ⟨?_, ?_⟩, fun k3 => ⟨?_, ?_⟩⟩⟩
    · simp [mkO, k1]
    · rw [ok_and', mkO, if_pos k1, k1]
    · simp [mkO, k3]
    · rw [ok_and', mkO, if_neg k1, if_pos k3, k3]
    · simp [mkO, k1, k3]
    · rw [ok_and', mkO, if_neg k1, if_neg k3]
  · have : a = 6 := by omega
    subst this
    rw [hr]
    by_cases hE : atoiE (cutB s [32]) = true
    · rw [if_pos hE]
      exact ⟨rfl, rfl⟩
    · rw [if_neg hE]
      exact ⟨rfl, rfl⟩

end Go.Proofs.YtjafnenkgmbgaaaDoor.Bench
