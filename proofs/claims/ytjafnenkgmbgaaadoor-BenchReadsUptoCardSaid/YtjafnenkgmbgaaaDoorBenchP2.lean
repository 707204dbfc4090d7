/-
  BenchReads: both readers of a line answer alike.
-/
import Derived.Test.YtjafnenkgmbgaaaDoorBenchP1
namespace Go.Proofs.YtjafnenkgmbgaaaDoor.Bench
open Go.Sx
set_option maxRecDepth 100000
set_option maxHeartbeats 1000000
set_option linter.unusedSimpArgs false
set_option linter.unusedVariables false

def okN (k n : Int) : Prop := 1 ≤ k ∧ k ≤ 6 ∧ 0 ≤ n ∧ n ≤ 1099511627776 ∧ (k = 1 → n ≤ 255)
def lineOf (k n : Int) : List Int := wordAt k ++ ([32] ++ dec n)
theorem numK_mkO {k n : Int} (h : okN k n) : numK (mkO k n) = n := by
  obtain ⟨h1, h2, h3, h4, h5⟩ := h
  unfold mkO numK
  by_cases e : k = 1
  · simp only [e, if_true]
    have := h5 e
    omega
  · by_cases e3 : k = 3
    · simp [e3]
    · simp [e, e3]
theorem mkO_1 (k n : Int) : (mkO k n).1 = k := by
  unfold mkO
  by_cases e : k = 1
  · simp [e]
  · by_cases e3 : k = 3
    · simp [e3]
    · simp [e, e3]
theorem okK_mkO {k n : Int} (h : okN k n) : okK (mkO k n) = true := by
  unfold okK
  rw [mkO_1, numK_mkO h]
  obtain ⟨h1, h2, h3, h4, h5⟩ := h
  exact decide_eq_true ⟨h1, h2, h3, h4⟩
theorem txtK_mkO {k n : Int} (h : okN k n) : txtK (mkO k n) = lineOf k n := by
  unfold txtK lineOf wordAt
  rw [mkO_1, numK_mkO h]
theorem okN_of_okK {k n : Int} (h : okK (mkO k n) = true) : okN k (numK (mkO k n)) ∧ mkO k (numK (mkO k n)) = mkO k n := by
  unfold okK at h
  rw [mkO_1] at h
  have h := of_decide_eq_true h
  obtain ⟨h1, h2, h3, h4⟩ := h
  unfold okN
  unfold numK mkO at h3 h4 ⊢
  by_cases e : k = 1
  · simp only [e, if_true] at h3 h4 ⊢
    refine ⟨by omega, ?_⟩
    simp
  · by_cases e3 : k = 3
    · simp [e3] at h3 h4 ⊢
      omega
    · simp [e, e3] at h3 h4 ⊢
      omega
theorem readO_true {w : List Int} {n : Int} {s : List Int} : ∀ k : Nat, k ≤ 6 → (readO w n s k).2 = true → ∃ q m, okN q m ∧ s = lineOf q m ∧ (readO w n s k).1 = mkO q m
  | 0, _, h => by simp [readO] at h
  | k + 1, hk, h => by
    unfold readO at h ⊢
    by_cases e : wordsK.getD (6 - (k + 1)) [] = w
    · rw [if_pos e] at h ⊢
      simp only [Bool.and_eq_true, decide_eq_true_eq] at h
      obtain ⟨h1, h2⟩ := h
      have h3 := okN_of_okK h1
      refine ⟨_, _, h3.1, ?_, h3.2.symm⟩
      rw [← h2]
      have := txtK_mkO h3.1
      rw [h3.2] at this
      exact this
    · rw [if_neg e] at h ⊢
      exact readO_true k (by omega) h
theorem readB_true {s : List Int} (h : (readB s).2 = true) : ∃ q m, okN q m ∧ s = lineOf q m ∧ (readB s).1 = mkO q m := by
  unfold readB at h ⊢
  split at h
  · cases h
  · rename_i e
    rw [if_neg e]
    exact readO_true 6 (by omega) h
theorem wordAt_rng {k : Int} (h1 : 1 ≤ k) (h2 : k ≤ 6) : (∀ b ∈ wordAt k, 0 ≤ b ∧ b ≤ 255) ∧ (32 : Int) ∉ wordAt k := by
  have : k = 1 ∨ k = 2 ∨ k = 3 ∨ k = 4 ∨ k = 5 ∨ k = 6 := by omega
  rcases this with e | e | e | e | e | e <;> subst e <;> exact ⟨by decide, by decide⟩
theorem dec_rng8 (n : Int) : ∀ b ∈ dec n, 0 ≤ b ∧ b ≤ 255 := fun b hb => by have := dec_rng n b hb; omega
theorem readB_line {k n : Int} (h : okN k n) : readB (lineOf k n) = (mkO k n, true) := by
  have h' := h
  obtain ⟨h1, h2, h3, h4, h5⟩ := h'
  have hw := wordAt_rng h1 h2
  have hc := cut_hit (c := 32) hw.1 (dec_rng8 n) (by omega) hw.2
  have ha : cutA (lineOf k n) [32] = wordAt k := hc.1
  have hb : cutB (lineOf k n) [32] = dec n := hc.2.1
  unfold readB
  rw [ha, hb, atoiE_dec h3 h4, atoiV_dec h3 h4, if_neg (by decide)]
  have hok := okK_mkO h
  have htx := txtK_mkO h
  have : k = 1 ∨ k = 2 ∨ k = 3 ∨ k = 4 ∨ k = 5 ∨ k = 6 := by omega
  rcases this with e | e | e | e | e | e <;> subst e <;> simp [readO, wordAt, wordsK, hok, htx]
theorem zreadO_true {s : List Int} : ∀ k : Nat, k ≤ 6 → (zreadO s k).2 = true → ∃ q m, okN q m ∧ s = lineOf q m ∧ (zreadO s k).1 = mkO q m
  | 0, _, h => by simp [zreadO] at h
  | k + 1, hk, h => by
    unfold zreadO at h ⊢
    split at h
    · rename_i e
      rw [if_pos e]
      exact zreadO_true k (by omega) h
    · rename_i e
      rw [if_neg e]
      simp only [] at h ⊢
      split at h
      · cases h
      · rename_i e2
        rw [if_neg e2]
        simp only [not_or] at e e2
        obtain ⟨e0, e1⟩ := e
        obtain ⟨f0, f1, f2, f3⟩ := e2
        have e1 := Decidable.not_not.1 e1
        have f2 := Decidable.not_not.1 f2
        have hn := pu41V_nn (s.drop ((wordAt (7 - ((k : Int) + 1))).length + 1))
        refine ⟨7 - ((k : Int) + 1), _, ⟨by omega, by omega, hn, by omega, fun e => by omega⟩, ?_, rfl⟩
        unfold lineOf
        rw [f2, ← List.append_assoc, ← e1, List.take_append_drop]
theorem zreadB_line {k n : Int} (h : okN k n) : zreadB (lineOf k n) = (mkO k n, true) := by
  obtain ⟨h1, h2, h3, h4, h5⟩ := h
  have hl := dec_len h4
  have hE := pu41E_dec h3 h4
  have hV := pu41V_dec h3 h4
  have : k = 1 ∨ k = 2 ∨ k = 3 ∨ k = 4 ∨ k = 5 ∨ k = 6 := by omega
  unfold zreadB lineOf
  have hne : dec n ≠ [] := fun e => by rw [e] at hl; simp at hl
  have h6 : ¬ 1099511627776 < n := by omega
  rcases this with e | e | e | e | e | e <;> subst e <;> simp [zreadO, wordAt, wordsK, hE, hV, hne, h6]
  exact h5 rfl
theorem zread_read (s : List Int) : (zreadB s).2 = (readB s).2 ∧ ((readB s).2 = true → (zreadB s).1 = (readB s).1) := by
  cases hr : (readB s).2 with
  | true =>
    obtain ⟨q, m, h1, h2, h3⟩ := readB_true hr
    rw [h3]
    rw [h2, zreadB_line h1]
    exact ⟨rfl, fun _ => rfl⟩
  | false =>
    refine ⟨?_, fun h => by cases h⟩
    cases hz : (zreadB s).2 with
    | false => rfl
    | true =>
      obtain ⟨q, m, h1, h2, h3⟩ := zreadO_true 6 (by omega) hz
      rw [h2, readB_line h1] at hr
      cases hr

end Go.Proofs.YtjafnenkgmbgaaaDoor.Bench
