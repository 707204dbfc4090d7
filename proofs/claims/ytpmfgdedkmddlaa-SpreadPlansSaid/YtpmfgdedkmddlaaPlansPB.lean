/-
  SpreadPlans: sorted blocks, what lies in them.
-/
import Derived.Test.YtpmfgdedkmddlaaPlansPA
namespace Go.Proofs.Ytpmfgdedkmddlaa.Plans
open Go.Sx
set_option maxRecDepth 100000
set_option maxHeartbeats 1000000
set_option linter.unusedSimpArgs false
set_option linter.unusedVariables false

theorem sd_all {w x d : List Int} (h : sd w x d 0 x.length) (hl : d.length = x.length) : d = sortT w x := by
  unfold sd at h
  have e : ∀ l : List Int, l.length = x.length → seg l 0 x.length = l := by
    intro l hh; unfold seg; rw [Int.toNat_natCast, ← hh, List.take_length]; rfl
  rwa [e d hl, e x rfl] at h
theorem up_drop {x d : List Int} {a b : Int} (hu : up x) (h0 : 0 ≤ a) (h : d.drop a.toNat = x.drop a.toNat) : up (seg d a b) := by
  have e : seg d a b = seg x a b := by unfold seg; rw [List.drop_take, List.drop_take, h]
  rw [e]
  exact hu.sublist ((List.drop_sublist _ _).trans (List.take_sublist _ _))
/- All that is behind a is as it was, ahead of it are sorted blocks. -/
theorem ok1 {w x d : List Int} {a n : Int} (hw : okW w x) (hn : 0 < n) (hl : d.length = x.length) (ha : a % n = 0) (h : ∀ q, 0 ≤ q → (q + 1) * n ≤ a → blkT w x d n q) (hal : a ≤ x.length) (h0 : 0 ≤ a) (hd : d.drop a.toNat = x.drop a.toNat) : okW w d := by
  refine okW_in hw fun k k0 k1 => ?_
  by_cases hk : a ≤ k
  · rw [drop_get hd hk h0]; exact getD_mem k0 (by omega)
  · have hb := blk_of (k := k) hn
    have hd := blk_div ha
    have hq : 0 ≤ k / n := Int.ediv_nonneg k0 (Int.le_of_lt hn)
    have hle : (k / n + 1) * n ≤ a := by
      have : k / n + 1 ≤ a / n := by
        have : k / n * n < a / n * n := by omega
        have := Int.lt_of_mul_lt_mul_right this (Int.le_of_lt hn)
        omega
      have := blk_mono hn this
      omega
    exact sd_in (blk_sd (h _ hq hle)) (Int.mul_nonneg hq (Int.le_of_lt hn)) hb.1 (by omega) k1
theorem ok2 {w x d : List Int} {a n : Int} (hw : okW w x) (hn : 0 < n) (hl : d.length = x.length) (ha : a % (2 * n) = 0) (h : ∀ q, 0 ≤ q → (q + 1) * (2 * n) ≤ a → blkT w x d (2 * n) q)
    (h' : ∀ q, a ≤ q * n → q * n ≤ x.length → blkT w x d n q) (hal : a ≤ x.length) (h0 : 0 ≤ a) : okW w d := by
  have hn2 : 0 < 2 * n := by omega
  refine okW_in hw fun k k0 k1 => ?_
  have hd := blk_div ha
  by_cases hk : a ≤ k
  · have hb := blk_of (k := k) hn
    have e : a = (2 * (a / (2 * n))) * n := by
      rw [show (2 * (a / (2 * n))) * n = a / (2 * n) * (2 * n) by rw [Int.mul_comm 2 (a / (2 * n)), Int.mul_assoc]]
      exact hd
    have hle : a ≤ k / n * n := by
      rw [e]
      apply blk_mono hn
      apply blk_le hn
      have := mul1 (q := k / n) (n := n)
      omega
    exact sd_in (blk_sd (h' _ hle (by omega))) (by omega) hb.1 (by omega) k1
  · have hb := blk_of (k := k) hn2
    have hq : 0 ≤ k / (2 * n) := Int.ediv_nonneg k0 (Int.le_of_lt hn2)
    have hle : (k / (2 * n) + 1) * (2 * n) ≤ a := by
      have : k / (2 * n) + 1 ≤ a / (2 * n) := by
        have : k / (2 * n) * (2 * n) < a / (2 * n) * (2 * n) := by omega
        have := Int.lt_of_mul_lt_mul_right this (Int.le_of_lt hn2)
        omega
      have := blk_mono hn2 this
      omega
    exact sd_in (blk_sd (h _ hq hle)) (Int.mul_nonneg hq (Int.le_of_lt hn2)) hb.1 (by omega) k1
/- The next block. -/
theorem next1 {w x d : List Int} {a n q e : Int} (hn : 0 < n) (hl : d.length = x.length) (ha : a % n = 0) (h : ∀ q, 0 ≤ q → (q + 1) * n ≤ a → blkT w x d n q) (h0 : 0 ≤ a) (hs : sd w x (srt w d a e) a e)
    (he : e = min (a + n) x.length) (hae : a ≤ x.length) (q0 : 0 ≤ q) (hq : q * n ≤ a) : blkT w x (srt w d a e) n q := by
  have hd := blk_div ha
  have hm := mul1 (q := q) (n := n)
  by_cases hqa : (q + 1) * n ≤ a
  · exact sd_below (blk_sd (h q q0 hqa)) (by omega) h0 (by omega) (by omega)
  · have e1 : q = a / n := by
      have h1 : q ≤ a / n := blk_le hn (by omega)
      have h2 : a / n ≤ q := blk_le hn (by omega)
      omega
    have e2 : q * n = a := by rw [e1]; exact hd.symm
    show sd w x (srt w d a e) (q * n) (min ((q + 1) * n) x.length)
    rw [hm, e2, ← he]
    exact hs

end Go.Proofs.Ytpmfgdedkmddlaa.Plans
