/-
  SpreadPlans: sorted blocks.
-/
import Derived.Test.YtpmfgdedkmddlaaPlansP9
namespace Go.Proofs.Ytpmfgdedkmddlaa.Plans
open Go.Sx
set_option maxRecDepth 100000
set_option maxHeartbeats 1000000
set_option linter.unusedSimpArgs false
set_option linter.unusedVariables false

/- The interval holds what x has there, sorted. -/
def sd (w x d : List Int) (p q : Int) : Prop := seg d p q = sortT w (seg x p q)
theorem sd_down {w x d : List Int} {p q : Int} (h : sd w x d p q) (hu : up x) : down w (seg d p q) := by
  unfold sd at h
  rw [h]
  apply sortT_down
  exact hu.sublist ((List.drop_sublist _ _).trans (List.take_sublist _ _))
theorem sd_apart {w x d : List Int} {p m q : Int} (h : sd w x d p m) (h' : sd w x d m q) (hu : up x) (h0 : 0 ≤ p) (h1 : p ≤ m) (h2 : m ≤ q) (h3 : q ≤ x.length) : apart (seg d p m) (seg d m q) := by
  unfold sd at h h'
  intro y hy z hz
  rw [h] at hy
  rw [h'] at hz
  obtain ⟨i, i0, i1, i2, i3, rfl⟩ := seg_mem (sortT_perm.mem_iff.1 hy)
  obtain ⟨j, j0, j1, j2, j3, rfl⟩ := seg_mem (sortT_perm.mem_iff.1 hz)
  have hx : seg x 0 x.length = x := by simp [seg]
  exact up_lt (d := x) (a := 0) (b := x.length) (by rw [hx]; exact hu) (by omega) (by omega) (by omega) (by omega) (by omega)
theorem sd_merge {w x d : List Int} {p m q : Int} (h : sd w x d p m) (h' : sd w x d m q) (h0 : 0 ≤ p) (h1 : p ≤ m) (h2 : m ≤ q) (h3 : q ≤ x.length) (hl : d.length = x.length) : sd w x (srt w d p q) p q := by
  unfold sd at *
  obtain ⟨p1, -, -⟩ := srt_parts (w := w) (d := d) h0 (show p ≤ q by omega) (by omega)
  rw [p1]
  apply sortT_congr
  rw [seg_app (d := d) h0 h1 h2 (by omega), h, h', seg_app (d := x) h0 h1 h2 (by omega)]
  exact sortT_perm.append sortT_perm
theorem sd_fresh {w x d : List Int} {p q : Int} (h0 : 0 ≤ p) (h1 : p ≤ q) (h3 : q ≤ x.length) (hl : d.length = x.length) (h : d.drop p.toNat = x.drop p.toNat) : sd w x (srt w d p q) p q := by
  unfold sd
  obtain ⟨p1, -, -⟩ := srt_parts (w := w) (d := d) h0 h1 (by omega)
  rw [p1]
  unfold seg
  rw [List.drop_take, List.drop_take, h]
theorem seg_of_take {d e : List Int} {c p q : Int} (h : d.take c.toNat = e.take c.toNat) (hq : q ≤ c) : seg d p q = seg e p q := by
  have h' := congrArg (fun l => (l.take q.toNat).drop p.toNat) h
  simp only [List.take_take] at h'
  rw [show min q.toNat c.toNat = q.toNat by omega] at h'
  exact h'
theorem sd_below {w x d : List Int} {a b p q : Int} (h : sd w x d p q) (hq : q ≤ a) (h0 : 0 ≤ a) (h1 : a ≤ b) (h2 : b ≤ d.length) : sd w x (srt w d a b) p q := by
  unfold sd at *
  rw [← h]
  exact seg_of_take (srt_parts h0 h1 h2).2.1 hq
theorem sd_above {w x d : List Int} {a b p q : Int} (h : sd w x d p q) (hq : b ≤ p) (h0 : 0 ≤ a) (h1 : a ≤ b) (h2 : b ≤ d.length) : sd w x (srt w d a b) p q := by
  unfold sd at *
  rw [← h]
  exact srt_seg h0 h1 h2 hq
theorem sd_in {w x d : List Int} {p q k : Int} (h : sd w x d p q) (h0 : 0 ≤ p) (h1 : p ≤ k) (h2 : k < q) (h3 : k < d.length) : d.getD k.toNat 0 ∈ x := by
  have hm := mem_seg (d := d) h0 h1 h2 h3
  unfold sd at h
  rw [h] at hm
  obtain ⟨i, i0, i1, i2, i3, e⟩ := seg_mem (sortT_perm.mem_iff.1 hm)
  rw [← e]
  exact getD_mem i1 i3
theorem okW_in {w x d : List Int} (hw : okW w x) (h : ∀ k : Int, 0 ≤ k → k < d.length → d.getD k.toNat 0 ∈ x) : okW w d := by
  refine ⟨hw.1, hw.2.1, fun z hz => ?_⟩
  obtain ⟨k, hk, rfl⟩ := List.mem_iff_getElem.1 hz
  have t := h k (by omega) (by omega)
  rw [Int.toNat_natCast, List.getD_eq_getElem?_getD, List.getElem?_eq_getElem hk] at t
  exact hw.2.2 _ t
theorem blk_sd {w x d : List Int} {n q : Int} (h : blkT w x d n q) : sd w x d (q * n) (min ((q + 1) * n) x.length) := h
theorem mul1 {q n : Int} : (q + 1) * n = q * n + n := by rw [Int.add_mul, Int.one_mul]
/- Of what is in a block. -/
theorem blk_of {k n : Int} (hn : 0 < n) : k / n * n ≤ k ∧ k < (k / n + 1) * n := by
  have h1 := Int.ediv_mul_le k (Int.ne_of_gt hn)
  have h2 := Int.lt_ediv_add_one_mul_self k hn
  exact ⟨h1, h2⟩
theorem blk_le {q r n : Int} (hn : 0 < n) (h : q * n < r * n + n) : q ≤ r := by
  have h : q * n < (r + 1) * n := by rw [mul1]; exact h
  have := Int.lt_of_mul_lt_mul_right h (Int.le_of_lt hn)
  omega
theorem blk_mono {q r n : Int} (hn : 0 < n) (h : q ≤ r) : q * n ≤ r * n := Int.mul_le_mul_of_nonneg_right h (Int.le_of_lt hn)
theorem blk_div {a n : Int} (h : a % n = 0) : a = a / n * n := by
  have := Int.ediv_mul_add_emod a n
  omega

end Go.Proofs.Ytpmfgdedkmddlaa.Plans
