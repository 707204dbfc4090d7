/-
  SpreadPlans: the merge in place, its recursive calls.
-/
import Derived.Test.YtpmfgdedkmddlaaPlansP7
namespace Go.Proofs.Ytpmfgdedkmddlaa.Plans
open Go.Sx
set_option maxRecDepth 100000
set_option maxHeartbeats 1000000
set_option linter.unusedSimpArgs false
set_option linter.unusedVariables false

theorem apart_sub {x : List Int} {a m b a1 m1 m2 b2 : Int} (h : apart (seg x a m) (seg x m b)) (h0 : 0 ≤ a) (h1 : a ≤ a1) (h2 : m1 ≤ m) (h3 : m ≤ m2) (h4 : b2 ≤ b) (h5 : 0 ≤ m) : apart (seg x a1 m1) (seg x m2 b2) :=
  fun p hp q hq => h p (seg_sub_mem (by omega) h1 h2 h0 hp) q (seg_sub_mem (by omega) h3 h4 h5 hq)
theorem okW_rot {w x : List Int} {s m e : Int} (hw : okW w x) (h0 : 0 ≤ s) (h2 : s ≤ m) (h3 : m ≤ e) (h5 : e ≤ x.length) : okW w (rot x s m e) :=
  ⟨hw.1, hw.2.1, fun _ hz => hw.2.2 _ (rot_mem h0 h2 h3 h5 hz)⟩
theorem okW_srt {w x : List Int} {a b : Int} (hw : okW w x) (h0 : 0 ≤ a) (h2 : a ≤ b) : okW w (srt w x a b) :=
  ⟨hw.1, hw.2.1, fun _ hz => hw.2.2 _ (srt_mem h0 h2 hz)⟩
theorem sym_tail {w x : List Int} {a m b c s e : Int} (a0 : 0 ≤ a) (am : a < m) (mb : m < b) (bl : b ≤ x.length) (hw : okW w x) (hA : down w (seg x a m)) (hB : down w (seg x m b)) (hap : apart (seg x a m) (seg x m b))
    (hc : c = s + e - m) (h1 : a ≤ s) (h2 : s ≤ m) (h3 : m ≤ e) (h4 : e ≤ b)
    (q1 : a < s → e < b → ¬ ahd w (x.getD e.toNat 0) (x.getD (s - 1).toNat 0))
    (q2 : s < m → m < e → ahd w (x.getD (e - 1).toNat 0) (x.getD s.toNat 0)) (d1 : List Int) (hd1 : d1 = if s < m ∧ m < e then rot x s m e else x) :
    d1.length = x.length ∧ (okW w d1 ∧ down w (seg d1 a s) ∧ down w (seg d1 s c) ∧ apart (seg d1 a s) (seg d1 s c)) ∧
    ∀ d2, d2 = (if a < s ∧ s < c then srt w d1 a c else d1) → d2.length = x.length ∧ (okW w d2 ∧ down w (seg d2 c e) ∧ down w (seg d2 e b) ∧ apart (seg d2 c e) (seg d2 e b)) ∧
      srt w d2 c b = srt w x a b ∧ (¬ (c < e ∧ e < b) → d2 = srt w x a b) := by
  have hd : d1 = rot x s m e := by
    rw [hd1]
    split
    · rfl
    · exact (rot_id (by omega) h2 h3 (by omega) (by omega)).symm
  clear hd1
  subst hd
  obtain ⟨r1, r2, r3, r4, r5, r6⟩ := rot_seg a0 h1 h2 h3 h4 bl
  have hl := rot_len (d := x) (show 0 ≤ s by omega) h2 h3 (by omega)
  have hall := sym_all a0 h1 h2 h3 h4 bl (sym_split a0 h1 h2 h3 h4 bl hA hB hap q1 q2)
  rw [← hc] at r2 r3 hall
  have f1 : down w (seg x a s) := down_seg hA a0 (Int.le_refl a) h2 (by omega)
  have f2 : down w (seg x m e) := down_seg hB (by omega) (Int.le_refl m) h4 bl
  have f3 : down w (seg x s m) := down_seg hA a0 h1 (Int.le_refl m) (by omega)
  have f4 : down w (seg x e b) := down_seg hB (by omega) h3 (Int.le_refl b) bl
  refine ⟨hl, ⟨okW_rot hw (by omega) h2 h3 (by omega), ?_, ?_, ?_⟩, ?_⟩
  · rw [r1]; exact f1
  · rw [r2]; exact f2
  · rw [r1, r2]; exact apart_sub hap a0 (Int.le_refl a) h2 (Int.le_refl m) h4 (by omega)
  · intro d2 hd2
    have hd : d2 = srt w (rot x s m e) a c := by
      rw [hd2]
      split
      · rfl
      · rename_i hn
        refine (srt_id a0 (by omega) ?_).symm
        by_cases hs : a = s
        · subst hs; rw [r2]; exact f2
        · have : s = c := by omega
          rw [← this, r1]; exact f1
    clear hd2
    subst hd
    have hl2 := srt_len (w := w) (d := rot x s m e) (a := a) (b := c) a0 (by omega) (by omega)
    have g1 : seg (srt w (rot x s m e) a c) c e = seg x s m := by
      rw [srt_seg a0 (by omega) (by omega) (Int.le_refl c), r3]
    have g2 : seg (srt w (rot x s m e) a c) e b = seg x e b := by
      rw [srt_seg a0 (by omega) (by omega) (by omega), r4]
    refine ⟨by omega, ⟨okW_srt (okW_rot hw (by omega) h2 h3 (by omega)) a0 (by omega), by rw [g1]; exact f3, by rw [g2]; exact f4, ?_⟩, hall, fun hn => ?_⟩
    · rw [g1, g2]; exact apart_sub hap a0 h1 (Int.le_refl m) h3 (Int.le_refl b) (by omega)
    · rw [← hall]
      refine (srt_id (by omega) (by omega) ?_).symm
      by_cases hs : c = e
      · subst hs; rw [g2]; exact f4
      · have : e = b := by omega
        rw [← this, g1]; exact f3
theorem x_cmp {w x : List Int} (hw : okW w x) {i j : Int} (h0 : 0 ≤ i) (h1 : i < x.length) (h2 : 0 ≤ j) (h3 : j < x.length) : ∀ z ∈ [x.getD i.toNat 0, x.getD j.toNat 0], 0 ≤ z ∧ z < w.length := by
  intro z hz
  simp only [List.mem_cons, List.not_mem_nil, or_false] at hz
  rcases hz with rfl | rfl
  · exact hw.2.2 _ (getD_mem h0 h1)
  · exact hw.2.2 _ (getD_mem h2 h3)

end Go.Proofs.Ytpmfgdedkmddlaa.Plans
