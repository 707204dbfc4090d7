/-
  SpreadPlans: what the merge in place does.
-/
import Derived.Test.YtpmfgdedkmddlaaPlansP5
namespace Go.Proofs.Ytpmfgdedkmddlaa.Plans
open Go.Sx
set_option maxRecDepth 100000
set_option maxHeartbeats 1000000
set_option linter.unusedSimpArgs false
set_option linter.unusedVariables false

theorem seg_congr {d e : List Int} {a b : Int} (h : ∀ k : Nat, a ≤ k → (k : Int) < b → d[k]? = e[k]?) : seg d a b = seg e a b := by
  apply List.ext_getElem?
  intro k
  rw [seg_get, seg_get]
  by_cases hk : a.toNat + k < b.toNat
  · rw [if_pos hk, if_pos hk, h _ (by omega) (by omega)]
  · rw [if_neg hk, if_neg hk]
theorem rot_seg {x : List Int} {a s m e b : Int} (h0 : 0 ≤ a) (h1 : a ≤ s) (h2 : s ≤ m) (h3 : m ≤ e) (h4 : e ≤ b) (h5 : b ≤ x.length) :
    seg (rot x s m e) a s = seg x a s ∧ seg (rot x s m e) s (s + e - m) = seg x m e ∧ seg (rot x s m e) (s + e - m) e = seg x s m ∧ seg (rot x s m e) e b = seg x e b ∧
    (rot x s m e).take a.toNat = x.take a.toNat ∧ (rot x s m e).drop b.toNat = x.drop b.toNat := by
  have hr := fun k => rot_get (d := x) (a := s) (m := m) (b := e) (by omega) h2 h3 (by omega) k
  refine ⟨?_, ?_, ?_, ?_, ?_, ?_⟩
  · apply seg_congr
    intro k k0 k1
    rw [hr, rix, if_pos k1]
  · apply List.ext_getElem?
    intro k
    rw [seg_get, seg_get, hr]
    by_cases hk : s.toNat + k < (s + e - m).toNat
    · rw [if_pos hk, if_pos (by omega)]
      congr 1
      unfold rix
      repeat' split
      all_goals omega
    · rw [if_neg hk, if_neg (by omega)]
  · apply List.ext_getElem?
    intro k
    rw [seg_get, seg_get, hr]
    by_cases hk : (s + e - m).toNat + k < e.toNat
    · rw [if_pos hk, if_pos (by omega)]
      congr 1
      unfold rix
      repeat' split
      all_goals omega
    · rw [if_neg hk, if_neg (by omega)]
  · apply seg_congr
    intro k k0 k1
    rw [hr]
    congr 1
    unfold rix
    repeat' split
    all_goals omega
  · apply List.ext_getElem?
    intro k
    rw [List.getElem?_take, List.getElem?_take, hr]
    by_cases hk : k < a.toNat
    · rw [if_pos hk, if_pos hk, rix, if_pos (by omega)]
    · rw [if_neg hk, if_neg hk]
  · apply List.ext_getElem?
    intro k
    rw [List.getElem?_drop, List.getElem?_drop, hr]
    congr 1
    unfold rix
    repeat' split
    all_goals omega
theorem rot_id {x : List Int} {s m e : Int} (h0 : 0 ≤ s) (h2 : s ≤ m) (h3 : m ≤ e) (h5 : e ≤ x.length) (h : s = m ∨ m = e) : rot x s m e = x := by
  apply List.ext_getElem?
  intro k
  rw [rot_get h0 h2 h3 h5]
  congr 1
  unfold rix
  repeat' split
  all_goals omega
theorem rot_mem {x : List Int} {s m e z : Int} (h0 : 0 ≤ s) (h2 : s ≤ m) (h3 : m ≤ e) (h5 : e ≤ x.length) (h : z ∈ rot x s m e) : z ∈ x := by
  obtain ⟨k, hk⟩ := List.mem_iff_getElem?.1 h
  rw [rot_get h0 h2 h3 h5] at hk
  exact List.mem_iff_getElem?.2 ⟨_, hk⟩
theorem pw_seg {R : Int → Int → Prop} {d : List Int} {a b i j : Int} (h : (seg d a b).Pairwise R) (h0 : 0 ≤ a) (h1 : a ≤ i) (h2 : i < j) (h3 : j < b) (h4 : b ≤ d.length) : R (d.getD i.toNat 0) (d.getD j.toNat 0) := by
  rw [seg_app (b := j) h0 (by omega) (by omega) h4] at h
  refine (List.pairwise_append.1 h).2.2 _ (mem_seg h0 h1 h2 (by omega)) _ (mem_seg (by omega) (Int.le_refl j) h3 (by omega))
/- The weights go down. -/
theorem down_wt {w d : List Int} {a b i j : Int} (h : down w (seg d a b)) (h0 : 0 ≤ a) (h1 : a ≤ i) (h2 : i ≤ j) (h3 : j < b) (h4 : b ≤ d.length) : wt w (d.getD j.toNat 0) ≤ wt w (d.getD i.toNat 0) := by
  by_cases e : i = j
  · subst e; exact Int.le_refl _
  · have := (pw_seg h h0 h1 (show i < j by omega) h3 h4).1
    rw [leT_iff] at this
    omega
theorem apart_lt {d : List Int} {a m b i j : Int} (h : apart (seg d a m) (seg d m b)) (h0 : 0 ≤ a) (h1 : a ≤ i) (h2 : i < m) (h3 : m ≤ j) (h4 : j < b) (h5 : b ≤ d.length) : d.getD i.toNat 0 < d.getD j.toNat 0 :=
  h _ (mem_seg h0 h1 h2 (by omega)) _ (mem_seg (by omega) h3 h4 (by omega))
/- What the search has found parts all. -/
theorem sym_split {w x : List Int} {a s m e b : Int} (h0 : 0 ≤ a) (h1 : a ≤ s) (h2 : s ≤ m) (h3 : m ≤ e) (h4 : e ≤ b) (h5 : b ≤ x.length)
    (hA : down w (seg x a m)) (hB : down w (seg x m b)) (hap : apart (seg x a m) (seg x m b))
    (q1 : a < s → e < b → ¬ ahd w (x.getD e.toNat 0) (x.getD (s - 1).toNat 0))
    (q2 : s < m → m < e → ahd w (x.getD (e - 1).toNat 0) (x.getD s.toNat 0)) :
    ∀ l ∈ seg x a s ++ seg x m e, ∀ r ∈ seg x s m ++ seg x e b, leT w l r = true := by
  intro l hl r hr
  unfold ahd at q1 q2
  rcases List.mem_append.1 hl with hl | hl <;> rcases List.mem_append.1 hr with hr | hr <;>
    obtain ⟨i, i0, i1, i2, i3, rfl⟩ := seg_mem hl <;> obtain ⟨j, j0, j1, j2, j3, rfl⟩ := seg_mem hr
  · exact (pw_seg hA h0 i0 (by omega) j2 (by omega)).1
  · have t1 := down_wt hA h0 i0 (show i ≤ s - 1 by omega) (by omega) (by omega)
    have t2 := down_wt hB (by omega) h3 j0 j2 h5
    have t3 := q1 (by omega) (by omega)
    have t4 := apart_lt hap h0 i0 (by omega) (show m ≤ j by omega) j2 h5
    rw [leT_iff]; omega
  · have t1 := down_wt hB (by omega) i0 (show i ≤ e - 1 by omega) (by omega) h5
    have t2 := down_wt hA h0 h1 j0 j2 (by omega)
    have t3 := q2 (by omega) (by omega)
    rw [leT_iff]; omega
  · exact (pw_seg hB (by omega) i0 (by omega) j2 h5).1
theorem srt_id {w d : List Int} {a b : Int} (h0 : 0 ≤ a) (h1 : a ≤ b) (h : down w (seg d a b)) : srt w d a b = d := by
  unfold srt
  rw [down_sort h, ← parts h0 h1]
/- Both halves sorted: all is. -/
theorem sym_join {w x d : List Int} {a c b : Int} (h0 : 0 ≤ a) (h1 : a ≤ c) (h2 : c ≤ b) (h3 : b ≤ x.length) (hl : d.length = x.length)
    (ht : d.take a.toNat = x.take a.toNat) (hd : d.drop b.toNat = x.drop b.toNat) (hp : (seg d a b).Perm (seg x a b))
    (h : ∀ l ∈ seg d a c, ∀ r ∈ seg d c b, leT w l r = true) : srt w (srt w d a c) c b = srt w x a b := by
  obtain ⟨p1, p2, p3⟩ := srt_parts (w := w) (d := d) h0 h1 (show c ≤ d.length by omega)
  have hs : seg (srt w d a c) c b = seg d c b := by
    unfold seg
    rw [List.drop_take, List.drop_take, p3]
  have ht2 : (srt w d a c).take c.toNat = d.take a.toNat ++ sortT w (seg d a c) := by
    rw [take_seg h0 h1, p2, p1]
  have hd2 : (srt w d a c).drop b.toNat = d.drop b.toNat := drop_drop1 p3 h2
  show (srt w d a c).take c.toNat ++ (sortT w (seg (srt w d a c) c b) ++ (srt w d a c).drop b.toNat) = _
  rw [hs, ht2, hd2, ht, hd]
  unfold srt
  rw [← sortT_congr hp, seg_app h0 h1 h2 (by omega), sortT_app h]
  simp [List.append_assoc]
theorem seg_app4 {d : List Int} {a s m e b : Int} (h0 : 0 ≤ a) (h1 : a ≤ s) (h2 : s ≤ m) (h3 : m ≤ e) (h4 : e ≤ b) (h5 : b ≤ d.length) : seg d a b = seg d a s ++ (seg d s m ++ (seg d m e ++ seg d e b)) := by
  have e1 := seg_app (d := d) (a := a) (b := s) (c := b) h0 h1 (by omega) h5
  have e2 := seg_app (d := d) (a := s) (b := m) (c := b) (by omega) h2 (by omega) h5
  have e3 := seg_app (d := d) (a := m) (b := e) (c := b) (by omega) h3 h4 h5
  rw [e1, e2, e3]
theorem rot_perm {x : List Int} {a s m e b : Int} (h0 : 0 ≤ a) (h1 : a ≤ s) (h2 : s ≤ m) (h3 : m ≤ e) (h4 : e ≤ b) (h5 : b ≤ x.length) : (seg (rot x s m e) a b).Perm (seg x a b) := by
  obtain ⟨r1, r2, r3, r4, -, -⟩ := rot_seg h0 h1 h2 h3 h4 h5
  have hl := rot_len (d := x) (show 0 ≤ s by omega) h2 h3 (by omega)
  rw [seg_app4 (d := rot x s m e) (s := s) (m := s + e - m) (e := e) h0 h1 (by omega) (by omega) h4 (by omega), r1, r2, r3, r4, seg_app4 (d := x) (s := s) (m := m) (e := e) h0 h1 h2 h3 h4 h5]
  refine List.Perm.append_left _ ?_
  rw [← List.append_assoc, ← List.append_assoc]
  exact List.Perm.append_right _ List.perm_append_comm

end Go.Proofs.Ytpmfgdedkmddlaa.Plans
