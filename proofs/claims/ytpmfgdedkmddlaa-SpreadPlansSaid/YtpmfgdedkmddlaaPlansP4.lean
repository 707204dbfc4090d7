/-
  SpreadPlans: an element put into its place.
-/
import Derived.Test.YtpmfgdedkmddlaaPlansP3
namespace Go.Proofs.Ytpmfgdedkmddlaa.Plans
open Go.Sx
set_option maxRecDepth 100000
set_option maxHeartbeats 1000000
set_option linter.unusedSimpArgs false
set_option linter.unusedVariables false

def lix (j i : Int) (k : Nat) : Nat := if (k : Int) < j then k else if (k : Int) = j then i.toNat else if (k : Int) ≤ i then k - 1 else k
def rtx (i m : Int) (k : Nat) : Nat := if (k : Int) < i then k else if (k : Int) < m then k + 1 else if (k : Int) = m then i.toNat else k
theorem mvL_get {d : List Int} {j i : Int} (h0 : 0 ≤ j) (h1 : j ≤ i) (h2 : i < d.length) (k : Nat) : (mvL d j i)[k]? = d[lix j i k]? := by
  unfold mvL lix
  have hg := getI h2 (by omega)
  rw [List.getElem?_append, List.getElem?_cons, List.getElem?_append, seg_len (by omega), seg_get, List.getElem?_take, List.getElem?_drop, List.length_take]
  grind
theorem mvR_get {d : List Int} {i m : Int} (h0 : 0 ≤ i) (h1 : i ≤ m) (h2 : m < d.length) (k : Nat) : (mvR d i m)[k]? = d[rtx i m k]? := by
  unfold mvR rtx
  have hg := getI (d := d) (a := i) (by omega) (by omega)
  rw [List.getElem?_append, List.getElem?_append, List.getElem?_cons, seg_len (by omega), seg_get, List.getElem?_take, List.getElem?_drop, List.length_take]
  grind
theorem mvL_len {d : List Int} {j i : Int} (h0 : 0 ≤ j) (h1 : j ≤ i) (h2 : i < d.length) : (mvL d j i).length = d.length := by
  unfold mvL
  simp [seg_len (d := d) (a := j) (b := i) (by omega)]
  omega
theorem mvR_len {d : List Int} {i m : Int} (h0 : 0 ≤ i) (h1 : i ≤ m) (h2 : m < d.length) : (mvR d i m).length = d.length := by
  unfold mvR
  simp [seg_len (d := d) (a := i + 1) (b := m + 1) (by omega)]
  omega
theorem getD_q {d e : List Int} {i j : Nat} (h : d[i]? = e[j]?) : d.getD i 0 = e.getD j 0 := by
  rw [List.getD_eq_getElem?_getD, List.getD_eq_getElem?_getD, h]
theorem mvL_self {d : List Int} {i : Int} (h0 : 0 ≤ i) (h1 : i < d.length) : mvL d i i = d := by
  apply List.ext_getElem?
  intro k
  rw [mvL_get h0 (by omega) h1]
  congr 1
  unfold lix
  repeat' split
  all_goals omega
theorem mvR_self {d : List Int} {i : Int} (h0 : 0 ≤ i) (h1 : i < d.length) : mvR d i i = d := by
  apply List.ext_getElem?
  intro k
  rw [mvR_get h0 (by omega) h1]
  congr 1
  unfold rtx
  repeat' split
  all_goals omega
theorem mvL_at {d : List Int} {j i : Int} (h0 : 0 ≤ j) (h1 : j ≤ i) (h2 : i < d.length) : (mvL d j i).getD j.toNat 0 = d.getD i.toNat 0 := by
  apply getD_q
  rw [mvL_get h0 h1 h2]
  congr 1
  unfold lix
  repeat' split
  all_goals omega
theorem mvL_prev {d : List Int} {j i : Int} (h0 : 1 ≤ j) (h1 : j ≤ i) (h2 : i < d.length) : (mvL d j i).getD (j - 1).toNat 0 = d.getD (j - 1).toNat 0 := by
  apply getD_q
  rw [mvL_get (by omega) h1 h2]
  congr 1
  unfold lix
  repeat' split
  all_goals omega
theorem mvL_next {d : List Int} {j i : Int} (h0 : 1 ≤ j) (h1 : j ≤ i) (h2 : i < d.length) : swp (mvL d j i) j (j - 1) = mvL d (j - 1) i := by
  apply List.ext_getElem?
  intro k
  have hl := mvL_len (by omega) h1 h2
  rw [swp_get (by omega) (by omega) (by omega) (by omega), mvL_get (by omega) h1 h2, mvL_get (by omega) (by omega) h2]
  congr 1
  unfold lix
  repeat' split
  all_goals omega
theorem mvR_next {d : List Int} {i m : Int} (h0 : 0 ≤ i) (h1 : i ≤ m) (h2 : m + 1 < d.length) : swp (mvR d i m) m (m + 1) = mvR d i (m + 1) := by
  apply List.ext_getElem?
  intro k
  have hl := mvR_len (d := d) h0 h1 (by omega)
  rw [swp_get (by omega) (by omega) (by omega) (by omega), mvR_get (by omega) h1 (by omega), mvR_get (by omega) (by omega) h2]
  congr 1
  unfold rtx
  repeat' split
  all_goals omega
theorem srt_len {w d : List Int} {a b : Int} (h0 : 0 ≤ a) (h1 : a ≤ b) (h2 : b ≤ d.length) : (srt w d a b).length = d.length := by
  unfold srt
  simp [sortT_len, seg_len h2]
  omega
theorem seg_three {p s r : List Int} {a b : Int} (h0 : 0 ≤ a) (ha : a.toNat = p.length) (hb : b.toNat = p.length + s.length) : seg (p ++ (s ++ r)) a b = s ∧ (p ++ (s ++ r)).take a.toNat = p ∧ (p ++ (s ++ r)).drop b.toNat = r := by
  unfold seg
  rw [ha, hb, ← List.append_assoc]
  refine ⟨?_, ?_, ?_⟩
  · rw [show p.length + s.length = (p ++ s).length by simp, List.take_left, List.drop_left]
  · rw [List.append_assoc, List.take_left]
  · rw [show p.length + s.length = (p ++ s).length by simp, List.drop_left]
theorem srt_parts {w d : List Int} {a b : Int} (h0 : 0 ≤ a) (h1 : a ≤ b) (h2 : b ≤ d.length) : seg (srt w d a b) a b = sortT w (seg d a b) ∧ (srt w d a b).take a.toNat = d.take a.toNat ∧ (srt w d a b).drop b.toNat = d.drop b.toNat := by
  have hs := seg_len (a := a) h2
  exact seg_three h0 (by rw [List.length_take]; omega) (by rw [List.length_take, sortT_len, hs]; omega)
theorem srt_one {w d : List Int} {a : Int} (h0 : 0 ≤ a) (h1 : a < d.length) : srt w d a (a + 1) = d := by
  have h := parts (d := d) (a := a) (b := a + 1) h0 (by omega)
  unfold srt
  rw [seg_one h0 h1, sortT_one, ← seg_one h0 h1, ← h]
theorem srt_nil {w d : List Int} {a b : Int} (h0 : 0 ≤ a) (h : b ≤ a) (h1 : a ≤ b + 1) (h2 : a ≤ d.length): a = b → srt w d a b = d := by
  rintro rfl
  unfold srt
  rw [seg_nil, sortT_nil, List.nil_append, List.take_append_drop]
theorem drop_get {d e : List Int} {a : Int} (h : d.drop a.toNat = e.drop a.toNat) {k : Int} (h1 : a ≤ k) (h0 : 0 ≤ a) : d.getD k.toNat 0 = e.getD k.toNat 0 := by
  apply getD_q
  have h := congrArg (fun l => l[(k - a).toNat]?) h
  simp only [List.getElem?_drop] at h
  rw [show a.toNat + (k - a).toNat = k.toNat by omega] at h
  exact h
theorem drop_drop1 {d e : List Int} {a b : Int} (h : d.drop a.toNat = e.drop a.toNat) (h1 : a ≤ b) : d.drop b.toNat = e.drop b.toNat := by
  have h := congrArg (fun l => l.drop (b.toNat - a.toNat)) h
  simp only [List.drop_drop] at h
  rw [show a.toNat + (b.toNat - a.toNat) = b.toNat by omega] at h
  exact h
/- The element has found its place. -/
theorem ins_done {w x : List Int} {a b j i : Int} (h0 : 0 ≤ a) (h1 : a ≤ j) (h2 : j ≤ i) (h3 : i < b) (h4 : b ≤ x.length) (hu : up (seg x a b)) (hai : a < i)
    (hb : ∀ y ∈ seg (srt w x a i) j i, ahd w ((srt w x a i).getD i.toNat 0) y) (ha : j = a ∨ ¬ ahd w ((srt w x a i).getD i.toNat 0) ((srt w x a i).getD (j - 1).toNat 0)) :
    mvL (srt w x a i) j i = srt w x a (i + 1) := by
  obtain ⟨p1, p2, p3⟩ := srt_parts (w := w) (d := x) h0 (show a ≤ i by omega) (show i ≤ x.length by omega)
  have hl := srt_len (w := w) (d := x) h0 (show a ≤ i by omega) (show i ≤ x.length by omega)
  have hv := drop_get p3 (Int.le_refl i) (by omega)
  have hd := drop_drop1 p3 (show i ≤ i + 1 by omega)
  have key := ins_step (w := w) (A := seg (srt w x a i) a j) (B := seg (srt w x a i) j i) (L := seg x a i) (v := x.getD i.toNat 0)
    (by rw [← seg_app h0 h1 h2 (by omega), p1])
    (fun y hy => by
      obtain ⟨k, k1, k2, k3, k4, rfl⟩ := seg_mem hy
      exact up_lt hu h0 k1 k3 h3 h4)
    (by rw [← hv]; exact hb)
    (by
      rcases ha with rfl | ha
      · exact Or.inl seg_nil
      · by_cases hja : j = a
        · subst hja; exact Or.inl seg_nil
        · refine Or.inr ⟨seg (srt w x a i) a (j - 1), (srt w x a i).getD (j - 1).toNat 0, ?_, by rw [← hv]; exact ha⟩
          rw [← seg_snoc h0 (by omega) (by omega)]
          congr 1
          omega)
  have hs : seg x a (i + 1) = seg x a i ++ [x.getD i.toNat 0] := seg_snoc h0 (by omega) (by omega)
  unfold mvL
  rw [take_seg h0 h1, p2, hd, hv]
  conv => rhs; unfold srt
  rw [hs, ← key]
  simp [List.append_assoc]

end Go.Proofs.Ytpmfgdedkmddlaa.Plans
