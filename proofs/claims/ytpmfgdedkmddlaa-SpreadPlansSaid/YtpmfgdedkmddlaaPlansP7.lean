/-
  SpreadPlans: the merge in place comes to the sorted list.
-/
import Derived.Test.YtpmfgdedkmddlaaPlansP6
namespace Go.Proofs.Ytpmfgdedkmddlaa.Plans
open Go.Sx
set_option maxRecDepth 100000
set_option maxHeartbeats 1000000
set_option linter.unusedSimpArgs false
set_option linter.unusedVariables false

theorem half {z : Int} : z / 2 ^ min (Int.toNat 1) IntKind.u64.bits = z / 2 := rfl
theorem sym_first {w x : List Int} {a i b : Int} (a0 : 0 ≤ a) (mi : a + 1 ≤ i) (ib : i ≤ b) (bl : b ≤ x.length) (hB : down w (seg x (a + 1) b))
    (hap : ∀ k, a + 1 ≤ k → k < b → x.getD a.toNat 0 < x.getD k.toNat 0) (q1 : ∀ k, a + 1 ≤ k → k < i → ahd w (x.getD k.toNat 0) (x.getD a.toNat 0))
    (q2 : ∀ k, i ≤ k → k < b → ¬ ahd w (x.getD k.toNat 0) (x.getD a.toNat 0)) (hab : a + 1 < b) : mvR x a (i - 1) = srt w x a b := by
  have e1 := seg_app (d := x) (a := a + 1) (b := i) (c := b) (by omega) mi ib bl
  have e2 := seg_cons (d := x) a0 (show a < b by omega) bl
  have hpw : (seg x (a + 1) i ++ seg x i b).Pairwise (fun p q => leT w p q = true) := by
    rw [← e1]; exact hB.imp And.left
  have key : seg x (a + 1) i ++ x.getD a.toNat 0 :: seg x i b = sortT w (seg x a b) := by
    apply sortT_eq
    · rw [e2, e1]; exact List.perm_middle
    · rw [List.pairwise_append] at hpw
      rw [List.pairwise_append, List.pairwise_cons]
      refine ⟨hpw.1, ⟨fun y hy => ?_, hpw.2.1⟩, fun p hp q hq => ?_⟩
      · obtain ⟨k, k1, k2, k3, k4, rfl⟩ := seg_mem hy
        have t1 := q2 k k1 k3
        have t2 := hap k (by omega) k3
        unfold ahd at t1
        rw [leT_iff]; omega
      · rcases List.mem_cons.1 hq with rfl | hq
        · obtain ⟨k, k1, k2, k3, k4, rfl⟩ := seg_mem hp
          have t1 := q1 k k1 k3
          unfold ahd at t1
          rw [leT_iff]; omega
        · exact hpw.2.2 p hp q hq
  unfold mvR srt
  rw [← key, show i - 1 + 1 = i by omega, drop_seg (a := i) (b := b) (by omega) ib]
  simp [List.append_assoc]
theorem sym_last {w x : List Int} {a i m : Int} (a0 : 0 ≤ a) (ai : a ≤ i) (im : i ≤ m) (bl : m + 1 ≤ x.length) (hA : down w (seg x a m))
    (hap : ∀ k, a ≤ k → k < m → x.getD k.toNat 0 < x.getD m.toNat 0) (q1 : ∀ k, a ≤ k → k < i → ¬ ahd w (x.getD m.toNat 0) (x.getD k.toNat 0))
    (q2 : ∀ k, i ≤ k → k < m → ahd w (x.getD m.toNat 0) (x.getD k.toNat 0)) : mvL x i m = srt w x a (m + 1) := by
  have key := ins_step (w := w) (A := seg x a i) (B := seg x i m) (L := seg x a m) (v := x.getD m.toNat 0)
    (by rw [← seg_app a0 ai im (by omega), down_sort hA])
    (fun y hy => by
      obtain ⟨k, k1, k2, k3, k4, rfl⟩ := seg_mem hy
      exact hap k k1 k3)
    (fun y hy => by
      obtain ⟨k, k1, k2, k3, k4, rfl⟩ := seg_mem hy
      exact q2 k k1 k3)
    (by
      by_cases h : i = a
      · subst h; exact Or.inl seg_nil
      · refine Or.inr ⟨seg x a (i - 1), x.getD (i - 1).toNat 0, ?_, q1 _ (by omega) (by omega)⟩
        rw [← seg_snoc a0 (by omega) (by omega)]
        congr 1
        omega)
  have hs : seg x a (m + 1) = seg x a m ++ [x.getD m.toNat 0] := seg_snoc a0 (by omega) (by omega)
  unfold mvL srt
  rw [hs, ← key, take_seg a0 ai]
  simp [List.append_assoc]
/- A turned part, its halves sorted. -/
theorem sym_all {w x : List Int} {a s m e b : Int} (h0 : 0 ≤ a) (h1 : a ≤ s) (h2 : s ≤ m) (h3 : m ≤ e) (h4 : e ≤ b) (h5 : b ≤ x.length)
    (h : ∀ l ∈ seg x a s ++ seg x m e, ∀ r ∈ seg x s m ++ seg x e b, leT w l r = true) :
    srt w (srt w (rot x s m e) a (s + e - m)) (s + e - m) b = srt w x a b := by
  obtain ⟨r1, r2, r3, r4, r5, r6⟩ := rot_seg h0 h1 h2 h3 h4 h5
  have hl := rot_len (d := x) (show 0 ≤ s by omega) h2 h3 (by omega)
  refine sym_join h0 (by omega) (by omega) h5 hl r5 r6 (rot_perm h0 h1 h2 h3 h4 h5) ?_
  rw [seg_app (d := rot x s m e) (a := a) (b := s) (c := s + e - m) h0 h1 (by omega) (by omega), seg_app (d := rot x s m e) (a := s + e - m) (b := e) (c := b) (by omega) (by omega) (by omega) (by omega), r1, r2, r3, r4]
  exact h
theorem down_seg {w d : List Int} {a b a' b' : Int} (h : down w (seg d a b)) (h0 : 0 ≤ a) (h1 : a ≤ a') (h2 : b' ≤ b) (h3 : b ≤ d.length) : down w (seg d a' b') := by
  refine h.sublist ?_
  unfold seg
  have : (d.take b'.toNat).drop a'.toNat = ((((d.take b.toNat).drop a.toNat).take (b' - a).toNat).drop (a' - a).toNat) := by
    apply List.ext_getElem?
    intro k
    simp only [List.getElem?_drop, List.getElem?_take]
    grind
  rw [this]
  exact (List.drop_sublist _ _).trans (List.take_sublist _ _)
theorem srt_seg {w d : List Int} {a c p q : Int} (h0 : 0 ≤ a) (h1 : a ≤ c) (h2 : c ≤ d.length) (h3 : c ≤ p) : seg (srt w d a c) p q = seg d p q := by
  obtain ⟨p1, p2, p3⟩ := srt_parts (w := w) (d := d) h0 h1 h2
  unfold seg
  rw [List.drop_take, List.drop_take, drop_drop1 p3 h3]
theorem seg_sub_mem {d : List Int} {a b a' b' y : Int} (h0 : 0 ≤ a') (h1 : a ≤ a') (h2 : b' ≤ b) (ha : 0 ≤ a) (h : y ∈ seg d a' b') : y ∈ seg d a b := by
  obtain ⟨k, k1, k2, k3, k4, rfl⟩ := seg_mem h
  exact mem_seg ha (by omega) (by omega) k4

end Go.Proofs.Ytpmfgdedkmddlaa.Plans
