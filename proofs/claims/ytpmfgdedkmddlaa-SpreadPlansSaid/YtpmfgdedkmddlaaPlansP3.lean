/-
  SpreadPlans: the order, parts of lists.
-/
import Derived.Test.YtpmfgdedkmddlaaPlansP2
namespace Go.Proofs.Ytpmfgdedkmddlaa.Plans
open Go.Sx
set_option maxRecDepth 100000
set_option maxHeartbeats 1000000
set_option linter.unusedSimpArgs false
set_option linter.unusedVariables false

theorem leT_iff {w : List Int} {a b : Int} : leT w a b = true ↔ wt w b < wt w a ∨ (wt w a = wt w b ∧ a ≤ b) := by
  unfold leT
  simp
theorem leT_trans {w : List Int} (a b c : Int) (h : leT w a b = true) (h' : leT w b c = true) : leT w a c = true := by
  rw [leT_iff] at *
  omega
theorem leT_total {w : List Int} (a b : Int) : (leT w a b || leT w b a) = true := by
  rw [Bool.or_eq_true, leT_iff, leT_iff]
  omega
theorem leT_anti {w : List Int} {a b : Int} (h : leT w a b = true) (h' : leT w b a = true) : a = b := by
  rw [leT_iff] at *
  omega
theorem sortT_pw {w l : List Int} : (sortT w l).Pairwise (fun a b => leT w a b = true) := List.pairwise_mergeSort leT_trans leT_total l
theorem sortT_eq {w s l : List Int} (h : s.Perm l) (hs : s.Pairwise (fun a b => leT w a b = true)) : s = sortT w l :=
  (h.trans sortT_perm.symm).eq_of_pairwise (fun _ _ _ _ h1 h2 => leT_anti h1 h2) hs sortT_pw
theorem sortT_sort {w l : List Int} (h : l.Pairwise (fun a b => leT w a b = true)) : sortT w l = l := (sortT_eq (List.Perm.refl l) h).symm
theorem sortT_one {w : List Int} {a : Int} : sortT w [a] = [a] := sortT_sort (List.pairwise_singleton _ _)
theorem sortT_nil {w : List Int} : sortT w [] = [] := by simp [sortT]
theorem sortT_congr {w l m : List Int} (h : l.Perm m) : sortT w l = sortT w m := sortT_eq (sortT_perm.trans h) sortT_pw
theorem sortT_down {w l : List Int} (h : up l) : down w (sortT w l) := by
  have hn : (sortT w l).Nodup := (List.Perm.nodup_iff sortT_perm).2 (h.imp (fun h => Int.ne_of_lt h))
  exact sortT_pw.and hn
theorem down_sort {w l : List Int} (h : down w l) : sortT w l = l := sortT_sort (h.imp And.left)
theorem sortT_app {w l m : List Int} (h : ∀ x ∈ l, ∀ y ∈ m, leT w x y = true) : sortT w (l ++ m) = sortT w l ++ sortT w m := by
  symm
  apply sortT_eq (sortT_perm.append sortT_perm)
  rw [List.pairwise_append]
  exact ⟨sortT_pw, sortT_pw, fun a ha b hb => h a (sortT_perm.mem_iff.1 ha) b (sortT_perm.mem_iff.1 hb)⟩
/- An element put into a sorted list, behind what is as good. -/
theorem ins_step {w A B L : List Int} {v : Int} (h : A ++ B = sortT w L) (hv : ∀ y ∈ L, y < v) (hb : ∀ y ∈ B, ahd w v y) (ha : A = [] ∨ ∃ A' y, A = A' ++ [y] ∧ ¬ ahd w v y) :
    A ++ v :: B = sortT w (L ++ [v]) := by
  have hpw : (A ++ B).Pairwise (fun a b => leT w a b = true) := h ▸ sortT_pw
  have hp : (A ++ B).Perm L := h ▸ sortT_perm
  rw [List.pairwise_append] at hpw
  apply sortT_eq
  · refine List.Perm.trans List.perm_middle ?_
    refine List.Perm.trans (List.Perm.cons v hp) ?_
    exact (List.perm_append_singleton v L).symm
  · have hav : ∀ y ∈ A, leT w y v = true := by
      rcases ha with rfl | ⟨A', z, rfl, hz⟩
      · simp
      · intro y hy
        have hzl := hv z (hp.mem_iff.1 (by simp))
        have hzv : leT w z v = true := by
          rw [leT_iff]; unfold ahd at hz; omega
        rcases List.mem_append.1 hy with hy | hy
        · exact leT_trans _ _ _ ((List.pairwise_append.1 hpw.1).2.2 y hy z (by simp)) hzv
        · rw [List.mem_singleton] at hy; rw [hy]; exact hzv
    rw [List.pairwise_append, List.pairwise_cons]
    refine ⟨hpw.1, ⟨fun b hb' => ?_, hpw.2.1⟩, fun a ha' b hb' => ?_⟩
    · rw [leT_iff]; exact Or.inl (hb b hb')
    · rcases List.mem_cons.1 hb' with rfl | hb'
      · exact hav a ha'
      · exact hpw.2.2 a ha' b hb'
/- Parts. -/
theorem seg_nil {d : List Int} {a : Int} : seg d a a = [] := by simp [seg]
theorem getI {d : List Int} {a : Int} (h1 : a < d.length) (h0 : 0 ≤ a) : d[a.toNat]? = some (d.getD a.toNat 0) := by
  simp [List.getD, List.getElem?_eq_getElem (show a.toNat < d.length by omega)]
theorem seg_app {d : List Int} {a b c : Int} (h0 : 0 ≤ a) (h1 : a ≤ b) (h2 : b ≤ c) (h3 : c ≤ d.length) : seg d a c = seg d a b ++ seg d b c := by
  apply List.ext_getElem?
  intro k
  rw [List.getElem?_append, seg_len (by omega), seg_get, seg_get, seg_get]
  grind
theorem seg_one {d : List Int} {a : Int} (h0 : 0 ≤ a) (h1 : a < d.length) : seg d a (a + 1) = [d.getD a.toNat 0] := by
  apply List.ext_getElem?
  intro k
  rw [seg_get]
  have := getI h1 h0
  rcases k with _ | k
  · grind
  · simp; omega
theorem seg_snoc {d : List Int} {a b : Int} (h0 : 0 ≤ a) (h1 : a ≤ b) (h2 : b < d.length) : seg d a (b + 1) = seg d a b ++ [d.getD b.toNat 0] := by
  rw [seg_app h0 h1 (by omega) (by omega), seg_one (by omega) h2]
theorem seg_cons {d : List Int} {a b : Int} (h0 : 0 ≤ a) (h1 : a < b) (h2 : b ≤ d.length) : seg d a b = d.getD a.toNat 0 :: seg d (a + 1) b := by
  rw [seg_app (b := a + 1) h0 (by omega) (by omega) h2, seg_one h0 (by omega)]
  rfl
theorem take_seg {d : List Int} {a b : Int} (h0 : 0 ≤ a) (h1 : a ≤ b) : d.take b.toNat = d.take a.toNat ++ seg d a b := by
  unfold seg
  have e : d.take a.toNat = (d.take b.toNat).take a.toNat := by
    rw [List.take_take]; congr 1; omega
  rw [e, List.take_append_drop]
theorem drop_seg {d : List Int} {a b : Int} (h0 : 0 ≤ a) (h1 : a ≤ b) : d.drop a.toNat = seg d a b ++ d.drop b.toNat := by
  unfold seg
  rw [List.drop_take]
  have e : d.drop b.toNat = (d.drop a.toNat).drop (b.toNat - a.toNat) := by
    rw [List.drop_drop]; congr 1; omega
  rw [e, List.take_append_drop]
theorem parts {d : List Int} {a b : Int} (h0 : 0 ≤ a) (h1 : a ≤ b) : d = d.take a.toNat ++ (seg d a b ++ d.drop b.toNat) := by
  rw [← drop_seg h0 h1, List.take_append_drop]
theorem seg_mem {d : List Int} {a b y : Int} (h : y ∈ seg d a b) : ∃ k : Int, a ≤ k ∧ 0 ≤ k ∧ k < b ∧ k < d.length ∧ d.getD k.toNat 0 = y := by
  obtain ⟨k, hk⟩ := List.mem_iff_getElem?.1 h
  rw [seg_get] at hk
  split at hk
  · have hlt : a.toNat + k < d.length := (List.getElem?_eq_some_iff.1 hk).1
    refine ⟨((a.toNat + k : Nat) : Int), by omega, by omega, by omega, by omega, ?_⟩
    rw [Int.toNat_natCast, List.getD_eq_getElem?_getD, hk]
    rfl
  · simp at hk
theorem mem_seg {d : List Int} {a b k : Int} (h0 : 0 ≤ a) (h1 : a ≤ k) (h2 : k < b) (h3 : k < d.length) : d.getD k.toNat 0 ∈ seg d a b := by
  apply List.mem_iff_getElem?.2
  refine ⟨(k - a).toNat, ?_⟩
  rw [seg_get, if_pos (by omega), show a.toNat + (k - a).toNat = k.toNat by omega, getI h3 (by omega)]
theorem up_seg {d : List Int} {a b a' b' : Int} (h : up (seg d a b)) (h0 : 0 ≤ a) (h1 : a ≤ a') (h2 : b' ≤ b) (h3 : b ≤ d.length) : up (seg d a' b') := by
  refine h.sublist ?_
  unfold seg
  have : (d.take b'.toNat).drop a'.toNat = ((((d.take b.toNat).drop a.toNat).take (b' - a).toNat).drop (a' - a).toNat) := by
    apply List.ext_getElem?
    intro k
    simp only [List.getElem?_drop, List.getElem?_take]
    grind
  rw [this]
  exact (List.drop_sublist _ _).trans (List.take_sublist _ _)
theorem up_lt {d : List Int} {a b i j : Int} (h : up (seg d a b)) (h0 : 0 ≤ a) (h1 : a ≤ i) (h2 : i < j) (h3 : j < b) (h4 : b ≤ d.length) : d.getD i.toNat 0 < d.getD j.toNat 0 := by
  have hs : seg d a (j + 1) = seg d a j ++ [d.getD j.toNat 0] := seg_snoc h0 (by omega) (by omega)
  have hu := up_seg h h0 (Int.le_refl a) (show j + 1 ≤ b by omega) h4
  rw [hs] at hu
  exact (List.pairwise_append.1 hu).2.2 _ (mem_seg h0 h1 h2 (by omega)) _ (by simp)

end Go.Proofs.Ytpmfgdedkmddlaa.Plans
