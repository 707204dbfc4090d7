/-
  VectorPlays: what is taken of each core follows the slots.
-/
import Derived.Test.YtlkhpbjjimjhbaaDoorVecP0
namespace Go.Proofs.YtlkhpbjjimjhbaaDoor.Vec
open Go.Sx
set_option maxRecDepth 100000
set_option maxHeartbeats 1000000
set_option linter.unusedSimpArgs false
set_option linter.unusedVariables false

theorem rel_slot {C : Int} {l : VS} {t : List (List Int)} (h : RelV C l t) {i : Nat} (hi : i < l.length) : okSlot C (l.getD i (0, 0)) := h.1 _ (mem_getD hi)
theorem rel_held {C : Int} {l : VS} {t : List (List Int)} (h : RelV C l t) {i : Nat} (hi : i < l.length) (hv : 0 < (l.getD i (0, 0)).2) :
    (0 ≤ (l.getD i (0, 0)).1 ∧ (l.getD i (0, 0)).1 < C) ∧ 32 ≤ (l.getD i (0, 0)).2 ∧ (l.getD i (0, 0)).2 < 256 := by
  rcases rel_slot h hi with e | e
  · rw [e] at hv; simp at hv
  · exact e
theorem rel_len {C : Int} {l : VS} {t : List (List Int)} (h : RelV C l t) : (t.length : Int) = C := h.2.1
theorem used_set {l : VS} {i : Nat} {s : Int × Int} {c v : Int} (hi : i < l.length) : usedS (l.set i s) c v = true ↔ (s = (c, v) ∧ 0 < v) ∨ ∃ j, j ≠ i ∧ j < l.length ∧ l.getD j (0, 0) = (c, v) ∧ 0 < v := by
  rw [used_iff]
  constructor
  · rintro ⟨j, hj, h1, h2⟩
    rw [getD_set' hi] at h1
    by_cases e : j = i
    · rw [if_pos e] at h1; exact Or.inl ⟨h1, h2⟩
    · rw [if_neg e] at h1; exact Or.inr ⟨j, e, by simpa using hj, h1, h2⟩
  · rintro (⟨h1, h2⟩ | ⟨j, e, hj, h1, h2⟩)
    · exact ⟨i, by simpa using hi, by rw [getD_set' hi, if_pos rfl]; exact h1, h2⟩
    · exact ⟨j, by simpa using hj, by rw [getD_set' hi, if_neg e]; exact h1, h2⟩
theorem rel_take {C : Int} {l : VS} {t : List (List Int)} (h : RelV C l t) {i : Nat} (hi : i < l.length) (hv : ¬ 0 < (l.getD i (0, 0)).2) {c v : Int} (hc : 0 ≤ c ∧ c < C) (h32 : 32 ≤ v ∧ v < 256)
    (hb : bitN (t.getD c.toNat [0, 0, 0, 0]) v.toNat = false) : RelV C (l.set i (c, v)) (t.set c.toNat (putB (t.getD c.toNat [0, 0, 0, 0]) v true)) := by
  obtain ⟨h1, h2, h3, h4, h5⟩ := h
  have hct : c.toNat < t.length := by omega
  have hnot : ∀ j, j < l.length → l.getD j (0, 0) = (c, v) → False := fun j hj e => by
    have := h3 c.toNat (by omega) v.toNat (by omega)
    rw [hb, Int.toNat_of_nonneg hc.1, Int.toNat_of_nonneg (by omega)] at this
    have hu : usedS l c v = true := used_iff.2 ⟨j, hj, e, by omega⟩
    rw [hu] at this; cases this
  refine ⟨fun s hs => ?_, by simpa using h2, fun c' hc' w hw => ?_, fun c' hc' => ?_, fun a b hab hb' ha => ?_⟩
  · rcases List.mem_or_eq_of_mem_set hs with hs | hs
    · exact h1 s hs
    · rw [hs]; exact Or.inr ⟨hc, h32⟩
  · rw [getD_set' hct, Bool.eq_iff_iff, used_set hi]
    have h3' := h3 c' hc' w hw
    by_cases e : c' = c.toNat
    · rw [if_pos e, bitN_put (by omega) (by omega) hw]
      subst e
      by_cases e2 : w = v.toNat
      · rw [if_pos e2]
        refine ⟨fun _ => Or.inl ⟨?_, by omega⟩, fun _ => rfl⟩
        rw [e2, Int.toNat_of_nonneg hc.1, Int.toNat_of_nonneg (by omega)]
      · rw [if_neg e2, h3', used_iff]
        constructor
        · rintro ⟨j, hj, q1, q2⟩
          refine Or.inr ⟨j, ?_, hj, q1, q2⟩
          intro e3
          rw [e3] at q1
          rw [q1] at hv
          exact hv q2
        · rintro (⟨q1, q2⟩ | ⟨j, _, hj, q1, q2⟩)
          · exfalso
            have := congrArg Prod.snd q1
            have : v = w := this
            omega
          · exact ⟨j, hj, q1, q2⟩
    · rw [if_neg e, h3', used_iff]
      constructor
      · rintro ⟨j, hj, q1, q2⟩
        refine Or.inr ⟨j, ?_, hj, q1, q2⟩
        intro e3
        rw [e3] at q1
        rw [q1] at hv
        exact hv q2
      · rintro (⟨q1, q2⟩ | ⟨j, _, hj, q1, q2⟩)
        · exfalso
          have := congrArg Prod.fst q1
          have : c = c' := this
          omega
        · exact ⟨j, hj, q1, q2⟩
  · have hcs := cnt_set (c := (c' : Int)) (s := (c, v)) hi
    have ea : isAt c' (l.getD i (0, 0)) = false := by unfold isAt; rw [decide_eq_false hv]; rfl
    rw [ea, if_neg (by decide)] at hcs
    have h4' := h4 c' hc'
    rw [getD_set' hct]
    by_cases e : c' = c.toNat
    · have eb : isAt c' (c, v) = true := by unfold isAt; simp; omega
      rw [eb, if_pos rfl] at hcs
      rw [if_pos e, len_putT (by omega) (by omega) hb]
      subst e
      omega
    · have eb : isAt c' (c, v) = false := by unfold isAt; simp; omega
      rw [eb, if_neg (by decide)] at hcs
      rw [if_neg e]
      omega
  · have hb'' : b < l.length := by simpa using hb'
    rw [getD_set' hi] at ha ⊢
    rw [getD_set' hi]
    by_cases e1 : a = i
    · rw [if_pos e1, if_neg (by omega)]
      exact fun e => hnot b hb'' e.symm
    · rw [if_neg e1] at ha ⊢
      by_cases e2 : b = i
      · rw [if_pos e2]; exact fun e => hnot a (by omega) e
      · rw [if_neg e2]; exact h5 a b hab hb'' ha
theorem rel_give {C : Int} {l : VS} {t : List (List Int)} (h : RelV C l t) {i : Nat} (hi : i < l.length) (hv : 0 < (l.getD i (0, 0)).2) :
    RelV C (l.set i (0, 0)) (t.set (l.getD i (0, 0)).1.toNat (putB (t.getD (l.getD i (0, 0)).1.toNat [0, 0, 0, 0]) (l.getD i (0, 0)).2 false)) := by
  have hr := rel_held h hi hv
  generalize hs : l.getD i (0, 0) = s at *
  obtain ⟨c, v⟩ := s
  simp only [] at hr hv ⊢
  obtain ⟨h1, h2, h3, h4, h5⟩ := h
  have hct : c.toNat < t.length := by omega
  have hbit : bitN (t.getD c.toNat [0, 0, 0, 0]) v.toNat = true := by
    rw [h3 c.toNat (by omega) v.toNat (by omega), Int.toNat_of_nonneg (by omega), Int.toNat_of_nonneg (by omega)]
    exact used_iff.2 ⟨i, hi, hs, hv⟩
  have hone : ∀ j, j < l.length → j ≠ i → l.getD j (0, 0) = (c, v) → False := fun j hj hne e => by
    rcases Nat.lt_or_gt_of_ne hne with hlt | hlt
    · exact h5 j i hlt hi (by rw [e]; exact hv) (by rw [e, hs])
    · exact h5 i j hlt hj (by rw [hs]; exact hv) (by rw [e, hs])
  refine ⟨fun s hs => ?_, by simpa using h2, fun c' hc' w hw => ?_, fun c' hc' => ?_, fun a b hab hb' ha => ?_⟩
  · rcases List.mem_or_eq_of_mem_set hs with hs | hs
    · exact h1 s hs
    · rw [hs]; exact Or.inl rfl
  · rw [getD_set' hct, Bool.eq_iff_iff, used_set hi]
    have h3' := h3 c' hc' w hw
    by_cases e : c' = c.toNat
    · rw [if_pos e, bitN_put (by omega) (by omega) hw]
      subst e
      by_cases e2 : w = v.toNat
      · rw [if_pos e2]
        refine ⟨fun q => (by cases q), ?_⟩
        rintro (⟨q1, q2⟩ | ⟨j, hne, hj, q1, q2⟩)
        · have := congrArg Prod.snd q1
          have : (0 : Int) = w := this
          omega
        · exfalso
          refine hone j hj hne ?_
          rw [q1, e2, Int.toNat_of_nonneg (by omega), Int.toNat_of_nonneg (by omega)]
      · rw [if_neg e2, h3', used_iff]
        constructor
        · rintro ⟨j, hj, q1, q2⟩
          refine Or.inr ⟨j, ?_, hj, q1, q2⟩
          intro e3
          rw [e3, hs] at q1
          have := congrArg Prod.snd q1
          have : v = w := this
          omega
        · rintro (⟨q1, q2⟩ | ⟨j, _, hj, q1, q2⟩)
          · exfalso
            have := congrArg Prod.snd q1
            have : (0 : Int) = w := this
            omega
          · exact ⟨j, hj, q1, q2⟩
    · rw [if_neg e, h3', used_iff]
      constructor
      · rintro ⟨j, hj, q1, q2⟩
        refine Or.inr ⟨j, ?_, hj, q1, q2⟩
        intro e3
        rw [e3, hs] at q1
        have := congrArg Prod.fst q1
        have : c = c' := this
        omega
      · rintro (⟨q1, q2⟩ | ⟨j, _, hj, q1, q2⟩)
        · exfalso
          have := congrArg Prod.snd q1
          have : (0 : Int) = w := this
          omega
        · exact ⟨j, hj, q1, q2⟩
  · have hcs := cnt_set (c := (c' : Int)) (s := (0, 0)) hi
    have eb : isAt c' (0, 0) = false := by unfold isAt; simp
    rw [eb, if_neg (by decide : ¬ false = true), hs] at hcs
    have h4' := h4 c' hc'
    rw [getD_set' hct]
    by_cases e : c' = c.toNat
    · have ea : isAt c' (c, v) = true := by unfold isAt; simp; omega
      rw [ea, if_pos rfl] at hcs
      have := len_putF (b := t.getD c.toNat [0, 0, 0, 0]) (n := v) (by omega) (by omega) hbit
      rw [if_pos e]
      subst e
      omega
    · have ea : isAt c' (c, v) = false := by unfold isAt; simp; omega
      rw [ea, if_neg (by decide)] at hcs
      rw [if_neg e]
      omega
  · have hb'' : b < l.length := by simpa using hb'
    rw [getD_set' hi] at ha ⊢
    rw [getD_set' hi]
    by_cases e1 : a = i
    · rw [if_pos e1] at ha; simp at ha
    · rw [if_neg e1] at ha ⊢
      by_cases e2 : b = i
      · rw [if_pos e2]
        intro e
        rw [e] at ha; simp at ha
      · rw [if_neg e2]; exact h5 a b hab hb'' ha
theorem rel_start {C L : Int} (hC : 0 ≤ C) : RelV C (List.replicate L.toNat (0, 0)) (List.replicate C.toNat [0, 0, 0, 0]) := by
  have hz : ∀ v, v < 256 → bitN [0, 0, 0, 0] v = false := fun v hv => by
    unfold bitN
    have : ([0, 0, 0, 0] : List Int).getD (v / 64) 0 = 0 := by
      have : v / 64 < 4 := by omega
      match v / 64, this with
      | 0, _ => rfl
      | 1, _ => rfl
      | 2, _ => rfl
      | 3, _ => rfl
    rw [this]; simp
  have hg : ∀ c : Nat, (c : Int) < C → (List.replicate C.toNat ([0, 0, 0, 0] : List Int)).getD c [0, 0, 0, 0] = [0, 0, 0, 0] := fun c hc => by
    simp only [List.getD, List.getElem?_replicate]; split <;> rfl
  have hgl : ∀ j, (List.replicate L.toNat ((0, 0) : Int × Int)).getD j (0, 0) = (0, 0) := fun j => by
    simp only [List.getD, List.getElem?_replicate]; split <;> rfl
  have hz0 : allOf [0, 0, 0, 0] = [] := by
    have : (allOf [0, 0, 0, 0]).length = 0 := by
      unfold allOf
      rw [allB_len, nB_congr (g := fun _ => false) 256 (fun j hj => hz j hj)]
      decide
    exact List.eq_nil_of_length_eq_zero this
  have hfil : ∀ c : Int, cntS (List.replicate L.toNat (0, 0)) c = 0 := fun c => by
    unfold cntS
    rw [List.filter_replicate_of_neg (by simp)]
    rfl
  refine ⟨fun s hs => Or.inl (List.eq_of_mem_replicate hs), by simp; omega, fun c hc v hv => ?_, fun c hc => ?_, fun i j _ _ hp => ?_⟩
  · rw [hg c hc, hz v hv, Eq.comm, ← Bool.not_eq_true, used_iff]
    rintro ⟨j, _, h1, h2⟩
    rw [hgl] at h1
    have := congrArg Prod.snd h1
    have : (0 : Int) = v := this
    omega
  · rw [hg c hc, hz0, hfil]; rfl
  · rw [hgl] at hp; simp at hp

end Go.Proofs.YtlkhpbjjimjhbaaDoor.Vec
