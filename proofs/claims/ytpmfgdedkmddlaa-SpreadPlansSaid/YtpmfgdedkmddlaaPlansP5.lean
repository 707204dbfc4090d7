/-
  SpreadPlans: sorting by putting elements into place.
-/
import Derived.Test.YtpmfgdedkmddlaaPlansP4
namespace Go.Proofs.Ytpmfgdedkmddlaa.Plans
open Go.Sx
set_option maxRecDepth 100000
set_option maxHeartbeats 1000000
set_option linter.unusedSimpArgs false
set_option linter.unusedVariables false

theorem srt_one' {w d : List Int} {a : Int} (h0 : 0 ≤ a) (h1 : a ≤ d.length) : srt w d a (a + 1) = d := by
  by_cases h : a < d.length
  · exact srt_one h0 h
  · have e : a.toNat = d.length := by omega
    unfold srt seg
    rw [e, List.take_length, List.drop_of_length_le (by simp; omega), List.drop_of_length_le (by omega), sortT_nil]
    simp
theorem srt_self {w d : List Int} {a : Int} : srt w d a a = d := by
  unfold srt
  rw [seg_nil, sortT_nil, List.nil_append, List.take_append_drop]
theorem srt_mem {w d : List Int} {a b x : Int} (h0 : 0 ≤ a) (h1 : a ≤ b) (h : x ∈ srt w d a b) : x ∈ d := by
  unfold srt at h
  rw [parts (d := d) h0 h1]
  simp only [List.mem_append, (sortT_perm (w := w)).mem_iff] at h ⊢
  exact h
theorem mvL_mem {d : List Int} {j i x : Int} (h0 : 0 ≤ j) (h1 : j ≤ i) (h2 : i < d.length) (h : x ∈ mvL d j i) : x ∈ d := by
  obtain ⟨k, hk⟩ := List.mem_iff_getElem?.1 h
  rw [mvL_get h0 h1 h2] at hk
  exact List.mem_iff_getElem?.2 ⟨_, hk⟩
theorem getD_mem {d : List Int} {k : Int} (h0 : 0 ≤ k) (h1 : k < d.length) : d.getD k.toNat 0 ∈ d := by
  rw [List.getD_eq_getElem?_getD, List.getElem?_eq_getElem (by omega)]
  exact List.getElem_mem (by omega)
theorem ins_cmp {w x : List Int} {a j i : Int} (hw : okW w x) (h0 : 0 ≤ a) (h1 : a ≤ j) (h2 : j ≤ i) (h3 : i < x.length) (h : a < j) :
    ∀ z, z = (mvL (srt w x a i) j i).getD j.toNat 0 ∨ z = (mvL (srt w x a i) j i).getD (j - 1).toNat 0 → 0 ≤ z ∧ z < w.length := by
  have hl := srt_len (w := w) (d := x) h0 (show a ≤ i by omega) (show i ≤ x.length by omega)
  have hm := mvL_len (d := srt w x a i) (j := j) (i := i) (by omega) h2 (by omega)
  rintro z (rfl | rfl)
  · exact hw.2.2 _ (srt_mem h0 (by omega) (mvL_mem (by omega) h2 (by omega) (getD_mem (by omega) (by omega))))
  · exact hw.2.2 _ (srt_mem h0 (by omega) (mvL_mem (by omega) h2 (by omega) (getD_mem (by omega) (by omega))))
theorem e_ins (x : List Int × Int × Int × List Int × Unit) (hp : (0 ≤ x.2.1 ∧ x.2.1 ≤ x.2.2.1 ∧ x.2.2.1 ≤ x.1.length ∧ x.1.length ≤ 400) ∧ okW x.2.2.2.1 x.1 ∧ up (seg x.1 x.2.1 x.2.2.1)) (hl : pIns.lens x) : E_ins x := by
  obtain ⟨d, a, b, w, u⟩ := x
  simp only [] at hp
  obtain ⟨⟨a0, ab, bl, l4⟩, hw, hu⟩ := hp
  clear hl
  have hsl := fun (i : Int) h1 h2 => srt_len (w := w) (d := d) (a := a) (b := i) a0 h1 h2
  unfold E_ins
  simp only [Bool.not_eq_true', Bool.not_eq_false', Bool.not_eq_true, Bool.not_eq_false, beq_self_eq_true, decide_eq_true_eq, decide_eq_false_iff_not, Bool.not_false, Bool.not_true, beq_iff_eq, beq_eq_false_iff_ne, bne_iff_ne, ne_eq, bne_eq_false_iff_eq, holds_iff, true_and, and_true, and_self, eq_self, List.length_cons, List.length_nil, List.length_append, List.length_set, List.length_replicate, List.set_cons_zero, cond_true, cond_false, Bool.false_eq_true, Bool.true_eq_false, forall_const, false_imp_iff, imp_self, implies_true, and_imp, Decidable.not_not, Bool.and_eq_true, Bool.or_eq_true, Bool.and_eq_false_iff, Bool.or_eq_false_iff, ← List.length_eq_zero_iff, or_self, or_false, false_or, Prod.forall, Int.reduceEq, Int.reduceLT, Int.reduceLE, List.nil_append, Nat.zero_add, Int.toNat_zero, List.drop_zero, List.length_drop, List.length_take, not_true_eq_false, not_false_eq_true]
  try simp only [flip_f, flip_t, decide_eq_true_eq, decide_eq_false_iff_not]
  refine ⟨?_, ?_, ?_⟩
  · omega
  · exact ⟨by omega, Or.inr trivial, (srt_one' a0 (by omega)).symm⟩
  · rintro g i i0 i1 rfl - - - -
    refine ⟨fun ib => ?_, fun h => ?_⟩
    · have ib' : i < b := ib
      have el := hsl i (by omega) (by omega)
      refine ⟨⟨by omega, by omega, (mvL_self (by omega) (by omega)).symm, ?_⟩, ?_⟩
      · intro y hy; rw [seg_nil] at hy; simp at hy
      · rintro g j j0 j1 rfl hb - - - -
        have hm := mvL_len (d := srt w d a i) (j := j) (i := i) (by omega) j1 (by omega)
        refine ⟨fun ja => ?_, fun ja => ?_⟩
        · have ja' : a < j := ja
          have hc := ins_cmp (x := d) (a := a) (j := j) (i := i) hw a0 j0 j1 (by omega) ja'
          refine ⟨by omega, by omega, by omega, ⟨hw.1, hw.2.1, ?_⟩, fun hh => ?_, fun hh => ?_⟩
          · intro z hz
            simp only [List.mem_cons, List.not_mem_nil, or_false] at hz
            exact hc z hz
          · have hn := mvL_next (d := srt w d a i) (j := j) (i := i) (by omega) j1 (by omega)
            refine ⟨by omega, by omega, by omega, by omega, by omega, by omega, by omega, ⟨by omega, by omega, hn, ?_⟩, by omega⟩
            intro y hy
            rw [seg_cons (by omega) (by omega) (by omega), show j - 1 + 1 = j by omega] at hy
            rcases List.mem_cons.1 hy with rfl | hy
            · rw [mvL_at (by omega) j1 (by omega), mvL_prev (by omega) j1 (by omega)] at hh
              unfold ahd
              have hh' : wt w ((srt w d a i).getD (j - 1).toNat 0) - wt w ((srt w d a i).getD i.toNat 0) < (0 : Int) := hh
              omega
            · exact hb y hy
          · refine ⟨by omega, ⟨by omega, by omega, ?_⟩, by omega⟩
            refine ins_done a0 j0 j1 ib' bl hu (by omega) hb (Or.inr ?_)
            rw [mvL_at (by omega) j1 (by omega), mvL_prev (by omega) j1 (by omega)] at hh
            unfold ahd
            intro hx
            apply hh
            show wt w ((srt w d a i).getD (j - 1).toNat 0) - wt w ((srt w d a i).getD i.toNat 0) < (0 : Int)
            omega
        · have ja' : ¬ a < j := ja
          refine ⟨by omega, ⟨by omega, by omega, ?_⟩, by omega⟩
          exact ins_done a0 j0 j1 ib' bl hu (by omega) hb (Or.inl (by omega))
    · have h' : ¬ i < b := h
      rcases i1 with i1 | i1
      · rw [show i = b by omega]
      · subst i1
        by_cases hb : b = a
        · rw [hb, srt_one' a0 (by omega), srt_self]
        · rw [show b = a + 1 by omega]

end Go.Proofs.Ytpmfgdedkmddlaa.Plans
