/-
  SpreadPlans: the plans.
-/
import Derived.Test.YtpmfgdedkmddlaaPlansPE
namespace Go.Proofs.Ytpmfgdedkmddlaa.Plans
open Go.Sx
set_option maxRecDepth 100000
set_option maxHeartbeats 1000000
set_option linter.unusedSimpArgs false
set_option linter.unusedVariables false

theorem okW_at {w o : List Int} (h : okW w o) {i : Nat} (hi : i < o.length) : 0 ≤ o.getD i 0 ∧ o.getD i 0 < w.length ∧ 0 ≤ wt w (o.getD i 0) ∧ wt w (o.getD i 0) ≤ 1073741824 := by
  have := okW_get h hi
  exact ⟨this.1, this.2, okW_wt h this.1 this.2⟩
theorem e_plan (x : List Int × Int × List Int × Unit) (hp : (1 ≤ x.2.1 ∧ x.2.1 ≤ 8) ∧ x.2.2.1.length ≤ 400 ∧ okW x.1 x.2.2.1) (hl : LensL cPlan.as x) : E_plan x := by
  obtain ⟨w, c, o, u⟩ := x
  simp only [] at hp
  obtain ⟨hc, ho, hw⟩ := hp
  have hwl := hw.1
  unfold E_plan
  simp only [Bool.not_eq_true', Bool.not_eq_false', Bool.not_eq_true, Bool.not_eq_false, beq_self_eq_true, decide_eq_true_eq, decide_eq_false_iff_not, Bool.not_false, Bool.not_true, beq_iff_eq, beq_eq_false_iff_ne, bne_iff_ne, ne_eq, bne_eq_false_iff_eq, holds_iff, true_and, and_true, and_self, eq_self, List.length_cons, List.length_nil, List.length_append, List.length_set, List.length_replicate, List.set_cons_zero, cond_true, cond_false, Bool.false_eq_true, Bool.true_eq_false, forall_const, false_imp_iff, imp_self, implies_true, and_imp, Decidable.not_not, Bool.and_eq_true, Bool.or_eq_true, Bool.and_eq_false_iff, Bool.or_eq_false_iff, ← List.length_eq_zero_iff, or_self, or_false, false_or, Prod.forall, Int.reduceEq, Int.reduceLT, Int.reduceLE, List.nil_append, Nat.zero_add, Int.toNat_zero, List.drop_zero, List.length_drop, List.length_take, not_true_eq_false, not_false_eq_true,  plRun_nil, List.take_zero, Int.toNat_natCast]
  refine ⟨by omega, by omega, ⟨by omega, by omega, fun h hh => ?_⟩, ?_⟩
  · have := List.eq_of_mem_replicate hh; omega
  · intro p1 p2 has k k0 k1 hr hlen hpl h2 h3 hall _ _ _ _ _ _ _ _
    refine ⟨fun hk => ?_, fun hk => ?_⟩
    · obtain ⟨i, e1, e2, hi, hf⟩ := idle_spec (l := has) (by omega)
      have ha := okW_at hw (i := k.toNat) (by omega)
      have hn := plRun_next (w := w) (c := c) k0 hk
      have hh := hall _ (gmem hi)
      rw [hr] at hn
      unfold plStep at hn
      simp only [e2] at hn
      simp only [e1, Int.toNat_natCast]
      unfold wt at ha hn
      generalize o.getD k.toNat 0 = a at ha hn ⊢
      generalize w.getD a.toNat 0 = v at ha hn ⊢
      have hset : (has.set i (has.getD i 0 + v)).getD i 0 = has.getD i 0 + v := by simp [List.getD, hi]
      simp only [hset]
      refine ⟨by omega, by omega, by omega, by omega, by omega, by omega, by omega, by omega, by omega, ⟨by omega, by omega, hn, by omega, by omega, by omega, by omega, set_all (C := (k + 1) * 1073741824) hall (by omega) (by omega)⟩, by omega⟩
    · rw [takeI_all (by omega)] at hr
      unfold plan
      rw [hr]
theorem e_eplan (x : List Int × Int × List Int × Unit) (hp : (1 ≤ x.2.1 ∧ x.2.1 ≤ 8) ∧ x.2.2.1.length ≤ 400 ∧ okW x.1 x.2.2.1) (hl : LensL cPlan.as x) : E_eplan x := by
  obtain ⟨w, c, o, u⟩ := x
  simp only [] at hp
  obtain ⟨hc, ho, hw⟩ := hp
  have hwl := hw.1
  unfold E_eplan
  simp only [Bool.not_eq_true', Bool.not_eq_false', Bool.not_eq_true, Bool.not_eq_false, beq_self_eq_true, decide_eq_true_eq, decide_eq_false_iff_not, Bool.not_false, Bool.not_true, beq_iff_eq, beq_eq_false_iff_ne, bne_iff_ne, ne_eq, bne_eq_false_iff_eq, holds_iff, true_and, and_true, and_self, eq_self, List.length_cons, List.length_nil, List.length_append, List.length_set, List.length_replicate, List.set_cons_zero, cond_true, cond_false, Bool.false_eq_true, Bool.true_eq_false, forall_const, false_imp_iff, imp_self, implies_true, and_imp, Decidable.not_not, Bool.and_eq_true, Bool.or_eq_true, Bool.and_eq_false_iff, Bool.or_eq_false_iff, ← List.length_eq_zero_iff, or_self, or_false, false_or, Prod.forall, Int.reduceEq, Int.reduceLT, Int.reduceLE, List.nil_append, Nat.zero_add, Int.toNat_zero, List.drop_zero, List.length_drop, List.length_take, not_true_eq_false, not_false_eq_true,  plRun_nil, List.take_zero, Int.toNat_natCast]
  refine ⟨by omega, by omega, ⟨by omega, ⟨0, rfl⟩, fun h hh => ?_⟩, ?_⟩
  · have := List.eq_of_mem_replicate hh; omega
  · intro p1 p2 has k k0 k1 hp2 hq hlen hpl hall _ _ _ _ _ _ _ _
    obtain ⟨q, hr⟩ := hq
    refine ⟨fun hk => ?_, fun hk => ?_⟩
    · have hn := plRun_next (w := w) (c := c) k0 hk
      have ha := okW_at hw (i := k.toNat) (by omega)
      rw [hr] at hn
      unfold plStep at hn
      unfold wt at ha hn
      simp only [] at hn
      generalize o.getD k.toNat 0 = a at ha hn ⊢
      generalize w.getD a.toNat 0 = v at ha hn ⊢
      refine ⟨by omega, ⟨by omega, firstMin_zero⟩, ?_⟩
      intro b j j0 j1 hf _ _ _ _
      have hf0 := hf.1
      have hf1 := hf.2.1
      refine ⟨fun hj => ⟨by omega, by omega, fun hg => ⟨by omega, ⟨by omega, by omega, firstMin_take j0 hf hg⟩, by omega⟩, fun hg => ⟨by omega, ⟨by omega, by omega, firstMin_skip j0 hf hg⟩, by omega⟩⟩, fun hj => ?_⟩
      have hi := firstMin_idle (by omega) (show j = (has.length : Int) by omega) hf
      have hh := hall _ (gmem (show b.toNat < has.length by omega))
      rw [← hi] at hn
      have hbn : idle has = b.toNat := by omega
      rw [hbn] at hn
      refine ⟨by omega, by omega, by omega, by omega, by omega, by omega, ⟨by omega, by omega, hp2, ⟨_, hn⟩, hlen, hpl, set_all (C := (k + 1) * 1073741824) hall (by omega) (by omega)⟩, by omega⟩
    · rw [takeI_all (by omega)] at hr
      have hm := plRun_max (w := w) (o := o) (c := c) (by omega) (fun x hx => by
        obtain ⟨i, hi, rfl⟩ := mem_getD hx
        exact (okW_at hw hi).2.2.1)
      rw [hr] at hm
      simp only [] at hm
      refine ⟨⟨by omega, by rw [hp2]; rfl⟩, ?_⟩
      intro a b j j0 ea j1 eb _ _ _ _ _ _
      refine ⟨fun hj => ⟨by omega, by omega, ⟨by omega, ea, by omega, ?_⟩, by omega⟩, fun hj => ?_⟩
      · rw [takeI_succ 0 j0 hj, List.foldl_append, ← eb]
        rfl
      · rw [takeI_all (by omega)] at eb
        unfold plan
        rw [hr, hm, ea, eb]

end Go.Proofs.Ytpmfgdedkmddlaa.Plans
