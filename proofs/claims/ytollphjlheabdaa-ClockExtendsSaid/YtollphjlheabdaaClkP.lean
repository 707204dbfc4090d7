/-
  ClockExtends: the conditions hold.
-/
import Derived.Test.YtollphjlheabdaaClkE
namespace Go.Proofs.Ytollphjlheabdaa.Clk
open Go.Sx
set_option maxRecDepth 100000
set_option maxHeartbeats 1000000
set_option linter.unusedSimpArgs false
set_option linter.unusedVariables false

theorem e_equal (x : List Int × List Int × Unit) (_ : cEqual.pre x) (hl : LensL cEqual.as x) : E_equal x := by
  obtain ⟨xs, ys, u⟩ := x
  have hlx : xs.length ≤ 9223372036854775807 := hl.1.1
  unfold E_equal
  simp only [decide_eq_true_eq, decide_eq_false_iff_not, Bool.not_false, Bool.not_true, beq_iff_eq, beq_eq_false_iff_ne, bne_iff_ne, ne_eq, bne_eq_false_iff_eq, holds_iff, true_and, and_true, and_self, eq_self, List.length_cons, List.length_nil, List.length_append, List.length_set, List.length_replicate, List.set_cons_zero, cond_true, cond_false, Bool.false_eq_true, Bool.true_eq_false, forall_const, false_imp_iff, imp_self, implies_true, and_imp, Decidable.not_not]
  repeat' (first | apply And.intro | intro _)
  all_goals try omega
  all_goals grind [takeI_succ, takeI_all]
theorem W_snoc (l : List Int) (r : Int) : W (l ++ [r]) = step (W l) r := by simp [W, List.foldl_append]
theorem ext_good {xs : List Int} (h : xs.all inR = true) : ext xs = ((W xs).2.2, 0, ()) := by unfold ext; rw [if_pos h]
theorem ext_bad {xs : List Int} {k : Int} (h0 : 0 ≤ k) (h : k < xs.length) (hb : xs.getD k.toNat 0 < 0 ∨ 65536 ≤ xs.getD k.toNat 0) : ext xs = ([], 2, ()) := by
  unfold ext
  rw [if_neg]
  rw [all_false_of (d := 0) (k := k.toNat) (by omega) (by simp only [inR]; grind)]
  decide
theorem W_next {xs : List Int} {k : Int} (h0 : 0 ≤ k) (h : k < xs.length) : W (xs.take (k + 1).toNat) = step (W (xs.take k.toNat)) (xs.getD k.toNat 0) := by rw [takeI_succ 0 h0 h, W_snoc]
theorem all_next {xs : List Int} {k : Int} (h0 : 0 ≤ k) (h : k < xs.length) (ha : (xs.take k.toNat).all inR = true) (h1 : 0 ≤ xs.getD k.toNat 0) (h2 : xs.getD k.toNat 0 < 65536) : (xs.take (k + 1).toNat).all inR = true := by
  rw [all_takeI 0 h0 h, ha]; simp only [inR]; grind
theorem W_nil : W [] = (0, 0, []) := rfl
theorem e_ext (x : List Int × Unit) (hp : x.1.length * 8 ≤ 140737488355328) (_ : LensL cExt.as x) : E_ext x := by
  obtain ⟨xs, u⟩ := x
  dsimp only at hp
  unfold E_ext
  simp only [decide_eq_true_eq, decide_eq_false_iff_not, Bool.not_false, Bool.not_true, beq_iff_eq, beq_eq_false_iff_ne, bne_iff_ne, ne_eq, bne_eq_false_iff_eq, holds_iff, true_and, and_true, and_self, eq_self, List.length_cons, List.length_nil, List.length_append, List.length_set, List.length_replicate, List.set_cons_zero, cond_true, cond_false, Bool.false_eq_true, Bool.true_eq_false, forall_const, false_imp_iff, imp_self, implies_true, and_imp, Decidable.not_not]
  refine ⟨?_, ?_⟩
  · simp [W_nil]
  rintro ⟨out, at', k, _⟩ hl h0 h1 h2 h3 h4 h5
  dsimp only at *
  refine ⟨fun hk => ?_, fun hk => ?_⟩
  · have key := W_next h0 hk
    have hall := all_next h0 hk h2
    have hbad := ext_bad h0 hk
    have hz : k = 0 → at' / 65536 = 0 ∧ at' % 65536 = 0 := fun e => by
      rw [takeI_zero (by omega), W_nil] at h3
      simp only [Prod.mk.injEq] at h3
      omega
    rw [h3] at key
    simp only [step] at key
    generalize xs.getD k.toNat 0 = r at *
    repeat' (first | apply And.intro | intro _)
    all_goals try omega
    all_goals try (rw [hbad (by omega)]; done)
    all_goals try exact hall (by omega) (by omega)
    all_goals rw [key]; split <;> simp only [Prod.mk.injEq, List.append_cancel_left_eq, List.cons.injEq, and_true] <;> omega
  · rw [takeI_all (by omega)] at h2 h3
    rw [ext_good h2, h3]; simp
theorem e_wext (x : List Int × Unit) (hp : x.1.length * 8 ≤ 140737488355328) (_ : LensL cExt.as x) : E_wext x := by
  obtain ⟨xs, u⟩ := x
  dsimp only at hp
  unfold E_wext
  simp only [decide_eq_true_eq, decide_eq_false_iff_not, Bool.not_false, Bool.not_true, beq_iff_eq, beq_eq_false_iff_ne, bne_iff_ne, ne_eq, bne_eq_false_iff_eq, holds_iff, true_and, and_true, and_self, eq_self, List.length_cons, List.length_nil, List.length_append, List.length_set, List.length_replicate, List.set_cons_zero, cond_true, cond_false, Bool.false_eq_true, Bool.true_eq_false, forall_const, false_imp_iff, imp_self, implies_true, and_imp, Decidable.not_not]
  refine ⟨?_, ?_⟩
  · simp [W_nil]
  rintro ⟨out, n, k, _⟩ hl h0 h1 h2 h3 h4 h5 h6
  dsimp only at *
  refine ⟨fun hk => ?_, fun hk => ?_⟩
  · have key := W_next h0 hk
    have hall := all_next h0 hk h2
    have hbad := ext_bad h0 hk
    have hl : (W (xs.take k.toNat)).2.1 = if k = 0 then 0 else xs.getD (k - 1).toNat 0 := by
      by_cases e : k = 0
      · rw [takeI_zero (by omega), W_nil, if_pos e]
      · have := W_next (xs := xs) (k := k - 1) (by omega) (by omega)
        rw [show k - 1 + 1 = k by omega] at this
        rw [this, if_neg e]; rfl
    simp only [step] at key
    rw [h3, h4, hl] at key
    generalize xs.getD k.toNat 0 = r at *
    generalize xs.getD (k - 1).toNat 0 = q at *
    repeat' (first | apply And.intro | intro _)
    all_goals try omega
    all_goals try (rw [hbad (by omega)]; done)
    all_goals try exact hall (by omega) (by omega)
    all_goals (clear hall hbad h2 hp; grind)
  · rw [takeI_all (by omega)] at h2 h3 h4
    rw [ext_good h2, h4]; simp
theorem e_wrong (x : (Int × Int) × Unit) (_ : cWrong.pre x) (_ : LensL cWrong.as x) : E_wrong x := by
  unfold E_wrong; simp only [decide_eq_true_eq, decide_eq_false_iff_not, Bool.not_false, Bool.not_true, beq_iff_eq, beq_eq_false_iff_ne, bne_iff_ne, ne_eq, bne_eq_false_iff_eq, holds_iff, true_and, and_true, and_self, eq_self, List.length_cons, List.length_nil, List.length_append, List.length_set, List.length_replicate, List.set_cons_zero, cond_true, cond_false, Bool.false_eq_true, Bool.true_eq_false, forall_const, false_imp_iff, imp_self, implies_true, and_imp, Decidable.not_not]; grind [wrong]
theorem e_wwrong (x : (Int × Int) × Unit) (_ : cWrong.pre x) (_ : LensL cWrong.as x) : E_wwrong x := by
  unfold E_wwrong; simp only [decide_eq_true_eq, decide_eq_false_iff_not, Bool.not_false, Bool.not_true, beq_iff_eq, beq_eq_false_iff_ne, bne_iff_ne, ne_eq, bne_eq_false_iff_eq, holds_iff, true_and, and_true, and_self, eq_self, List.length_cons, List.length_nil, List.length_append, List.length_set, List.length_replicate, List.set_cons_zero, cond_true, cond_false, Bool.false_eq_true, Bool.true_eq_false, forall_const, false_imp_iff, imp_self, implies_true, and_imp, Decidable.not_not]; grind [wrong]
theorem e_law (x : (Int × Int) × List Int × Unit) (h : cLaw.pre x) (_ : LensL cLaw.as x) : E_law x := by
  have h : x.2.1.length * 8 ≤ 140737488355328 := h
  unfold E_law; simp only [decide_eq_true_eq, decide_eq_false_iff_not, Bool.not_false, Bool.not_true, beq_iff_eq, beq_eq_false_iff_ne, bne_iff_ne, ne_eq, bne_eq_false_iff_eq, holds_iff, true_and, and_true, and_self, eq_self, List.length_cons, List.length_nil, List.length_append, List.length_set, List.length_replicate, List.set_cons_zero, cond_true, cond_false, Bool.false_eq_true, Bool.true_eq_false, forall_const, false_imp_iff, imp_self, implies_true, and_imp, Decidable.not_not]; grind
theorem pre_law (x : HL cLaw.as) (_ : GoodL cLaw.as x) (h : FitL cLaw.as x) : x.2.1.length * 8 ≤ 140737488355328 := by
  have h : x.2.1.length * 8 ≤ 140737488351232 := h.2.1.1
  omega

end Go.Proofs.Ytollphjlheabdaa.Clk
