/-
  Names: the condition holds.
-/
import Derived.Test.YtollphjlheabdaaNamE
namespace Go.Proofs.Ytollphjlheabdaa.Nam
open Go.Sx
set_option maxRecDepth 100000
set_option maxHeartbeats 1000000
set_option linter.unusedSimpArgs false
set_option linter.unusedVariables false

theorem errs_at (k : Int) (h0 : 0 ≤ k) (h1 : k < 9) : errs.getD k.toNat 0 = k := by
  have h : k = 0 ∨ k = 1 ∨ k = 2 ∨ k = 3 ∨ k = 4 ∨ k = 5 ∨ k = 6 ∨ k = 7 ∨ k = 8 := by omega
  rcases h with h | h | h | h | h | h | h | h | h <;> subst h <;> rfl
theorem errs_len : errs.length = 9 := rfl
theorem want_len : want.length = 94 := rfl
theorem e_names (x : Unit) (_ : True) (_ : LensL cLaw.as x) : E_names x := by
  unfold E_names
  repeat' apply And.intro
  all_goals first
    | rfl
    | trivial
    | decide
    | skip
  rintro ⟨l, n, k, _⟩ ⟨h1, h2, h3, h4⟩ _
  dsimp only at *
  subst h1 h2
  refine ⟨fun h => ?_, fun h => ?_⟩
  · have hk : k < 9 := by simpa using h
    have := errs_at k h3 hk
    rw [this]
    simp only [Bool.not_eq_true', Bool.not_eq_false', Bool.not_eq_true, Bool.not_eq_false, beq_self_eq_true, decide_eq_true_eq, decide_eq_false_iff_not, Bool.not_false, Bool.not_true, beq_iff_eq, beq_eq_false_iff_ne, bne_iff_ne, ne_eq, bne_eq_false_iff_eq, holds_iff, true_and, and_true, and_self, eq_self, List.length_cons, List.length_nil, List.length_append, List.length_set, List.length_replicate, List.set_cons_zero, cond_true, cond_false, Bool.false_eq_true, Bool.true_eq_false, forall_const, false_imp_iff, imp_self, implies_true, and_imp, Decidable.not_not, Bool.and_eq_true, Bool.or_eq_true, Bool.and_eq_false_iff, Bool.or_eq_false_iff, ← List.length_eq_zero_iff, Prod.forall, not_true_eq_false, not_false_eq_true]
    have := errs_len
    repeat' (first | apply And.intro | intro _)
    all_goals first | rfl | omega | skip
  · clear h
    repeat' apply And.intro
    all_goals first
      | rfl
      | trivial
      | decide
      | skip
    rintro ⟨l, m, n, k, _⟩ ⟨h1, h2, h3, h4, h5⟩ _
    dsimp only at *
    subst h1 h2 h3
    have := want_len
    simp only [Bool.not_eq_true', Bool.not_eq_false', Bool.not_eq_true, Bool.not_eq_false, beq_self_eq_true, decide_eq_true_eq, decide_eq_false_iff_not, Bool.not_false, Bool.not_true, beq_iff_eq, beq_eq_false_iff_ne, bne_iff_ne, ne_eq, bne_eq_false_iff_eq, holds_iff, true_and, and_true, and_self, eq_self, List.length_cons, List.length_nil, List.length_append, List.length_set, List.length_replicate, List.set_cons_zero, cond_true, cond_false, Bool.false_eq_true, Bool.true_eq_false, forall_const, false_imp_iff, imp_self, implies_true, and_imp, Decidable.not_not, Bool.and_eq_true, Bool.or_eq_true, Bool.and_eq_false_iff, Bool.or_eq_false_iff, ← List.length_eq_zero_iff, Prod.forall, not_true_eq_false, not_false_eq_true]
    repeat' (first | apply And.intro | intro _)
    all_goals first | rfl | omega | skip
theorem pre_names (x : HL cLaw.as) (_ : GoodL cLaw.as x) (h : FitL cLaw.as x) : True := trivial

end Go.Proofs.Ytollphjlheabdaa.Nam
