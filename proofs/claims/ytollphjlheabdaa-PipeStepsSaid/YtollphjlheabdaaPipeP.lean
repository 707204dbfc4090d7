/-
  PipeSteps: the conditions hold.
-/
import Derived.Test.YtollphjlheabdaaPipePipepP
namespace Go.Proofs.Ytollphjlheabdaa.Pipe
open Go.Sx
set_option maxRecDepth 100000
set_option maxHeartbeats 1000000
set_option linter.unusedSimpArgs false
set_option linter.unusedVariables false

theorem e_steps (x : (List Int × Int × Int) × (Int × Int × List Int) × Unit) (hp : x.2.1.2.2.length ≤ 140737488355328) (_ : LensL cLaw.as x) : E_steps x := by
  unfold E_steps
  simp only [Bool.not_eq_true', Bool.not_eq_false', Bool.not_eq_true, Bool.not_eq_false, beq_self_eq_true, decide_eq_true_eq, decide_eq_false_iff_not, Bool.not_false, Bool.not_true, beq_iff_eq, beq_eq_false_iff_ne, bne_iff_ne, ne_eq, bne_eq_false_iff_eq, holds_iff, true_and, and_true, and_self, eq_self, List.length_cons, List.length_nil, List.length_append, List.length_set, List.length_replicate, List.set_cons_zero, cond_true, cond_false, Bool.false_eq_true, Bool.true_eq_false, forall_const, false_imp_iff, imp_self, implies_true, and_imp, Decidable.not_not, Bool.and_eq_true, Bool.or_eq_true, Bool.and_eq_false_iff, Bool.or_eq_false_iff, ← List.length_eq_zero_iff, or_self, or_false, false_or, Prod.forall, Int.reduceEq, Int.reduceLT, Int.reduceLE, List.nil_append, Nat.zero_add, Int.toNat_zero, List.drop_zero, List.length_drop, List.length_take, not_true_eq_false, not_false_eq_true,  deq_iff, deq_false, pair_eta, same_self]
  first | exact hp | exact ⟨hp, hp⟩ | (trace_state; done)
theorem pre_steps (x : HL cLaw.as) (_ : GoodL cLaw.as x) (h : FitL cLaw.as x) : x.2.1.2.2.length ≤ 140737488355328 := by
  have h2 : x.2.1.2.2.length * 1 ≤ 140737488351232 := h.2.1.2.2.1
  omega

end Go.Proofs.Ytollphjlheabdaa.Pipe
