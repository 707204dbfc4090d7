/-
 The conditions, proved.
-/
import Derived.Test.YtlnlichdidobpaaGreatDoorUartE
namespace Go.Proofs.YtlnlichdidobpaaGreatDoor.Uart
open Go.Sx
set_option maxRecDepth 100000
set_option maxHeartbeats 1000000
set_option linter.unusedSimpArgs false
set_option linter.unusedVariables false

theorem rb (x : List Int × Unit) (hp : bc.pre x) (_ : aD bc.as x) : gr x := by
 obtain ⟨xs, u⟩ := x
 have hp : xs.length ≤ 140737488355328 := hp
 unfold gr
 intro b hb
 refine ⟨fun h => (hb h).symm, fun h => ?_⟩
 simp only [List.length_nil, List.nil_append, and_true]
 omega
theorem iW (x : UT × Unit) (_ : aJ.pre x) (_ : aD aJ.as x) : cy x := by
 obtain ⟨⟨i, o, l, b⟩, u⟩ := x
 unfold cy
 delta bJ jE nS ay bj jG oi lO
 simp only [Bool.not_eq_true', Bool.not_eq_false', Bool.not_eq_true, Bool.not_eq_false, beq_self_eq_true, decide_eq_true_eq, decide_eq_false_iff_not, Bool.not_false, Bool.not_true, beq_iff_eq, beq_eq_false_iff_ne, bne_iff_ne, ne_eq, bne_eq_false_iff_eq, aE, true_and, and_true, and_self, eq_self, List.length_cons, List.length_nil, List.length_append, List.length_set, List.length_replicate, List.set_cons_zero, cond_true, cond_false, Bool.false_eq_true, Bool.true_eq_false, forall_const, false_imp_iff, imp_self, implies_true, and_imp, Decidable.not_not, Bool.and_eq_true, Bool.or_eq_true, Bool.and_eq_false_iff, Bool.or_eq_false_iff, ← List.length_eq_zero_iff, or_self, or_false, false_or, Prod.forall, Int.reduceEq, Int.reduceLT, Int.reduceLE, List.nil_append, Nat.zero_add, Int.toNat_zero, List.drop_zero, List.length_drop, List.length_take, not_true_eq_false, not_false_eq_true]
 try simp only [eP, eH, decide_eq_true_eq, decide_eq_false_iff_not]
 cases b <;> ((try rw [Bool.eq_iff_iff]); (try simp only [right, eq_self, o7, oU, zD, yb, oA, Bool.and_eq_true, Bool.or_eq_true, Bool.and_eq_false_iff, Bool.or_eq_false_iff, Bool.not_eq_true', Bool.not_eq_false', Bool.not_eq_true, Bool.not_eq_false, decide_eq_true_eq, decide_eq_false_iff_not, beq_iff_eq, beq_eq_false_iff_ne, bne_iff_ne, ne_eq, bne_eq_false_iff_eq, Decidable.not_not, Bool.false_eq_true, Bool.true_eq_false]); (try simp only [eP, eH]); (try simp only [eq_self, o7, oU, zD, yb, oA, Bool.and_eq_true, Bool.or_eq_true, Bool.and_eq_false_iff, Bool.or_eq_false_iff, Bool.not_eq_true', Bool.not_eq_false', Bool.not_eq_true, Bool.not_eq_false, decide_eq_true_eq, decide_eq_false_iff_not, beq_iff_eq, beq_eq_false_iff_ne, bne_iff_ne, ne_eq, bne_eq_false_iff_eq, Decidable.not_not, Bool.false_eq_true, Bool.true_eq_false]); (try first | omega | grind))
theorem vn (x : UT × (Int × Int) × Unit) (_ : bg.pre x) (_ : aD bg.as x) : jK x := by
 obtain ⟨⟨i, o, l, b⟩, ⟨k, c⟩, u⟩ := x
 unfold jK
 delta af b6
 simp only [Bool.not_eq_true', Bool.not_eq_false', Bool.not_eq_true, Bool.not_eq_false, beq_self_eq_true, decide_eq_true_eq, decide_eq_false_iff_not, Bool.not_false, Bool.not_true, beq_iff_eq, beq_eq_false_iff_ne, bne_iff_ne, ne_eq, bne_eq_false_iff_eq, aE, true_and, and_true, and_self, eq_self, List.length_cons, List.length_nil, List.length_append, List.length_set, List.length_replicate, List.set_cons_zero, cond_true, cond_false, Bool.false_eq_true, Bool.true_eq_false, forall_const, false_imp_iff, imp_self, implies_true, and_imp, Decidable.not_not, Bool.and_eq_true, Bool.or_eq_true, Bool.and_eq_false_iff, Bool.or_eq_false_iff, ← List.length_eq_zero_iff, or_self, or_false, false_or, Prod.forall, Int.reduceEq, Int.reduceLT, Int.reduceLE, List.nil_append, Nat.zero_add, Int.toNat_zero, List.drop_zero, List.length_drop, List.length_take, not_true_eq_false, not_false_eq_true]
 try simp only [eP, eH, decide_eq_true_eq, decide_eq_false_iff_not]
 refine ⟨fun h => ?_, fun h => ?_⟩
 ·simp [step, h, bad]
 ·have hr := h
  simp only [right] at hr
  simp only [Bool.and_eq_true, decide_eq_true_eq] at hr
  repeat' (first | with_reducible apply And.intro | with_reducible intro _)
  all_goals first | (first | omega | (((try simp only [h, fin, bad,  if_true, if_false]); repeat' split) <;> first | omega | (simp_all [h, fin, bad]; done) | (simp_all [h, fin, bad]; omega) | (simp_all [h, fin, bad]; (try rw [Bool.eq_iff_iff]); grind))) | (first | omega | (((try simp only [step, h, fin, bad,  if_true, if_false]); repeat' split) <;> first | omega | (simp_all [step, h, fin, bad]; done) | (simp_all [step, h, fin, bad]; omega) | (simp_all [step, h, fin, bad]; (try rw [Bool.eq_iff_iff]); grind)))

end Go.Proofs.YtlnlichdidobpaaGreatDoor.Uart
