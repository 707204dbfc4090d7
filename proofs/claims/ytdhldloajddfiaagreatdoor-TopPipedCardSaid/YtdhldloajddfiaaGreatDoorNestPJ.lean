/-
 The conditions, proved.
-/
import Derived.Test.YtdhldloajddfiaaGreatDoorNestE
namespace Go.Proofs.YtdhldloajddfiaaGreatDoor.Nest
open Go.Sx
set_option maxRecDepth 100000
set_option maxHeartbeats 1000000
set_option linter.unusedSimpArgs false
set_option linter.unusedVariables false

theorem e_clone (x : List FR × Unit) (hp : cClone.pre x) (_ : LensL cClone.as x) : E_clone x := by
 obtain ⟨xs, u⟩ := x
 have hp : xs.length * 2 ≤ 140737488355328 := hp
 unfold E_clone
 intro b hb
 refine ⟨fun h => (hb h).symm, fun h => ?_⟩
 simp only [List.length_nil, List.nil_append, and_true]
 omega
theorem okF_next {l : List FR} {k : Int} (h : okF l k) (h0 : 0 ≤ k) : okF l (k + 1) ↔ (((fr l k).2 = true → (fr l k).1 = true) ∧ (0 < k → (fr l k).1 = false)) := by
 constructor
 ·intro h'; exact h' k h0 (by omega)
 ·intro h' i hi hk
  by_cases e : i = k
  ·subst e; exact h'
  ·exact h i hi (by omega)
theorem okF_le {l : List FR} {k m : Int} (h : okF l m) (hk : k ≤ m) : okF l k := fun i h0 h1 => h i h0 (by omega)
theorem not_Right {on : Bool} {l : List FR} {k : Int} (h0 : 0 ≤ k) (hk : k < l.length) (h : ¬(((fr l k).2 = true → (fr l k).1 = true) ∧ (0 < k → (fr l k).1 = false))) : ¬ Right (on, l) :=
 fun hr => h (hr.2.2 k h0 hk)
theorem okF_nil {l : List FR} : okF l 0 := fun i h0 h1 => by omega
theorem not_Right_long {on : Bool} {l : List FR} (h : (400 : Int) < l.length) : ¬ Right (on, l) := fun hr => by have := hr.1; dsimp only at this; omega
theorem not_Right_on {l : List FR} (h : l.length ≠ 0) : ¬ Right (true, l) := fun hr => h (hr.2.1 rfl)
theorem Right_iff {on : Bool} {l : List FR} {k : Int} (h : okF l k) (hk : (l.length : Int) ≤ k) (h1 : ¬ (400 : Int) < l.length) : Right (on, l) ↔ (on = true → l.length = 0) :=
 ⟨fun hr => hr.2.1, fun h2 => ⟨by dsimp only; omega, h2, okF_le h hk⟩⟩
theorem right_len {on : Bool} {l : List FR} (h : right (on, l) = true) : l.length ≤ 400 := by
 simp only [right, decide_eq_true_eq] at h; exact h.1
theorem e_right (x : CO × Unit) (_ : True) (_ : LensL cRight.as x) : E_right x := by
 obtain ⟨⟨on, l⟩, u⟩ := x
 unfold E_right
 delta qright_1 qright_2
 simp only [right]
 simp only [Bool.not_eq_true', Bool.not_eq_false', Bool.not_eq_true, Bool.not_eq_false, beq_self_eq_true, decide_eq_true_eq, decide_eq_false_iff_not, Bool.not_false, Bool.not_true, beq_iff_eq, beq_eq_false_iff_ne, bne_iff_ne, ne_eq, bne_eq_false_iff_eq, holds_iff, true_and, and_true, and_self, eq_self, List.length_cons, List.length_nil, List.length_append, List.length_set, List.length_replicate, List.set_cons_zero, cond_true, cond_false, Bool.false_eq_true, Bool.true_eq_false, forall_const, false_imp_iff, imp_self, implies_true, and_imp, Decidable.not_not, Bool.and_eq_true, Bool.or_eq_true, Bool.and_eq_false_iff, Bool.or_eq_false_iff, ← List.length_eq_zero_iff, or_self, or_false, false_or, Prod.forall, Int.reduceEq, Int.reduceLT, Int.reduceLE, List.nil_append, Nat.zero_add, Int.toNat_zero, List.drop_zero, List.length_drop, List.length_take, not_true_eq_false, not_false_eq_true]
 try simp only [flip_f, flip_t, decide_eq_true_eq, decide_eq_false_iff_not]
 repeat' (first | with_reducible apply And.intro | with_reducible intro _)
 all_goals try omega
 all_goals grind [fr, okF_next, not_Right, Right_iff, okF_nil, not_Right_long]
theorem e_step (x : CO × Int × Unit) (_ : True) (_ : LensL cStep.as x) : E_step x := by
 obtain ⟨⟨on, l⟩, k, u⟩ := x
 unfold E_step
 delta qstep_t1 qstep_1 qstep_2 qstep_4 qstep_5 qstep_6 qstep_7 qstep_3
 simp only [Bool.not_eq_true', Bool.not_eq_false', Bool.not_eq_true, Bool.not_eq_false, beq_self_eq_true, decide_eq_true_eq, decide_eq_false_iff_not, Bool.not_false, Bool.not_true, beq_iff_eq, beq_eq_false_iff_ne, bne_iff_ne, ne_eq, bne_eq_false_iff_eq, holds_iff, true_and, and_true, and_self, eq_self, List.length_cons, List.length_nil, List.length_append, List.length_set, List.length_replicate, List.set_cons_zero, cond_true, cond_false, Bool.false_eq_true, Bool.true_eq_false, forall_const, false_imp_iff, imp_self, implies_true, and_imp, Decidable.not_not, Bool.and_eq_true, Bool.or_eq_true, Bool.and_eq_false_iff, Bool.or_eq_false_iff, ← List.length_eq_zero_iff, or_self, or_false, false_or, Prod.forall, Int.reduceEq, Int.reduceLT, Int.reduceLE, List.nil_append, Nat.zero_add, Int.toNat_zero, List.drop_zero, List.length_drop, List.length_take, not_true_eq_false, not_false_eq_true]
 try simp only [flip_f, flip_t, decide_eq_true_eq, decide_eq_false_iff_not]
 refine ⟨fun h => ?_, fun h => ?_⟩
 ·simp [step, h, bad]
 have hl := right_len h
 repeat' (first | with_reducible apply And.intro | with_reducible intro _)
 all_goals try omega
 all_goals (first | omega | (((try simp only [step, h, bad, fr,  if_true, if_false]); repeat' split) <;> first | omega | (simp_all [step, h, bad, fr]; done) | (simp_all [step, h, bad, fr]; omega) | (simp_all [step, h, bad, fr]; (try rw [Bool.eq_iff_iff]); grind)))
theorem pl_nil : pl [] = ((true, []), []) := rfl
theorem pl_next {xs : List Int} {k : Int} (h0 : 0 ≤ k) (h : k < xs.length) : pl (xs.take (k + 1).toNat) = one (pl (xs.take k.toNat)) (xs.getD k.toNat 0) := foldl_takeI 0 h0 h

end Go.Proofs.YtdhldloajddfiaaGreatDoor.Nest
