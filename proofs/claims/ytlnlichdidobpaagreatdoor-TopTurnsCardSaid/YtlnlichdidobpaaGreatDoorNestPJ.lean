/-
 The conditions, proved.
-/
import Derived.Test.YtlnlichdidobpaaGreatDoorNestE
namespace Go.Proofs.YtlnlichdidobpaaGreatDoor.Nest
open Go.Sx
set_option maxRecDepth 100000
set_option maxHeartbeats 1000000
set_option linter.unusedSimpArgs false
set_option linter.unusedVariables false

theorem rb (x : List FR × Unit) (hp : bc.pre x) (_ : aD bc.as x) : gr x := by
 obtain ⟨xs, u⟩ := x
 have hp : xs.length * 2 ≤ 140737488355328 := hp
 unfold gr
 intro b hb
 refine ⟨fun h => (hb h).symm, fun h => ?_⟩
 simp only [List.length_nil, List.nil_append, and_true]
 omega
theorem I3 {l : List FR} {k : Int} (h : okF l k) (h0 : 0 ≤ k) : okF l (k + 1) ↔ (((fr l k).2 = true → (fr l k).1 = true) ∧ (0 < k → (fr l k).1 = false)) := by
 constructor
 ·intro h'; exact h' k h0 (by omega)
 ·intro h' i hi hk
  by_cases e : i = k
  ·subst e; exact h'
  ·exact h i hi (by omega)
theorem Rr {l : List FR} {k m : Int} (h : okF l m) (hk : k ≤ m) : okF l k := fun i h0 h1 => h i h0 (by omega)
theorem FT {on : Bool} {l : List FR} {k : Int} (h0 : 0 ≤ k) (hk : k < l.length) (h : ¬(((fr l k).2 = true → (fr l k).1 = true) ∧ (0 < k → (fr l k).1 = false))) : ¬ DP (on, l) :=
 fun hr => h (hr.2.2 k h0 hk)
theorem ME {l : List FR} : okF l 0 := fun i h0 h1 => by omega
theorem vI {on : Bool} {l : List FR} (h : (400 : Int) < l.length) : ¬ DP (on, l) := fun hr => by have := hr.1; dsimp only at this; omega
theorem F8 {on : Bool} {l : List FR} {k : Int} (h : okF l k) (hk : (l.length : Int) ≤ k) (h1 : ¬ (400 : Int) < l.length) : DP (on, l) ↔ (on = true → l.length = 0) :=
 ⟨fun hr => hr.2.1, fun h2 => ⟨by dsimp only; omega, h2, Rr h hk⟩⟩
theorem ow {on : Bool} {l : List FR} (h : right (on, l) = true) : l.length ≤ 400 := by
 simp only [right, decide_eq_true_eq] at h; exact h.1
theorem iW (x : CO × Unit) (_ : True) (_ : aD aJ.as x) : cy x := by
 obtain ⟨⟨on, l⟩, u⟩ := x
 unfold cy
 delta ay bj
 simp only [right]
 simp only [Bool.not_eq_true', Bool.not_eq_false', Bool.not_eq_true, Bool.not_eq_false, beq_self_eq_true, decide_eq_true_eq, decide_eq_false_iff_not, Bool.not_false, Bool.not_true, beq_iff_eq, beq_eq_false_iff_ne, bne_iff_ne, ne_eq, bne_eq_false_iff_eq, aE, true_and, and_true, and_self, eq_self, List.length_cons, List.length_nil, List.length_append, List.length_set, List.length_replicate, List.set_cons_zero, cond_true, cond_false, Bool.false_eq_true, Bool.true_eq_false, forall_const, false_imp_iff, imp_self, implies_true, and_imp, Decidable.not_not, Bool.and_eq_true, Bool.or_eq_true, Bool.and_eq_false_iff, Bool.or_eq_false_iff, ← List.length_eq_zero_iff, or_self, or_false, false_or, Prod.forall, Int.reduceEq, Int.reduceLT, Int.reduceLE, List.nil_append, Nat.zero_add, Int.toNat_zero, List.drop_zero, List.length_drop, List.length_take, not_true_eq_false, not_false_eq_true]
 try simp only [eP, eH, decide_eq_true_eq, decide_eq_false_iff_not]
 repeat' (first | with_reducible apply And.intro | with_reducible intro _)
 all_goals try omega
 all_goals grind [fr, I3, FT, F8, ME, vI]
theorem vn (x : CO × Int × Unit) (_ : True) (_ : aD bg.as x) : jK x := by
 obtain ⟨⟨on, l⟩, k, u⟩ := x
 unfold jK
 delta aU af b6 iY gh gy fy fa
 simp only [Bool.not_eq_true', Bool.not_eq_false', Bool.not_eq_true, Bool.not_eq_false, beq_self_eq_true, decide_eq_true_eq, decide_eq_false_iff_not, Bool.not_false, Bool.not_true, beq_iff_eq, beq_eq_false_iff_ne, bne_iff_ne, ne_eq, bne_eq_false_iff_eq, aE, true_and, and_true, and_self, eq_self, List.length_cons, List.length_nil, List.length_append, List.length_set, List.length_replicate, List.set_cons_zero, cond_true, cond_false, Bool.false_eq_true, Bool.true_eq_false, forall_const, false_imp_iff, imp_self, implies_true, and_imp, Decidable.not_not, Bool.and_eq_true, Bool.or_eq_true, Bool.and_eq_false_iff, Bool.or_eq_false_iff, ← List.length_eq_zero_iff, or_self, or_false, false_or, Prod.forall, Int.reduceEq, Int.reduceLT, Int.reduceLE, List.nil_append, Nat.zero_add, Int.toNat_zero, List.drop_zero, List.length_drop, List.length_take, not_true_eq_false, not_false_eq_true]
 try simp only [eP, eH, decide_eq_true_eq, decide_eq_false_iff_not]
 refine ⟨fun h => ?_, fun h => ?_⟩
 ·simp [step, h, bad]
 have hl := ow h
 repeat' (first | with_reducible apply And.intro | with_reducible intro _)
 all_goals try omega
 all_goals (first | omega | (((try simp only [step, h, bad, fr,  if_true, if_false]); repeat' split) <;> first | omega | (simp_all [step, h, bad, fr]; done) | (simp_all [step, h, bad, fr]; omega) | (simp_all [step, h, bad, fr]; (try rw [Bool.eq_iff_iff]); grind)))
end Go.Proofs.YtlnlichdidobpaaGreatDoor.Nest
