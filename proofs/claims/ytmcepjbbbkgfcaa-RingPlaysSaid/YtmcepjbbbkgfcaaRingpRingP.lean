/-
  RingSteps: the conditions hold.
-/
import Derived.Test.YtmcepjbbbkgfcaaRingpE
namespace Go.Proofs.Ytmcepjbbbkgfcaa.Ringp
open Go.Sx
set_option maxRecDepth 100000
set_option maxHeartbeats 1000000
set_option linter.unusedSimpArgs false
set_option linter.unusedVariables false

theorem emod_two {x n : Int} (h0 : 0 ≤ x) (h1 : x < 2 * n) : x % n = if x < n then x else x - n := by
  split
  · exact Int.emod_eq_of_lt h0 ‹_›
  · rw [← Int.sub_emod_right x n]
    exact Int.emod_eq_of_lt (by omega) (by omega)
theorem nR1 {r : RI} (h : ¬ inB r) : ¬ Right r := fun hr => h hr.1
theorem nR2 {l : List CE} {g t w : Int} (h : ah l.length t g < ah l.length t w) : ¬ Right (l, g, t, w) := fun hr => by
  have := hr.2.1
  dsimp only at this
  omega
theorem nR3 {r : RI} {k : Int} (h0 : 0 ≤ k) (h1 : k < r.1.length) (h : ¬ okC r k) : ¬ Right r := fun hr => h (hr.2.2 k h0 h1)
theorem okC_iff {l : List CE} {g t w k : Int} : okC (l, g, t, w) k ↔ (((l.getD k.toNat (false, 0)).1 = true ↔ (ah l.length t w ≤ ah l.length t k ∧ ah l.length t k < ah l.length t g)) ∧ (ah l.length t g ≤ ah l.length t k → (l.getD k.toNat (false, 0)).2 = 0)) := Iff.rfl
theorem okC_step {r : RI} {k i : Int} (h : ∀ i, 0 ≤ i → i < k → okC r i) (hk : okC r k) (h0 : 0 ≤ i) (h1 : i < k + 1) : okC r i := by
  by_cases e : i = k
  · subst e; exact hk
  · exact h i h0 (by omega)
theorem Right_of {l : List CE} {g t w k : Int} (hi : inB (l, g, t, w)) (h2 : ah l.length t w ≤ ah l.length t g) (hall : ∀ i, 0 ≤ i → i < k → okC (l, g, t, w) i) (hk : (l.length : Int) ≤ k) : Right (l, g, t, w) :=
  ⟨hi, h2, fun i h0 h1 => hall i h0 (by dsimp only at h1; omega)⟩
theorem pl_def {l : List CE} {g t w j : Int} : pl (l, g, t, w) j = if t + j < l.length then t + j else t + j - l.length := rfl
theorem parts_bad {r : RI} (h : ¬ Right r) : parts r = (0, 0, false, ()) := by simp [parts, right, h]
theorem parts_good {l : List CE} {g t w : Int} (h : Right (l, g, t, w)) : parts (l, g, t, w) = (ah l.length t w, ah l.length t g - ah l.length t w, true, ()) := by simp [parts, right, h]
theorem devs_nil {r : RI} {a b : Int} {v : Bool} (h : b ≤ a) : devs r a b v := fun j h0 h1 => by omega
theorem devs_step {r : RI} {a b : Int} {v : Bool} (h : devs r a b v) (hb : (ce r.1 (pl r b)).1 = v) : devs r a (b + 1) v := fun j h0 h1 => by
  by_cases e : j = b
  · subst e; exact hb
  · exact h j h0 (by omega)
theorem free_nil {r : RI} {a b : Int} (h : b ≤ a) : free r a b := fun j h0 h1 => by omega
theorem free_step {r : RI} {a b : Int} (h : free r a b) (hb : ce r.1 (pl r b) = (false, 0)) : free r a (b + 1) := fun j h0 h1 => by
  by_cases e : j = b
  · subst e; exact hb
  · exact h j h0 (by omega)
theorem ah_pl {l : List CE} {g t w j : Int} (h0 : 0 ≤ j) (h1 : j < l.length) (ht : 0 ≤ t) (ht' : t < l.length) : ah l.length t (pl (l, g, t, w) j) = j := by
  simp only [pl_def, ah]; omega
theorem pl_ah {l : List CE} {g t w k : Int} (h0 : 0 ≤ k) (h1 : k < l.length) (ht : 0 ≤ t) (ht' : t < l.length) : pl (l, g, t, w) (ah l.length t k) = k := by
  simp only [pl_def, ah]; omega
theorem pl_b {l : List CE} {g t w j : Int} (h0 : 0 ≤ j) (h1 : j < l.length) (ht : 0 ≤ t) (ht' : t < l.length) : 0 ≤ pl (l, g, t, w) j ∧ pl (l, g, t, w) j < l.length := by
  simp only [pl_def]; omega
theorem ah_b {n t k : Int} (h0 : 0 ≤ k) (h1 : k < n) (ht : 0 ≤ t) (ht' : t < n) : 0 ≤ ah n t k ∧ ah n t k < n := by
  simp only [ah]; omega
theorem pl_mod {l : List CE} {g t w j : Int} (h0 : 0 ≤ j) (h1 : j < l.length) (ht : 0 ≤ t) (ht' : t < l.length) : (pl (l, g, t, w) j + 1) % (l.length : Int) = pl (l, g, t, w) (if j + 1 < l.length then j + 1 else 0) := by
  have hb := pl_b (g := g) (w := w) h0 h1 ht ht'
  rw [emod_two (by omega) (by omega)]
  simp only [pl_def] at *
  omega
/-- A cell that is not as it should be. -/
theorem nR_at {l : List CE} {g t w j : Int} (hr : Right (l, g, t, w)) (h0 : 0 ≤ j) (h1 : j < l.length) (ht : 0 ≤ t) (ht' : t < l.length) :
    ((ce l (pl (l, g, t, w) j)).1 = true ↔ (ah l.length t w ≤ j ∧ j < ah l.length t g)) ∧ (ah l.length t g ≤ j → (ce l (pl (l, g, t, w) j)).2 = 0) := by
  have hb := pl_b (g := g) (w := w) h0 h1 ht ht'
  have := hr.2.2 (pl (l, g, t, w) j) hb.1 hb.2
  simp only [okC, ah_pl h0 h1 ht ht'] at this
  exact this
theorem Right_all {l : List CE} {g t w : Int} (hi : inB (l, g, t, w)) (h2 : ah l.length t w ≤ ah l.length t g) (h3 : devs (l, g, t, w) 0 (ah l.length t w) false)
    (h4 : devs (l, g, t, w) (ah l.length t w) (ah l.length t g) true) (h5 : free (l, g, t, w) (ah l.length t g) l.length) : Right (l, g, t, w) := by
  refine ⟨hi, h2, fun k h0 h1 => ?_⟩
  have hi' := hi
  simp only [inB] at hi'
  dsimp only at h1
  have hb := ah_b h0 h1 hi'.2.2.2.2.1 hi'.2.2.2.2.2.1
  have e := pl_ah (g := g) (w := w) h0 h1 hi'.2.2.2.2.1 hi'.2.2.2.2.2.1
  simp only [okC]
  by_cases c1 : ah l.length t k < ah l.length t w
  · have := h3 _ hb.1 c1
    rw [e] at this
    dsimp only at this
    rw [this]
    exact ⟨⟨fun q => (by cases q), fun q => by omega⟩, fun q => by omega⟩
  · by_cases c2 : ah l.length t k < ah l.length t g
    · have := h4 _ (by omega) c2
      rw [e] at this
      dsimp only at this
      rw [this]
      exact ⟨⟨fun _ => by omega, fun q => rfl⟩, fun q => by omega⟩
    · have := h5 _ (by omega) hb.2
      rw [e] at this
      dsimp only at this
      rw [this]
      exact ⟨⟨fun q => (by cases q), fun q => by omega⟩, fun q => rfl⟩
theorem e_clone (x : List CE × Unit) (hp : cClone.pre x) (_ : LensL cClone.as x) : E_clone x := by
  obtain ⟨xs, u⟩ := x
  have hp : xs.length * 16 ≤ 140737488355328 := hp
  unfold E_clone
  intro b hb
  refine ⟨fun h => (hb h).symm, fun h => ?_⟩
  simp only [List.length_nil, List.nil_append, and_true]
  omega
theorem e_ahead (x : RI × Int × Int × Unit) (hp : cAhead.pre x) (_ : LensL cAhead.as x) : E_ahead x := by
  obtain ⟨⟨l, g, t, w⟩, a, b, u⟩ := x
  obtain ⟨h1, h2, h3, h4, h5⟩ : 0 ≤ a ∧ a < l.length ∧ 0 ≤ b ∧ b < l.length ∧ (l.length : Int) ≤ 64 := hp
  unfold E_ahead
  simp only [Bool.not_eq_true', Bool.not_eq_false', Bool.not_eq_true, Bool.not_eq_false, beq_self_eq_true, decide_eq_true_eq, decide_eq_false_iff_not, Bool.not_false, Bool.not_true, beq_iff_eq, beq_eq_false_iff_ne, bne_iff_ne, ne_eq, bne_eq_false_iff_eq, holds_iff, true_and, and_true, and_self, eq_self, List.length_cons, List.length_nil, List.length_append, List.length_set, List.length_replicate, List.set_cons_zero, cond_true, cond_false, Bool.false_eq_true, Bool.true_eq_false, forall_const, false_imp_iff, imp_self, implies_true, and_imp, Decidable.not_not, Bool.and_eq_true, Bool.or_eq_true, Bool.and_eq_false_iff, Bool.or_eq_false_iff, ← List.length_eq_zero_iff, or_self, or_false, false_or, Prod.forall, Int.reduceEq, Int.reduceLT, Int.reduceLE, List.nil_append, Nat.zero_add, Int.toNat_zero, List.drop_zero, List.length_drop, List.length_take, not_true_eq_false, not_false_eq_true]
  try simp only [flip_f, flip_t, decide_eq_true_eq, decide_eq_false_iff_not]
  have := emod_two (x := b - a + l.length) (n := l.length) (by omega) (by omega)
  simp only [ah]
  repeat' (first | with_reducible apply And.intro | with_reducible intro _)
  all_goals try omega
theorem e_right (x : RI × Unit) (_ : True) (_ : LensL cRight.as x) : E_right x := by
  obtain ⟨⟨l, g, t, w⟩, u⟩ := x
  unfold E_right
  simp only [right]
  simp only [Bool.not_eq_true', Bool.not_eq_false', Bool.not_eq_true, Bool.not_eq_false, beq_self_eq_true, decide_eq_true_eq, decide_eq_false_iff_not, Bool.not_false, Bool.not_true, beq_iff_eq, beq_eq_false_iff_ne, bne_iff_ne, ne_eq, bne_eq_false_iff_eq, holds_iff, true_and, and_true, and_self, eq_self, List.length_cons, List.length_nil, List.length_append, List.length_set, List.length_replicate, List.set_cons_zero, cond_true, cond_false, Bool.false_eq_true, Bool.true_eq_false, forall_const, false_imp_iff, imp_self, implies_true, and_imp, Decidable.not_not, Bool.and_eq_true, Bool.or_eq_true, Bool.and_eq_false_iff, Bool.or_eq_false_iff, ← List.length_eq_zero_iff, or_self, or_false, false_or, Prod.forall, Int.reduceEq, Int.reduceLT, Int.reduceLE, List.nil_append, Nat.zero_add, Int.toNat_zero, List.drop_zero, List.length_drop, List.length_take, not_true_eq_false, not_false_eq_true]
  try simp only [flip_f, flip_t, decide_eq_true_eq, decide_eq_false_iff_not]
  repeat' (first | with_reducible apply And.intro | with_reducible intro _)
  all_goals first
    | omega
    | (refine nR1 ?_; simp only [inB]; omega)
    | exact nR2 (by assumption)
    | (refine nR3 (by assumption) (by assumption) ?_; simp only [okC_iff]; grind)
    | exact okC_step (by assumption) (by simp only [okC_iff]; grind) (by assumption) (by assumption)
    | exact Right_of (by simp only [inB]; omega) (by omega) (by assumption) (by omega)
theorem e_new (x : Int × Unit) (_ : True) (_ : LensL cNew.as x) : E_new x := by
  obtain ⟨n, u⟩ := x
  unfold E_new
  simp only [Bool.not_eq_true', Bool.not_eq_false', Bool.not_eq_true, Bool.not_eq_false, beq_self_eq_true, decide_eq_true_eq, decide_eq_false_iff_not, Bool.not_false, Bool.not_true, beq_iff_eq, beq_eq_false_iff_ne, bne_iff_ne, ne_eq, bne_eq_false_iff_eq, holds_iff, true_and, and_true, and_self, eq_self, List.length_cons, List.length_nil, List.length_append, List.length_set, List.length_replicate, List.set_cons_zero, cond_true, cond_false, Bool.false_eq_true, Bool.true_eq_false, forall_const, false_imp_iff, imp_self, implies_true, and_imp, Decidable.not_not, Bool.and_eq_true, Bool.or_eq_true, Bool.and_eq_false_iff, Bool.or_eq_false_iff, ← List.length_eq_zero_iff, or_self, or_false, false_or, Prod.forall, Int.reduceEq, Int.reduceLT, Int.reduceLE, List.nil_append, Nat.zero_add, Int.toNat_zero, List.drop_zero, List.length_drop, List.length_take, not_true_eq_false, not_false_eq_true]
  try simp only [flip_f, flip_t, decide_eq_true_eq, decide_eq_false_iff_not]
  repeat' (first | with_reducible apply And.intro | with_reducible intro _)
  all_goals (first | omega | (((try simp only [new,  if_true, if_false]); repeat' split) <;> first | omega | (simp_all [new]; done) | (simp_all [new]; omega) | (simp_all [new]; (try rw [Bool.eq_iff_iff]); grind)))
theorem e_same (x : RI × RI × Unit) (_ : True) (hl : LensL cSame.as x) : E_same x := by
  obtain ⟨⟨a, b, c, d⟩, ⟨a', b', c', d'⟩, u⟩ := x
  have hlx : a.length ≤ 9223372036854775807 := hl.1.1.1
  unfold E_same
  simp only [Bool.not_eq_true', Bool.not_eq_false', Bool.not_eq_true, Bool.not_eq_false, beq_self_eq_true, decide_eq_true_eq, decide_eq_false_iff_not, Bool.not_false, Bool.not_true, beq_iff_eq, beq_eq_false_iff_ne, bne_iff_ne, ne_eq, bne_eq_false_iff_eq, holds_iff, true_and, and_true, and_self, eq_self, List.length_cons, List.length_nil, List.length_append, List.length_set, List.length_replicate, List.set_cons_zero, cond_true, cond_false, Bool.false_eq_true, Bool.true_eq_false, forall_const, false_imp_iff, imp_self, implies_true, and_imp, Decidable.not_not, Bool.and_eq_true, Bool.or_eq_true, Bool.and_eq_false_iff, Bool.or_eq_false_iff, ← List.length_eq_zero_iff, or_self, or_false, false_or, Prod.forall, Int.reduceEq, Int.reduceLT, Int.reduceLE, List.nil_append, Nat.zero_add, Int.toNat_zero, List.drop_zero, List.length_drop, List.length_take, not_true_eq_false, not_false_eq_true,  deq_iff, deq_false, Prod.mk.injEq]
  repeat' (first | with_reducible apply And.intro | with_reducible intro _)
  all_goals try omega
  all_goals grind [takeI_succ, takeI_all]
theorem right_iff {r : RI} : right r = true ↔ Right r := by simp [right]
theorem e_step (x : RI × (Int × Int) × Unit) (_ : True) (_ : LensL cStep.as x) : E_step x := by
  obtain ⟨⟨l, g, t, w⟩, ⟨k, d⟩, u⟩ := x
  unfold E_step
  simp only [Bool.not_eq_true', Bool.not_eq_false', Bool.not_eq_true, Bool.not_eq_false, beq_self_eq_true, decide_eq_true_eq, decide_eq_false_iff_not, Bool.not_false, Bool.not_true, beq_iff_eq, beq_eq_false_iff_ne, bne_iff_ne, ne_eq, bne_eq_false_iff_eq, holds_iff, true_and, and_true, and_self, eq_self, List.length_cons, List.length_nil, List.length_append, List.length_set, List.length_replicate, List.set_cons_zero, cond_true, cond_false, Bool.false_eq_true, Bool.true_eq_false, forall_const, false_imp_iff, imp_self, implies_true, and_imp, Decidable.not_not, Bool.and_eq_true, Bool.or_eq_true, Bool.and_eq_false_iff, Bool.or_eq_false_iff, ← List.length_eq_zero_iff, or_self, or_false, false_or, Prod.forall, Int.reduceEq, Int.reduceLT, Int.reduceLE, List.nil_append, Nat.zero_add, Int.toNat_zero, List.drop_zero, List.length_drop, List.length_take, not_true_eq_false, not_false_eq_true]
  try simp only [flip_f, flip_t, decide_eq_true_eq, decide_eq_false_iff_not]
  refine ⟨fun h => ?_, fun h => ?_⟩
  · simp [step, h, bad]
  have hR := right_iff.1 h
  have hi := hR.1
  simp only [inB] at hi
  obtain ⟨i1, i2, i3, i4, i5, i6, i7, i8⟩ := hi
  have m1 := emod_two (x := g + 1) (n := l.length) (by omega) (by omega)
  have m2 := emod_two (x := w + 1) (n := l.length) (by omega) (by omega)
  have m3 := emod_two (x := t + 1) (n := l.length) (by omega) (by omega)
  rw [m1, m2, m3]
  clear m1 m2 m3
  repeat' (first | with_reducible apply And.intro | with_reducible intro _)
  all_goals try omega
  all_goals (first | omega | (((try simp only [step, h, bad, ce,  if_true, if_false]); repeat' split) <;> first | omega | (simp_all [step, h, bad, ce]; done) | (simp_all [step, h, bad, ce]; omega) | (simp_all [step, h, bad, ce]; (try rw [Bool.eq_iff_iff]); grind)))

end Go.Proofs.Ytmcepjbbbkgfcaa.Ringp
