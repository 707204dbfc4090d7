/-
  RingSteps: the conditions hold.
-/
import Derived.Test.YtollphjlheabdaaRingE
namespace Go.Proofs.Ytollphjlheabdaa.Ring
open Go.Sx
set_option maxRecDepth 100000
set_option maxHeartbeats 1000000
set_option linter.unusedSimpArgs false
set_option linter.unusedVariables false

theorem emod_two {x n : Int} (h0 : 0 ≤ x) (h1 : x < 2 * n) : x % n = if x < n then x else x - n := by
  split
  · exact Int.emod_eq_of_lt h0 ‹_›
  · rw [← Int.sub_emod_right x n]
    exact Int.emod_eq_of_lt (by omega) (by omega)
theorem nR1 {r : RI} (h : ¬ inB r) : ¬ Right r := fun hr => h hr.1
theorem nR2 {l : List CE} {g t w : Int} (h : ah l.length t g < ah l.length t w) : ¬ Right (l, g, t, w) := fun hr => by
  have := hr.2.1
  dsimp only at this
  omega
theorem nR3 {r : RI} {k : Int} (h0 : 0 ≤ k) (h1 : k < r.1.length) (h : ¬ okC r k) : ¬ Right r := fun hr => h (hr.2.2 k h0 h1)
theorem okC_iff {l : List CE} {g t w k : Int} : okC (l, g, t, w) k ↔ (((l.getD k.toNat (false, 0)).1 = true ↔ (ah l.length t w ≤ ah l.length t k ∧ ah l.length t k < ah l.length t g)) ∧ (ah l.length t g ≤ ah l.length t k → (l.getD k.toNat (false, 0)).2 = 0)) := Iff.rfl
theorem okC_step {r : RI} {k i : Int} (h : ∀ i, 0 ≤ i → i < k → okC r i) (hk : okC r k) (h0 : 0 ≤ i) (h1 : i < k + 1) : okC r i := by
  by_cases e : i = k
  · subst e; exact hk
  · exact h i h0 (by omega)
theorem Right_of {l : List CE} {g t w k : Int} (hi : inB (l, g, t, w)) (h2 : ah l.length t w ≤ ah l.length t g) (hall : ∀ i, 0 ≤ i → i < k → okC (l, g, t, w) i) (hk : (l.length : Int) ≤ k) : Right (l, g, t, w) :=
  ⟨hi, h2, fun i h0 h1 => hall i h0 (by dsimp only at h1; omega)⟩
theorem pl_def {l : List CE} {g t w j : Int} : pl (l, g, t, w) j = if t + j < l.length then t + j else t + j - l.length := rfl
theorem parts_bad {r : RI} (h : ¬ Right r) : parts r = (0, 0, false, ()) := by simp [parts, right, h]
theorem parts_good {l : List CE} {g t w : Int} (h : Right (l, g, t, w)) : parts (l, g, t, w) = (ah l.length t w, ah l.length t g - ah l.length t w, true, ()) := by simp [parts, right, h]
theorem devs_nil {r : RI} {a b : Int} {v : Bool} (h : b ≤ a) : devs r a b v := fun j h0 h1 => by omega
theorem devs_step {r : RI} {a b : Int} {v : Bool} (h : devs r a b v) (hb : (ce r.1 (pl r b)).1 = v) : devs r a (b + 1) v := fun j h0 h1 => by
  by_cases e : j = b
  · subst e; exact hb
  · exact h j h0 (by omega)
theorem free_nil {r : RI} {a b : Int} (h : b ≤ a) : free r a b := fun j h0 h1 => by omega
theorem free_step {r : RI} {a b : Int} (h : free r a b) (hb : ce r.1 (pl r b) = (false, 0)) : free r a (b + 1) := fun j h0 h1 => by
  by_cases e : j = b
  · subst e; exact hb
  · exact h j h0 (by omega)
theorem ah_pl {l : List CE} {g t w j : Int} (h0 : 0 ≤ j) (h1 : j < l.length) (ht : 0 ≤ t) (ht' : t < l.length) : ah l.length t (pl (l, g, t, w) j) = j := by
  simp only [pl_def, ah]; omega
theorem pl_ah {l : List CE} {g t w k : Int} (h0 : 0 ≤ k) (h1 : k < l.length) (ht : 0 ≤ t) (ht' : t < l.length) : pl (l, g, t, w) (ah l.length t k) = k := by
  simp only [pl_def, ah]; omega
theorem pl_b {l : List CE} {g t w j : Int} (h0 : 0 ≤ j) (h1 : j < l.length) (ht : 0 ≤ t) (ht' : t < l.length) : 0 ≤ pl (l, g, t, w) j ∧ pl (l, g, t, w) j < l.length := by
  simp only [pl_def]; omega
theorem ah_b {n t k : Int} (h0 : 0 ≤ k) (h1 : k < n) (ht : 0 ≤ t) (ht' : t < n) : 0 ≤ ah n t k ∧ ah n t k < n := by
  simp only [ah]; omega
theorem pl_mod {l : List CE} {g t w j : Int} (h0 : 0 ≤ j) (h1 : j < l.length) (ht : 0 ≤ t) (ht' : t < l.length) : (pl (l, g, t, w) j + 1) % (l.length : Int) = pl (l, g, t, w) (if j + 1 < l.length then j + 1 else 0) := by
  have hb := pl_b (g := g) (w := w) h0 h1 ht ht'
  rw [emod_two (by omega) (by omega)]
  simp only [pl_def] at *
  omega
/-- A cell that is not as it should be. -/
theorem nR_at {l : List CE} {g t w j : Int} (hr : Right (l, g, t, w)) (h0 : 0 ≤ j) (h1 : j < l.length) (ht : 0 ≤ t) (ht' : t < l.length) :
    ((ce l (pl (l, g, t, w) j)).1 = true ↔ (ah l.length t w ≤ j ∧ j < ah l.length t g)) ∧ (ah l.length t g ≤ j → (ce l (pl (l, g, t, w) j)).2 = 0) := by
  have hb := pl_b (g := g) (w := w) h0 h1 ht ht'
  have := hr.2.2 (pl (l, g, t, w) j) hb.1 hb.2
  simp only [okC, ah_pl h0 h1 ht ht'] at this
  exact this
theorem Right_all {l : List CE} {g t w : Int} (hi : inB (l, g, t, w)) (h2 : ah l.length t w ≤ ah l.length t g) (h3 : devs (l, g, t, w) 0 (ah l.length t w) false)
    (h4 : devs (l, g, t, w) (ah l.length t w) (ah l.length t g) true) (h5 : free (l, g, t, w) (ah l.length t g) l.length) : Right (l, g, t, w) := by
  refine ⟨hi, h2, fun k h0 h1 => ?_⟩
  have hi' := hi
  simp only [inB] at hi'
  dsimp only at h1
  have hb := ah_b h0 h1 hi'.2.2.2.2.1 hi'.2.2.2.2.2.1
  have e := pl_ah (g := g) (w := w) h0 h1 hi'.2.2.2.2.1 hi'.2.2.2.2.2.1
  simp only [okC]
  by_cases c1 : ah l.length t k < ah l.length t w
  · have := h3 _ hb.1 c1
    rw [e] at this
    dsimp only at this
    rw [this]
    exact ⟨⟨fun q => (by cases q), fun q => by omega⟩, fun q => by omega⟩
  · by_cases c2 : ah l.length t k < ah l.length t g
    · have := h4 _ (by omega) c2
      rw [e] at this
      dsimp only at this
      rw [this]
      exact ⟨⟨fun _ => by omega, fun q => rfl⟩, fun q => by omega⟩
    · have := h5 _ (by omega) hb.2
      rw [e] at this
      dsimp only at this
      rw [this]
      exact ⟨⟨fun q => (by cases q), fun q => by omega⟩, fun q => rfl⟩
theorem e_clone (x : List CE × Unit) (hp : cClone.pre x) (_ : LensL cClone.as x) : E_clone x := by
  obtain ⟨xs, u⟩ := x
  have hp : xs.length * 16 ≤ 140737488355328 := hp
  unfold E_clone
  intro b hb
  refine ⟨fun h => (hb h).symm, fun h => ?_⟩
  simp only [List.length_nil, List.nil_append, and_true]
  omega
theorem e_ahead (x : RI × Int × Int × Unit) (hp : cAhead.pre x) (_ : LensL cAhead.as x) : E_ahead x := by
  obtain ⟨⟨l, g, t, w⟩, a, b, u⟩ := x
  obtain ⟨h1, h2, h3, h4, h5⟩ : 0 ≤ a ∧ a < l.length ∧ 0 ≤ b ∧ b < l.length ∧ (l.length : Int) ≤ 64 := hp
  unfold E_ahead
  simp only [Bool.not_eq_true', Bool.not_eq_false', Bool.not_eq_true, Bool.not_eq_false, beq_self_eq_true, decide_eq_true_eq, decide_eq_false_iff_not, Bool.not_false, Bool.not_true, beq_iff_eq, beq_eq_false_iff_ne, bne_iff_ne, ne_eq, bne_eq_false_iff_eq, holds_iff, true_and, and_true, and_self, eq_self, List.length_cons, List.length_nil, List.length_append, List.length_set, List.length_replicate, List.set_cons_zero, cond_true, cond_false, Bool.false_eq_true, Bool.true_eq_false, forall_const, false_imp_iff, imp_self, implies_true, and_imp, Decidable.not_not, Bool.and_eq_true, Bool.or_eq_true, Bool.and_eq_false_iff, Bool.or_eq_false_iff, ← List.length_eq_zero_iff, or_self, or_false, false_or, Prod.forall, Int.reduceEq, Int.reduceLT, Int.reduceLE, List.nil_append, Nat.zero_add, Int.toNat_zero, List.drop_zero, List.length_drop, List.length_take, not_true_eq_false, not_false_eq_true]
  try simp only [flip_f, flip_t, decide_eq_true_eq, decide_eq_false_iff_not]
  have := emod_two (x := b - a + l.length) (n := l.length) (by omega) (by omega)
  simp only [ah]
  repeat' (first | with_reducible apply And.intro | with_reducible intro _)
  all_goals try omega
theorem e_right (x : RI × Unit) (_ : True) (_ : LensL cRight.as x) : E_right x := by
  obtain ⟨⟨l, g, t, w⟩, u⟩ := x
  unfold E_right
  simp only [right]
  simp only [Bool.not_eq_true', Bool.not_eq_false', Bool.not_eq_true, Bool.not_eq_false, beq_self_eq_true, decide_eq_true_eq, decide_eq_false_iff_not, Bool.not_false, Bool.not_true, beq_iff_eq, beq_eq_false_iff_ne, bne_iff_ne, ne_eq, bne_eq_false_iff_eq, holds_iff, true_and, and_true, and_self, eq_self, List.length_cons, List.length_nil, List.length_append, List.length_set, List.length_replicate, List.set_cons_zero, cond_true, cond_false, Bool.false_eq_true, Bool.true_eq_false, forall_const, false_imp_iff, imp_self, implies_true, and_imp, Decidable.not_not, Bool.and_eq_true, Bool.or_eq_true, Bool.and_eq_false_iff, Bool.or_eq_false_iff, ← List.length_eq_zero_iff, or_self, or_false, false_or, Prod.forall, Int.reduceEq, Int.reduceLT, Int.reduceLE, List.nil_append, Nat.zero_add, Int.toNat_zero, List.drop_zero, List.length_drop, List.length_take, not_true_eq_false, not_false_eq_true]
  try simp only [flip_f, flip_t, decide_eq_true_eq, decide_eq_false_iff_not]
  repeat' (first | with_reducible apply And.intro | with_reducible intro _)
  all_goals first
    | omega
    | (refine nR1 ?_; simp only [inB]; omega)
    | exact nR2 (by assumption)
    | (refine nR3 (by assumption) (by assumption) ?_; simp only [okC_iff]; grind)
    | exact okC_step (by assumption) (by simp only [okC_iff]; grind) (by assumption) (by assumption)
    | exact Right_of (by simp only [inB]; omega) (by omega) (by assumption) (by omega)
theorem e_new (x : Int × Unit) (_ : True) (_ : LensL cNew.as x) : E_new x := by
  obtain ⟨n, u⟩ := x
  unfold E_new
  simp only [Bool.not_eq_true', Bool.not_eq_false', Bool.not_eq_true, Bool.not_eq_false, beq_self_eq_true, decide_eq_true_eq, decide_eq_false_iff_not, Bool.not_false, Bool.not_true, beq_iff_eq, beq_eq_false_iff_ne, bne_iff_ne, ne_eq, bne_eq_false_iff_eq, holds_iff, true_and, and_true, and_self, eq_self, List.length_cons, List.length_nil, List.length_append, List.length_set, List.length_replicate, List.set_cons_zero, cond_true, cond_false, Bool.false_eq_true, Bool.true_eq_false, forall_const, false_imp_iff, imp_self, implies_true, and_imp, Decidable.not_not, Bool.and_eq_true, Bool.or_eq_true, Bool.and_eq_false_iff, Bool.or_eq_false_iff, ← List.length_eq_zero_iff, or_self, or_false, false_or, Prod.forall, Int.reduceEq, Int.reduceLT, Int.reduceLE, List.nil_append, Nat.zero_add, Int.toNat_zero, List.drop_zero, List.length_drop, List.length_take, not_true_eq_false, not_false_eq_true]
  try simp only [flip_f, flip_t, decide_eq_true_eq, decide_eq_false_iff_not]
  repeat' (first | with_reducible apply And.intro | with_reducible intro _)
  all_goals (first | omega | (((try simp only [new,  if_true, if_false]); repeat' split) <;> first | omega | (simp_all [new]; done) | (simp_all [new]; omega) | (simp_all [new]; (try rw [Bool.eq_iff_iff]); grind)))
theorem e_same (x : RI × RI × Unit) (_ : True) (hl : LensL cSame.as x) : E_same x := by
  obtain ⟨⟨a, b, c, d⟩, ⟨a', b', c', d'⟩, u⟩ := x
  have hlx : a.length ≤ 9223372036854775807 := hl.1.1.1
  unfold E_same
  simp only [Bool.not_eq_true', Bool.not_eq_false', Bool.not_eq_true, Bool.not_eq_false, beq_self_eq_true, decide_eq_true_eq, decide_eq_false_iff_not, Bool.not_false, Bool.not_true, beq_iff_eq, beq_eq_false_iff_ne, bne_iff_ne, ne_eq, bne_eq_false_iff_eq, holds_iff, true_and, and_true, and_self, eq_self, List.length_cons, List.length_nil, List.length_append, List.length_set, List.length_replicate, List.set_cons_zero, cond_true, cond_false, Bool.false_eq_true, Bool.true_eq_false, forall_const, false_imp_iff, imp_self, implies_true, and_imp, Decidable.not_not, Bool.and_eq_true, Bool.or_eq_true, Bool.and_eq_false_iff, Bool.or_eq_false_iff, ← List.length_eq_zero_iff, or_self, or_false, false_or, Prod.forall, Int.reduceEq, Int.reduceLT, Int.reduceLE, List.nil_append, Nat.zero_add, Int.toNat_zero, List.drop_zero, List.length_drop, List.length_take, not_true_eq_false, not_false_eq_true,  deq_iff, deq_false, Prod.mk.injEq]
  repeat' (first | with_reducible apply And.intro | with_reducible intro _)
  all_goals try omega
  all_goals grind [takeI_succ, takeI_all]
theorem e_parts (x : RI × Unit) (_ : True) (_ : LensL cParts.as x) : E_parts x := by
  obtain ⟨⟨l, g, t, w⟩, u⟩ := x
  unfold E_parts
  simp only [Bool.not_eq_true', Bool.not_eq_false', Bool.not_eq_true, Bool.not_eq_false, beq_self_eq_true, decide_eq_true_eq, decide_eq_false_iff_not, Bool.not_false, Bool.not_true, beq_iff_eq, beq_eq_false_iff_ne, bne_iff_ne, ne_eq, bne_eq_false_iff_eq, holds_iff, true_and, and_true, and_self, eq_self, List.length_cons, List.length_nil, List.length_append, List.length_set, List.length_replicate, List.set_cons_zero, cond_true, cond_false, Bool.false_eq_true, Bool.true_eq_false, forall_const, false_imp_iff, imp_self, implies_true, and_imp, Decidable.not_not, Bool.and_eq_true, Bool.or_eq_true, Bool.and_eq_false_iff, Bool.or_eq_false_iff, ← List.length_eq_zero_iff, or_self, or_false, false_or, Prod.forall, Int.reduceEq, Int.reduceLT, Int.reduceLE, List.nil_append, Nat.zero_add, Int.toNat_zero, List.drop_zero, List.length_drop, List.length_take, not_true_eq_false, not_false_eq_true,  deq_iff, deq_false, Prod.mk.injEq]
  refine ⟨fun h => ?_, fun h1 h2 h3 h4 h5 h6 h7 h8 => ⟨?_, fun j k j0 j1 hk jw jg hd => ?_⟩⟩
  · rw [parts_bad (nR1 (by simp only [inB]; omega))]; simp
  · have b1 := ah_b (n := l.length) (t := t) (k := w) (by omega) (by omega) (by omega) (by omega)
    have b2 := ah_b (n := l.length) (t := t) (k := g) (by omega) (by omega) (by omega) (by omega)
    refine ⟨by omega, ?_, b1.1, b2.1, devs_nil (by omega)⟩
    simp only [pl_def]; omega
  have hin : inB (l, g, t, w) := by simp only [inB]; omega
  have b1 := ah_b (n := l.length) (t := t) (k := w) (by omega) (by omega) (by omega) (by omega)
  have b2 := ah_b (n := l.length) (t := t) (k := g) (by omega) (by omega) (by omega) (by omega)
  have pw := pl_ah (l := l) (g := g) (t := t) (w := w) (k := w) (by omega) (by omega) (by omega) (by omega)
  have pg := pl_ah (l := l) (g := g) (t := t) (w := w) (k := g) (by omega) (by omega) (by omega) (by omega)
  have ajk := ah_pl (l := l) (g := g) (t := t) (w := w) (j := j) (by omega) (by omega) (by omega) (by omega)
  have plb := pl_b (l := l) (g := g) (t := t) (w := w) (j := j) (by omega) (by omega) (by omega) (by omega)
  rw [← hk] at ajk plb
  intro _ _ _ _
  refine ⟨fun kw kg => ⟨plb, fun hdev => ?_, fun hdev => ?_⟩, fun hkk => ⟨fun hkw => ?_, fun hkw => ?_⟩⟩
  · rw [parts_bad]
    · simp
    intro hr
    have := (nR_at hr j0 j1 (by omega) (by omega)).1.1 (by rw [← hk]; exact hdev)
    have : j ≠ ah l.length t w := fun e => kw (by rw [hk, e, pw])
    omega
  · have n1 : j ≠ ah l.length t w := fun e => kw (by rw [hk, e, pw])
    have n2 : j ≠ ah l.length t g := fun e => kg (by rw [hk, e, pg])
    have hm := pl_mod (l := l) (g := g) (t := t) (w := w) (j := j) (by omega) (by omega) (by omega) (by omega)
    rw [← hk, if_pos (by omega)] at hm
    have hd' := devs_step hd (by rw [← hk]; exact hdev)
    repeat' (first | with_reducible apply And.intro | with_reducible intro _)
    all_goals first | omega | assumption
  · rw [parts_bad]
    · simp
    intro hr
    have := hr.2.1
    dsimp only at this
    have e1 : k = g := by omega
    rw [e1] at ajk
    have n1 : j ≠ ah l.length t w := fun e => hkw (by rw [hk, e, pw])
    omega
  have ej : j = ah l.length t w := by rw [← ajk, hkw]
  refine ⟨⟨by rw [hkw, Int.add_zero, pw], by omega, devs_nil (by omega)⟩, ?_⟩
  intro k2 d d0 hk2 dg hd2 _ _ _ _
  have ajk2 := ah_pl (l := l) (g := g) (t := t) (w := w) (j := ah l.length t w + d) (by omega) (by omega) (by omega) (by omega)
  have plb2 := pl_b (l := l) (g := g) (t := t) (w := w) (j := ah l.length t w + d) (by omega) (by omega) (by omega) (by omega)
  rw [← hk2] at ajk2 plb2
  refine ⟨fun kg => ⟨plb2, fun hdev => ?_, fun hdev _ => ?_⟩, fun kg => ?_⟩
  · rw [parts_bad]
    · simp
    intro hr
    have := (nR_at hr (j := ah l.length t w + d) (by omega) (by omega) (by omega) (by omega)).1.2
    rw [← hk2] at this
    have n2 : ah l.length t w + d ≠ ah l.length t g := fun e => kg (by rw [hk2, e, pg])
    have := this ⟨by omega, by omega⟩
    rcases hdev with h | h
    · rw [show (ce l k2).1 = (l.getD k2.toNat (false, 0)).1 from rfl, h] at this; cases this
    · omega
  · have n2 : ah l.length t w + d ≠ ah l.length t g := fun e => kg (by rw [hk2, e, pg])
    have hm := pl_mod (l := l) (g := g) (t := t) (w := w) (j := ah l.length t w + d) (by omega) (by omega) (by omega) (by omega)
    rw [← hk2, if_pos (by omega)] at hm
    have hd' := devs_step hd2 (by rw [← hk2]; exact hdev)
    have et : pl (l, g, t, w) (ah l.length t w + d + 1) ≠ t := by simp only [pl_def]; omega
    rw [hm]
    repeat' (first | with_reducible apply And.intro | with_reducible intro _)
    all_goals first | omega | assumption | (rw [Int.add_assoc]; done) | (rw [← Int.add_assoc]; assumption) | skip
  have ed : ah l.length t w + d = ah l.length t g := by rw [← ajk2, kg]
  refine ⟨by omega, by omega, ⟨by omega, fun _ => by rw [kg, Int.add_zero, pg], by omega, by omega, free_nil (by omega)⟩, ?_⟩
  intro k3 m m0 m1 hk3 k30 k31 hf _ _ _ _
  refine ⟨fun hm => ?_, fun hm => ?_⟩
  · have hk3 := hk3 (by omega)
    refine ⟨⟨k30, k31⟩, fun hc => ?_, fun c1 c2 => ?_⟩
    · rw [parts_bad]
      · simp
      intro hr
      have h1 := (nR_at hr (j := ah l.length t g + m) (by omega) (by omega) (by omega) (by omega))
      rw [← hk3] at h1
      have h2 := h1.2 (by omega)
      have h3 : (ce l k3).1 = false := by
        cases h4 : (ce l k3).1 with
        | false => rfl
        | true => have := h1.1.1 h4; omega
      exact hc ⟨h3, h2⟩
    · have hmo := pl_mod (l := l) (g := g) (t := t) (w := w) (j := ah l.length t g + m) (by omega) (by omega) (by omega) (by omega)
      rw [← hk3] at hmo
      have hf' := free_step hf (by rw [← hk3]; exact Prod.ext c1 c2)
      have := Int.emod_nonneg (k3 + 1) (b := l.length) (by omega)
      have := Int.emod_lt_of_pos (k3 + 1) (b := l.length) (by omega)
      repeat' (first | with_reducible apply And.intro | with_reducible intro _)
      all_goals first | omega | (rw [← Int.add_assoc]; assumption) | skip
      rw [hmo, if_pos (by omega), Int.add_assoc]
  · have hd3 := hd2
    rw [ed] at hd3
    rw [parts_good (Right_all hin (by omega) (by rw [← ej]; exact hd) hd3 (by rw [show ah l.length t g + m = l.length by omega] at hf; exact hf))]
    refine ⟨ej, ?_, rfl⟩
    dsimp only
    omega
theorem right_iff {r : RI} : right r = true ↔ Right r := by simp [right]
theorem e_step (x : RI × (Int × Int) × Unit) (_ : True) (_ : LensL cStep.as x) : E_step x := by
  obtain ⟨⟨l, g, t, w⟩, ⟨k, d⟩, u⟩ := x
  unfold E_step
  simp only [Bool.not_eq_true', Bool.not_eq_false', Bool.not_eq_true, Bool.not_eq_false, beq_self_eq_true, decide_eq_true_eq, decide_eq_false_iff_not, Bool.not_false, Bool.not_true, beq_iff_eq, beq_eq_false_iff_ne, bne_iff_ne, ne_eq, bne_eq_false_iff_eq, holds_iff, true_and, and_true, and_self, eq_self, List.length_cons, List.length_nil, List.length_append, List.length_set, List.length_replicate, List.set_cons_zero, cond_true, cond_false, Bool.false_eq_true, Bool.true_eq_false, forall_const, false_imp_iff, imp_self, implies_true, and_imp, Decidable.not_not, Bool.and_eq_true, Bool.or_eq_true, Bool.and_eq_false_iff, Bool.or_eq_false_iff, ← List.length_eq_zero_iff, or_self, or_false, false_or, Prod.forall, Int.reduceEq, Int.reduceLT, Int.reduceLE, List.nil_append, Nat.zero_add, Int.toNat_zero, List.drop_zero, List.length_drop, List.length_take, not_true_eq_false, not_false_eq_true]
  try simp only [flip_f, flip_t, decide_eq_true_eq, decide_eq_false_iff_not]
  refine ⟨fun h => ?_, fun h => ?_⟩
  · simp [step, h, bad]
  have hR := right_iff.1 h
  have hi := hR.1
  simp only [inB] at hi
  obtain ⟨i1, i2, i3, i4, i5, i6, i7, i8⟩ := hi
  have m1 := emod_two (x := g + 1) (n := l.length) (by omega) (by omega)
  have m2 := emod_two (x := w + 1) (n := l.length) (by omega) (by omega)
  have m3 := emod_two (x := t + 1) (n := l.length) (by omega) (by omega)
  rw [m1, m2, m3]
  clear m1 m2 m3
  repeat' (first | with_reducible apply And.intro | with_reducible intro _)
  all_goals try omega
  all_goals (first | omega | (((try simp only [step, h, bad, ce,  if_true, if_false]); repeat' split) <;> first | omega | (simp_all [step, h, bad, ce]; done) | (simp_all [step, h, bad, ce]; omega) | (simp_all [step, h, bad, ce]; (try rw [Bool.eq_iff_iff]); grind)))
theorem e_rstep (x : RI × (Int × Int) × Unit) (hp : x.1.1.length * 16 ≤ 140737488355328) (hx : LensL cRStep.as x) : E_rstep x := by
  obtain ⟨⟨l, g, t, w⟩, ⟨k, d⟩, u⟩ := x
  have hp : l.length * 16 ≤ 140737488355328 := hp
  have hlx : ∀ b ∈ l, True ∧ -9223372036854775808 ≤ b.2 ∧ b.2 ≤ 9223372036854775807 := hx.1.1.2
  unfold E_rstep
  simp only [Bool.not_eq_true', Bool.not_eq_false', Bool.not_eq_true, Bool.not_eq_false, beq_self_eq_true, decide_eq_true_eq, decide_eq_false_iff_not, Bool.not_false, Bool.not_true, beq_iff_eq, beq_eq_false_iff_ne, bne_iff_ne, ne_eq, bne_eq_false_iff_eq, holds_iff, true_and, and_true, and_self, eq_self, List.length_cons, List.length_nil, List.length_append, List.length_set, List.length_replicate, List.set_cons_zero, cond_true, cond_false, Bool.false_eq_true, Bool.true_eq_false, forall_const, false_imp_iff, imp_self, implies_true, and_imp, Decidable.not_not, Bool.and_eq_true, Bool.or_eq_true, Bool.and_eq_false_iff, Bool.or_eq_false_iff, ← List.length_eq_zero_iff, or_self, or_false, false_or, Prod.forall, Int.reduceEq, Int.reduceLT, Int.reduceLE, List.nil_append, Nat.zero_add, Int.toNat_zero, List.drop_zero, List.length_drop, List.length_take, not_true_eq_false, not_false_eq_true]
  try simp only [flip_f, flip_t, decide_eq_true_eq, decide_eq_false_iff_not]
  refine ⟨by omega, fun h => ?_, fun h => ?_⟩
  · have : ¬ Right (l, g, t, w) := fun hr => by rw [parts_good hr] at h; cases h
    have : right (l, g, t, w) = false := by simp [right, this]
    simp [step, this, bad]
  by_cases hR : Right (l, g, t, w)
  · have h := right_iff.2 hR
    rw [parts_good hR]
    have h2 := hR.2.1
    have hi := hR.1
    simp only [inB] at hi
    obtain ⟨i1, i2, i3, i4, i5, i6, i7, i8⟩ := hi
    dsimp only at h2 ⊢
    have q1 : ah l.length t g - ah l.length t w = 0 ↔ w = g := by simp only [ah] at *; omega
    have q2 : ah l.length t w = 0 ↔ t = w := by simp only [ah] at *; omega
    have q3 : ah l.length t w + (ah l.length t g - ah l.length t w) = ah l.length t g := by omega
    have b1 := ah_b (n := l.length) (t := t) (k := w) (by omega) (by omega) (by omega) (by omega)
    have b2 := ah_b (n := l.length) (t := t) (k := g) (by omega) (by omega) (by omega) (by omega)
    have hw := (hlx (l.getD w.toNat (false, 0)) (getD_mem (by omega))).2
    rw [q3]
    simp only [q1, q2]
    repeat' (first | with_reducible apply And.intro | with_reducible intro _)
    all_goals try omega
    all_goals (first | omega | (((try simp only [step, h, bad, ce,  if_true, if_false]); repeat' split) <;> first | omega | (simp_all [step, h, bad, ce]; done) | (simp_all [step, h, bad, ce]; omega) | (simp_all [step, h, bad, ce]; (try rw [Bool.eq_iff_iff]); grind)))
  · rw [parts_bad hR] at h; cases h
theorem e_none (x : Int × List (Int × Int) × Unit) (hp : x.2.1 = []) (_ : LensL cNone.as x) : E_none x := by
  obtain ⟨n, ops, u⟩ := x
  have hp : ops = [] := hp
  subst hp
  unfold E_none
  simp only [Bool.not_eq_true', Bool.not_eq_false', Bool.not_eq_true, Bool.not_eq_false, beq_self_eq_true, decide_eq_true_eq, decide_eq_false_iff_not, Bool.not_false, Bool.not_true, beq_iff_eq, beq_eq_false_iff_ne, bne_iff_ne, ne_eq, bne_eq_false_iff_eq, holds_iff, true_and, and_true, and_self, eq_self, List.length_cons, List.length_nil, List.length_append, List.length_set, List.length_replicate, List.set_cons_zero, cond_true, cond_false, Bool.false_eq_true, Bool.true_eq_false, forall_const, false_imp_iff, imp_self, implies_true, and_imp, Decidable.not_not, Bool.and_eq_true, Bool.or_eq_true, Bool.and_eq_false_iff, Bool.or_eq_false_iff, ← List.length_eq_zero_iff, or_self, or_false, false_or, Prod.forall, Int.reduceEq, Int.reduceLT, Int.reduceLE, List.nil_append, Nat.zero_add, Int.toNat_zero, List.drop_zero, List.length_drop, List.length_take, not_true_eq_false, not_false_eq_true]
  try simp only [flip_f, flip_t, decide_eq_true_eq, decide_eq_false_iff_not]
  repeat' (first | with_reducible apply And.intro | with_reducible intro _)
  all_goals try omega
  all_goals try (exfalso; omega)
  all_goals first | (simp_all [new]; done) | (rw [show new n = ((List.replicate n.toNat (false, 0), 0, 0, 0), 0, ()) from if_neg (by omega)]; assumption) | rw [show new n = ((List.replicate n.toNat (false, 0), 0, 0, 0), 0, ()) from if_neg (by omega)]
theorem e_steps (x : RI × (Int × Int) × Int × Unit) (h : x.1.1.length * 16 ≤ 140737488355328) (_ : LensL cLaw.as x) : E_steps x := by
  unfold E_steps
  have hq : ∀ r : RI, (parts r).2.2.1 = right r := fun r => by by_cases h : Right r <;> simp [parts, right, h]
  simp only [Bool.not_eq_true', Bool.not_eq_false', Bool.not_eq_true, Bool.not_eq_false, beq_self_eq_true, decide_eq_true_eq, decide_eq_false_iff_not, Bool.not_false, Bool.not_true, beq_iff_eq, beq_eq_false_iff_ne, bne_iff_ne, ne_eq, bne_eq_false_iff_eq, holds_iff, true_and, and_true, and_self, eq_self, List.length_cons, List.length_nil, List.length_append, List.length_set, List.length_replicate, List.set_cons_zero, cond_true, cond_false, Bool.false_eq_true, Bool.true_eq_false, forall_const, false_imp_iff, imp_self, implies_true, and_imp, Decidable.not_not, Bool.and_eq_true, Bool.or_eq_true, Bool.and_eq_false_iff, Bool.or_eq_false_iff, ← List.length_eq_zero_iff, or_self, or_false, false_or, Prod.forall, Int.reduceEq, Int.reduceLT, Int.reduceLE, List.nil_append, Nat.zero_add, Int.toNat_zero, List.drop_zero, List.length_drop, List.length_take, not_true_eq_false, not_false_eq_true]
  try simp only [flip_f, flip_t, decide_eq_true_eq, decide_eq_false_iff_not]
  simp [h, hq]
theorem pre_steps (x : HL cLaw.as) (_ : GoodL cLaw.as x) (h : FitL cLaw.as x) : x.1.1.length * 16 ≤ 140737488355328 := by
  have h : x.1.1.length * 16 ≤ 140737488351232 := h.1.1.1
  omega

end Go.Proofs.Ytollphjlheabdaa.Ring
