/-
  NicSteps: the conditions hold.
-/
import Derived.Test.YtollphjlheabdaaNicE
namespace Go.Proofs.Ytollphjlheabdaa.Nic
open Go.Sx
set_option maxRecDepth 100000
set_option maxHeartbeats 1000000
set_option linter.unusedSimpArgs false
set_option linter.unusedVariables false

theorem e_equal (x : List Int × List Int × Unit) (_ : True) (hl : LensL cEqual.as x) : E_equal x := by
  obtain ⟨xs, ys, u⟩ := x
  have hlx : xs.length ≤ 9223372036854775807 := hl.1.1
  unfold E_equal
  simp only [Bool.not_eq_true', Bool.not_eq_false', Bool.not_eq_true, Bool.not_eq_false, beq_self_eq_true, decide_eq_true_eq, decide_eq_false_iff_not, Bool.not_false, Bool.not_true, beq_iff_eq, beq_eq_false_iff_ne, bne_iff_ne, ne_eq, bne_eq_false_iff_eq, holds_iff, true_and, and_true, and_self, eq_self, List.length_cons, List.length_nil, List.length_append, List.length_set, List.length_replicate, List.set_cons_zero, cond_true, cond_false, Bool.false_eq_true, Bool.true_eq_false, forall_const, false_imp_iff, imp_self, implies_true, and_imp, Decidable.not_not, Bool.and_eq_true, Bool.or_eq_true, Bool.and_eq_false_iff, Bool.or_eq_false_iff, ← List.length_eq_zero_iff, or_self, or_false, false_or, Prod.forall, Int.reduceEq, Int.reduceLT, Int.reduceLE, List.nil_append, Nat.zero_add, Int.toNat_zero, List.drop_zero, List.length_drop, List.length_take, not_true_eq_false, not_false_eq_true]
  try simp only [flip_f, flip_t, decide_eq_true_eq, decide_eq_false_iff_not]
  repeat' (first | with_reducible apply And.intro | with_reducible intro _)
  all_goals try omega
  all_goals grind [takeI_succ, takeI_all]
theorem e_clone (x : List Int × Unit) (hp : cClone.pre x) (_ : LensL cClone.as x) : E_clone x := by
  obtain ⟨xs, u⟩ := x
  have hp : xs.length * 8 ≤ 140737488355328 := hp
  unfold E_clone
  intro b hb
  refine ⟨fun h => (hb h).symm, fun h => ?_⟩
  simp only [List.length_nil, List.nil_append, and_true]
  omega
theorem e_right (x : NI × Unit) (_ : True) (_ : LensL cRight.as x) : E_right x := by
  obtain ⟨⟨l, r, o, m, d, a⟩, u⟩ := x
  unfold E_right
  simp only [Bool.not_eq_true', Bool.not_eq_false', Bool.not_eq_true, Bool.not_eq_false, beq_self_eq_true, decide_eq_true_eq, decide_eq_false_iff_not, Bool.not_false, Bool.not_true, beq_iff_eq, beq_eq_false_iff_ne, bne_iff_ne, ne_eq, bne_eq_false_iff_eq, holds_iff, true_and, and_true, and_self, eq_self, List.length_cons, List.length_nil, List.length_append, List.length_set, List.length_replicate, List.set_cons_zero, cond_true, cond_false, Bool.false_eq_true, Bool.true_eq_false, forall_const, false_imp_iff, imp_self, implies_true, and_imp, Decidable.not_not, Bool.and_eq_true, Bool.or_eq_true, Bool.and_eq_false_iff, Bool.or_eq_false_iff, ← List.length_eq_zero_iff, or_self, or_false, false_or, Prod.forall, Int.reduceEq, Int.reduceLT, Int.reduceLE, List.nil_append, Nat.zero_add, Int.toNat_zero, List.drop_zero, List.length_drop, List.length_take, not_true_eq_false, not_false_eq_true]
  try simp only [flip_f, flip_t, decide_eq_true_eq, decide_eq_false_iff_not]
  repeat' (first | with_reducible apply And.intro | with_reducible intro _)
  all_goals (cases m <;> cases d <;> ((try rw [Bool.eq_iff_iff]); (try simp only [right, eq_self, natlit_lt, natlit_le, lit_lt, lit_le, natlit_eq, Bool.and_eq_true, Bool.or_eq_true, Bool.and_eq_false_iff, Bool.or_eq_false_iff, Bool.not_eq_true', Bool.not_eq_false', Bool.not_eq_true, Bool.not_eq_false, decide_eq_true_eq, decide_eq_false_iff_not, beq_iff_eq, beq_eq_false_iff_ne, bne_iff_ne, ne_eq, bne_eq_false_iff_eq, Decidable.not_not, Bool.false_eq_true, Bool.true_eq_false]); (try simp only [flip_f, flip_t]); (try simp only [eq_self, natlit_lt, natlit_le, lit_lt, lit_le, natlit_eq, Bool.and_eq_true, Bool.or_eq_true, Bool.and_eq_false_iff, Bool.or_eq_false_iff, Bool.not_eq_true', Bool.not_eq_false', Bool.not_eq_true, Bool.not_eq_false, decide_eq_true_eq, decide_eq_false_iff_not, beq_iff_eq, beq_eq_false_iff_ne, bne_iff_ne, ne_eq, bne_eq_false_iff_eq, Decidable.not_not, Bool.false_eq_true, Bool.true_eq_false]); (try first | omega | grind)))
theorem e_tright (x : NI × Unit) (_ : True) (_ : LensL cRight.as x) : E_tright x := by
  obtain ⟨⟨l, r, o, m, d, a⟩, u⟩ := x
  unfold E_tright
  simp only [Bool.not_eq_true', Bool.not_eq_false', Bool.not_eq_true, Bool.not_eq_false, beq_self_eq_true, decide_eq_true_eq, decide_eq_false_iff_not, Bool.not_false, Bool.not_true, beq_iff_eq, beq_eq_false_iff_ne, bne_iff_ne, ne_eq, bne_eq_false_iff_eq, holds_iff, true_and, and_true, and_self, eq_self, List.length_cons, List.length_nil, List.length_append, List.length_set, List.length_replicate, List.set_cons_zero, cond_true, cond_false, Bool.false_eq_true, Bool.true_eq_false, forall_const, false_imp_iff, imp_self, implies_true, and_imp, Decidable.not_not, Bool.and_eq_true, Bool.or_eq_true, Bool.and_eq_false_iff, Bool.or_eq_false_iff, ← List.length_eq_zero_iff, or_self, or_false, false_or, Prod.forall, Int.reduceEq, Int.reduceLT, Int.reduceLE, List.nil_append, Nat.zero_add, Int.toNat_zero, List.drop_zero, List.length_drop, List.length_take, not_true_eq_false, not_false_eq_true]
  try simp only [flip_f, flip_t, decide_eq_true_eq, decide_eq_false_iff_not]
  repeat' (first | with_reducible apply And.intro | with_reducible intro _)
  all_goals (cases m <;> cases d <;> ((try rw [Bool.eq_iff_iff]); (try simp only [right, eq_self, natlit_lt, natlit_le, lit_lt, lit_le, natlit_eq, Bool.and_eq_true, Bool.or_eq_true, Bool.and_eq_false_iff, Bool.or_eq_false_iff, Bool.not_eq_true', Bool.not_eq_false', Bool.not_eq_true, Bool.not_eq_false, decide_eq_true_eq, decide_eq_false_iff_not, beq_iff_eq, beq_eq_false_iff_ne, bne_iff_ne, ne_eq, bne_eq_false_iff_eq, Decidable.not_not, Bool.false_eq_true, Bool.true_eq_false]); (try simp only [flip_f, flip_t]); (try simp only [eq_self, natlit_lt, natlit_le, lit_lt, lit_le, natlit_eq, Bool.and_eq_true, Bool.or_eq_true, Bool.and_eq_false_iff, Bool.or_eq_false_iff, Bool.not_eq_true', Bool.not_eq_false', Bool.not_eq_true, Bool.not_eq_false, decide_eq_true_eq, decide_eq_false_iff_not, beq_iff_eq, beq_eq_false_iff_ne, bne_iff_ne, ne_eq, bne_eq_false_iff_eq, Decidable.not_not, Bool.false_eq_true, Bool.true_eq_false]); (try first | omega | grind)))
theorem right_f {l : List Int} {r o a : Int} {m d : Bool} (h : right (l, r, o, m, d, a) = true) : 1 ≤ r ∧ r ≤ 64 ∧ (l.length : Int) ≤ r ∧ 0 ≤ o ∧ o ≤ 1099511627776 ∧ 0 ≤ a ∧ a ≤ 1099511627776 ∧ m = !d ∧ (d = true ∨ l.length = 0) := by
  simp only [right, Bool.and_eq_true, decide_eq_true_eq, bne_iff_ne, ne_eq, Bool.or_eq_true] at h
  obtain ⟨⟨⟨⟨⟨⟨⟨⟨h1, h2⟩, h3⟩, h4⟩, h5⟩, h6⟩, h7⟩, h8⟩, h9⟩ := h
  refine ⟨h1, h2, h3, h4, h5, h6, h7, ?_, ?_⟩
  · cases m <;> cases d <;> simp_all
  · rcases h9 with h | h
    · exact .inl h
    · exact .inr (by omega)
theorem err_bad {n : NI} {k v e : Int} (h : err n k v = e) (he : e ≠ 0) : step n k v = bad e := by subst h; simp [step, he]
theorem step_ok {n : NI} {k v : Int} (h : err n k v = 0) : step n k v = (if k = 1 then
      ((if (n.1.length : Int) = n.2.1 then n.1 else n.1 ++ [v], n.2.1, (if (n.1.length : Int) = n.2.1 then n.2.2.1 + 1 else n.2.2.1), false, true, (if n.2.2.2.1 then n.2.2.2.2.2 + 1 else n.2.2.2.2.2)), [], 0, ())
     else ((n.1.drop v.toNat, n.2.1, n.2.2.1, decide ((n.1.length : Int) < v), decide (v ≤ (n.1.length : Int)), n.2.2.2.2.2), n.1.take v.toNat, 0, ())) := if_pos h
theorem drop_min {l : List Int} {v : Int} : l.drop (min v l.length).toNat = l.drop v.toNat := by
  by_cases h : v ≤ l.length
  · rw [show min v (l.length : Int) = v by omega]
  · rw [List.drop_of_length_le (by omega), List.drop_of_length_le (by omega)]
theorem take_min {l : List Int} {v : Int} : l.take (min v l.length).toNat = l.take v.toNat := by
  by_cases h : v ≤ l.length
  · rw [show min v (l.length : Int) = v by omega]
  · rw [List.take_of_length_le (by omega), List.take_of_length_le (by omega)]
theorem e_step (x : NI × (Int × Int) × Unit) (_ : True) (_ : LensL cStep.as x) : E_step x := by
  obtain ⟨⟨l, r, o, m, d, a⟩, ⟨k, v⟩, u⟩ := x
  unfold E_step
  simp only [Bool.not_eq_true', Bool.not_eq_false', Bool.not_eq_true, Bool.not_eq_false, beq_self_eq_true, decide_eq_true_eq, decide_eq_false_iff_not, Bool.not_false, Bool.not_true, beq_iff_eq, beq_eq_false_iff_ne, bne_iff_ne, ne_eq, bne_eq_false_iff_eq, holds_iff, true_and, and_true, and_self, eq_self, List.length_cons, List.length_nil, List.length_append, List.length_set, List.length_replicate, List.set_cons_zero, cond_true, cond_false, Bool.false_eq_true, Bool.true_eq_false, forall_const, false_imp_iff, imp_self, implies_true, and_imp, Decidable.not_not, Bool.and_eq_true, Bool.or_eq_true, Bool.and_eq_false_iff, Bool.or_eq_false_iff, ← List.length_eq_zero_iff, or_self, or_false, false_or, Prod.forall, Int.reduceEq, Int.reduceLT, Int.reduceLE, List.nil_append, Nat.zero_add, Int.toNat_zero, List.drop_zero, List.length_drop, List.length_take, not_true_eq_false, not_false_eq_true]
  try simp only [flip_f, flip_t, decide_eq_true_eq, decide_eq_false_iff_not]
  refine ⟨fun h => ?_, fun h => ?_⟩
  · rw [err_bad (e := 1) (by simp [err, h]) (by decide)]; simp [bad]
  obtain ⟨h1, h2, h3, h4, h5, h6, h7, h8, h9⟩ := right_f h
  subst h8
  have ht : l.take (l.length : Int).toNat = l := by rw [Int.toNat_natCast, List.take_length]
  have hb : ∀ e, err (l, r, o, !d, d, a) k v = e → e ≠ 0 → step (l, r, o, !d, d, a) k v = bad e := fun e => err_bad
  rw [ht]
  clear hb
  cases d <;> simp only [Bool.not_false, Bool.not_true] at *
  all_goals (repeat' (first | with_reducible apply And.intro | with_reducible intro _))
  all_goals try omega
  all_goals clear ht h9
  all_goals (grind [step, err, bad, drop_min, take_min])
theorem take_take_succ {l : List Int} {k v : Int} (h0 : 0 ≤ k) (h : k < l.length) (hv : k < v) : (l.take k.toNat).take v.toNat ++ [l.getD k.toNat 0] = (l.take (k + 1).toNat).take v.toNat := by
  have e1 : (l.take k.toNat).take v.toNat = l.take k.toNat := List.take_of_length_le (by rw [List.length_take]; omega)
  have e2 : (l.take k.toNat ++ [l.getD k.toNat 0]).take v.toNat = l.take k.toNat ++ [l.getD k.toNat 0] := List.take_of_length_le (by rw [List.length_append, List.length_take]; simp only [List.length_cons, List.length_nil]; omega)
  rw [takeI_succ 0 h0 h, e1, e2]
theorem take_take_same {l : List Int} {k v : Int} (h0 : 0 ≤ k) (h : k < l.length) (hv : ¬ k < v) : (l.take k.toNat).take v.toNat = (l.take (k + 1).toNat).take v.toNat := by
  rw [List.take_take, List.take_take]; congr 1; omega
theorem drop_take_succ {l : List Int} {k v : Int} (h0 : 0 ≤ k) (h : k < l.length) (hv : ¬ k < v) : (l.take k.toNat).drop v.toNat ++ [l.getD k.toNat 0] = (l.take (k + 1).toNat).drop v.toNat := by
  rw [takeI_succ 0 h0 h, List.drop_append_of_le_length (by rw [List.length_take]; omega)]
theorem drop_take_same {l : List Int} {k v : Int} (h0 : 0 ≤ k) (h : k < l.length) (hv : k < v) : (l.take k.toNat).drop v.toNat = (l.take (k + 1).toNat).drop v.toNat := by
  rw [List.drop_of_length_le (by rw [List.length_take]; omega), List.drop_of_length_le (by rw [List.length_take]; omega)]
theorem err0 {l : List Int} {r o a : Int} {m d : Bool} {k v : Int} (h : err (l, r, o, m, d, a) k v = 0) : right (l, r, o, m, d, a) = true ∧ (k = 1 ∨ k = 2) ∧ (k = 1 → o ≠ 1099511627776 ∧ a ≠ 1099511627776) ∧ (k = 2 → ¬ v < 1 ∧ m = false) := by
  grind [err]
theorem e_tstep (x : NI × (Int × Int) × Unit) (_ : True) (_ : LensL cStep.as x) : E_tstep x := by
  obtain ⟨⟨l, r, o, m, d, a⟩, ⟨k, v⟩, u⟩ := x
  unfold E_tstep
  simp only [Bool.not_eq_true', Bool.not_eq_false', Bool.not_eq_true, Bool.not_eq_false, beq_self_eq_true, decide_eq_true_eq, decide_eq_false_iff_not, Bool.not_false, Bool.not_true, beq_iff_eq, beq_eq_false_iff_ne, bne_iff_ne, ne_eq, bne_eq_false_iff_eq, holds_iff, true_and, and_true, and_self, eq_self, List.length_cons, List.length_nil, List.length_append, List.length_set, List.length_replicate, List.set_cons_zero, cond_true, cond_false, Bool.false_eq_true, Bool.true_eq_false, forall_const, false_imp_iff, imp_self, implies_true, and_imp, Decidable.not_not, Bool.and_eq_true, Bool.or_eq_true, Bool.and_eq_false_iff, Bool.or_eq_false_iff, ← List.length_eq_zero_iff, or_self, or_false, false_or, Prod.forall, Int.reduceEq, Int.reduceLT, Int.reduceLE, List.nil_append, Nat.zero_add, Int.toNat_zero, List.drop_zero, List.length_drop, List.length_take, not_true_eq_false, not_false_eq_true]
  try simp only [flip_f, flip_t, decide_eq_true_eq, decide_eq_false_iff_not]
  refine ⟨?_, fun e he _ _ => ⟨fun hb => ?_, fun e0 => ?_⟩⟩
  · refine ⟨fun h => by simp [err, h], fun h => ?_⟩
    obtain ⟨q1, q2, q3, q4, q5, q6, q7, q8, q9⟩ := right_f h
    repeat' (first | with_reducible apply And.intro | with_reducible intro _)
    all_goals first
      | omega
      | grind [err]
  · rw [err_bad he.symm hb]; simp [bad]
  rw [e0] at he
  obtain ⟨hr, hk, h1, h2⟩ := err0 he.symm
  have hs := step_ok he.symm
  obtain ⟨q1, q2, q3, q4, q5, q6, q7, q8, q9⟩ := right_f hr
  refine ⟨fun hk1 => ?_, fun hk1 => ⟨by simp, ?_⟩⟩
  · have h1 := h1 hk1
    rw [hs]
    clear hs he hr h2 hk e0
    repeat' (first | with_reducible apply And.intro | with_reducible intro _)
    all_goals first
      | omega
      | grind
  have h2 := h2 (by omega)
  rw [hs, if_neg hk1]
  clear hs he hr h1 hk e0
  intro h q i i0 i1 hh hq _ _ _ _ _ _
  refine ⟨fun hi => ?_, fun hi => ?_⟩
  · have t1 := take_take_succ (v := v) i0 hi
    have t2 := take_take_same (v := v) i0 hi
    have t3 := drop_take_succ (v := v) i0 hi
    have t4 := drop_take_same (v := v) i0 hi
    have l1 : h.length ≤ 64 := by rw [hh, List.length_drop, List.length_take]; omega
    have l2 : q.length ≤ 64 := by rw [hq, List.length_take, List.length_take]; omega
    rw [← hh] at t3 t4
    rw [← hq] at t1 t2
    repeat' (first | with_reducible apply And.intro | with_reducible intro _)
    all_goals first
      | omega
      | (rw [t1 (by omega)]; done)
      | exact t2 (by omega)
      | (rw [t3 (by omega)]; done)
      | exact t4 (by omega)
  · rw [takeI_all (xs := l) (k := i) (by omega)] at hh hq
    have hl : q.length = min v.toNat l.length := by rw [hq, List.length_take]
    subst hh hq
    dsimp only
    repeat' (first | with_reducible apply And.intro | with_reducible intro _)
    all_goals first
      | omega
      | rfl
      | grind
theorem e_same (x : NI × NI × Unit) (_ : True) (hl : LensL cSame.as x) : E_same x := by
  obtain ⟨⟨a, b, c, d, e, f⟩, ⟨a', b', c', d', e', f'⟩, u⟩ := x
  have hlx : a.length ≤ 9223372036854775807 := hl.1.1.1
  unfold E_same
  simp only [Bool.not_eq_true', Bool.not_eq_false', Bool.not_eq_true, Bool.not_eq_false, beq_self_eq_true, decide_eq_true_eq, decide_eq_false_iff_not, Bool.not_false, Bool.not_true, beq_iff_eq, beq_eq_false_iff_ne, bne_iff_ne, ne_eq, bne_eq_false_iff_eq, holds_iff, true_and, and_true, and_self, eq_self, List.length_cons, List.length_nil, List.length_append, List.length_set, List.length_replicate, List.set_cons_zero, cond_true, cond_false, Bool.false_eq_true, Bool.true_eq_false, forall_const, false_imp_iff, imp_self, implies_true, and_imp, Decidable.not_not, Bool.and_eq_true, Bool.or_eq_true, Bool.and_eq_false_iff, Bool.or_eq_false_iff, ← List.length_eq_zero_iff, or_self, or_false, false_or, Prod.forall, Int.reduceEq, Int.reduceLT, Int.reduceLE, List.nil_append, Nat.zero_add, Int.toNat_zero, List.drop_zero, List.length_drop, List.length_take, not_true_eq_false, not_false_eq_true,  deq_iff, deq_false, Prod.mk.injEq]
  repeat' (first | with_reducible apply And.intro | with_reducible intro _)
  all_goals try omega
  all_goals grind [takeI_succ, takeI_all]
theorem e_steps (x : NI × (Int × Int) × Unit) (_ : True) (_ : LensL cLaw.as x) : E_steps x := by
  unfold E_steps
  simp only [Bool.not_eq_true', Bool.not_eq_false', Bool.not_eq_true, Bool.not_eq_false, beq_self_eq_true, decide_eq_true_eq, decide_eq_false_iff_not, Bool.not_false, Bool.not_true, beq_iff_eq, beq_eq_false_iff_ne, bne_iff_ne, ne_eq, bne_eq_false_iff_eq, holds_iff, true_and, and_true, and_self, eq_self, List.length_cons, List.length_nil, List.length_append, List.length_set, List.length_replicate, List.set_cons_zero, cond_true, cond_false, Bool.false_eq_true, Bool.true_eq_false, forall_const, false_imp_iff, imp_self, implies_true, and_imp, Decidable.not_not, Bool.and_eq_true, Bool.or_eq_true, Bool.and_eq_false_iff, Bool.or_eq_false_iff, ← List.length_eq_zero_iff, or_self, or_false, false_or, Prod.forall, Int.reduceEq, Int.reduceLT, Int.reduceLE, List.nil_append, Nat.zero_add, Int.toNat_zero, List.drop_zero, List.length_drop, List.length_take, not_true_eq_false, not_false_eq_true]
  try simp only [flip_f, flip_t, decide_eq_true_eq, decide_eq_false_iff_not]
theorem pre_steps (x : HL cLaw.as) (_ : GoodL cLaw.as x) (h : FitL cLaw.as x) : True := trivial

end Go.Proofs.Ytollphjlheabdaa.Nic
