/-
  LiftMerges: the functions, and the law.
-/
import Derived.Test.YtpnmfoojmodnlaaLiftmP1
namespace Go.Proofs.Ytpnmfoojmodnlaa.Liftm
open Go.Sx
set_option maxRecDepth 100000
set_option maxHeartbeats 1000000
set_option linter.unusedSimpArgs false
set_option linter.unusedVariables false

theorem takeI_succ {α : Type} (d : α) {l : List α} {k : Int} (h0 : 0 ≤ k) (h1 : k < l.length) : l.take (k + 1).toNat = l.take k.toNat ++ [l.getD k.toNat d] := by
  have e : (k + 1).toNat = k.toNat + 1 := by omega
  have hlt : k.toNat < l.length := by omega
  rw [e, List.take_add_one, List.getElem?_eq_getElem hlt]
  simp [hlt]
theorem takeI_all {α : Type} {l : List α} {k : Int} (h : (l.length : Int) ≤ k) : l.take k.toNat = l := List.take_of_length_le (by omega)
theorem deq_f {x y : Int × Int} : (deq tySpan x y = false) = (x ≠ y) := by
  rw [ne_eq, ← deq_iff (t := tySpan) (x := x) (y := y)]
  simp
theorem e_equal (x : List (Int × Int) × List (Int × Int) × Unit) (_ : True) (hl : LensL cEqual.as x) : E_equal x := by
  obtain ⟨xs, ys, u⟩ := x
  have hlx : xs.length ≤ 9223372036854775807 := hl.1.1
  unfold E_equal
  simp only [Bool.not_eq_true', Bool.not_eq_false', Bool.not_eq_true, Bool.not_eq_false, beq_self_eq_true, decide_eq_true_eq, decide_eq_false_iff_not, Bool.not_false, Bool.not_true, beq_iff_eq, beq_eq_false_iff_ne, bne_iff_ne, ne_eq, bne_eq_false_iff_eq, holds_iff, true_and, and_true, and_self, eq_self, List.length_cons, List.length_nil, List.length_append, List.length_set, List.length_replicate, List.set_cons_zero, cond_true, cond_false, Bool.false_eq_true, Bool.true_eq_false, forall_const, false_imp_iff, imp_self, implies_true, and_imp, Decidable.not_not, Bool.and_eq_true, Bool.or_eq_true, Bool.and_eq_false_iff, Bool.or_eq_false_iff, ← List.length_eq_zero_iff, or_self, or_false, false_or, Prod.forall, Int.reduceEq, Int.reduceLT, Int.reduceLE, List.nil_append, Nat.zero_add, Int.toNat_zero, List.drop_zero, List.length_drop, List.length_take, not_true_eq_false, not_false_eq_true,  deq_iff, deq_f, pair_eta]
  repeat' (first | with_reducible apply And.intro | with_reducible intro _)
  all_goals try omega
  all_goals grind [takeI_succ, takeI_all]
theorem okP_iff {p : Sp} : okP p = true ↔ ¬ p.1 < 0 ∧ ¬ p.2 ≤ p.1 ∧ ¬ 1099511627776 < p.2 := by
  unfold okP
  simp only [Bool.and_eq_true, decide_eq_true_eq]
  omega
theorem all_bad {l : List Sp} {k : Nat} (h : k < l.length) (hb : okP (l.getD k (0, 0)) = false) : l.all okP = false := by
  rw [List.all_eq_false]
  refine ⟨l.getD k (0, 0), ?_, by rw [hb]; decide⟩
  rw [List.getD_eq_getElem?_getD, List.getElem?_eq_getElem h]
  exact List.getElem_mem h
theorem all_next {l : List Sp} {k : Int} (h0 : 0 ≤ k) (h : k < l.length) (ha : (l.take k.toNat).all okP = true) (h1 : okP (l.getD k.toNat (0, 0)) = true) : (l.take (k + 1).toNat).all okP = true := by
  rw [takeI_succ (0, 0) h0 h, List.all_append, ha, List.all_cons, h1]
  rfl
theorem merge_bad {l : List Sp} (h : bad l) : merge l = ([], 2) ∧ smerge l = ([], 2) := ⟨if_pos h, if_pos h⟩
theorem merge_ok {l : List Sp} (h : ¬ bad l) : merge l = (mergeP l, 0) ∧ smerge l = (sortS (l.foldl insP []), 0) := ⟨if_neg h, if_neg h⟩
theorem fold_next {α : Type} {f : α → Sp → α} {a : α} {l : List Sp} {k : Int} (h0 : 0 ≤ k) (h : k < l.length) : (l.take (k + 1).toNat).foldl f a = f ((l.take k.toNat).foldl f a) (l.getD k.toNat (0, 0)) := by
  rw [takeI_succ (0, 0) h0 h, List.foldl_append]
  rfl
theorem mlen : ∀ {s out : List Sp}, (s.foldl mStep out).length ≤ out.length + s.length
  | [], out => by simp
  | x :: s, out => by
    rw [List.foldl_cons]
    have := mlen (s := s) (out := mStep out x)
    have h2 : (mStep out x).length ≤ out.length + 1 := by
      unfold mStep
      split <;> simp
    rw [List.length_cons]
    omega
theorem not_bad {l : List Sp} (h : ¬ 400 < (l.length : Int)) (ha : l.all okP = true) : ¬ bad l := by
  unfold bad
  rintro (h' | h')
  · omega
  · rw [ha] at h'; cases h'
theorem e_merge (x : List (Int × Int) × Unit) (hp : True) (hl : LensL cMerge.as x) : E_merge x := by
  obtain ⟨l, u⟩ := x
  unfold E_merge
  simp only [Bool.not_eq_true', Bool.not_eq_false', Bool.not_eq_true, Bool.not_eq_false, beq_self_eq_true, decide_eq_true_eq, decide_eq_false_iff_not, Bool.not_false, Bool.not_true, beq_iff_eq, beq_eq_false_iff_ne, bne_iff_ne, ne_eq, bne_eq_false_iff_eq, holds_iff, true_and, and_true, and_self, eq_self, List.length_cons, List.length_nil, List.length_append, List.length_set, List.length_replicate, List.set_cons_zero, cond_true, cond_false, Bool.false_eq_true, Bool.true_eq_false, forall_const, false_imp_iff, imp_self, implies_true, and_imp, Decidable.not_not, Bool.and_eq_true, Bool.or_eq_true, Bool.and_eq_false_iff, Bool.or_eq_false_iff, ← List.length_eq_zero_iff, or_self, or_false, false_or, Prod.forall, Int.reduceEq, Int.reduceLT, Int.reduceLE, List.nil_append, Nat.zero_add, Int.toNat_zero, List.drop_zero, List.length_drop, List.length_take, not_true_eq_false, not_false_eq_true]
  try simp only [flip_f, flip_t, decide_eq_true_eq, decide_eq_false_iff_not]
  refine ⟨fun hlen => ?_, fun hlen => ?_⟩
  · rw [(merge_bad (l := l) (Or.inl (by omega))).1]
    exact ⟨rfl, rfl⟩
  · refine ⟨⟨by omega, by simp⟩, ?_⟩
    intro k k0 k1 hall _ _
    refine ⟨fun hk => ?_, fun hk => ?_⟩
    · have hb := all_bad (l := l) (k := k.toNat) (by omega)
      have hn := all_next k0 hk hall
      have hi := okP_iff (p := l.getD k.toNat (0, 0))
      generalize l.getD k.toNat (0, 0) = c at hb hn hi ⊢
      have hbad : (c.1 < 0 ∨ c.2 ≤ c.1) ∨ 1099511627776 < c.2 → merge l = ([], 2) := fun hc => (merge_bad (Or.inr (hb (by
        cases hcc : okP c
        · rfl
        · have := hi.1 hcc; omega)))).1
      have hgood : ¬ c.1 < 0 → ¬ c.2 ≤ c.1 → ¬ 1099511627776 < c.2 → (l.take (k + 1).toNat).all okP = true := fun h1 h2 h3 => hn (hi.2 ⟨h1, h2, h3⟩)
      repeat' (first | with_reducible apply And.intro | with_reducible intro _)
      all_goals first
        | omega
        | assumption
        | (rw [hbad (by omega)])
        | (exact hgood (by omega) (by omega) (by omega))
        | trace_state
    · rw [takeI_all (by omega)] at hall
      have hnb := not_bad (l := l) (by omega) hall
      rw [(merge_ok hnb).1]
      have hsl := (sortS_pm l).length_eq
      refine ⟨⟨by omega, ?_⟩, ⟨by omega, by simp⟩, ?_⟩
      · rw [List.all_eq_true] at hall ⊢
        exact fun x hx => okP_S (hall x hx)
      · intro o j j0 j1 ho _ _ _ _
        have hol := mlen (s := (sortS l).take j.toNat) (out := [])
        rw [← ho] at hol
        simp only [List.length_nil, List.length_take] at hol
        refine ⟨fun hj => ?_, fun hj => ?_⟩
        · have hn := fold_next (f := mStep) (a := []) j0 hj
          rw [← ho] at hn
          generalize (sortS l).getD j.toNat (0, 0) = c at hn ⊢
          have hlp : o.getD ((o.length : Int) - 1).toNat (0, 0) = lastP o := by
            unfold lastP; congr 1; omega
          have hset : ((o.length : Int) - 1).toNat = o.length - 1 := by omega
          simp only [hlp]
          simp only [hset]
          have hs1 : 0 < o.length → c.1 ≤ (lastP o).2 → o.set (o.length - 1) ((lastP o).1, max (lastP o).2 c.2) = ((sortS l).take (j + 1).toNat).foldl mStep [] := fun h1 h2 => by
            rw [hn]; unfold mStep; rw [if_pos ⟨h1, h2⟩]
          have hs2 : ¬ (0 < o.length ∧ c.1 ≤ (lastP o).2) → o ++ [(c.1, c.2)] = ((sortS l).take (j + 1).toNat).foldl mStep [] := fun h1 => by
            rw [hn]; unfold mStep; rw [if_neg h1]
          repeat' (first | with_reducible apply And.intro | with_reducible intro _)
          all_goals first
            | omega
            | assumption
            | (exact hs1 (by omega) (by assumption))
            | (exact hs2 (by omega))
            | trace_state
        · rw [takeI_all (by omega)] at ho
          exact ⟨ho, rfl⟩
theorem e_smerge (x : List (Int × Int) × Unit) (hp : True) (hl : LensL cSmerge.as x) : E_smerge x := by
  obtain ⟨l, u⟩ := x
  unfold E_smerge
  simp only [Bool.not_eq_true', Bool.not_eq_false', Bool.not_eq_true, Bool.not_eq_false, beq_self_eq_true, decide_eq_true_eq, decide_eq_false_iff_not, Bool.not_false, Bool.not_true, beq_iff_eq, beq_eq_false_iff_ne, bne_iff_ne, ne_eq, bne_eq_false_iff_eq, holds_iff, true_and, and_true, and_self, eq_self, List.length_cons, List.length_nil, List.length_append, List.length_set, List.length_replicate, List.set_cons_zero, cond_true, cond_false, Bool.false_eq_true, Bool.true_eq_false, forall_const, false_imp_iff, imp_self, implies_true, and_imp, Decidable.not_not, Bool.and_eq_true, Bool.or_eq_true, Bool.and_eq_false_iff, Bool.or_eq_false_iff, ← List.length_eq_zero_iff, or_self, or_false, false_or, Prod.forall, Int.reduceEq, Int.reduceLT, Int.reduceLE, List.nil_append, Nat.zero_add, Int.toNat_zero, List.drop_zero, List.length_drop, List.length_take, not_true_eq_false, not_false_eq_true]
  try simp only [flip_f, flip_t, decide_eq_true_eq, decide_eq_false_iff_not]
  refine ⟨fun hlen => ?_, fun hlen => ?_⟩
  · rw [(merge_bad (l := l) (Or.inl (by omega))).2]
    exact ⟨rfl, rfl⟩
  · refine ⟨⟨by omega, by simp, by simp⟩, ?_⟩
    intro o k k0 k1 hall ho _ _ _ _
    have hallP : ∀ y ∈ l.take k.toNat, okP y = true := fun y hy => List.all_eq_true.1 hall y hy
    obtain ⟨oa1, oa2, oa3, _⟩ := insl_ok (l := l.take k.toNat) (out := []) ⟨by simp, by simp⟩ (by simp) hallP
    rw [← ho] at oa1 oa2 oa3
    simp only [List.length_nil, List.length_take] at oa3
    refine ⟨fun hk => ?_, fun hk => ?_⟩
    · have hb := all_bad (l := l) (k := k.toNat) (by omega)
      have hn := all_next k0 hk hall
      have hi := okP_iff (p := l.getD k.toNat (0, 0))
      have hf := fold_next (f := insP) (a := []) k0 hk
      rw [← ho] at hf
      generalize l.getD k.toNat (0, 0) = c at hb hn hi hf ⊢
      refine ⟨by omega, fun hc => ?_, fun g1 g2 g3 => ?_⟩
      · rw [(merge_bad (l := l) (Or.inr (hb (by
          cases hcc : okP c
          · rfl
          · have := hi.1 hcc; omega)))).2]
        exact ⟨rfl, rfl⟩
      · have hcp := hi.2 ⟨g1, by omega, by omega⟩
        refine ⟨⟨by omega, by simp⟩, ?_⟩
        intro p1 p2 a j j0 j1 hj _ _ _ _ _ _ _ _
        refine ⟨fun hjl => ?_, fun hjl => ?_⟩
        · have hfi := fold_next (f := iStep) (a := (([], (c.1, c.2)) : List Sp × Sp)) j0 hjl
          rw [hj] at hfi
          have hcc : (o.take j.toNat).foldl iStep ([], (c.1, c.2)) = (a, (p1, p2)) := hj
          have hal : a.length ≤ j.toNat := by
            obtain ⟨_, _, _, _, _, r6, _⟩ := inner_ok (out := o.take j.toNat) (a := []) (s := (c.1, c.2)) ⟨fun p hp => oa1.1 p (List.mem_of_mem_take hp), oa1.2.sublist (List.take_sublist _ _)⟩ (by simp) (okP_lt hcp) (fun p hp => oa2 p (List.mem_of_mem_take hp)) hcp
            rw [hcc] at r6
            simp only [List.length_nil, List.length_take] at r6
            omega
          generalize o.getD j.toNat (0, 0) = d at hfi ⊢
          have h1 : d.2 < p1 ∨ p2 < d.1 → (o.take (j + 1).toNat).foldl iStep ([], (c.1, c.2)) = (a ++ [(d.1, d.2)], (p1, p2)) := fun h => by
            rw [hfi]; unfold iStep; rw [if_pos h]
          have h2 : ¬ (d.2 < p1 ∨ p2 < d.1) → (o.take (j + 1).toNat).foldl iStep ([], (c.1, c.2)) = (a, (min p1 d.1, max p2 d.2)) := fun h => by
            rw [hfi]; unfold iStep; rw [if_neg h]
          clear hfi hj hcc ho hf oa1 oa2 hall hallP
          repeat' (first | with_reducible apply And.intro | with_reducible intro _)
          all_goals first
            | omega
            | assumption
            | (exact h1 (by omega))
            | (exact h2 (by omega))
            | trace_state
        · rw [takeI_all (by omega)] at hj
          have hjj : o.foldl iStep ([], c) = (a, (p1, p2)) := hj
          obtain ⟨_, _, _, _, _, r6, _⟩ := inner_ok (out := o) (a := []) (s := c) oa1 (by simp) (okP_lt hcp) oa2 hcp
          rw [hjj] at r6
          simp only [List.length_nil] at r6
          have hins : a ++ [(p1, p2)] = (l.take (k + 1).toNat).foldl insP [] := by
            rw [hf]; unfold insP; rw [hjj]
          have hn2 := hn hcp
          clear hf hj hjj ho oa1 oa2 hall hallP
          repeat' (first | with_reducible apply And.intro | with_reducible intro _)
          all_goals first
            | omega
            | assumption
            | trace_state
    · rw [takeI_all (by omega)] at hall ho
      have hnb := not_bad (l := l) (by omega) hall
      rw [(merge_ok hnb).2]
      refine ⟨⟨by omega, ?_⟩, by rw [ho], rfl⟩
      rw [List.all_eq_true]
      exact fun y hy => okP_S (oa2 y hy)
theorem e_law (x : List (Int × Int) × Unit) (hp : True) (hl : LensL cLaw.as x) : E_law x := by
  obtain ⟨l, u⟩ := x
  unfold E_law
  by_cases hb : bad l
  · rw [(merge_bad hb).1, (merge_bad hb).2]
    simp [holds_iff]
  · have hall : ∀ x ∈ l, okP x = true := by
      intro x hx
      have h2 : l.all okP = true := by
        rcases h : l.all okP with _ | _
        · exact absurd (Or.inr h) hb
        · rfl
      exact List.all_eq_true.1 h2 x hx
    rw [(merge_ok hb).1, (merge_ok hb).2, merge_eq hall]
    simp [holds_iff]
theorem pre_law (x : HL cLaw.as) (_ : GoodL cLaw.as x) (_ : FitL cLaw.as x) : True := trivial

end Go.Proofs.Ytpnmfoojmodnlaa.Liftm
