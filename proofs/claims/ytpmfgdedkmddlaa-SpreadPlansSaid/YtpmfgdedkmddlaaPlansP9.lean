/-
  SpreadPlans: the merge in place.
-/
import Derived.Test.YtpmfgdedkmddlaaPlansP8
namespace Go.Proofs.Ytpmfgdedkmddlaa.Plans
open Go.Sx
set_option maxRecDepth 100000
set_option maxHeartbeats 1000000
set_option linter.unusedSimpArgs false
set_option linter.unusedVariables false

theorem e_sym (x : List Int × Int × Int × Int × List Int × Unit) (hp : (0 ≤ x.2.1 ∧ x.2.1 < x.2.2.1 ∧ x.2.2.1 < x.2.2.2.1 ∧ x.2.2.2.1 ≤ x.1.length ∧ x.1.length ≤ 400) ∧ okW x.2.2.2.2.1 x.1 ∧ down x.2.2.2.2.1 (seg x.1 x.2.1 x.2.2.1) ∧ down x.2.2.2.2.1 (seg x.1 x.2.2.1 x.2.2.2.1) ∧ apart (seg x.1 x.2.1 x.2.2.1) (seg x.1 x.2.2.1 x.2.2.2.1)) (hl : pSym.lens x) : E_sym x := by
  obtain ⟨x, a, m, b, w, u⟩ := x
  simp only [] at hp
  obtain ⟨⟨a0, am, mb, bl, l4⟩, hw, hA, hB, hap⟩ := hp
  clear hl
  have uA := fun i j h1 h2 h3 => down_wt (i := i) (j := j) hA a0 h1 h2 h3 (by omega)
  have uB := fun i j h1 h2 h3 => down_wt (i := i) (j := j) hB (by omega) h1 h2 h3 bl
  unfold E_sym
  simp only [half]
  simp only [Bool.not_eq_true', Bool.not_eq_false', Bool.not_eq_true, Bool.not_eq_false, beq_self_eq_true, decide_eq_true_eq, decide_eq_false_iff_not, Bool.not_false, Bool.not_true, beq_iff_eq, beq_eq_false_iff_ne, bne_iff_ne, ne_eq, bne_eq_false_iff_eq, holds_iff, true_and, and_true, and_self, eq_self, List.length_cons, List.length_nil, List.length_append, List.length_set, List.length_replicate, List.set_cons_zero, cond_true, cond_false, Bool.false_eq_true, Bool.true_eq_false, forall_const, false_imp_iff, imp_self, implies_true, and_imp, Decidable.not_not, Bool.and_eq_true, Bool.or_eq_true, Bool.and_eq_false_iff, Bool.or_eq_false_iff, ← List.length_eq_zero_iff, or_self, or_false, false_or, Prod.forall, Int.reduceEq, Int.reduceLT, Int.reduceLE, List.nil_append, Nat.zero_add, Int.toNat_zero, List.drop_zero, List.length_drop, List.length_take, not_true_eq_false, not_false_eq_true]
  try simp only [flip_f, flip_t, decide_eq_true_eq, decide_eq_false_iff_not]
  refine ⟨by omega, fun e1 => ?_, fun e1 => ⟨by omega, fun e2 => ?_, fun e2 => ?_⟩⟩
  · have e1' : m = a + 1 := by omega
    subst e1'
    refine ⟨⟨by omega, by omega, by omega, fun k k0 k1 => by omega, fun k k0 k1 => by omega⟩, ?_⟩
    rintro i j - i0 ij jb q1 q2 - - - -
    refine ⟨fun hij => ?_, fun hij => ?_⟩
    · have hij' : i < j := hij
      refine ⟨by omega, by omega, by omega, by omega, by omega, ⟨hw.1, hw.2.1, x_cmp hw (by omega) (by omega) (by omega) (by omega)⟩, fun hh => ?_, fun hh => ?_⟩
      · have hh' : wt w (x.getD a.toNat 0) - wt w (x.getD ((i + j) / 2).toNat 0) < (0 : Int) := of_decide_eq_true hh
        refine ⟨by omega, ⟨by omega, by omega, by omega, fun k k0 k1 => ?_, q2⟩, by omega⟩
        have t := uB k ((i + j) / 2) k0 (by omega) (by omega)
        unfold ahd
        omega
      · have hh' : ¬ wt w (x.getD a.toNat 0) - wt w (x.getD ((i + j) / 2).toNat 0) < (0 : Int) := of_decide_eq_false hh
        refine ⟨⟨by omega, by omega, by omega, q1, fun k k0 k1 => ?_⟩, by omega⟩
        have t := uB ((i + j) / 2) k (by omega) k0 k1
        unfold ahd
        omega
    · have hij' : ¬ i < j := hij
      have e : i = j := by omega
      subst e
      refine ⟨⟨by omega, by omega, (mvR_self a0 (by omega)).symm⟩, ?_⟩
      rintro g k k0 k1 rfl - - - -
      have hm := mvR_len (d := x) (i := a) (m := k) a0 k0 (by omega)
      refine ⟨by omega, fun hk => ?_, fun hk => ?_⟩
      · have hk' : k < i - 1 := hk
        refine ⟨by omega, by omega, by omega, by omega, by omega, by omega, by omega, ⟨by omega, by omega, ?_⟩, by omega⟩
        exact mvR_next a0 k0 (by omega)
      · have hk' : ¬ k < i - 1 := hk
        rw [show k = i - 1 by omega]
        exact sym_first a0 i0 (by omega) bl hB (fun k k0 k1 => apart_lt hap a0 (Int.le_refl a) (by omega) k0 k1 bl) q1 q2 (by omega)
  · have e2' : b = m + 1 := by omega
    subst e2'
    refine ⟨⟨by omega, by omega, by omega, fun k k0 k1 => by omega, fun k k0 k1 => by omega⟩, ?_⟩
    rintro i j - i0 ij jb q1 q2 - - - -
    refine ⟨fun hij => ?_, fun hij => ?_⟩
    · have hij' : i < j := hij
      refine ⟨by omega, by omega, by omega, by omega, by omega, ⟨hw.1, hw.2.1, x_cmp hw (by omega) (by omega) (by omega) (by omega)⟩, fun hh => ?_, fun hh => ?_⟩
      · have hh' : ¬ wt w (x.getD ((i + j) / 2).toNat 0) - wt w (x.getD m.toNat 0) < (0 : Int) := of_decide_eq_false hh
        refine ⟨by omega, ⟨by omega, by omega, by omega, fun k k0 k1 => ?_, q2⟩, by omega⟩
        have t := uA k ((i + j) / 2) k0 (by omega) (by omega)
        unfold ahd
        omega
      · have hh' : wt w (x.getD ((i + j) / 2).toNat 0) - wt w (x.getD m.toNat 0) < (0 : Int) := of_decide_eq_true hh
        refine ⟨⟨by omega, by omega, by omega, q1, fun k k0 k1 => ?_⟩, by omega⟩
        have t := uA ((i + j) / 2) k (by omega) k0 k1
        unfold ahd
        omega
    · have hij' : ¬ i < j := hij
      have e : i = j := by omega
      subst e
      refine ⟨⟨by omega, by omega, (mvL_self (by omega) (by omega)).symm⟩, ?_⟩
      rintro g k k0 k1 rfl - - - -
      have hm := mvL_len (d := x) (j := k) (i := m) (by omega) k1 (by omega)
      refine ⟨fun hk => ?_, fun hk => ?_⟩
      · have hk' : i < k := hk
        refine ⟨by omega, by omega, by omega, by omega, by omega, by omega, by omega, ⟨by omega, by omega, ?_⟩, by omega⟩
        exact mvL_next (by omega) k1 (by omega)
      · have hk' : ¬ i < k := hk
        rw [show k = i by omega]
        exact sym_last a0 i0 (by omega) bl hA (fun k k0 k1 => apart_lt hap a0 k0 k1 (Int.le_refl m) (by omega) bl) q1 q2
  · have c0 : 2 * ((a + b) / 2) ≤ a + b ∧ a + b ≤ 2 * ((a + b) / 2) + 1 := by omega
    refine ⟨by omega, by omega, by omega, by omega, ⟨fun h => ?_, fun h => ?_⟩, ?_⟩
    · have h' : (a + b) / 2 < m := of_decide_eq_true h
      exact ⟨by omega, Or.inl h'⟩
    · have h' : ¬ (a + b) / 2 < m := of_decide_eq_false h
      exact Or.inr h'
    · rintro s0 r0 hsr - - - -
      have hsr' : ((a + b) / 2 < m ∧ s0 = (a + b) / 2 + m - b ∧ r0 = (a + b) / 2) ∨ (¬ (a + b) / 2 < m ∧ s0 = a ∧ r0 = m) := hsr
      clear hsr
      refine ⟨by omega, ⟨by omega, by omega, by omega, fun k k0 k1 => by omega, fun k k0 k1 => by omega⟩, ?_⟩
      rintro i j - i0 ij jb q1 q2 - - - -
      refine ⟨fun hij => ?_, fun hij => ?_⟩
      · have hij' : i < j := hij
        refine ⟨by omega, by omega, by omega, by omega, by omega, by omega, ⟨hw.1, hw.2.1, x_cmp hw (by omega) (by omega) (by omega) (by omega)⟩, fun hh => ?_, fun hh => ?_⟩
        · have hh' : ¬ wt w (x.getD ((i + j) / 2).toNat 0) - wt w (x.getD ((a + b) / 2 + m - 1 - (i + j) / 2).toNat 0) < (0 : Int) := of_decide_eq_false hh
          refine ⟨by omega, ⟨by omega, by omega, by omega, fun k k0 k1 => ?_, q2⟩, by omega⟩
          have t := uA k ((i + j) / 2) (by omega) (by omega) (by omega)
          have t' := uB ((a + b) / 2 + m - 1 - (i + j) / 2) ((a + b) / 2 + m - 1 - k) (by omega) (by omega) (by omega)
          unfold ahd
          omega
        · have hh' : wt w (x.getD ((i + j) / 2).toNat 0) - wt w (x.getD ((a + b) / 2 + m - 1 - (i + j) / 2).toNat 0) < (0 : Int) := of_decide_eq_true hh
          refine ⟨⟨by omega, by omega, by omega, q1, fun k k0 k1 => ?_⟩, by omega⟩
          have t := uA ((i + j) / 2) k (by omega) (by omega) (by omega)
          have t' := uB ((a + b) / 2 + m - 1 - k) ((a + b) / 2 + m - 1 - (i + j) / 2) (by omega) (by omega) (by omega)
          unfold ahd
          omega
      · have hij' : ¬ i < j := hij
        have e : i = j := by omega
        subst e
        clear hij hij' ij
        have key := fun d1 h => sym_tail (w := w) (x := x) (a := a) (m := m) (b := b) (c := (a + b) / 2) (s := i) (e := (a + b) / 2 + m - i) a0 am mb bl hw hA hB hap
          (by omega) (by omega) (by omega) (by omega) (by omega)
          (fun h1 h2 => by
            have t := q1 (i - 1) (by omega) (by omega)
            rw [show (a + b) / 2 + m - 1 - (i - 1) = (a + b) / 2 + m - i by omega] at t
            exact t)
          (fun h1 h2 => by
            have t := q2 i (by omega) (by omega)
            rw [show (a + b) / 2 + m - 1 - i = (a + b) / 2 + m - i - 1 by omega] at t
            exact t) d1 h
        refine ⟨by omega, ⟨fun h1 h2 => ?_, fun h1 => ?_⟩, ?_⟩
        · have h1' : i < m := h1
          have h2' : m < (a + b) / 2 + m - i := of_decide_eq_true h2
          refine ⟨⟨⟨by omega, by omega, by omega, by omega⟩, l4⟩, ?_⟩
          exact (if_pos ⟨h1', h2'⟩).symm
        · have h1' : ¬ (i < m ∧ m < (a + b) / 2 + m - i) := by
            rintro ⟨h2, h3⟩
            rcases h1 with h1 | h1
            · exact h1 h2
            · exact (of_decide_eq_false h1) h3
          exact (if_neg h1').symm
        · intro d1 hd1 _ _
          obtain ⟨k1, ⟨k2, k3, k4, k5⟩, k6⟩ := key d1 hd1
          clear key hd1
          refine ⟨⟨fun h1 h2 => ?_, fun h1 => ?_⟩, ?_⟩
          · have h1' : a < i := h1
            have h2' : i < (a + b) / 2 := of_decide_eq_true h2
            refine ⟨⟨⟨⟨by omega, by omega, by omega, by omega, by omega⟩, k2, k3, k4, k5⟩, by omega⟩, ?_⟩
            exact (if_pos ⟨h1', h2'⟩).symm
          · have h1' : ¬ (a < i ∧ i < (a + b) / 2) := by
              rintro ⟨h2, h3⟩
              rcases h1 with h1 | h1
              · exact h1 h2
              · exact (of_decide_eq_false h1) h3
            exact (if_neg h1').symm
          · intro d2 hd2 _ _
            obtain ⟨k7, ⟨l1, l2, l3, l5⟩, l6, l7⟩ := k6 d2 hd2
            clear k6 hd2
            refine ⟨fun h1 h2 => ?_, fun h1 => ?_⟩
            · have h1' : (a + b) / 2 < (a + b) / 2 + m - i := of_decide_eq_true h1
              have h2' : (a + b) / 2 + m - i < b := of_decide_eq_true h2
              exact ⟨⟨⟨⟨by omega, by omega, by omega, by omega, by omega⟩, l1, l2, l3, l5⟩, by omega⟩, l6⟩
            · refine l7 ?_
              rintro ⟨h2, h3⟩
              rcases h1 with h1 | h1
              · exact (of_decide_eq_false h1) h2
              · exact (of_decide_eq_false h1) h3

end Go.Proofs.Ytpmfgdedkmddlaa.Plans
