/-
  BenchReads: line by line, as the program and as the document read a text.
-/
import Derived.Test.YtjafnenkgmbgaaaDoorBenchP3
namespace Go.Proofs.YtjafnenkgmbgaaaDoor.Bench
open Go.Sx
set_option maxRecDepth 100000
set_option maxHeartbeats 1000000
set_option linter.unusedSimpArgs false
set_option linter.unusedVariables false

theorem parseO_nil (f : Nat) (k : Int) (o : List KO) : parseO (f + 1) [] k o = (o, 0, 0) := by
  rw [parseO, if_pos rfl]
theorem parseO_bad {f : Nat} {s : List Int} {k : Int} {o : List KO} (hs : s ≠ []) (h : cutC s [10] = false ∨ (readB (cutA s [10])).2 = false) : parseO (f + 1) s k o = ([], k, 1) := by
  rw [parseO, if_neg hs, if_pos h]
theorem parseO_good {f : Nat} {s : List Int} {k : Int} {o : List KO} (hs : s ≠ []) (h1 : cutC s [10] = true) (h2 : (readB (cutA s [10])).2 = true) :
    parseO (f + 1) s k o = parseO f (cutB s [10]) (k + 1) (o ++ [(readB (cutA s [10])).1]) := by
  rw [parseO, if_neg hs, if_neg (by rw [h1, h2]; simp)]
theorem cutB_less {s : List Int} (hs : ∀ b ∈ s, 0 ≤ b ∧ b ≤ 255) (h : cutC s [10] = true) : (cutB s [10]).length < s.length ∧ ∀ b ∈ cutB s [10], 0 ≤ b ∧ b ≤ 255 := by
  rcases split_at 10 s with hn | ⟨p, r, e, hn⟩
  · rw [(cut_miss hs (by omega) hn).2.2] at h
    cases h
  · have hp : ∀ b ∈ p, 0 ≤ b ∧ b ≤ 255 := fun b hb => hs b (by rw [e]; exact List.mem_append_left _ hb)
    have hr : ∀ b ∈ r, 0 ≤ b ∧ b ≤ 255 := fun b hb => hs b (by rw [e]; exact List.mem_append_right _ (List.mem_cons_of_mem _ hb))
    rw [e, (cut_hit hp hr (by omega) hn).2.1]
    refine ⟨?_, hr⟩
    rw [List.length_append, List.length_cons]
    omega
theorem parseO_fuel : ∀ (n f : Nat) (s : List Int) (k : Int) (o : List KO), s.length ≤ n → (∀ b ∈ s, 0 ≤ b ∧ b ≤ 255) → s.length < f → parseO f s k o = parseO (s.length + 1) s k o
  | n, 0, s, k, o, _, _, h => by omega
  | n, f + 1, s, k, o, hn, hs, h => by
    by_cases h0 : s = []
    · rw [h0, parseO_nil, parseO_nil]
    · by_cases h1 : cutC s [10] = false ∨ (readB (cutA s [10])).2 = false
      · rw [parseO_bad h0 h1, parseO_bad h0 h1]
      · have h2 : cutC s [10] = true := by
          cases e : cutC s [10] with
          | true => rfl
          | false => exact absurd (Or.inl e) h1
        have h3 : (readB (cutA s [10])).2 = true := by
          cases e : (readB (cutA s [10])).2 with
          | true => rfl
          | false => exact absurd (Or.inr e) h1
        have hc := cutB_less hs h2
        rw [parseO_good h0 h2 h3, parseO_good h0 h2 h3]
        cases n with
        | zero =>
          have : s = [] := List.length_eq_zero_iff.1 (by omega)
          exact absurd this h0
        | succ n =>
          rw [parseO_fuel n f _ _ _ (by omega) hc.2 (by omega), parseO_fuel n s.length _ _ _ (by omega) hc.2 (by omega)]
theorem e_parse (x : List Int × Unit) (hp : x.1.length ≤ 1048576) (hl : LensL cParse.as x) : E_parse x := by
  obtain ⟨s, u⟩ := x
  have hp : s.length ≤ 1048576 := hp
  unfold E_parse
  simp only [pair_eta]
  simp only [Bool.not_eq_true', Bool.not_eq_false', Bool.not_eq_true, Bool.not_eq_false, beq_self_eq_true, decide_eq_true_eq, decide_eq_false_iff_not, Bool.not_false, Bool.not_true, beq_iff_eq, beq_eq_false_iff_ne, bne_iff_ne, ne_eq, bne_eq_false_iff_eq, holds_iff, true_and, and_true, and_self, eq_self, List.length_cons, List.length_nil, List.length_append, List.length_set, List.length_replicate, List.set_cons_zero, cond_true, cond_false, Bool.false_eq_true, Bool.true_eq_false, forall_const, false_imp_iff, imp_self, implies_true, and_imp, Decidable.not_not, Bool.and_eq_true, Bool.or_eq_true, Bool.and_eq_false_iff, Bool.or_eq_false_iff, ← List.length_eq_zero_iff, or_self, or_false, false_or, Prod.forall, Int.reduceEq, Int.reduceLT, Int.reduceLE, List.nil_append, Nat.zero_add, Int.toNat_zero, List.drop_zero, List.length_drop, List.length_take, not_true_eq_false, not_false_eq_true,  RR_eq, pair_eta]
  refine ⟨⟨by omega, rfl, rfl⟩, fun r o k h0 h1 h2 h3 _ hr _ _ _ _ => ⟨fun hne => ?_, fun h => ?_⟩⟩
  · have hne' : r ≠ [] := fun e => hne (by rw [e]; rfl)
    have hcl := pcut_len r [10]
    refine ⟨by omega, by omega, fun hb => ?_, fun h4 h5 => ?_⟩
    · rw [h3, parseO_bad hne' hb]
      exact ⟨rfl, rfl, rfl⟩
    · have hc := cutB_less hr h4
      refine ⟨by omega, by omega, ⟨by omega, by omega, by omega, ?_⟩, hc.1⟩
      rw [h3, parseO_good hne' h4 h5, parseO_fuel r.length r.length _ _ _ (by omega) hc.2 hc.1]
  · have : r = [] := List.length_eq_zero_iff.1 h
    rw [h3, this, parseO_nil]
    exact ⟨rfl, rfl, rfl⟩
theorem drop_split {s : List Int} {a b : Int} (h0 : 0 ≤ a) (h1 : a ≤ b) (h2 : b < s.length) : s.drop a.toNat = (s.take b.toNat).drop a.toNat ++ s.getD b.toNat 0 :: s.drop (b + 1).toNat := by
  have e1 : s = s.take b.toNat ++ s.getD b.toNat 0 :: s.drop (b + 1).toNat := by
    have e2 : (b + 1).toNat = b.toNat + 1 := by omega
    have h3 : b.toNat < s.length := by omega
    rw [e2]
    have : s.getD b.toNat 0 = s[b.toNat] := by simp [h3]
    rw [this, ← List.drop_eq_getElem_cons h3, List.take_append_drop]
  have hl : (s.take b.toNat).length = b.toNat := by rw [List.length_take]; omega
  have := congrArg (List.drop a.toNat) e1
  rw [List.drop_append, hl, show a.toNat - b.toNat = 0 by omega, List.drop_zero] at this
  exact this
theorem take_drop' {s : List Int} {a b : Int} (h0 : 0 ≤ a) (h1 : a ≤ b) : (s.drop a.toNat).take (b - a).toNat = (s.take b.toNat).drop a.toNat := by
  rw [List.drop_take, show (b - a).toNat = b.toNat - a.toNat by omega]
theorem e_zparse (x : List Int × Unit) (hp : x.1.length ≤ 1048576) (hl : LensL cParse.as x) : E_zparse x := by
  obtain ⟨s, u⟩ := x
  have hp : s.length ≤ 1048576 := hp
  have hs : ∀ b ∈ s, (0 : Int) ≤ b ∧ b ≤ 255 := hl.1.2
  unfold E_zparse
  simp only [pair_eta]
  simp only [Bool.not_eq_true', Bool.not_eq_false', Bool.not_eq_true, Bool.not_eq_false, beq_self_eq_true, decide_eq_true_eq, decide_eq_false_iff_not, Bool.not_false, Bool.not_true, beq_iff_eq, beq_eq_false_iff_ne, bne_iff_ne, ne_eq, bne_eq_false_iff_eq, holds_iff, true_and, and_true, and_self, eq_self, List.length_cons, List.length_nil, List.length_append, List.length_set, List.length_replicate, List.set_cons_zero, cond_true, cond_false, Bool.false_eq_true, Bool.true_eq_false, forall_const, false_imp_iff, imp_self, implies_true, and_imp, Decidable.not_not, Bool.and_eq_true, Bool.or_eq_true, Bool.and_eq_false_iff, Bool.or_eq_false_iff, ← List.length_eq_zero_iff, or_self, or_false, false_or, Prod.forall, Int.reduceEq, Int.reduceLT, Int.reduceLE, List.nil_append, Nat.zero_add, Int.toNat_zero, List.drop_zero, List.length_drop, List.length_take, not_true_eq_false, not_false_eq_true,  RR_eq, pair_eta]
  refine ⟨⟨by omega, by omega, by simp, rfl⟩, fun o f k h0 h1 h2 h3 h4 h5 _ _ _ _ _ _ => ⟨fun h6 => ⟨by omega, fun h7 => ⟨by omega, ⟨h0, by omega, by omega, h3, ?_, h5⟩, by omega⟩, fun h7 => ?_⟩, fun h6 => ?_⟩⟩
  · rw [take_drop' h0 (by omega), takeI_succ 0 (by omega) h6]
    rw [take_drop' h0 h1] at h4
    rw [List.drop_append]
    intro hm
    rcases List.mem_append.1 hm with hm | hm
    · exact h4 hm
    · have := List.mem_singleton.1 (List.mem_of_mem_drop hm)
      exact h7 this.symm
  · rw [take_drop' h0 h1] at h4
    have hd := drop_split h0 h1 h6
    rw [h7] at hd
    have hp' : ∀ b ∈ (s.take k.toNat).drop f.toNat, (0 : Int) ≤ b ∧ b ≤ 255 := fun b hb => hs b (List.mem_of_mem_take (List.mem_of_mem_drop hb))
    have hr' : ∀ b ∈ s.drop (k + 1).toNat, (0 : Int) ≤ b ∧ b ≤ 255 := fun b hb => hs b (List.mem_of_mem_drop hb)
    have hc := cut_hit hp' hr' (c := 10) (by omega) h4
    rw [← hd] at hc
    have hne : s.drop f.toNat ≠ [] := by rw [hd]; simp
    have hz := zread_read ((s.take k.toNat).drop f.toNat)
    refine ⟨by omega, by omega, fun h8 => ?_, fun h8 => ⟨by omega, by omega, by omega, ⟨by omega, by omega, by omega, by omega, by simp, ?_⟩, by omega⟩⟩
    · rw [h5, parseO_bad hne (Or.inr (by rw [hc.1, ← hz.1]; exact h8))]
      exact ⟨rfl, rfl, rfl⟩
    · have h9 : (readB ((s.take k.toNat).drop f.toNat)).2 = true := by rw [← hz.1]; exact h8
      rw [h5, parseO_good hne hc.2.2 (by rw [hc.1]; exact h9), hc.1, hc.2.1, hz.2 h9]
      have hlen : (s.drop (k + 1).toNat).length = s.length - (k + 1).toNat := List.length_drop
      have := parseO_fuel s.length (s.length - f.toNat) (s.drop (k + 1).toNat) (o.length + 1 : Int) (o ++ [(readB ((s.take k.toNat).drop f.toNat)).1]) (by omega) hr' (by omega)
      rw [hlen] at this
      rw [this]
      rfl
  · have hk : k = s.length := by omega
    rw [hk] at h4
    have hz : (s.drop f.toNat).take ((s.length : Int) - f).toNat = s.drop f.toNat := List.take_of_length_le (by rw [List.length_drop]; omega)
    rw [hz] at h4
    refine ⟨fun h7 => ?_, fun h7 => ?_⟩
    · have hne : s.drop f.toNat ≠ [] := fun e => by
        have := congrArg List.length e
        rw [List.length_drop] at this
        simp at this
        omega
      have hc := cut_miss (p := s.drop f.toNat) (c := 10) (fun b hb => hs b (List.mem_of_mem_drop hb)) (by omega) h4
      rw [h5, parseO_bad hne (Or.inl hc.2.2)]
      exact ⟨rfl, rfl, rfl⟩
    · have : s.drop f.toNat = [] := List.drop_eq_nil_of_le (by omega)
      rw [h5, this, parseO_nil]
      exact ⟨rfl, rfl, rfl⟩

end Go.Proofs.YtjafnenkgmbgaaaDoor.Bench
