/-
  SpreadBest: the last conditions.
-/
import Derived.Test.YtpmfgdedkmddlaaBestP2
namespace Go.Proofs.Ytpmfgdedkmddlaa.Best
open Go.Sx
set_option maxRecDepth 100000
set_option maxHeartbeats 1000000
set_option linter.unusedSimpArgs false
set_option linter.unusedVariables false

theorem wrong_ok {l : List Int} {c : Int} (h : wrong l c = 0) : 1 ≤ c ∧ c ≤ 8 ∧ l.length ≤ 400 ∧ l.all inS = true := by
  unfold wrong at h
  split at h
  · omega
  · rename_i h1
    refine ⟨by omega, by omega, by omega, ?_⟩
    cases e : l.all inS
    · exact absurd (.inr (.inr (.inr e))) h1
    · rfl
theorem within_zero (n : Nat) : within 0 (List.replicate n 0) := fun y hy => by
  have := List.eq_of_mem_replicate hy
  omega
theorem e_best (x : List Int × Int × Unit) (hp : True) (hl : LensL cBest.as x) : E_best x := by
  obtain ⟨l, c, u⟩ := x
  have hlen : l.length ≤ 9223372036854775807 := hl.1.1
  unfold E_best
  simp only [Bool.not_eq_true', Bool.not_eq_false', Bool.not_eq_true, Bool.not_eq_false, beq_self_eq_true, decide_eq_true_eq, decide_eq_false_iff_not, Bool.not_false, Bool.not_true, beq_iff_eq, beq_eq_false_iff_ne, bne_iff_ne, ne_eq, bne_eq_false_iff_eq, holds_iff, true_and, and_true, and_self, eq_self, List.length_cons, List.length_nil, List.length_append, List.length_set, List.length_replicate, List.set_cons_zero, cond_true, cond_false, Bool.false_eq_true, Bool.true_eq_false, forall_const, false_imp_iff, imp_self, implies_true, and_imp, Decidable.not_not, Bool.and_eq_true, Bool.or_eq_true, Bool.and_eq_false_iff, Bool.or_eq_false_iff, ← List.length_eq_zero_iff, or_self, or_false, false_or, Prod.forall, Int.reduceEq, Int.reduceLT, Int.reduceLE, List.nil_append, Nat.zero_add, Int.toNat_zero, List.drop_zero, List.length_drop, List.length_take, not_true_eq_false, not_false_eq_true]
  try simp only [flip_f, flip_t, decide_eq_true_eq, decide_eq_false_iff_not]
  refine ⟨fun h => ?_, fun h => ⟨fun h9 => ?_, fun h9 => ?_⟩⟩
  · unfold best; rw [if_pos h]; exact ⟨rfl, rfl⟩
  · unfold best; rw [if_neg (by omega), if_pos (by omega)]; exact ⟨rfl, rfl⟩
  · obtain ⟨h1, h2, h3, h4⟩ := wrong_ok h
    have hw := within_zero c.toNat
    unfold best; rw [if_neg (by omega), if_neg (by omega)]
    repeat' (first | with_reducible apply And.intro | with_reducible intro _)
    all_goals first | omega | assumption | rfl
theorem pow_mono {m : Int} (hm : 1 ≤ m) : ∀ {i j : Nat}, i ≤ j → 1 ≤ m ^ i ∧ m ^ i ≤ m ^ j := fun {i j} h => by
  obtain ⟨d, rfl⟩ := Nat.exists_eq_add_of_le h
  have key : ∀ n : Nat, 1 ≤ m ^ n := fun n => by
    induction n with
    | zero => simp
    | succ n ih =>
      rw [Int.pow_succ]
      have : m ^ n * 1 ≤ m ^ n * m := Int.mul_le_mul_of_nonneg_left hm (by omega)
      omega
  refine ⟨key i, ?_⟩
  rw [Int.pow_add]
  have h1 := key i
  have : m ^ i * 1 ≤ m ^ i * m ^ d := Int.mul_le_mul_of_nonneg_left (key d) (by omega)
  omega
theorem pow_next {m k : Int} (h : 0 ≤ k) : m ^ (k + 1).toNat = m ^ k.toNat * m := by
  rw [show (k + 1).toNat = k.toNat + 1 by omega, Int.pow_succ]
theorem e_ebest (x : List Int × Int × Unit) (hp : (1 ≤ x.2.1 ∧ x.2.1 ≤ 8) ∧ (x.1.length ≤ 9 ∧ x.1.all inS = true) ∧ x.2.1 ^ x.1.length ≤ 50000) (hl : LensL cEBest.as x) : E_ebest x := by
  obtain ⟨l, m, u⟩ := x
  obtain ⟨⟨h1, h2⟩, ⟨h3, h4⟩, h5⟩ := hp
  simp only [] at h1 h2 h3 h4 h5
  unfold E_ebest
  simp only [Bool.not_eq_true', Bool.not_eq_false', Bool.not_eq_true, Bool.not_eq_false, beq_self_eq_true, decide_eq_true_eq, decide_eq_false_iff_not, Bool.not_false, Bool.not_true, beq_iff_eq, beq_eq_false_iff_ne, bne_iff_ne, ne_eq, bne_eq_false_iff_eq, holds_iff, true_and, and_true, and_self, eq_self, List.length_cons, List.length_nil, List.length_append, List.length_set, List.length_replicate, List.set_cons_zero, cond_true, cond_false, Bool.false_eq_true, Bool.true_eq_false, forall_const, false_imp_iff, imp_self, implies_true, and_imp, Decidable.not_not, Bool.and_eq_true, Bool.or_eq_true, Bool.and_eq_false_iff, Bool.or_eq_false_iff, ← List.length_eq_zero_iff, or_self, or_false, false_or, Prod.forall, Int.reduceEq, Int.reduceLT, Int.reduceLE, List.nil_append, Nat.zero_add, Int.toNat_zero, List.drop_zero, List.length_drop, List.length_take, not_true_eq_false, not_false_eq_true]
  try simp only [flip_f, flip_t, decide_eq_true_eq, decide_eq_false_iff_not]
  have hpow := fun (k : Int) (g : k ≤ l.length) => pow_mono h1 (i := k.toNat) (j := l.length) (by omega)
  have hdrop : ∀ {k : Int}, 0 ≤ k → k < l.length → l.drop k.toNat = l.getD k.toNat 0 :: l.drop (k + 1).toNat := fun h g => put_drop h g
  refine ⟨by first | omega | simp | exact ⟨by omega, by simp⟩, ?_⟩
  rintro _ k k0 k1 rfl _ _ _ _
  refine ⟨fun hk => ?_, fun hk => ?_⟩
  · have q := hpow (k + 1) (by omega)
    have e := pow_next (m := m) k0
    rw [e] at q ⊢
    exact ⟨by omega, by omega, ⟨by omega, by omega, rfl⟩, by omega⟩
  · have hkl : k.toNat = l.length := by omega
    rw [hkl]
    have hp0 := (pow_mono h1 (Nat.le_refl l.length)).1
    refine ⟨⟨by omega, rfl⟩, ?_⟩
    rintro _ n n0 n1 rfl _ _ _ _
    refine ⟨fun hn => ?_, fun hn => ?_⟩
    · refine ⟨by omega, ?_, ?_⟩
      · repeat' (first | with_reducible apply And.intro | with_reducible intro _)
        all_goals first | omega | exact within_zero _ | rfl
      rintro q has j j0 j1 q0 hlen hw hs _ _ _ _ _ _
      have hm1 := Int.emod_nonneg q (show m ≠ 0 by omega)
      have hm2 := Int.emod_lt_of_pos q (show 0 < m by omega)
      have hd := Int.ediv_nonneg q0 (show 0 ≤ m by omega)
      refine ⟨fun hj => ?_, fun hj => ?_⟩
      · have hg := within_get hw (show (q % m).toNat < has.length by omega)
        have ha := all_get (l := l) (k := j.toNat) (by omega) h4
        have hws := within_set hw (show (q % m).toNat < has.length by omega) ha j0
        rw [hdrop j0 hj] at hs
        refine ⟨⟨j0, hj⟩, ⟨q0, by omega⟩, ⟨hm1, by omega⟩, by omega, ⟨hm1, by omega⟩, by omega, by omega, ⟨by omega, by omega, hd, hlen, hws, hs⟩, by omega⟩
      · rw [show l.drop j.toNat = [] from List.drop_eq_nil_of_le (by omega)] at hs
        have hs : has = spreadN m l n (List.replicate m.toNat 0) := hs
        refine ⟨by omega, by omega, ⟨by omega, by omega, ?_⟩, by omega⟩
        rw [eall_succ n0, ← hs]
    · have : n = m ^ l.length := by omega
      rw [this]; rfl
theorem e_law (x : List Int × Int × Unit) (hp : True) (hl : LensL cLaw.as x) : E_law x := by
  obtain ⟨l, m, u⟩ := x
  have hlen : l.length ≤ 9223372036854775807 := hl.1.1
  have hb1 : wrong l m ≠ 0 → best l m = (0, wrong l m, ()) := fun h => by unfold best; rw [if_pos h]
  have hb2 : wrong l m = 0 → 9 < l.length → best l m = (0, 4, ()) := fun h g => by unfold best; rw [if_neg (by omega), if_pos g]
  have hb3 : wrong l m = 0 → ¬ 9 < l.length → best l m = (ebest l m, 0, ()) := fun h g => by
    obtain ⟨h1, h2, h3, h4⟩ := wrong_ok h
    unfold best; rw [if_neg (by omega), if_neg g]
    rw [best_eq h1 (fun w hw => by
      have := List.all_eq_true.1 h4 w hw
      unfold inS at this
      grind)]
  unfold E_law
  simp only [Bool.not_eq_true', Bool.not_eq_false', Bool.not_eq_true, Bool.not_eq_false, beq_self_eq_true, decide_eq_true_eq, decide_eq_false_iff_not, Bool.not_false, Bool.not_true, beq_iff_eq, beq_eq_false_iff_ne, bne_iff_ne, ne_eq, bne_eq_false_iff_eq, holds_iff, true_and, and_true, and_self, eq_self, List.length_cons, List.length_nil, List.length_append, List.length_set, List.length_replicate, List.set_cons_zero, cond_true, cond_false, Bool.false_eq_true, Bool.true_eq_false, forall_const, false_imp_iff, imp_self, implies_true, and_imp, Decidable.not_not, Bool.and_eq_true, Bool.or_eq_true, Bool.and_eq_false_iff, Bool.or_eq_false_iff, ← List.length_eq_zero_iff, or_self, or_false, false_or, Prod.forall, Int.reduceEq, Int.reduceLT, Int.reduceLE, List.nil_append, Nat.zero_add, Int.toNat_zero, List.drop_zero, List.length_drop, List.length_take, not_true_eq_false, not_false_eq_true]
  try simp only [flip_f, flip_t, decide_eq_true_eq, decide_eq_false_iff_not]
  refine ⟨fun h => ?_, fun h => ⟨fun h9 => ?_, fun h9 => ?_⟩⟩
  · rw [hb1 h]; exact ⟨rfl, rfl⟩
  · rw [hb2 h (by omega)]; exact ⟨rfl, rfl⟩
  · obtain ⟨g1, g2, g3, g4⟩ := wrong_ok h
    refine ⟨by first | omega | simp | exact ⟨by omega, by simp⟩, ?_⟩
    rintro _ k k0 k1 rfl _ _ _ _
    refine ⟨fun hk => ?_, fun hk => ?_⟩
    · have e := pow_next (m := m) k0
      have q := pow_mono g1 (i := (k + 1).toNat) (j := 9) (by omega)
      have q8 : m ^ 9 ≤ 134217728 := by
        have : m = 1 ∨ m = 2 ∨ m = 3 ∨ m = 4 ∨ m = 5 ∨ m = 6 ∨ m = 7 ∨ m = 8 := by omega
        rcases this with rfl | rfl | rfl | rfl | rfl | rfl | rfl | rfl <;> decide
      rw [e] at q ⊢
      exact ⟨by omega, by omega, ⟨by omega, by omega, rfl⟩, by omega⟩
    · have hkl : k.toNat = l.length := by omega
      rw [hkl, hb3 h (by omega)]
      simp only []
      repeat' (first | with_reducible apply And.intro | with_reducible intro _)
      all_goals try first | omega | assumption | grind
theorem pre_law (x : HL cLaw.as) (_ : GoodL cLaw.as x) (_ : FitL cLaw.as x) : True := trivial

end Go.Proofs.Ytpmfgdedkmddlaa.Best
