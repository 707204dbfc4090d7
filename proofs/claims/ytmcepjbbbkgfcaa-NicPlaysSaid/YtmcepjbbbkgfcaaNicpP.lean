/-
  NicPlays: the conditions hold.
-/
import Derived.Test.YtmcepjbbbkgfcaaNicpNicP
namespace Go.Proofs.Ytmcepjbbbkgfcaa.Nicp
open Go.Sx
set_option maxRecDepth 100000
set_option maxHeartbeats 1000000
set_option linter.unusedSimpArgs false
set_option linter.unusedVariables false

theorem e_new (x : Int × Unit) (_ : True) (_ : LensL cNew.as x) : E_new x := by
  obtain ⟨n, u⟩ := x
  unfold E_new
  simp only [Bool.not_eq_true', Bool.not_eq_false', Bool.not_eq_true, Bool.not_eq_false, beq_self_eq_true, decide_eq_true_eq, decide_eq_false_iff_not, Bool.not_false, Bool.not_true, beq_iff_eq, beq_eq_false_iff_ne, bne_iff_ne, ne_eq, bne_eq_false_iff_eq, holds_iff, true_and, and_true, and_self, eq_self, List.length_cons, List.length_nil, List.length_append, List.length_set, List.length_replicate, List.set_cons_zero, cond_true, cond_false, Bool.false_eq_true, Bool.true_eq_false, forall_const, false_imp_iff, imp_self, implies_true, and_imp, Decidable.not_not, Bool.and_eq_true, Bool.or_eq_true, Bool.and_eq_false_iff, Bool.or_eq_false_iff, ← List.length_eq_zero_iff, or_self, or_false, false_or, Prod.forall, Int.reduceEq, Int.reduceLT, Int.reduceLE, List.nil_append, Nat.zero_add, Int.toNat_zero, List.drop_zero, List.length_drop, List.length_take, not_true_eq_false, not_false_eq_true]
  try simp only [flip_f, flip_t, decide_eq_true_eq, decide_eq_false_iff_not]
  repeat' (first | with_reducible apply And.intro | with_reducible intro _)
  all_goals first
    | omega
    | grind [new]
theorem step_grows {n : NI} {k v : Int} (h : (step n k v).2.2.1 = 0) : ((step n k v).1.1.length : Int) + (step n k v).2.1.length ≤ n.1.length + 1 := by
  by_cases he : err n k v = 0
  · rw [step_ok he]
    by_cases hk : k = 1
    · rw [if_pos hk]; dsimp only
      split <;> simp <;> omega
    · rw [if_neg hk]; dsimp only
      rw [List.length_drop, List.length_take]; omega
  · rw [err_bad rfl he] at h
    exact absurd h he
theorem pl_nil {n : Int} : pl n [] = (([], n, 0, true, false, 0), []) := rfl
theorem pl_next {n : Int} {xs : List (Int × Int)} {k : Int} (h0 : 0 ≤ k) (h : k < xs.length) : pl n (xs.take (k + 1).toNat) = one (pl n (xs.take k.toNat)) (xs.getD k.toNat (0, 0)) := foldl_takeI (0, 0) h0 h
theorem e_play (x : Int × List (Int × Int) × Unit) (hp : x.2.1.length * 16 ≤ 140737488355328) (_ : LensL cPlay.as x) : E_play x := by
  obtain ⟨n, xs, u⟩ := x
  dsimp only at hp
  unfold E_play
  simp only [Bool.not_eq_true', Bool.not_eq_false', Bool.not_eq_true, Bool.not_eq_false, beq_self_eq_true, decide_eq_true_eq, decide_eq_false_iff_not, Bool.not_false, Bool.not_true, beq_iff_eq, beq_eq_false_iff_ne, bne_iff_ne, ne_eq, bne_eq_false_iff_eq, holds_iff, true_and, and_true, and_self, eq_self, List.length_cons, List.length_nil, List.length_append, List.length_set, List.length_replicate, List.set_cons_zero, cond_true, cond_false, Bool.false_eq_true, Bool.true_eq_false, forall_const, false_imp_iff, imp_self, implies_true, and_imp, Decidable.not_not, Bool.and_eq_true, Bool.or_eq_true, Bool.and_eq_false_iff, Bool.or_eq_false_iff, ← List.length_eq_zero_iff, or_self, or_false, false_or, Prod.forall, Int.reduceEq, Int.reduceLT, Int.reduceLE, List.nil_append, Nat.zero_add, Int.toNat_zero, List.drop_zero, List.length_drop, List.length_take, not_true_eq_false, not_false_eq_true]
  try simp only [flip_f, flip_t, decide_eq_true_eq, decide_eq_false_iff_not]
  by_cases h : n < 1 ∨ 64 < n
  · have hn : new n = (([], 0, 0, false, false, 0), 2, ()) := if_pos h
    have hq : play n xs = ([], ([], 0, 0, false, false, 0), 2, ()) := if_pos h
    rw [hn, hq]
    exact ⟨fun _ => ⟨rfl, rfl, rfl⟩, fun q => absurd q (by decide)⟩
  · have hn : new n = (([], n, 0, true, false, 0), 0, ()) := if_neg h
    have hq : play n xs = ((pl n xs).2, (pl n xs).1, 0, ()) := if_neg h
    rw [hn, hq]
    refine ⟨fun q => absurd rfl q, fun _ => ⟨by simp [pl_nil], ?_⟩⟩
    intro a b c d e f out k h0 h1 h2 h3 h4 h5 h6 h7 h8 h9 h10 h11 h12 h13 h14 h15
    refine ⟨fun hk => ?_, fun hk => ?_⟩
    · have key := pl_next (n := n) h0 hk
      have hg := step_grows (n := (a, b, c, d, e, f)) (k := (xs.getD k.toNat (0, 0)).1) (v := (xs.getD k.toNat (0, 0)).2)
      rw [h2] at key
      simp only [one] at key
      generalize xs.getD k.toNat (0, 0) = r at *
      repeat' (first | with_reducible apply And.intro | with_reducible intro _)
      all_goals first
        | omega
        | (rw [key]; simp [*])
        | (have hg := hg (by assumption); dsimp only at *; omega)
    · rw [takeI_all (by omega)] at h2
      simp [h2]
theorem e_tplay (x : Int × List (Int × Int) × Unit) (hp : x.2.1.length * 16 ≤ 140737488355328) (_ : LensL cPlay.as x) : E_tplay x := by
  obtain ⟨n, xs, u⟩ := x
  dsimp only at hp
  unfold E_tplay
  simp only [Bool.not_eq_true', Bool.not_eq_false', Bool.not_eq_true, Bool.not_eq_false, beq_self_eq_true, decide_eq_true_eq, decide_eq_false_iff_not, Bool.not_false, Bool.not_true, beq_iff_eq, beq_eq_false_iff_ne, bne_iff_ne, ne_eq, bne_eq_false_iff_eq, holds_iff, true_and, and_true, and_self, eq_self, List.length_cons, List.length_nil, List.length_append, List.length_set, List.length_replicate, List.set_cons_zero, cond_true, cond_false, Bool.false_eq_true, Bool.true_eq_false, forall_const, false_imp_iff, imp_self, implies_true, and_imp, Decidable.not_not, Bool.and_eq_true, Bool.or_eq_true, Bool.and_eq_false_iff, Bool.or_eq_false_iff, ← List.length_eq_zero_iff, or_self, or_false, false_or, Prod.forall, Int.reduceEq, Int.reduceLT, Int.reduceLE, List.nil_append, Nat.zero_add, Int.toNat_zero, List.drop_zero, List.length_drop, List.length_take, not_true_eq_false, not_false_eq_true]
  try simp only [flip_f, flip_t, decide_eq_true_eq, decide_eq_false_iff_not]
  by_cases h : n < 1 ∨ 64 < n
  · have hn : new n = (([], 0, 0, false, false, 0), 2, ()) := if_pos h
    have hq : play n xs = ([], ([], 0, 0, false, false, 0), 2, ()) := if_pos h
    rw [hq]
    exact ⟨fun _ => ⟨rfl, rfl, rfl⟩, fun a b => by omega⟩
  · have hn : new n = (([], n, 0, true, false, 0), 0, ()) := if_neg h
    have hq : play n xs = ((pl n xs).2, (pl n xs).1, 0, ()) := if_neg h
    rw [hq]
    refine ⟨fun q => absurd q h, fun _ _ => ⟨by simp [pl_nil], ?_⟩⟩
    intro a b c d e f out k h0 h1 h2 h3 h4 h5 h6 h7 h8 h9 h10 h11 h12 h13 h14 h15
    refine ⟨fun hk => ?_, fun hk => ?_⟩
    · have key := pl_next (n := n) h0 hk
      have hg := step_grows (n := (a, b, c, d, e, f)) (k := (xs.getD k.toNat (0, 0)).1) (v := (xs.getD k.toNat (0, 0)).2)
      rw [h2] at key
      simp only [one] at key
      generalize xs.getD k.toNat (0, 0) = r at *
      repeat' (first | with_reducible apply And.intro | with_reducible intro _)
      all_goals first
        | omega
        | (rw [key]; simp [*])
        | (have hg := hg (by assumption); dsimp only at *; omega)
    · rw [takeI_all (by omega)] at h2
      simp [h2]
theorem e_plays (x : Int × List (Int × Int) × Unit) (h : x.2.1.length * 16 ≤ 140737488355328) (_ : LensL cLawP.as x) : E_plays x := by
  obtain ⟨n, xs, u⟩ := x
  dsimp only at h
  unfold E_plays
  simp only [Bool.not_eq_true', Bool.not_eq_false', Bool.not_eq_true, Bool.not_eq_false, beq_self_eq_true, decide_eq_true_eq, decide_eq_false_iff_not, Bool.not_false, Bool.not_true, beq_iff_eq, beq_eq_false_iff_ne, bne_iff_ne, ne_eq, bne_eq_false_iff_eq, holds_iff, true_and, and_true, and_self, eq_self, List.length_cons, List.length_nil, List.length_append, List.length_set, List.length_replicate, List.set_cons_zero, cond_true, cond_false, Bool.false_eq_true, Bool.true_eq_false, forall_const, false_imp_iff, imp_self, implies_true, and_imp, Decidable.not_not, Bool.and_eq_true, Bool.or_eq_true, Bool.and_eq_false_iff, Bool.or_eq_false_iff, ← List.length_eq_zero_iff, or_self, or_false, false_or, Prod.forall, Int.reduceEq, Int.reduceLT, Int.reduceLE, List.nil_append, Nat.zero_add, Int.toNat_zero, List.drop_zero, List.length_drop, List.length_take, not_true_eq_false, not_false_eq_true]
  try simp only [flip_f, flip_t, decide_eq_true_eq, decide_eq_false_iff_not]
  have h1 : (new n).2.1 = (play n xs).2.2.1 := by
    simp only [new, play]; split <;> rfl
  have h2 : (new n).1 = (play n []).2.1 := by
    simp only [new, play]; split <;> rfl
  rw [h1, h2]
  exact ⟨h, h, by decide, fun _ => rfl, fun q => q rfl⟩
theorem pre_plays (x : HL cLawP.as) (_ : GoodL cLawP.as x) (h : FitL cLawP.as x) : x.2.1.length * 16 ≤ 140737488355328 := by
  have h : x.2.1.length * 16 ≤ 140737488351232 := h.2.1.1
  omega

end Go.Proofs.Ytmcepjbbbkgfcaa.Nicp
