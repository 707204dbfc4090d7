/-
  BitsMix: the conditions.
-/
import Derived.Test.YtjajpmemcfdmoaaDoorBittBitsP1
namespace Go.Proofs.YtjajpmemcfdmoaaDoor.Bitt
open Go.Sx
set_option maxRecDepth 100000
set_option maxHeartbeats 1000000
set_option linter.unusedSimpArgs false
set_option linter.unusedVariables false

theorem half (v : Int) (n : Nat) : v / 2 ^ n / 2 = v / 2 ^ (n + 1) := by
  rw [Int.pow_succ, Int.ediv_ediv_of_nonneg (Int.pow_nonneg (by decide))]
theorem e_row (x : List Int × Unit) (hpre : True) (hlens : LensL cRow.as x) : E_row x := by
  obtain ⟨b, u⟩ := x
  obtain ⟨⟨hb4, hbr⟩, -⟩ := hlens
  unfold E_row
  simp only [Bool.not_eq_true', Bool.not_eq_false', Bool.not_eq_true, Bool.not_eq_false, beq_self_eq_true, decide_eq_true_eq, decide_eq_false_iff_not, Bool.not_false, Bool.not_true, beq_iff_eq, beq_eq_false_iff_ne, bne_iff_ne, ne_eq, bne_eq_false_iff_eq, holds_iff, true_and, and_true, and_self, eq_self, List.length_cons, List.length_nil, List.length_append, List.length_set, List.length_replicate, List.set_cons_zero, cond_true, cond_false, Bool.false_eq_true, Bool.true_eq_false, forall_const, false_imp_iff, imp_self, implies_true, and_imp, Decidable.not_not, Bool.and_eq_true, Bool.or_eq_true, Bool.and_eq_false_iff, Bool.or_eq_false_iff, ← List.length_eq_zero_iff, or_self, or_false, false_or, Prod.forall, Int.reduceEq, Int.reduceLT, Int.reduceLE, List.nil_append, Nat.zero_add, Int.toNat_zero, List.drop_zero, List.length_drop, List.length_take, not_true_eq_false, not_false_eq_true,  pair_eta, row_fr]
  refine ⟨fr_zero _, fun r k hk0 hk4 hr hlen _ _ => ⟨fun hlt => ⟨⟨hk0, by omega⟩, ⟨by rw [Nat.add_zero]; exact hr, by simp⟩, ?_⟩, fun hge => by rw [hr, show 64 * k.toNat = 256 from by omega]⟩⟩
  intro r p n hn0 hn64 hr hp hlen hp0 hp1 _ _
  refine ⟨fun hn => ⟨by omega, by omega, hp0, by omega, hp0, by omega, ⟨by omega, by omega, ?_, ?_⟩, by omega⟩, fun hn => ⟨by omega, ⟨by omega, by omega, ?_⟩, by omega⟩⟩
  · have hb : (p % 2 == 1) = bitN b (64 * k + n).toNat := by
      unfold bitN
      rw [show (64 * k + n).toNat / 64 = k.toNat from by omega, show (64 * k + n).toNat % 64 = n.toNat from by omega, ← hp]
      by_cases q : p % 2 = 1
      · simp [q]
      · simp [q]
    rw [hb, hr, show 64 * k.toNat + n.toNat = (64 * k + n).toNat from by omega, fr_succ _ _ (by omega), show (64 * k + n).toNat + 1 = 64 * k.toNat + (n + 1).toNat from by omega]
  · rw [hp, half, show n.toNat + 1 = (n + 1).toNat from by omega]
  · rw [hr, show 64 * k.toNat + n.toNat = 64 * (k + 1).toNat from by omega]
theorem getD_set_eq (a : List Int) (j : Nat) (v : Int) (h : j < a.length) : (a.set j v).getD j 0 = v := by
  unfold List.getD
  rw [List.getElem?_set_self h]
  rfl
theorem e_bits (x : List Bool × Unit) (hpre : True) (hlens : LensL cBits.as x) : E_bits x := by
  obtain ⟨r, u⟩ := x
  unfold E_bits
  simp only [Bool.not_eq_true', Bool.not_eq_false', Bool.not_eq_true, Bool.not_eq_false, beq_self_eq_true, decide_eq_true_eq, decide_eq_false_iff_not, Bool.not_false, Bool.not_true, beq_iff_eq, beq_eq_false_iff_ne, bne_iff_ne, ne_eq, bne_eq_false_iff_eq, holds_iff, true_and, and_true, and_self, eq_self, List.length_cons, List.length_nil, List.length_append, List.length_set, List.length_replicate, List.set_cons_zero, cond_true, cond_false, Bool.false_eq_true, Bool.true_eq_false, forall_const, false_imp_iff, imp_self, implies_true, and_imp, Decidable.not_not, Bool.and_eq_true, Bool.or_eq_true, Bool.and_eq_false_iff, Bool.or_eq_false_iff, ← List.length_eq_zero_iff, or_self, or_false, false_or, Prod.forall, Int.reduceEq, Int.reduceLT, Int.reduceLE, List.nil_append, Nat.zero_add, Int.toNat_zero, List.drop_zero, List.length_drop, List.length_take, not_true_eq_false, not_false_eq_true,  pair_eta]
  refine ⟨bitsTo_all _, fun a n hn1 hn2 ha hlen har _ _ => ⟨fun hn0 => ?_, fun hn => by rw [ha, show (n + 1).toNat = 0 from by omega]⟩⟩
  have hj : (n / 64).toNat = n.toNat / 64 := by omega
  have hs := bitsTo_set (rf r) n.toNat (by omega)
  have hl := horTo_lt (rf r) n.toNat (n.toNat / 64) rfl
  rw [show n.toNat + 1 = (n + 1).toNat from by omega] at hs hl
  rw [← bitsTo_get _ _ _ (by omega)] at hl
  rw [← ha, ← hj] at hs hl
  have hjl : (n / 64).toNat < a.length := by omega
  rw [show n - 1 + 1 = n from by omega, getD_set_eq _ _ _ hjl, List.set_set]
  have hrf : rf r n.toNat = r.getD n.toNat false := rfl
  rw [hrf] at hs
  refine ⟨hn0, by omega, by omega, by omega, by omega, fun hb => ⟨hn0, by omega, by omega, by omega, by omega, ⟨by omega, by omega, ?_⟩, by omega⟩, fun hb => ⟨by omega, ⟨by omega, by omega, ?_⟩, by omega⟩⟩
  · rw [hb, if_pos rfl] at hs
    rw [← hs]
    congr 1
    omega
  · rw [hb, if_neg (by decide)] at hs
    rw [← hs]
    congr 1
    omega
theorem mix_len (a b : List Int) : (mixA a b).length = 4 ∧ (mixO a b).length = 4 := ⟨rfl, rfl⟩
theorem take_end {m a : List Int} {k : Nat} (hm : m.length = 4) (ha : a.length = 4) (hk : k = 4) : m.take k ++ a.drop k = m := by
  subst hk
  rw [List.take_of_length_le (by omega), List.drop_of_length_le (by omega), List.append_nil]
theorem bits_rf (F : Nat → Bool) : bitsTo (rf (fr F 256)) 0 = bitsTo F 0 := by
  have h : ∀ j, j < 4 → horTo (rf (fr F 256)) 0 j = horTo F 0 j := by
    intro j hj
    rw [horTo_0, horTo_0]
    apply hor_congr
    intro i hi
    exact fr_getD F _ (by omega)
  unfold bitsTo
  rw [h 0 (by decide), h 1 (by decide), h 2 (by decide), h 3 (by decide)]

end Go.Proofs.YtjajpmemcfdmoaaDoor.Bitt
