/-
 The functions of bits: the conditions hold.
-/
import Derived.Test.YtppgbcmeagbalaaDoorApicBitsP2
namespace Go.Proofs.YtppgbcmeagbalaaDoor.Apic
open Go.Sx
set_option maxRecDepth 100000
set_option maxHeartbeats 1000000
set_option linter.unusedSimpArgs false
set_option linter.unusedVariables false

theorem U_nat {x : Int} (h0 : 0 ≤ x) (h1 : x ≤ 18446744073709551615) : (U x : Int) = x := by unfold U; omega
theorem U_cast {n : Nat} (h : n < 18446744073709551616) : U (n : Int) = n := by unfold U; omega
theorem bitN_at (b : List Int) (j : Nat) : bitN b j = (U (b.getD (j / 64) 0)).testBit (j % 64) := by
 have := bitN_test b (j / 64) (j % 64) (Nat.mod_lt _ (by omega))
 rw [show 64 * (j / 64) + j % 64 = j by omega] at this
 exact this
theorem bitsTo_of {c : List Int} {f : Nat → Bool} (hc : c.length = 4) (hr : ∀ x ∈ c, 0 ≤ x ∧ x ≤ 18446744073709551615) (h : ∀ j, j < 256 → bitN c j = f j) : bitsTo f 0 = c := by
 have hp : ∀ k, k < 4 → horTo f 0 k = c.getD k 0 := by
  intro k hk
  have hm : c.getD k 0 ∈ c := getD_mem (by omega)
  rw [horTo_0, ← U_nat (hr _ hm).1 (hr _ hm).2]
  apply hor_uniq
  ·exact U_lt _
  ·intro i hi
   rw [← h (64 * k + i) (by omega), bitN_test _ _ _ hi]
 unfold bitsTo
 rw [hp 0 (by omega), hp 1 (by omega), hp 2 (by omega), hp 3 (by omega)]
 rcases c with _ | ⟨c0, _ | ⟨c1, _ | ⟨c2, _ | ⟨c3, _ | ⟨c4, c⟩⟩⟩⟩⟩ <;> simp at hc
 rfl
theorem bitsTo_congr {f g : Nat → Bool} (h : ∀ j, j < 256 → f j = g j) : bitsTo f 0 = bitsTo g 0 := by
 have hp : ∀ k, k < 4 → horTo f 0 k = horTo g 0 k := by
  intro k hk
  rw [horTo_0, horTo_0]
  exact hor_congr _ _ _ _ (fun i hi => h _ (by omega))
 unfold bitsTo
 rw [hp 0 (by omega), hp 1 (by omega), hp 2 (by omega), hp 3 (by omega)]
theorem getD_set_i {b : List Int} {k j : Nat} {v : Int} (h : k < b.length) : (b.set k v).getD j 0 = if j = k then v else b.getD j 0 := by
 unfold List.getD
 rw [List.getElem?_set]
 by_cases e : k = j
 ·rw [if_pos e, if_pos h, if_pos e.symm]; rfl
 ·rw [if_neg e, if_neg (fun q => e q.symm)]
theorem bitN_set {b : List Int} {k N : Nat} (hb : b.length = 4) (hk : k < 4) (hN : N < 18446744073709551616) (j : Nat) : bitN (b.set k (N : Int)) j = if j / 64 = k then N.testBit (j % 64) else bitN b j := by
 rw [bitN_at, getD_set_i (by omega)]
 by_cases e : j / 64 = k
 ·rw [if_pos e, if_pos e, U_cast hN]
 ·rw [if_neg e, if_neg e, bitN_at]
theorem set_range {b : List Int} {k N : Nat} (hr : ∀ x ∈ b, 0 ≤ x ∧ x ≤ 18446744073709551615) (hN : N < 18446744073709551616) : ∀ x ∈ b.set k (N : Int), 0 ≤ x ∧ x ≤ 18446744073709551615 := by
 intro x hx
 rcases List.mem_or_eq_of_mem_set hx with h | h
 ·exact hr x h
 ·omega
theorem bits_andn (x y : Int) : ∃ N : Nat, Go.bits .andNot .u64 x y = (N : Int) ∧ N < 18446744073709551616 ∧ ∀ i, i < 64 → N.testBit i = ((U x).testBit i && !(U y).testBit i) := by
 refine ⟨(BitVec.ofInt 64 x &&& ~~~ BitVec.ofInt 64 y).toNat, ?_, (BitVec.ofInt 64 x &&& ~~~ BitVec.ofInt 64 y).isLt, fun i hi => ?_⟩
 ·show Go.IntKind.wrap .u64 (((BitVec.ofInt 64 x &&& ~~~ BitVec.ofInt 64 y).toNat : Nat) : Int) = _
  exact wrap_u64 _ (BitVec.ofInt 64 x &&& ~~~ BitVec.ofInt 64 y).isLt
 ·rw [← U_of x, ← U_of y, BitVec.testBit_toNat, BitVec.testBit_toNat, BitVec.testBit_toNat, BitVec.getLsbD_and, BitVec.getLsbD_not]
  simp [hi]
theorem shl_one {i : Nat} (hi : i < 64) : IntKind.u64.wrap (1 * 2 ^ min i IntKind.u64.bits) = ((2 ^ i : Nat) : Int) := by
 have h : (2 : Nat) ^ i < 2 ^ 64 := Nat.pow_lt_pow_right (by omega) hi
 rw [show min i IntKind.u64.bits = i from Nat.min_eq_left (show i ≤ 64 by omega), Int.one_mul]
 have := wrap_u64 (2 ^ i) h
 rw [Int.natCast_pow] at this ⊢
 exact this
theorem fits_iff {n : Int} : fits n = true ↔ 0 ≤ n ∧ n < 256 := by unfold fits; simp
theorem fits_no {n : Int} : fits n = false ↔ ¬ (0 ≤ n ∧ n < 256) := by
 rw [← fits_iff]; simp
theorem put_eq {b c : List Int} {n : Int} {v : Bool} (hf : fits n = true) (hc : c.length = 4) (hr : ∀ x ∈ c, 0 ≤ x ∧ x ≤ 18446744073709551615) (h : ∀ j, j < 256 → bitN c j = if j = n.toNat then v else bitN b j) : c = putB b n v := by
 unfold putB
 rw [if_pos hf, bitsTo_of hc hr h]
theorem put_no {b : List Int} {n : Int} {v : Bool} (hf : fits n = false) : putB b n v = b := by
 unfold putB
 rw [hf]; rfl
theorem e_lead (x : Int × Unit) (hpre : True) (hlens : LensL cLead.as x) : E_lead x := by
 obtain ⟨x, u⟩ := x
 obtain ⟨⟨h0, h1⟩, -⟩ := hlens
 unfold E_lead
 simp only [Bool.not_eq_true', Bool.not_eq_false', Bool.not_eq_true, Bool.not_eq_false, beq_self_eq_true, decide_eq_true_eq, decide_eq_false_iff_not, Bool.not_false, Bool.not_true, beq_iff_eq, beq_eq_false_iff_ne, bne_iff_ne, ne_eq, bne_eq_false_iff_eq, holds_iff, true_and, and_true, and_self, eq_self, List.length_cons, List.length_nil, List.length_append, List.length_set, List.length_replicate, List.set_cons_zero, cond_true, cond_false, Bool.false_eq_true, Bool.true_eq_false, forall_const, false_imp_iff, imp_self, implies_true, and_imp, Decidable.not_not, Bool.and_eq_true, Bool.or_eq_true, Bool.and_eq_false_iff, Bool.or_eq_false_iff, ← List.length_eq_zero_iff, or_self, or_false, false_or, Prod.forall, Int.reduceEq, Int.reduceLT, Int.reduceLE, List.nil_append, Nat.zero_add, Int.toNat_zero, List.drop_zero, List.length_drop, List.length_take, not_true_eq_false, not_false_eq_true,  pair_eta]
 have h1 : x ≤ 18446744073709551615 := h1
 have h0 : 0 ≤ x := h0
 have := Lib.bitLen_le x.toNat 64 (by omega) (by omega)
 omega
theorem e_fits (x : Int × Unit) (hpre : True) (hlens : LensL cFits.as x) : E_fits x := by
 obtain ⟨x, u⟩ := x
 unfold E_fits
 simp only [Bool.not_eq_true', Bool.not_eq_false', Bool.not_eq_true, Bool.not_eq_false, beq_self_eq_true, decide_eq_true_eq, decide_eq_false_iff_not, Bool.not_false, Bool.not_true, beq_iff_eq, beq_eq_false_iff_ne, bne_iff_ne, ne_eq, bne_eq_false_iff_eq, holds_iff, true_and, and_true, and_self, eq_self, List.length_cons, List.length_nil, List.length_append, List.length_set, List.length_replicate, List.set_cons_zero, cond_true, cond_false, Bool.false_eq_true, Bool.true_eq_false, forall_const, false_imp_iff, imp_self, implies_true, and_imp, Decidable.not_not, Bool.and_eq_true, Bool.or_eq_true, Bool.and_eq_false_iff, Bool.or_eq_false_iff, ← List.length_eq_zero_iff, or_self, or_false, false_or, Prod.forall, Int.reduceEq, Int.reduceLT, Int.reduceLE, List.nil_append, Nat.zero_add, Int.toNat_zero, List.drop_zero, List.length_drop, List.length_take, not_true_eq_false, not_false_eq_true,  pair_eta]
 first | done | rfl
theorem e_with (x : List Int × Int × Unit) (hpre : True) (hlens : LensL cWith.as x) : E_with x := by
 obtain ⟨b, n, u⟩ := x
 obtain ⟨⟨hb4, hbr⟩, -⟩ := hlens
 have hb4 : b.length = 4 := hb4
 have hbr : ∀ x ∈ b, 0 ≤ x ∧ x ≤ 18446744073709551615 := hbr
 unfold E_with
 simp only [Bool.not_eq_true', Bool.not_eq_false', Bool.not_eq_true, Bool.not_eq_false, beq_self_eq_true, decide_eq_true_eq, decide_eq_false_iff_not, Bool.not_false, Bool.not_true, beq_iff_eq, beq_eq_false_iff_ne, bne_iff_ne, ne_eq, bne_eq_false_iff_eq, holds_iff, true_and, and_true, and_self, eq_self, List.length_cons, List.length_nil, List.length_append, List.length_set, List.length_replicate, List.set_cons_zero, cond_true, cond_false, Bool.false_eq_true, Bool.true_eq_false, forall_const, false_imp_iff, imp_self, implies_true, and_imp, Decidable.not_not, Bool.and_eq_true, Bool.or_eq_true, Bool.and_eq_false_iff, Bool.or_eq_false_iff, ← List.length_eq_zero_iff, or_self, or_false, false_or, Prod.forall, Int.reduceEq, Int.reduceLT, Int.reduceLE, List.nil_append, Nat.zero_add, Int.toNat_zero, List.drop_zero, List.length_drop, List.length_take, not_true_eq_false, not_false_eq_true,  pair_eta]
 refine ⟨fun hf => ?_, fun hf => (put_no hf).symm⟩
 have h := fits_iff.1 hf
 refine ⟨h.1, by omega, h.1, by omega, by omega, ?_⟩
 rw [shl_one (by omega), bits_or]
 have hi : n.toNat % 64 < 64 := Nat.mod_lt _ (by omega)
 have hp : (2 : Nat) ^ (n % 64).toNat < 18446744073709551616 := Nat.pow_lt_pow_right (by omega) (show (n % 64).toNat < 64 by omega)
 rw [U_cast hp]
 have hN : U (b.getD (n / 64).toNat 0) ||| 2 ^ (n % 64).toNat < 18446744073709551616 := Nat.or_lt_two_pow (n := 64) (U_lt _) hp
 refine put_eq hf (by rw [List.length_set]; exact hb4) (set_range hbr hN) fun j hj => ?_
 rw [bitN_set hb4 (by omega) hN]
 by_cases e : j / 64 = (n / 64).toNat
 ·rw [if_pos e, Nat.testBit_or, Nat.testBit_two_pow, bitN_at, ← e]
  by_cases e2 : j = n.toNat
  ·rw [if_pos e2, decide_eq_true (by omega : (n % 64).toNat = j % 64), Bool.or_true]
  ·rw [if_neg e2, decide_eq_false (by omega : ¬ (n % 64).toNat = j % 64), Bool.or_false]
 ·rw [if_neg e, if_neg (by omega)]
theorem e_without (x : List Int × Int × Unit) (hpre : True) (hlens : LensL cWithout.as x) : E_without x := by
 obtain ⟨b, n, u⟩ := x
 obtain ⟨⟨hb4, hbr⟩, -⟩ := hlens
 have hb4 : b.length = 4 := hb4
 have hbr : ∀ x ∈ b, 0 ≤ x ∧ x ≤ 18446744073709551615 := hbr
 unfold E_without
 simp only [Bool.not_eq_true', Bool.not_eq_false', Bool.not_eq_true, Bool.not_eq_false, beq_self_eq_true, decide_eq_true_eq, decide_eq_false_iff_not, Bool.not_false, Bool.not_true, beq_iff_eq, beq_eq_false_iff_ne, bne_iff_ne, ne_eq, bne_eq_false_iff_eq, holds_iff, true_and, and_true, and_self, eq_self, List.length_cons, List.length_nil, List.length_append, List.length_set, List.length_replicate, List.set_cons_zero, cond_true, cond_false, Bool.false_eq_true, Bool.true_eq_false, forall_const, false_imp_iff, imp_self, implies_true, and_imp, Decidable.not_not, Bool.and_eq_true, Bool.or_eq_true, Bool.and_eq_false_iff, Bool.or_eq_false_iff, ← List.length_eq_zero_iff, or_self, or_false, false_or, Prod.forall, Int.reduceEq, Int.reduceLT, Int.reduceLE, List.nil_append, Nat.zero_add, Int.toNat_zero, List.drop_zero, List.length_drop, List.length_take, not_true_eq_false, not_false_eq_true,  pair_eta]
 refine ⟨fun hf => ?_, fun hf => (put_no hf).symm⟩
 have h := fits_iff.1 hf
 refine ⟨h.1, by omega, h.1, by omega, by omega, ?_⟩
 rw [shl_one (by omega)]
 have hp : (2 : Nat) ^ (n % 64).toNat < 18446744073709551616 := Nat.pow_lt_pow_right (by omega) (show (n % 64).toNat < 64 by omega)
 obtain ⟨N, e1, hN, ht⟩ := bits_andn (b.getD (n / 64).toNat 0) ((2 ^ (n % 64).toNat : Nat) : Int)
 rw [e1]
 rw [U_cast hp] at ht
 refine put_eq hf (by rw [List.length_set]; exact hb4) (set_range hbr hN) fun j hj => ?_
 rw [bitN_set hb4 (by omega) hN]
 by_cases e : j / 64 = (n / 64).toNat
 ·rw [if_pos e, ht _ (by omega), Nat.testBit_two_pow, bitN_at, ← e]
  by_cases e2 : j = n.toNat
  ·rw [if_pos e2, decide_eq_true (by omega : (n % 64).toNat = j % 64), Bool.not_true, Bool.and_false]
  ·rw [if_neg e2, decide_eq_false (by omega : ¬ (n % 64).toNat = j % 64), Bool.not_false, Bool.and_true]
 ·rw [if_neg e, if_neg (by omega)]
theorem bitLen_top {v m : Nat} (h0 : 2 ^ m ≤ v) (h1 : v < 2 ^ (m + 1)) (hm : m < 64) : Lib.bitLen v = m + 1 := by
 have h2 : v < 2 ^ 64 := Nat.lt_of_lt_of_le h1 (Nat.pow_le_pow_right (by omega) (by omega))
 rw [Lib.bitLen_shift m v h0 h2]
 have : v / 2 ^ m = 1 := by
  apply Nat.div_eq_of_lt_le
  ·omega
  ·rw [Nat.pow_succ] at h1; omega
 rw [this]
 rfl
theorem top_part {f : Nat → Bool} {v s : Nat} : ∀ m, m ≤ 64 → v < 2 ^ m → (∀ i, i < m → f (s + i) = v.testBit i) → topB f (s + m) = if v = 0 then topB f s else (s : Int) + Lib.bitLen v - 1
 | 0, _, hv, _ => by rw [if_pos (by simpa using hv)]; rfl
 | m + 1, hm, hv, hf => by
  show (if f (s + m) = true then ((s + m : Nat) : Int) else topB f (s + m)) = _
  rw [hf m (by omega)]
  by_cases ht : v.testBit m = true
  ·have h0 : 2 ^ m ≤ v := Nat.ge_two_pow_of_testBit ht
   rw [if_pos ht, if_neg (by have : 0 < 2 ^ m := Nat.pow_pos (by omega); omega), bitLen_top h0 hv (by omega)]
   omega
  ·rw [if_neg ht]
   have hlt : v < 2 ^ m := by
    rw [Nat.testBit_eq_decide_div_mod_eq, decide_eq_true_eq] at ht
    have h2 : v / 2 ^ m < 2 := by
     apply Nat.div_lt_of_lt_mul
     rw [Nat.pow_succ] at hv; exact hv
    have h3 : v / 2 ^ m = 0 := by
     generalize v / 2 ^ m = q at *
     omega
    exact (Nat.div_eq_zero_iff_lt (Nat.pow_pos (by omega))).1 h3
   exact top_part m (by omega) hlt (fun i hi => hf i (by omega))
theorem top_word (b : List Int) (k : Nat) : topB (bitN b) (64 * (k + 1)) = if U (b.getD k 0) = 0 then topB (bitN b) (64 * k) else (64 * k : Nat) + Lib.bitLen (U (b.getD k 0)) - 1 := by
 rw [show 64 * (k + 1) = 64 * k + 64 by omega]
 exact top_part 64 (Nat.le_refl _) (U_lt _) (fun i hi => bitN_test b k i hi)
theorem e_top (x : List Int × Unit) (hpre : True) (hlens : LensL cTop.as x) : E_top x := by
 obtain ⟨b, u⟩ := x
 obtain ⟨⟨hb4, hbr⟩, -⟩ := hlens
 have hb4 : b.length = 4 := hb4
 unfold E_top
 simp only [Bool.not_eq_true', Bool.not_eq_false', Bool.not_eq_true, Bool.not_eq_false, beq_self_eq_true, decide_eq_true_eq, decide_eq_false_iff_not, Bool.not_false, Bool.not_true, beq_iff_eq, beq_eq_false_iff_ne, bne_iff_ne, ne_eq, bne_eq_false_iff_eq, holds_iff, true_and, and_true, and_self, eq_self, List.length_cons, List.length_nil, List.length_append, List.length_set, List.length_replicate, List.set_cons_zero, cond_true, cond_false, Bool.false_eq_true, Bool.true_eq_false, forall_const, false_imp_iff, imp_self, implies_true, and_imp, Decidable.not_not, Bool.and_eq_true, Bool.or_eq_true, Bool.and_eq_false_iff, Bool.or_eq_false_iff, ← List.length_eq_zero_iff, or_self, or_false, false_or, Prod.forall, Int.reduceEq, Int.reduceLT, Int.reduceLE, List.nil_append, Nat.zero_add, Int.toNat_zero, List.drop_zero, List.length_drop, List.length_take, not_true_eq_false, not_false_eq_true,  pair_eta]
 refine ⟨rfl, ?_⟩
 intro a k hk0 hk1 hab ht ha4 har _ _
 subst hab
 refine ⟨fun h0 => ?_, fun h0 => ?_⟩
 ·have hw := top_word a k.toNat
  rw [show (k + 1).toNat = k.toNat + 1 by omega, hw] at ht
  have hm : a.getD k.toNat 0 ∈ a := getD_mem (by omega)
  have hu := U_nat (har _ hm).1 (har _ hm).2
  have hu2 : U (a.getD k.toNat 0) = (a.getD k.toNat 0).toNat := by omega
  rw [hu2] at ht
  have hl := Lib.bitLen_le (a.getD k.toNat 0).toNat 64 (by omega) (by have := (har _ hm).2; omega)
  have hr := har _ hm
  generalize a.getD k.toNat 0 = v at *
  refine ⟨⟨h0, by omega⟩, fun hv => ?_, fun hv => ?_⟩
  ·rw [if_neg (by omega)] at ht
   refine ⟨by omega, by omega, ⟨h0, by omega⟩, by omega, by rw [ht]; omega⟩
  ·rw [if_pos (by omega)] at ht
   refine ⟨by omega, ⟨by omega, by omega, ?_⟩, by omega⟩
   rw [ht, show (k - 1 + 1).toNat = k.toNat by omega]
   exact ⟨rfl, rfl⟩
 ·rw [show (k + 1).toNat = 0 by omega] at ht
  exact ht.symm
theorem next_skip {f : Nat → Bool} {r : Nat} : ∀ (m s : Nat), (∀ i, i < m → f (s + i) = false) → nextB f s (m + r) = nextB f (s + m) r
 | 0, s, _ => by rw [Nat.zero_add, Nat.add_zero]
 | m + 1, s, h => by
  rw [show m + 1 + r = (m + r) + 1 by omega]
  show (if f s = true then _ else nextB f (s + 1) (m + r)) = _
  have h0 := h 0 (by omega)
  rw [Nat.add_zero] at h0
  rw [h0, if_neg (by decide), next_skip m (s + 1) (fun i hi => by have := h (i + 1) (by omega); rwa [show s + (i + 1) = s + 1 + i by omega] at this)]
  rw [show s + 1 + m = s + (m + 1) by omega]
theorem next_congr {f g : Nat → Bool} : ∀ (k s : Nat), (∀ j, s ≤ j → j < s + k → f j = g j) → nextB f s k = nextB g s k
 | 0, _, _ => rfl
 | k + 1, s, h => by
  show (if f s = true then _ else nextB f (s + 1) k) = (if g s = true then _ else nextB g (s + 1) k)
  rw [h s (by omega) (by omega), next_congr k (s + 1) (fun j h1 h2 => h j (by omega) (by omega))]
theorem next_spec {f : Nat → Bool} : ∀ (k s : Nat), (nextB f s k = -1 ∧ ∀ j, s ≤ j → j < s + k → f j = false) ∨ ∃ r : Nat, nextB f s k = r ∧ s ≤ r ∧ r < s + k ∧ f r = true ∧ ∀ j, s ≤ j → j < r → f j = false
 | 0, s => Or.inl ⟨rfl, fun j h1 h2 => by omega⟩
 | k + 1, s => by
  have e : nextB f s (k + 1) = if f s = true then (s : Int) else nextB f (s + 1) k := rfl
  rw [e]
  by_cases h : f s = true
  ·rw [if_pos h]
   exact Or.inr ⟨s, rfl, by omega, by omega, h, fun j h1 h2 => by omega⟩
  ·have hs : f s = false := by simpa using h
   rw [if_neg h]
   rcases next_spec k (s + 1) with ⟨h1, h2⟩ | ⟨r, h1, h2, h3, h4, h5⟩
   ·refine Or.inl ⟨h1, fun j q1 q2 => ?_⟩
    by_cases q : j = s
    ·rw [q]; exact hs
    ·exact h2 j (by omega) (by omega)
   ·refine Or.inr ⟨r, h1, by omega, by omega, h4, fun j q1 q2 => ?_⟩
    by_cases q : j = s
    ·rw [q]; exact hs
    ·exact h5 j (by omega) q2
theorem ctz_bits {v : Nat} (h0 : v ≠ 0) (h : v < 18446744073709551616) : Lib.ctz 64 v < 64 ∧ v.testBit (Lib.ctz 64 v) = true ∧ ∀ i, i < Lib.ctz 64 v → v.testBit i = false := by
 obtain ⟨m, h1, h2⟩ := Lib.ctzFrom_spec 64 v (by omega) h
 have e : Lib.ctz 64 v = Lib.ctzFrom 64 v := by unfold Lib.ctz; rw [if_neg h0]
 rw [e]
 generalize Lib.ctzFrom 64 v = c at *
 subst h1
 refine ⟨h2, ?_, fun i hi => ?_⟩
 ·rw [Nat.mul_comm, Nat.testBit_mul_two_pow]; simp
 ·rw [Nat.mul_comm, Nat.testBit_mul_two_pow]; simp; omega
theorem next_word (b : List Int) (k : Nat) (hk : k < 4) : nextB (bitN b) (64 * k) (64 * (4 - k)) = if U (b.getD k 0) = 0 then nextB (bitN b) (64 * (k + 1)) (64 * (4 - (k + 1))) else (64 * k : Nat) + Lib.ctz 64 (U (b.getD k 0)) := by
 have ht := fun i hi => bitN_test b k i hi
 have hlt := U_lt (b.getD k 0)
 generalize U (b.getD k 0) = v at *
 by_cases h : v = 0
 ·rw [if_pos h, show 64 * (4 - k) = 64 + 64 * (4 - (k + 1)) by omega, next_skip 64 _ (fun i hi => by rw [ht i hi, h]; exact Nat.zero_testBit i)]
  rfl
 ·obtain ⟨h1, h2, h3⟩ := ctz_bits h hlt
  rw [if_neg h]
  generalize Lib.ctz 64 v = c at *
  rw [show 64 * (4 - k) = c + ((64 * (4 - k) - c - 1) + 1) by omega, next_skip c _ (fun i hi => by rw [ht i (by omega)]; exact h3 i hi)]
  show (if bitN b (64 * k + c) = true then ((64 * k + c : Nat) : Int) else _) = _
  rw [ht c h1, h2, if_pos rfl]
  omega
theorem mask_one {i : Nat} (hi : i < 64) : U (((2 ^ i : Nat) : Int) - 1) = 2 ^ i - 1 := by
 have h : (2 : Nat) ^ i < 2 ^ 64 := Nat.pow_lt_pow_right (by omega) hi
 have h1 : 0 < 2 ^ i := Nat.pow_pos (by omega)
 have h2 : (2 : Nat) ^ 64 = 18446744073709551616 := by decide
 generalize 2 ^ i = p at *
 unfold U
 omega
theorem e_next (x : List Int × Int × Unit) (hpre : True) (hlens : LensL cNext.as x) : E_next x := by
 obtain ⟨b, n, u⟩ := x
 obtain ⟨⟨hb4, hbr⟩, -⟩ := hlens
 have hb4 : b.length = 4 := hb4
 have hbr : ∀ x ∈ b, 0 ≤ x ∧ x ≤ 18446744073709551615 := hbr
 unfold E_next
 simp only [Bool.not_eq_true', Bool.not_eq_false', Bool.not_eq_true, Bool.not_eq_false, beq_self_eq_true, decide_eq_true_eq, decide_eq_false_iff_not, Bool.not_false, Bool.not_true, beq_iff_eq, beq_eq_false_iff_ne, bne_iff_ne, ne_eq, bne_eq_false_iff_eq, holds_iff, true_and, and_true, and_self, eq_self, List.length_cons, List.length_nil, List.length_append, List.length_set, List.length_replicate, List.set_cons_zero, cond_true, cond_false, Bool.false_eq_true, Bool.true_eq_false, forall_const, false_imp_iff, imp_self, implies_true, and_imp, Decidable.not_not, Bool.and_eq_true, Bool.or_eq_true, Bool.and_eq_false_iff, Bool.or_eq_false_iff, ← List.length_eq_zero_iff, or_self, or_false, false_or, Prod.forall, Int.reduceEq, Int.reduceLT, Int.reduceLE, List.nil_append, Nat.zero_add, Int.toNat_zero, List.drop_zero, List.length_drop, List.length_take, not_true_eq_false, not_false_eq_true,  pair_eta]
 refine ⟨fun hf => by unfold nextOf; rw [hf]; rfl, fun hf => ?_⟩
 have h := fits_iff.1 hf
 have hno : nextOf b n = nextB (bitN b) (max n 0).toNat (256 - (max n 0).toNat) := if_pos hf
 rw [hno]
 generalize max n 0 = m at *
 have hi : (m % 64).toNat < 64 := by omega
 rw [shl_one hi]
 have hp : (2 : Nat) ^ (m % 64).toNat < 18446744073709551616 := Nat.pow_lt_pow_right (by omega) hi
 have hp0 : 0 < 2 ^ (m % 64).toNat := Nat.pow_pos (by omega)
 refine ⟨h.1, by omega, h.1, by omega, by omega, by omega, h.1, ⟨by omega, by omega, ?_⟩, ?_⟩
 ·obtain ⟨N, e1, hN, ht⟩ := bits_andn (b.getD (m / 64).toNat 0) (((2 ^ (m % 64).toNat : Nat) : Int) - 1)
  rw [e1]
  rw [mask_one hi] at ht
  have hbn := bitN_set (N := N) (k := (m / 64).toNat) hb4 (by omega) hN
  rw [show 64 * (4 - m / 64).toNat = (m % 64).toNat + (256 - m.toNat) by omega, next_skip (m % 64).toNat]
  ·rw [show 64 * (m / 64).toNat + (m % 64).toNat = m.toNat by omega]
   apply next_congr
   intro j h1 h2
   rw [hbn]
   by_cases e : j / 64 = (m / 64).toNat
   ·rw [if_pos e, ht _ (by omega), Nat.testBit_two_pow_sub_one, decide_eq_false (by omega), bitN_at, ← e, Bool.not_false, Bool.and_true]
   ·rw [if_neg e]
  ·intro i hi2
   rw [hbn, if_pos (by omega), ht _ (by omega), Nat.testBit_two_pow_sub_one, decide_eq_true (by omega), Bool.not_true, Bool.and_false]
 ·intro a k hk0 hk1 hn ha4 har _ _
  refine ⟨fun hk => ?_, fun hk => ?_⟩
  ·have hw := next_word a k.toNat (by omega)
   rw [show (4 - k).toNat = 4 - k.toNat by omega, hw] at hn
   have hm : a.getD k.toNat 0 ∈ a := getD_mem (by omega)
   have hr := har _ hm
   have hu := U_nat hr.1 hr.2
   have hu2 : U (a.getD k.toNat 0) = (a.getD k.toNat 0).toNat := by omega
   rw [hu2] at hn
   have hc := fun h0 => ctz_bits (v := (a.getD k.toNat 0).toNat) h0 (by omega)
   generalize a.getD k.toNat 0 = v at *
   refine ⟨⟨hk0, by omega⟩, fun hv => ?_, fun hv => ?_⟩
   ·rw [if_neg (by omega)] at hn
    have hc := (hc (by omega)).1
    refine ⟨by omega, ⟨hk0, by omega⟩, by omega, by rw [hn]; omega⟩
   ·rw [if_pos (by omega)] at hn
    refine ⟨by omega, ⟨by omega, by omega, ?_⟩, by omega⟩
    rw [hn, show (k + 1).toNat = k.toNat + 1 by omega, show (4 - (k + 1)).toNat = 4 - (k.toNat + 1) by omega]
  ·rw [show (4 - k).toNat = 0 by omega] at hn
   exact hn.symm
theorem all_succ (f : Nat → Bool) (m : Nat) : allB f (m + 1) = if f m = true then allB f m ++ [(m : Int)] else allB f m := by
 unfold allB
 rw [List.range_succ, List.filter_append, List.map_append]
 by_cases h : f m = true
 ·rw [if_pos h, List.filter_cons_of_pos h]; rfl
 ·rw [if_neg h, List.filter_cons_of_neg h]; simp
theorem all_skip {f : Nat → Bool} {a : Nat} : ∀ d, (∀ j, a ≤ j → j < a + d → f j = false) → allB f (a + d) = allB f a
 | 0, _ => rfl
 | d + 1, h => by
  rw [show a + (d + 1) = (a + d) + 1 by omega, all_succ, h (a + d) (by omega) (by omega), if_neg (by decide)]
  exact all_skip d (fun j h1 h2 => h j h1 (by omega))
theorem all_len (f : Nat → Bool) (m : Nat) : (allB f m).length ≤ m := by
 unfold allB
 rw [List.length_map]
 exact Nat.le_trans (List.length_filter_le _ _) (by simp)
theorem nextOf_spec (b : List Int) (n : Int) (h0 : 0 ≤ n) (h1 : n ≤ 256) : (nextOf b n = -1 ∧ allOf b = allB (bitN b) n.toNat) ∨ (n ≤ nextOf b n ∧ nextOf b n ≤ 255 ∧ bitN b (nextOf b n).toNat = true ∧ allB (bitN b) (nextOf b n).toNat = allB (bitN b) n.toNat) := by
 unfold nextOf
 rw [show max n 0 = n by omega]
 by_cases hn : n < 256
 ·rw [if_pos (fits_iff.2 ⟨h0, hn⟩)]
  rcases next_spec (f := bitN b) (256 - n.toNat) n.toNat with ⟨h2, h3⟩ | ⟨r, h2, h3, h4, h5, h6⟩
  ·refine Or.inl ⟨h2, ?_⟩
   unfold allOf
   have := all_skip (f := bitN b) (a := n.toNat) (256 - n.toNat) h3
   rwa [show n.toNat + (256 - n.toNat) = 256 by omega] at this
  ·refine Or.inr ?_
   rw [h2, Int.toNat_natCast]
   refine ⟨by omega, by omega, h5, ?_⟩
   have := all_skip (f := bitN b) (a := n.toNat) (r - n.toNat) (fun j q1 q2 => h6 j q1 (by omega))
   rwa [show n.toNat + (r - n.toNat) = r by omega] at this
 ·have : fits n = false := fits_no.2 (by omega)
  rw [this]
  refine Or.inl ⟨rfl, ?_⟩
  rw [show n.toNat = 256 by omega]
  rfl
theorem top_last (f : Nat → Bool) : ∀ m, topB f m = if (allB f m).length = 0 then -1 else (allB f m).getD ((allB f m).length - 1) 0
 | 0 => rfl
 | m + 1 => by
  show (if f m = true then (m : Int) else topB f m) = _
  rw [all_succ]
  by_cases h : f m = true
  ·rw [if_pos h, if_pos h, if_neg (by simp)]
   simp [List.getD]
  ·rw [if_neg h, if_neg h]
   exact top_last f m

end Go.Proofs.YtppgbcmeagbalaaDoor.Apic
