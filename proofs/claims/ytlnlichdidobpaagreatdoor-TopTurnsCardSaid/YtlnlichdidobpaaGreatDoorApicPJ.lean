/-
 The conditions, proved.
-/
import Derived.Test.YtlnlichdidobpaaGreatDoorApicE
namespace Go.Proofs.YtlnlichdidobpaaGreatDoor.Apic
open Go.Sx
set_option maxRecDepth 100000
set_option maxHeartbeats 1000000
set_option linter.unusedSimpArgs false
set_option linter.unusedVariables false

def fr (F : Nat → Bool) (m : Nat) : List Bool := (List.range 256).map (fun i => decide (i < m) && F i)
theorem J4 (f : Nat → Bool) (k : Nat) : ∀ s (N : Nat), N < 2 ^ k → (∀ i, i < k → N.testBit i = f (s + i)) → TF f s k = (N : Int) := by
 induction k with
 | zero =>
  intro s N h _
  have : N = 0 := by simpa using h
  rw [this]; rfl
 | succ k ih =>
  intro s N h hb
  have h2 : N / 2 < 2 ^ k := by rw [Nat.pow_succ] at h; omega
  have e := ih (s + 1) (N / 2) h2 (fun i hi => by
   rw [Nat.testBit_div_two, hb (i + 1) (by omega)]
   congr 1; omega)
  have e0 := hb 0 (by omega)
  rw [Nat.testBit_zero, Nat.add_zero] at e0
  show (if f s = true then (1 : Int) else 0) + 2 * TF f (s + 1) k = _
  rw [e, ← e0]
  by_cases q : N % 2 = 1
  ·rw [if_pos (by simpa using q)]; omega
  ·rw [if_neg (by simpa using q)]; omega
theorem wrap_u64 (X : Nat) (h : X < 18446744073709551616) : Go.IntKind.wrap .u64 (X : Int) = X := by
 unfold Go.IntKind.wrap
 show (if (false && decide ((X : Int) % 2 ^ 64 ≥ 2 ^ (64 - 1))) = true then _ else (X : Int) % 2 ^ 64) = _
 rw [Bool.false_and, if_neg (by simp)]
 omega
def U (x : Int) : Nat := (x % 18446744073709551616).toNat
theorem F3 (x : Int) : U x < 18446744073709551616 := by unfold U; omega
theorem Ny (x : Int) : (BitVec.ofInt 64 x).toNat = U x := by
 rw [BitVec.toNat_ofInt]
 rfl
theorem Nt (x y : Int) : Go.bits .or .u64 x y = ((U x ||| U y : Nat) : Int) := by
 show Go.IntKind.wrap .u64 (((BitVec.ofInt 64 x ||| BitVec.ofInt 64 y).toNat : Nat) : Int) = _
 rw [BitVec.toNat_or, Ny, Ny]
 exact wrap_u64 _ (Nat.or_lt_two_pow (n := 64) (F3 x) (F3 y))
theorem UF (x : Int) (i : Nat) (hi : i < 64) : x / 2 ^ i % 2 = ((U x / 2 ^ i % 2 : Nat) : Int) := by
 have h1 : x = (U x : Int) + 2 ^ i * (2 * (2 ^ (63 - i) * (x / 18446744073709551616))) := by
  have e : (2 : Int) ^ i * (2 * (2 ^ (63 - i) * (x / 18446744073709551616))) = 18446744073709551616 * (x / 18446744073709551616) := by
   have e2 : (2 : Int) ^ i * (2 * 2 ^ (63 - i)) = 18446744073709551616 := by
    rw [← Int.pow_succ', ← Int.pow_add, show i + (63 - i + 1) = 64 from by omega]
    rfl
   rw [← e2]
   simp only [Int.mul_assoc]
  rw [e]
  unfold U
  omega
 have hp : (2 : Int) ^ i ≠ 0 := Int.pow_ne_zero (by decide)
 rw [h1, Int.add_mul_ediv_left _ _ hp, Int.add_mul_emod_self_left, ← h1, Int.natCast_emod, Int.natCast_ediv, Int.natCast_pow]
 rfl
theorem oB (a : List Int) (k i : Nat) (hi : i < 64) : cB a (64 * k + i) = (U (a.getD k 0)).testBit i := by
 unfold cB
 rw [show (64 * k + i) / 64 = k from by omega, show (64 * k + i) % 64 = i from by omega, Nat.testBit_eq_decide_div_mod_eq]
 apply decide_eq_decide.mpr
 rw [UF _ _ hi]
 omega
theorem LU (f : Nat → Bool) (k : Nat) : ue f 0 k = TF f (64 * k) 64 := by
 unfold ue
 rw [show max (64 * k) 0 = 64 * k from by omega, show 64 * (k + 1) - 64 * k = 64 from by omega]
theorem j7 {l : List Int} {k : Nat} (h : k < l.length) : l.getD k 0 ∈ l := by
 unfold List.getD
 rw [List.getElem?_eq_getElem h]
 exact List.getElem_mem h
theorem Hp {x : Int} (h0 : 0 ≤ x) (h1 : x ≤ 18446744073709551615) : (U x : Int) = x := by unfold U; omega
theorem Cs {n : Nat} (h : n < 18446744073709551616) : U (n : Int) = n := by unfold U; omega
theorem qt (b : List Int) (j : Nat) : cB b j = (U (b.getD (j / 64) 0)).testBit (j % 64) := by
 have := oB b (j / 64) (j % 64) (Nat.mod_lt _ (by omega))
 rw [show 64 * (j / 64) + j % 64 = j by omega] at this
 exact this
theorem FB {c : List Int} {f : Nat → Bool} (hc : c.length = 4) (hr : ∀ x ∈ c, 0 ≤ x ∧ x ≤ 18446744073709551615) (h : ∀ j, j < 256 → cB c j = f j) : CC f 0 = c := by
 have hp : ∀ k, k < 4 → ue f 0 k = c.getD k 0 := by
  intro k hk
  have hm : c.getD k 0 ∈ c := j7 (by omega)
  rw [LU, ← Hp (hr _ hm).1 (hr _ hm).2]
  apply J4
  ·exact F3 _
  ·intro i hi
   rw [← h (64 * k + i) (by omega), oB _ _ _ hi]
 unfold CC
 rw [hp 0 (by omega), hp 1 (by omega), hp 2 (by omega), hp 3 (by omega)]
 rcases c with _ | ⟨c0, _ | ⟨c1, _ | ⟨c2, _ | ⟨c3, _ | ⟨c4, c⟩⟩⟩⟩⟩ <;> simp at hc
 rfl
theorem BV {b : List Int} {k j : Nat} {v : Int} (h : k < b.length) : (b.set k v).getD j 0 = if j = k then v else b.getD j 0 := by
 unfold List.getD
 rw [List.getElem?_set]
 by_cases e : k = j
 ·rw [if_pos e, if_pos h, if_pos e.symm]; rfl
 ·rw [if_neg e, if_neg (fun q => e q.symm)]
theorem wq {b : List Int} {k N : Nat} (hb : b.length = 4) (hk : k < 4) (hN : N < 18446744073709551616) (j : Nat) : cB (b.set k (N : Int)) j = if j / 64 = k then N.testBit (j % 64) else cB b j := by
 rw [qt, BV (by omega)]
 by_cases e : j / 64 = k
 ·rw [if_pos e, if_pos e, Cs hN]
 ·rw [if_neg e, if_neg e, qt]
theorem xL {b : List Int} {k N : Nat} (hr : ∀ x ∈ b, 0 ≤ x ∧ x ≤ 18446744073709551615) (hN : N < 18446744073709551616) : ∀ x ∈ b.set k (N : Int), 0 ≤ x ∧ x ≤ 18446744073709551615 := by
 intro x hx
 rcases List.mem_or_eq_of_mem_set hx with h | h
 ·exact hr x h
 ·omega
theorem xU (x y : Int) : ∃ N : Nat, Go.bits .andNot .u64 x y = (N : Int) ∧ N < 18446744073709551616 ∧ ∀ i, i < 64 → N.testBit i = ((U x).testBit i && !(U y).testBit i) := by
 refine ⟨(BitVec.ofInt 64 x &&& ~~~ BitVec.ofInt 64 y).toNat, ?_, (BitVec.ofInt 64 x &&& ~~~ BitVec.ofInt 64 y).isLt, fun i hi => ?_⟩
 ·show Go.IntKind.wrap .u64 (((BitVec.ofInt 64 x &&& ~~~ BitVec.ofInt 64 y).toNat : Nat) : Int) = _
  exact wrap_u64 _ (BitVec.ofInt 64 x &&& ~~~ BitVec.ofInt 64 y).isLt
 ·rw [← Ny x, ← Ny y, BitVec.testBit_toNat, BitVec.testBit_toNat, BitVec.testBit_toNat, BitVec.getLsbD_and, BitVec.getLsbD_not]
  simp [hi]
theorem yH {i : Nat} (hi : i < 64) : IntKind.u64.wrap (1 * 2 ^ min i IntKind.u64.bits) = ((2 ^ i : Nat) : Int) := by
 have h : (2 : Nat) ^ i < 2 ^ 64 := Nat.pow_lt_pow_right (by omega) hi
 rw [show min i IntKind.u64.bits = i from Nat.min_eq_left (show i ≤ 64 by omega), Int.one_mul]
 have := wrap_u64 (2 ^ i) h
 rw [Int.natCast_pow] at this ⊢
 exact this
theorem nU {n : Int} : fits n = true ↔ 0 ≤ n ∧ n < 256 := by unfold fits; simp
theorem N4 {n : Int} : fits n = false ↔ ¬ (0 ≤ n ∧ n < 256) := by
 rw [← nU]; simp
theorem put_eq {b c : List Int} {n : Int} {v : Bool} (hf : fits n = true) (hc : c.length = 4) (hr : ∀ x ∈ c, 0 ≤ x ∧ x ≤ 18446744073709551615) (h : ∀ j, j < 256 → cB c j = if j = n.toNat then v else cB b j) : c = nn b n v := by
 unfold nn
 rw [if_pos hf, FB hc hr h]
theorem Kz {b : List Int} {n : Int} {v : Bool} (hf : fits n = false) : nn b n v = b := by
 unfold nn
 rw [hf]; rfl
theorem Sg (x : Int × Unit) (hpre : True) (hlens : aD ou.as x) : Cz x := by
 obtain ⟨x, u⟩ := x
 obtain ⟨⟨h0, h1⟩, -⟩ := hlens
 unfold Cz
 simp only [Bool.not_eq_true', Bool.not_eq_false', Bool.not_eq_true, Bool.not_eq_false, beq_self_eq_true, decide_eq_true_eq, decide_eq_false_iff_not, Bool.not_false, Bool.not_true, beq_iff_eq, beq_eq_false_iff_ne, bne_iff_ne, ne_eq, bne_eq_false_iff_eq, aE, true_and, and_true, and_self, eq_self, List.length_cons, List.length_nil, List.length_append, List.length_set, List.length_replicate, List.set_cons_zero, cond_true, cond_false, Bool.false_eq_true, Bool.true_eq_false, forall_const, false_imp_iff, imp_self, implies_true, and_imp, Decidable.not_not, Bool.and_eq_true, Bool.or_eq_true, Bool.and_eq_false_iff, Bool.or_eq_false_iff, ← List.length_eq_zero_iff, or_self, or_false, false_or, Prod.forall, Int.reduceEq, Int.reduceLT, Int.reduceLE, List.nil_append, Nat.zero_add, Int.toNat_zero, List.drop_zero, List.length_drop, List.length_take, not_true_eq_false, not_false_eq_true,  bM]
 have h1 : x ≤ 18446744073709551615 := h1
 have h0 : 0 ≤ x := h0
 have := Lib.bitLen_le x.toNat 64 (by omega) (by omega)
 omega
theorem RT (x : Int × Unit) (hpre : True) (hlens : aD n9.as x) : BJ x := by
 obtain ⟨x, u⟩ := x
 unfold BJ
 simp only [Bool.not_eq_true', Bool.not_eq_false', Bool.not_eq_true, Bool.not_eq_false, beq_self_eq_true, decide_eq_true_eq, decide_eq_false_iff_not, Bool.not_false, Bool.not_true, beq_iff_eq, beq_eq_false_iff_ne, bne_iff_ne, ne_eq, bne_eq_false_iff_eq, aE, true_and, and_true, and_self, eq_self, List.length_cons, List.length_nil, List.length_append, List.length_set, List.length_replicate, List.set_cons_zero, cond_true, cond_false, Bool.false_eq_true, Bool.true_eq_false, forall_const, false_imp_iff, imp_self, implies_true, and_imp, Decidable.not_not, Bool.and_eq_true, Bool.or_eq_true, Bool.and_eq_false_iff, Bool.or_eq_false_iff, ← List.length_eq_zero_iff, or_self, or_false, false_or, Prod.forall, Int.reduceEq, Int.reduceLT, Int.reduceLE, List.nil_append, Nat.zero_add, Int.toNat_zero, List.drop_zero, List.length_drop, List.length_take, not_true_eq_false, not_false_eq_true,  bM]
 first | done | rfl
theorem Sy (x : List Int × Int × Unit) (hpre : True) (hlens : aD nG.as x) : C8 x := by
 obtain ⟨b, n, u⟩ := x
 obtain ⟨⟨hb4, hbr⟩, -⟩ := hlens
 have hb4 : b.length = 4 := hb4
 have hbr : ∀ x ∈ b, 0 ≤ x ∧ x ≤ 18446744073709551615 := hbr
 unfold C8
 simp only [Bool.not_eq_true', Bool.not_eq_false', Bool.not_eq_true, Bool.not_eq_false, beq_self_eq_true, decide_eq_true_eq, decide_eq_false_iff_not, Bool.not_false, Bool.not_true, beq_iff_eq, beq_eq_false_iff_ne, bne_iff_ne, ne_eq, bne_eq_false_iff_eq, aE, true_and, and_true, and_self, eq_self, List.length_cons, List.length_nil, List.length_append, List.length_set, List.length_replicate, List.set_cons_zero, cond_true, cond_false, Bool.false_eq_true, Bool.true_eq_false, forall_const, false_imp_iff, imp_self, implies_true, and_imp, Decidable.not_not, Bool.and_eq_true, Bool.or_eq_true, Bool.and_eq_false_iff, Bool.or_eq_false_iff, ← List.length_eq_zero_iff, or_self, or_false, false_or, Prod.forall, Int.reduceEq, Int.reduceLT, Int.reduceLE, List.nil_append, Nat.zero_add, Int.toNat_zero, List.drop_zero, List.length_drop, List.length_take, not_true_eq_false, not_false_eq_true,  bM]
 refine ⟨fun hf => ?_, fun hf => (Kz hf).symm⟩
 have h := nU.1 hf
 refine ⟨h.1, by omega, h.1, by omega, by omega, ?_⟩
 rw [yH (by omega), Nt]
 have hi : n.toNat % 64 < 64 := Nat.mod_lt _ (by omega)
 have hp : (2 : Nat) ^ (n % 64).toNat < 18446744073709551616 := Nat.pow_lt_pow_right (by omega) (show (n % 64).toNat < 64 by omega)
 rw [Cs hp]
 have hN : U (b.getD (n / 64).toNat 0) ||| 2 ^ (n % 64).toNat < 18446744073709551616 := Nat.or_lt_two_pow (n := 64) (F3 _) hp
 refine put_eq hf (by rw [List.length_set]; exact hb4) (xL hbr hN) fun j hj => ?_
 rw [wq hb4 (by omega) hN]
 by_cases e : j / 64 = (n / 64).toNat
 ·rw [if_pos e, Nat.testBit_or, Nat.testBit_two_pow, qt, ← e]
  by_cases e2 : j = n.toNat
  ·rw [if_pos e2, decide_eq_true (by omega : (n % 64).toNat = j % 64), Bool.or_true]
  ·rw [if_neg e2, decide_eq_false (by omega : ¬ (n % 64).toNat = j % 64), Bool.or_false]
 ·rw [if_neg e, if_neg (by omega)]
theorem EF (x : List Int × Int × Unit) (hpre : True) (hlens : aD eL.as x) : rT x := by
 obtain ⟨b, n, u⟩ := x
 obtain ⟨⟨hb4, hbr⟩, -⟩ := hlens
 have hb4 : b.length = 4 := hb4
 have hbr : ∀ x ∈ b, 0 ≤ x ∧ x ≤ 18446744073709551615 := hbr
 unfold rT
 simp only [Bool.not_eq_true', Bool.not_eq_false', Bool.not_eq_true, Bool.not_eq_false, beq_self_eq_true, decide_eq_true_eq, decide_eq_false_iff_not, Bool.not_false, Bool.not_true, beq_iff_eq, beq_eq_false_iff_ne, bne_iff_ne, ne_eq, bne_eq_false_iff_eq, aE, true_and, and_true, and_self, eq_self, List.length_cons, List.length_nil, List.length_append, List.length_set, List.length_replicate, List.set_cons_zero, cond_true, cond_false, Bool.false_eq_true, Bool.true_eq_false, forall_const, false_imp_iff, imp_self, implies_true, and_imp, Decidable.not_not, Bool.and_eq_true, Bool.or_eq_true, Bool.and_eq_false_iff, Bool.or_eq_false_iff, ← List.length_eq_zero_iff, or_self, or_false, false_or, Prod.forall, Int.reduceEq, Int.reduceLT, Int.reduceLE, List.nil_append, Nat.zero_add, Int.toNat_zero, List.drop_zero, List.length_drop, List.length_take, not_true_eq_false, not_false_eq_true,  bM]
 refine ⟨fun hf => ?_, fun hf => (Kz hf).symm⟩
 have h := nU.1 hf
 refine ⟨h.1, by omega, h.1, by omega, by omega, ?_⟩
 rw [yH (by omega)]
 have hp : (2 : Nat) ^ (n % 64).toNat < 18446744073709551616 := Nat.pow_lt_pow_right (by omega) (show (n % 64).toNat < 64 by omega)
 obtain ⟨N, e1, hN, ht⟩ := xU (b.getD (n / 64).toNat 0) ((2 ^ (n % 64).toNat : Nat) : Int)
 rw [e1]
 rw [Cs hp] at ht
 refine put_eq hf (by rw [List.length_set]; exact hb4) (xL hbr hN) fun j hj => ?_
 rw [wq hb4 (by omega) hN]
 by_cases e : j / 64 = (n / 64).toNat
 ·rw [if_pos e, ht _ (by omega), Nat.testBit_two_pow, qt, ← e]
  by_cases e2 : j = n.toNat
  ·rw [if_pos e2, decide_eq_true (by omega : (n % 64).toNat = j % 64), Bool.not_true, Bool.and_false]
  ·rw [if_neg e2, decide_eq_false (by omega : ¬ (n % 64).toNat = j % 64), Bool.not_false, Bool.and_true]
 ·rw [if_neg e, if_neg (by omega)]
theorem pP {v m : Nat} (h0 : 2 ^ m ≤ v) (h1 : v < 2 ^ (m + 1)) (hm : m < 64) : Lib.bitLen v = m + 1 := by
 have h2 : v < 2 ^ 64 := Nat.lt_of_lt_of_le h1 (Nat.pow_le_pow_right (by omega) (by omega))
 rw [Lib.bitLen_shift m v h0 h2]
 have : v / 2 ^ m = 1 := by
  apply Nat.div_eq_of_lt_le
  ·omega
  ·rw [Nat.pow_succ] at h1; omega
 rw [this]
 rfl
theorem AH {f : Nat → Bool} {v s : Nat} : ∀ m, m ≤ 64 → v < 2 ^ m → (∀ i, i < m → f (s + i) = v.testBit i) → uL f (s + m) = if v = 0 then uL f s else (s : Int) + Lib.bitLen v - 1
 | 0, _, hv, _ => by rw [if_pos (by simpa using hv)]; rfl
 | m + 1, hm, hv, hf => by
  show (if f (s + m) = true then ((s + m : Nat) : Int) else uL f (s + m)) = _
  rw [hf m (by omega)]
  by_cases ht : v.testBit m = true
  ·have h0 : 2 ^ m ≤ v := Nat.ge_two_pow_of_testBit ht
   rw [if_pos ht, if_neg (by have : 0 < 2 ^ m := Nat.pow_pos (by omega); omega), pP h0 hv (by omega)]
   omega
  ·rw [if_neg ht]
   have hlt : v < 2 ^ m := by
    rw [Nat.testBit_eq_decide_div_mod_eq, decide_eq_true_eq] at ht
    have h2 : v / 2 ^ m < 2 := by
     apply Nat.div_lt_of_lt_mul
     rw [Nat.pow_succ] at hv; exact hv
    have h3 : v / 2 ^ m = 0 := by
     generalize v / 2 ^ m = q at *
     omega
    exact (Nat.div_eq_zero_iff_lt (Nat.pow_pos (by omega))).1 h3
   exact AH m (by omega) hlt (fun i hi => hf i (by omega))
theorem Kc (b : List Int) (k : Nat) : uL (cB b) (64 * (k + 1)) = if U (b.getD k 0) = 0 then uL (cB b) (64 * k) else (64 * k : Nat) + Lib.bitLen (U (b.getD k 0)) - 1 := by
 rw [show 64 * (k + 1) = 64 * k + 64 by omega]
 exact AH 64 (Nat.le_refl _) (F3 _) (fun i hi => oB b k i hi)
theorem Td (x : List Int × Unit) (hpre : True) (hlens : aD tw.as x) : KD x := by
 obtain ⟨b, u⟩ := x
 obtain ⟨⟨hb4, hbr⟩, -⟩ := hlens
 have hb4 : b.length = 4 := hb4
 unfold KD
 simp only [Bool.not_eq_true', Bool.not_eq_false', Bool.not_eq_true, Bool.not_eq_false, beq_self_eq_true, decide_eq_true_eq, decide_eq_false_iff_not, Bool.not_false, Bool.not_true, beq_iff_eq, beq_eq_false_iff_ne, bne_iff_ne, ne_eq, bne_eq_false_iff_eq, aE, true_and, and_true, and_self, eq_self, List.length_cons, List.length_nil, List.length_append, List.length_set, List.length_replicate, List.set_cons_zero, cond_true, cond_false, Bool.false_eq_true, Bool.true_eq_false, forall_const, false_imp_iff, imp_self, implies_true, and_imp, Decidable.not_not, Bool.and_eq_true, Bool.or_eq_true, Bool.and_eq_false_iff, Bool.or_eq_false_iff, ← List.length_eq_zero_iff, or_self, or_false, false_or, Prod.forall, Int.reduceEq, Int.reduceLT, Int.reduceLE, List.nil_append, Nat.zero_add, Int.toNat_zero, List.drop_zero, List.length_drop, List.length_take, not_true_eq_false, not_false_eq_true,  bM]
 refine ⟨rfl, ?_⟩
 intro a k hk0 hk1 hab ht ha4 har _ _
 subst hab
 refine ⟨fun h0 => ?_, fun h0 => ?_⟩
 ·have hw := Kc a k.toNat
  rw [show (k + 1).toNat = k.toNat + 1 by omega, hw] at ht
  have hm : a.getD k.toNat 0 ∈ a := j7 (by omega)
  have hu := Hp (har _ hm).1 (har _ hm).2
  have hu2 : U (a.getD k.toNat 0) = (a.getD k.toNat 0).toNat := by omega
  rw [hu2] at ht
  have hl := Lib.bitLen_le (a.getD k.toNat 0).toNat 64 (by omega) (by have := (har _ hm).2; omega)
  have hr := har _ hm
  generalize a.getD k.toNat 0 = v at *
  refine ⟨⟨h0, by omega⟩, fun hv => ?_, fun hv => ?_⟩
  ·rw [if_neg (by omega)] at ht
   refine ⟨by omega, by omega, ⟨h0, by omega⟩, by omega, by rw [ht]; omega⟩
  ·rw [if_pos (by omega)] at ht
   refine ⟨by omega, ⟨by omega, by omega, ?_⟩, by omega⟩
   rw [ht, show (k - 1 + 1).toNat = k.toNat by omega]
   exact ⟨rfl, rfl⟩
 ·rw [show (k + 1).toNat = 0 by omega] at ht
  exact ht.symm
theorem oK {f : Nat → Bool} {r : Nat} : ∀ (m s : Nat), (∀ i, i < m → f (s + i) = false) → fP f s (m + r) = fP f (s + m) r
 | 0, s, _ => by rw [Nat.zero_add, Nat.add_zero]
 | m + 1, s, h => by
  rw [show m + 1 + r = (m + r) + 1 by omega]
  show (if f s = true then _ else fP f (s + 1) (m + r)) = _
  have h0 := h 0 (by omega)
  rw [Nat.add_zero] at h0
  rw [h0, if_neg (by decide), oK m (s + 1) (fun i hi => by have := h (i + 1) (by omega); rwa [show s + (i + 1) = s + 1 + i by omega] at this)]
  rw [show s + 1 + m = s + (m + 1) by omega]
theorem uN {f g : Nat → Bool} : ∀ (k s : Nat), (∀ j, s ≤ j → j < s + k → f j = g j) → fP f s k = fP g s k
 | 0, _, _ => rfl
 | k + 1, s, h => by
  show (if f s = true then _ else fP f (s + 1) k) = (if g s = true then _ else fP g (s + 1) k)
  rw [h s (by omega) (by omega), uN k (s + 1) (fun j h1 h2 => h j (by omega) (by omega))]
theorem xO {f : Nat → Bool} : ∀ (k s : Nat), (fP f s k = -1 ∧ ∀ j, s ≤ j → j < s + k → f j = false) ∨ ∃ r : Nat, fP f s k = r ∧ s ≤ r ∧ r < s + k ∧ f r = true ∧ ∀ j, s ≤ j → j < r → f j = false
 | 0, s => Or.inl ⟨rfl, fun j h1 h2 => by omega⟩
 | k + 1, s => by
  have e : fP f s (k + 1) = if f s = true then (s : Int) else fP f (s + 1) k := rfl
  rw [e]
  by_cases h : f s = true
  ·rw [if_pos h]
   exact Or.inr ⟨s, rfl, by omega, by omega, h, fun j h1 h2 => by omega⟩
  ·have hs : f s = false := by simpa using h
   rw [if_neg h]
   rcases xO k (s + 1) with ⟨h1, h2⟩ | ⟨r, h1, h2, h3, h4, h5⟩
   ·refine Or.inl ⟨h1, fun j q1 q2 => ?_⟩
    by_cases q : j = s
    ·rw [q]; exact hs
    ·exact h2 j (by omega) (by omega)
   ·refine Or.inr ⟨r, h1, by omega, by omega, h4, fun j q1 q2 => ?_⟩
    by_cases q : j = s
    ·rw [q]; exact hs
    ·exact h5 j (by omega) q2
theorem Bq {v : Nat} (h0 : v ≠ 0) (h : v < 18446744073709551616) : Lib.ctz 64 v < 64 ∧ v.testBit (Lib.ctz 64 v) = true ∧ ∀ i, i < Lib.ctz 64 v → v.testBit i = false := by
 obtain ⟨m, h1, h2⟩ := Lib.ctzFrom_spec 64 v (by omega) h
 have e : Lib.ctz 64 v = Lib.ctzFrom 64 v := by unfold Lib.ctz; rw [if_neg h0]
 rw [e]
 generalize Lib.ctzFrom 64 v = c at *
 subst h1
 refine ⟨h2, ?_, fun i hi => ?_⟩
 ·rw [Nat.mul_comm, Nat.testBit_mul_two_pow]; simp
 ·rw [Nat.mul_comm, Nat.testBit_mul_two_pow]; simp; omega
theorem FP (b : List Int) (k : Nat) (hk : k < 4) : fP (cB b) (64 * k) (64 * (4 - k)) = if U (b.getD k 0) = 0 then fP (cB b) (64 * (k + 1)) (64 * (4 - (k + 1))) else (64 * k : Nat) + Lib.ctz 64 (U (b.getD k 0)) := by
 have ht := fun i hi => oB b k i hi
 have hlt := F3 (b.getD k 0)
 generalize U (b.getD k 0) = v at *
 by_cases h : v = 0
 ·rw [if_pos h, show 64 * (4 - k) = 64 + 64 * (4 - (k + 1)) by omega, oK 64 _ (fun i hi => by rw [ht i hi, h]; exact Nat.zero_testBit i)]
  rfl
 ·obtain ⟨h1, h2, h3⟩ := Bq h hlt
  rw [if_neg h]
  generalize Lib.ctz 64 v = c at *
  rw [show 64 * (4 - k) = c + ((64 * (4 - k) - c - 1) + 1) by omega, oK c _ (fun i hi => by rw [ht i (by omega)]; exact h3 i hi)]
  show (if cB b (64 * k + c) = true then ((64 * k + c : Nat) : Int) else _) = _
  rw [ht c h1, h2, if_pos rfl]
  omega
theorem Jq {i : Nat} (hi : i < 64) : U (((2 ^ i : Nat) : Int) - 1) = 2 ^ i - 1 := by
 have h : (2 : Nat) ^ i < 2 ^ 64 := Nat.pow_lt_pow_right (by omega) hi
 have h1 : 0 < 2 ^ i := Nat.pow_pos (by omega)
 have h2 : (2 : Nat) ^ 64 = 18446744073709551616 := by decide
 generalize 2 ^ i = p at *
 unfold U
 omega
theorem Sv (x : List Int × Int × Unit) (hpre : True) (hlens : aD mZ.as x) : Cv x := by
 obtain ⟨b, n, u⟩ := x
 obtain ⟨⟨hb4, hbr⟩, -⟩ := hlens
 have hb4 : b.length = 4 := hb4
 have hbr : ∀ x ∈ b, 0 ≤ x ∧ x ≤ 18446744073709551615 := hbr
 unfold Cv
 delta tR tD tQ y4 tL
 simp only [Bool.not_eq_true', Bool.not_eq_false', Bool.not_eq_true, Bool.not_eq_false, beq_self_eq_true, decide_eq_true_eq, decide_eq_false_iff_not, Bool.not_false, Bool.not_true, beq_iff_eq, beq_eq_false_iff_ne, bne_iff_ne, ne_eq, bne_eq_false_iff_eq, aE, true_and, and_true, and_self, eq_self, List.length_cons, List.length_nil, List.length_append, List.length_set, List.length_replicate, List.set_cons_zero, cond_true, cond_false, Bool.false_eq_true, Bool.true_eq_false, forall_const, false_imp_iff, imp_self, implies_true, and_imp, Decidable.not_not, Bool.and_eq_true, Bool.or_eq_true, Bool.and_eq_false_iff, Bool.or_eq_false_iff, ← List.length_eq_zero_iff, or_self, or_false, false_or, Prod.forall, Int.reduceEq, Int.reduceLT, Int.reduceLE, List.nil_append, Nat.zero_add, Int.toNat_zero, List.drop_zero, List.length_drop, List.length_take, not_true_eq_false, not_false_eq_true,  bM]
 refine ⟨fun hf => by unfold aL; rw [hf]; rfl, fun hf => ?_⟩
 have h := nU.1 hf
 have hno : aL b n = fP (cB b) (max n 0).toNat (256 - (max n 0).toNat) := if_pos hf
 rw [hno]
 generalize max n 0 = m at *
 have hi : (m % 64).toNat < 64 := by omega
 rw [yH hi]
 have hp : (2 : Nat) ^ (m % 64).toNat < 18446744073709551616 := Nat.pow_lt_pow_right (by omega) hi
 have hp0 : 0 < 2 ^ (m % 64).toNat := Nat.pow_pos (by omega)
 refine ⟨h.1, by omega, h.1, by omega, by omega, by omega, h.1, ⟨by omega, by omega, ?_⟩, ?_⟩
 ·obtain ⟨N, e1, hN, ht⟩ := xU (b.getD (m / 64).toNat 0) (((2 ^ (m % 64).toNat : Nat) : Int) - 1)
  rw [e1]
  rw [Jq hi] at ht
  have hbn := wq (N := N) (k := (m / 64).toNat) hb4 (by omega) hN
  rw [show 64 * (4 - m / 64).toNat = (m % 64).toNat + (256 - m.toNat) by omega, oK (m % 64).toNat]
  ·rw [show 64 * (m / 64).toNat + (m % 64).toNat = m.toNat by omega]
   apply uN
   intro j h1 h2
   rw [hbn]
   by_cases e : j / 64 = (m / 64).toNat
   ·rw [if_pos e, ht _ (by omega), Nat.testBit_two_pow_sub_one, decide_eq_false (by omega), qt, ← e, Bool.not_false, Bool.and_true]
   ·rw [if_neg e]
  ·intro i hi2
   rw [hbn, if_pos (by omega), ht _ (by omega), Nat.testBit_two_pow_sub_one, decide_eq_true (by omega), Bool.not_true, Bool.and_false]
 ·intro a k hk0 hk1 hn ha4 har _ _
  refine ⟨fun hk => ?_, fun hk => ?_⟩
  ·have hw := FP a k.toNat (by omega)
   rw [show (4 - k).toNat = 4 - k.toNat by omega, hw] at hn
   have hm : a.getD k.toNat 0 ∈ a := j7 (by omega)
   have hr := har _ hm
   have hu := Hp hr.1 hr.2
   have hu2 : U (a.getD k.toNat 0) = (a.getD k.toNat 0).toNat := by omega
   rw [hu2] at hn
   have hc := fun h0 => Bq (v := (a.getD k.toNat 0).toNat) h0 (by omega)
   generalize a.getD k.toNat 0 = v at *
   refine ⟨⟨hk0, by omega⟩, fun hv => ?_, fun hv => ?_⟩
   ·rw [if_neg (by omega)] at hn
    have hc := (hc (by omega)).1
    refine ⟨by omega, ⟨hk0, by omega⟩, by omega, by rw [hn]; omega⟩
   ·rw [if_pos (by omega)] at hn
    refine ⟨by omega, ⟨by omega, by omega, ?_⟩, by omega⟩
    rw [hn, show (k + 1).toNat = k.toNat + 1 by omega, show (4 - (k + 1)).toNat = 4 - (k.toNat + 1) by omega]
  ·rw [show (4 - k).toNat = 0 by omega] at hn
   exact hn.symm
theorem all_succ (f : Nat → Bool) (m : Nat) : kq f (m + 1) = if f m = true then kq f m ++ [(m : Int)] else kq f m := by
 unfold kq
 rw [List.range_succ, List.filter_append, List.map_append]
 by_cases h : f m = true
 ·rw [if_pos h, List.filter_cons_of_pos h]; rfl
 ·rw [if_neg h, List.filter_cons_of_neg h]; simp
theorem wQ {f : Nat → Bool} {a : Nat} : ∀ d, (∀ j, a ≤ j → j < a + d → f j = false) → kq f (a + d) = kq f a
 | 0, _ => rfl
 | d + 1, h => by
  rw [show a + (d + 1) = (a + d) + 1 by omega, all_succ, h (a + d) (by omega) (by omega), if_neg (by decide)]
  exact wQ d (fun j h1 h2 => h j h1 (by omega))
theorem A4 (b : List Int) (n : Int) (h0 : 0 ≤ n) (h1 : n ≤ 256) : (aL b n = -1 ∧ cQ b = kq (cB b) n.toNat) ∨ (n ≤ aL b n ∧ aL b n ≤ 255 ∧ cB b (aL b n).toNat = true ∧ kq (cB b) (aL b n).toNat = kq (cB b) n.toNat) := by
 unfold aL
 rw [show max n 0 = n by omega]
 by_cases hn : n < 256
 ·rw [if_pos (nU.2 ⟨h0, hn⟩)]
  rcases xO (f := cB b) (256 - n.toNat) n.toNat with ⟨h2, h3⟩ | ⟨r, h2, h3, h4, h5, h6⟩
  ·refine Or.inl ⟨h2, ?_⟩
   unfold cQ
   have := wQ (f := cB b) (a := n.toNat) (256 - n.toNat) h3
   rwa [show n.toNat + (256 - n.toNat) = 256 by omega] at this
  ·refine Or.inr ?_
   rw [h2, Int.toNat_natCast]
   refine ⟨by omega, by omega, h5, ?_⟩
   have := wQ (f := cB b) (a := n.toNat) (r - n.toNat) (fun j q1 q2 => h6 j q1 (by omega))
   rwa [show n.toNat + (r - n.toNat) = r by omega] at this
 ·have : fits n = false := N4.2 (by omega)
  rw [this]
  refine Or.inl ⟨rfl, ?_⟩
  rw [show n.toNat = 256 by omega]
  rfl
theorem dT {α : Type} (d : α) {l : List α} {k : Int} (h0 : 0 ≤ k) (h1 : k < l.length) : l.take (k + 1).toNat = l.take k.toNat ++ [l.getD k.toNat d] := by
 have e : (k + 1).toNat = k.toNat + 1 := by omega
 have hlt : k.toNat < l.length := by omega
 rw [e, List.take_add_one, List.getElem?_eq_getElem hlt]
 simp [hlt]
theorem ff {α : Type} {l : List α} {k : Int} (h : (l.length : Int) ≤ k) : l.take k.toNat = l := List.take_of_length_le (by omega)
theorem Bi (f : Nat → Bool) : ∀ m, (kq f m).Pairwise (fun a b => a < b) ∧ ∀ n ∈ kq f m, 0 ≤ n ∧ n < m
 | 0 => ⟨List.Pairwise.nil, fun n hn => by cases hn⟩
 | m + 1 => by
  obtain ⟨h1, h2⟩ := Bi f m
  rw [all_succ]
  split
  ·refine ⟨List.pairwise_append.2 ⟨h1, by simp, fun a ha b hb => ?_⟩, fun n hn => ?_⟩
   ·rw [List.mem_singleton.1 hb]; have := h2 a ha; omega
   ·rcases List.mem_append.1 hn with h | h
    ·have := h2 n h; omega
    ·rw [List.mem_singleton.1 h]; omega
  ·exact ⟨h1, fun n hn => by have := h2 n hn; omega⟩
theorem DL (f : Nat → Bool) (m : Nat) : ∀ d, ∃ t, kq f (m + d) = kq f m ++ t
 | 0 => ⟨[], by simp⟩
 | d + 1 => by
  obtain ⟨t, ht⟩ := DL f m d
  rw [show m + (d + 1) = (m + d) + 1 by omega, all_succ, ht]
  split
  ·exact ⟨t ++ [((m + d : Nat) : Int)], by rw [List.append_assoc]⟩
  ·exact ⟨t, rfl⟩
theorem yr {b : List Int} {n : Int} (h0 : 0 ≤ n) (h1 : n ≤ 255) (h : cB b n.toNat = true) : (cQ b).drop (posOf b n) = n :: (cQ b).drop (kq (cB b) (n + 1).toNat).length := by
 obtain ⟨t, ht⟩ := DL (cB b) (n.toNat + 1) (256 - (n.toNat + 1))
 rw [show n.toNat + 1 + (256 - (n.toNat + 1)) = 256 by omega] at ht
 unfold cQ posOf
 rw [if_neg (by omega), ht, show (n + 1).toNat = n.toNat + 1 by omega, List.drop_left, all_succ, if_pos h, List.append_assoc, List.drop_left, Int.toNat_of_nonneg h0]
 rfl
theorem uW {b : List Int} {n : Int} (h0 : 0 ≤ n) (h1 : n ≤ 256) : posOf b (aL b n) = (kq (cB b) n.toNat).length ∧ -1 ≤ aL b n ∧ aL b n ≤ 255 ∧ (aL b n = -1 ∨ cB b (aL b n).toNat = true) ∧ (aL b n = -1 ∨ n ≤ aL b n) := by
 rcases A4 b n h0 h1 with ⟨q1, q2⟩ | ⟨q1, q2, q3, q4⟩
 ·rw [q1]
  refine ⟨?_, by omega, by omega, Or.inl rfl, Or.inl rfl⟩
  unfold posOf
  rw [if_pos (by omega), q2]
 ·refine ⟨?_, by omega, q2, Or.inr q3, Or.inr q1⟩
  unfold posOf
  rw [if_neg (by omega), q4]
theorem xm (b : List Int) : (cQ b).all (fun n => decide (32 ≤ n)) = (decide (aL b 0 < 0) || decide (32 ≤ aL b 0)) := by
 obtain ⟨h1, h2, h3, h4, h5⟩ := uW (b := b) (n := 0) (by omega) (by omega)
 have hd : (cQ b).drop (posOf b (aL b 0)) = cQ b := by rw [h1]; rfl
 have hr := (Bi (cB b) 256).1
 by_cases hn : aL b 0 = -1
 ·have : cQ b = [] := by
   rw [← hd, hn]
   unfold posOf
   rw [if_pos (by omega), List.drop_length]
  rw [this, hn]
  rfl
 ·rw [yr (by omega) h3 (by rcases h4 with h | h; exact absurd h hn; exact h)] at hd
  have hr : (cQ b).Pairwise (fun a b => a < b) := hr
  rw [← hd] at hr ⊢
  generalize aL b 0 = n at *
  generalize (cQ b).drop (kq (cB b) (0 + 1 : Int).toNat).length = t at *
  rw [Bool.eq_iff_iff, List.all_eq_true, Bool.or_eq_true, decide_eq_true_eq, decide_eq_true_eq]
  constructor
  ·intro h
   have := h n List.mem_cons_self
   rw [decide_eq_true_eq] at this
   exact Or.inr this
  ·intro h m hm
   rw [decide_eq_true_eq]
   rcases List.mem_cons.1 hm with rfl | hm
   ·omega
   ·have := (List.pairwise_cons.1 hr).1 m hm
    omega
theorem M6 (x : Int × Unit) (hpre : 0 ≤ x.1) (hlens : aD jB.as x) : yg x := by
 obtain ⟨x, u⟩ := x
 unfold yg
 simp only [Bool.not_eq_true', Bool.not_eq_false', Bool.not_eq_true, Bool.not_eq_false, beq_self_eq_true, decide_eq_true_eq, decide_eq_false_iff_not, Bool.not_false, Bool.not_true, beq_iff_eq, beq_eq_false_iff_ne, bne_iff_ne, ne_eq, bne_eq_false_iff_eq, aE, true_and, and_true, and_self, eq_self, List.length_cons, List.length_nil, List.length_append, List.length_set, List.length_replicate, List.set_cons_zero, cond_true, cond_false, Bool.false_eq_true, Bool.true_eq_false, forall_const, false_imp_iff, imp_self, implies_true, and_imp, Decidable.not_not, Bool.and_eq_true, Bool.or_eq_true, Bool.and_eq_false_iff, Bool.or_eq_false_iff, ← List.length_eq_zero_iff, or_self, or_false, false_or, Prod.forall, Int.reduceEq, Int.reduceLT, Int.reduceLE, List.nil_append, Nat.zero_add, Int.toNat_zero, List.drop_zero, List.length_drop, List.length_take, not_true_eq_false, not_false_eq_true,  bM]
 exact hpre
theorem Es {A S : List Int} {c : Int} : D6 (A, S, c) = true ↔ 0 ≤ c ∧ c ≤ 15 := by unfold D6; simp
theorem LS {A S : List Int} {c : Int} (h : zP (-1) (cQ S) = false) : dP (A, S, c) = false := by
 unfold dP
 rw [h]; rfl
theorem Mt {A S : List Int} {c : Int} (h : ¬ (0 ≤ c ∧ c ≤ 15)) : dP (A, S, c) = false := by
 unfold dP
 have : D6 (A, S, c) = false := by rw [← Bool.not_eq_true, Es]; exact h
 rw [this, Bool.false_and, Bool.and_false]
theorem Ef {A S : List Int} {c : Int} (h : zP (-1) (cQ S) = true) (hc : 0 ≤ c ∧ c ≤ 15) : dP (A, S, c) = (cQ A).all (fun n => decide (32 ≤ n)) := by
 unfold dP
 rw [h, Es.2 hc, Bool.true_and, Bool.true_and]
theorem iW (x : LC × Unit) (hpre : True) (hlens : aD fD.as x) : cy x := by
 obtain ⟨⟨A, S, c⟩, u⟩ := x
 unfold cy
 delta bJ ay bj
 simp only [Bool.not_eq_true', Bool.not_eq_false', Bool.not_eq_true, Bool.not_eq_false, beq_self_eq_true, decide_eq_true_eq, decide_eq_false_iff_not, Bool.not_false, Bool.not_true, beq_iff_eq, beq_eq_false_iff_ne, bne_iff_ne, ne_eq, bne_eq_false_iff_eq, aE, true_and, and_true, and_self, eq_self, List.length_cons, List.length_nil, List.length_append, List.length_set, List.length_replicate, List.set_cons_zero, cond_true, cond_false, Bool.false_eq_true, Bool.true_eq_false, forall_const, false_imp_iff, imp_self, implies_true, and_imp, Decidable.not_not, Bool.and_eq_true, Bool.or_eq_true, Bool.and_eq_false_iff, Bool.or_eq_false_iff, ← List.length_eq_zero_iff, or_self, or_false, false_or, Prod.forall, Int.reduceEq, Int.reduceLT, Int.reduceLE, List.nil_append, Nat.zero_add, Int.toNat_zero, List.drop_zero, List.length_drop, List.length_take, not_true_eq_false, not_false_eq_true,  bM]
 refine ⟨?_, ?_⟩
 ·obtain ⟨h1, h2, h3, h4, h5⟩ := uW (b := S) (n := 0) (by omega) (by omega)
  exact ⟨h2, h3, h4, by rw [h1]; rfl⟩
 ·intro a a1 b last n _ hab hn0 hn1 hbit hok _ _ _ _ _ _ _ _ _ _
  injection hab with e1 e2
  injection e2 with e2 e3
  subst e1
  subst e2
  subst e3
  refine ⟨fun h0 => ⟨h0, fun h => ?_, fun h h' => ?_⟩, fun h0 => ?_⟩
  ·rw [yr h0 hn1 (by rcases hbit with q | q; omega; exact q)] at hok
   have e : zP last (n :: (cQ a1).drop (kq (cB a1) (n + 1).toNat).length) = (!(decide (n / 16 = last)) && !(decide (n < 32)) && zP (n / 16) ((cQ a1).drop (kq (cB a1) (n + 1).toNat).length)) := rfl
   rw [e] at hok
   rw [LS]
   rw [hok]
   rcases h with h | h
   ·rw [decide_eq_true h]; rfl
   ·rw [decide_eq_true h, Bool.not_true, Bool.and_false]; rfl
  ·obtain ⟨h1, h2, h3, h4, h5⟩ := uW (b := a1) (n := n + 1) (by omega) (by omega)
   rw [yr h0 hn1 (by rcases hbit with q | q; omega; exact q)] at hok
   have e : zP last (n :: (cQ a1).drop (kq (cB a1) (n + 1).toNat).length) = (!(decide (n / 16 = last)) && !(decide (n < 32)) && zP (n / 16) ((cQ a1).drop (kq (cB a1) (n + 1).toNat).length)) := rfl
   rw [e, decide_eq_false h, decide_eq_false h'] at hok
   refine ⟨h0, by omega, ⟨rfl, h2, h3, h4, ?_⟩, ?_⟩
   ·rw [h1, hok]; rfl
   ·rw [if_neg (show ¬ n = -1 by omega)]
    by_cases q : aL a1 (n + 1) = -1
    ·rw [if_pos q]; omega
    ·rw [if_neg q]; omega
  ·have hn : n = -1 := by omega
   subst hn
   have hd : zP last ((cQ a1).drop (posOf a1 (-1))) = true := by
    unfold posOf
    rw [if_pos (by omega), List.drop_length]; rfl
   rw [hd] at hok
   refine ⟨fun hb0 hb1 => ⟨⟨hb0, hb1⟩, fun h => ⟨h, ?_⟩, fun h => ?_⟩, fun h => ?_⟩
   ·rw [Ef hok ⟨hb0, hb1⟩, xm, decide_eq_false h, Bool.false_or]
   ·rw [Ef hok ⟨hb0, hb1⟩, xm, decide_eq_true h, Bool.true_or]
   ·rw [Mt (by omega)]
theorem LZ (x : LC × Unit) (hpre : True) (hlens : aD uE.as x) : zi x := by
 obtain ⟨⟨A, S, c⟩, u⟩ := x
 unfold zi
 simp only [Bool.not_eq_true', Bool.not_eq_false', Bool.not_eq_true, Bool.not_eq_false, beq_self_eq_true, decide_eq_true_eq, decide_eq_false_iff_not, Bool.not_false, Bool.not_true, beq_iff_eq, beq_eq_false_iff_ne, bne_iff_ne, ne_eq, bne_eq_false_iff_eq, aE, true_and, and_true, and_self, eq_self, List.length_cons, List.length_nil, List.length_append, List.length_set, List.length_replicate, List.set_cons_zero, cond_true, cond_false, Bool.false_eq_true, Bool.true_eq_false, forall_const, false_imp_iff, imp_self, implies_true, and_imp, Decidable.not_not, Bool.and_eq_true, Bool.or_eq_true, Bool.and_eq_false_iff, Bool.or_eq_false_iff, ← List.length_eq_zero_iff, or_self, or_false, false_or, Prod.forall, Int.reduceEq, Int.reduceLT, Int.reduceLE, List.nil_append, Nat.zero_add, Int.toNat_zero, List.drop_zero, List.length_drop, List.length_take, not_true_eq_false, not_false_eq_true,  bM]
 exact ⟨by omega, rfl⟩
theorem E9 {l : LC} (h1 : dP l = true) (h2 : 0 ≤ cG l.1) (h3 : lvl l < cG l.1 / 16) : dj l = cG l.1 := if_pos ⟨h1, h2, h3⟩
theorem vP {l : LC} (h : dP l = false ∨ ¬ 0 ≤ cG l.1 ∨ ¬ lvl l < cG l.1 / 16) : dj l = -1 := by
 unfold dj
 rw [if_neg]
 rintro ⟨h1, h2, h3⟩
 rcases h with h | h | h
 ·rw [h1] at h; cases h
 ·exact h h2
 ·exact h h3
theorem NJ (x : LC × Unit) (hpre : True) (hlens : aD j4.as x) : zC x := by
 obtain ⟨⟨A, S, c⟩, u⟩ := x
 unfold zC
 simp only [Bool.not_eq_true', Bool.not_eq_false', Bool.not_eq_true, Bool.not_eq_false, beq_self_eq_true, decide_eq_true_eq, decide_eq_false_iff_not, Bool.not_false, Bool.not_true, beq_iff_eq, beq_eq_false_iff_ne, bne_iff_ne, ne_eq, bne_eq_false_iff_eq, aE, true_and, and_true, and_self, eq_self, List.length_cons, List.length_nil, List.length_append, List.length_set, List.length_replicate, List.set_cons_zero, cond_true, cond_false, Bool.false_eq_true, Bool.true_eq_false, forall_const, false_imp_iff, imp_self, implies_true, and_imp, Decidable.not_not, Bool.and_eq_true, Bool.or_eq_true, Bool.and_eq_false_iff, Bool.or_eq_false_iff, ← List.length_eq_zero_iff, or_self, or_false, false_or, Prod.forall, Int.reduceEq, Int.reduceLT, Int.reduceLE, List.nil_append, Nat.zero_add, Int.toNat_zero, List.drop_zero, List.length_drop, List.length_take, not_true_eq_false, not_false_eq_true,  bM]
 refine ⟨fun h => ⟨fun h2 => ⟨h2, fun h3 => (E9 h h2 h3).symm, fun h3 => (vP (Or.inr (Or.inr h3))).symm⟩, fun h2 => (vP (Or.inr (Or.inl h2))).symm⟩, fun h => (vP (Or.inl h)).symm⟩
theorem NL (x : LC × (Int × Int) × Unit) (hpre : True) (hlens : aD bg.as x) : yz x := by
 obtain ⟨⟨A, S, c⟩, ⟨kd, n⟩, u⟩ := x
 unfold yz
 delta jy
 simp only [Bool.not_eq_true', Bool.not_eq_false', Bool.not_eq_true, Bool.not_eq_false, beq_self_eq_true, decide_eq_true_eq, decide_eq_false_iff_not, Bool.not_false, Bool.not_true, beq_iff_eq, beq_eq_false_iff_ne, bne_iff_ne, ne_eq, bne_eq_false_iff_eq, aE, true_and, and_true, and_self, eq_self, List.length_cons, List.length_nil, List.length_append, List.length_set, List.length_replicate, List.set_cons_zero, cond_true, cond_false, Bool.false_eq_true, Bool.true_eq_false, forall_const, false_imp_iff, imp_self, implies_true, and_imp, Decidable.not_not, Bool.and_eq_true, Bool.or_eq_true, Bool.and_eq_false_iff, Bool.or_eq_false_iff, ← List.length_eq_zero_iff, or_self, or_false, false_or, Prod.forall, Int.reduceEq, Int.reduceLT, Int.reduceLE, List.nil_append, Nat.zero_add, Int.toNat_zero, List.drop_zero, List.length_drop, List.length_take, not_true_eq_false, not_false_eq_true,  bM]
 repeat' (first | with_reducible apply And.intro | with_reducible intro _)
 all_goals (
  unfold aW
  simp only []
  (repeat' split) <;> first | rfl | (exfalso; omega) | (exfalso; simp_all; done))

end Go.Proofs.YtlnlichdidobpaaGreatDoor.Apic
