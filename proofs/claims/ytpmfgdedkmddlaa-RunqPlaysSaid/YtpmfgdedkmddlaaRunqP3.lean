/-
  RunqPlays: numbers as rows of bits, maps, lists.
-/
import Derived.Test.YtpmfgdedkmddlaaRunqP2
namespace Go.Proofs.Ytpmfgdedkmddlaa.Runq
open Go.Sx
set_option maxRecDepth 100000
set_option maxHeartbeats 1000000
set_option linter.unusedSimpArgs false
set_option linter.unusedVariables false

theorem wrap_u32 (n : Nat) (h : n < 4294967296) : IntKind.u32.wrap (n : Int) = (n : Int) := by
  show (n : Int) % 4294967296 = n
  omega
theorem bitB_eq {lev : Int} (h0 : 0 ≤ lev) (h1 : lev < 32) : bitB lev = ((2 ^ lev.toNat : Nat) : Int) := by
  have h : (2 : Nat) ^ lev.toNat < 2 ^ 32 := Nat.pow_lt_pow_right (by omega) (by omega)
  unfold bitB
  rw [show min lev.toNat IntKind.u32.bits = lev.toNat from Nat.min_eq_left (show lev.toNat ≤ 32 by omega), Int.one_mul]
  have := wrap_u32 (2 ^ lev.toNat) h
  rw [Int.natCast_pow] at this ⊢
  exact this
theorem ofInt_toNat {x : Int} (h0 : 0 ≤ x) (h1 : x < 4294967296) : (BitVec.ofInt 32 x).toNat = x.toNat := by
  rw [BitVec.toNat_ofInt]
  show (x % ((2 ^ 32 : Nat) : Int)).toNat = _
  have : ((2 ^ 32 : Nat) : Int) = 4294967296 := by decide
  rw [this]
  congr 1
  omega
theorem pow_lt {lev : Int} (h0 : 0 ≤ lev) (h1 : lev < 32) : ((2 ^ lev.toNat : Nat) : Int) < 4294967296 := by
  have h : (2 : Nat) ^ lev.toNat < 2 ^ 32 := Nat.pow_lt_pow_right (by omega) (by omega)
  have e : (2 : Nat) ^ 32 = 4294967296 := by decide
  omega
theorem setB_bits {a lev : Int} (ha : 0 ≤ a ∧ a < 4294967296) (h0 : 0 ≤ lev) (h1 : lev < 32) :
    (0 ≤ setB a lev ∧ setB a lev < 4294967296) ∧ ∀ i, i < 32 → ((setB a lev).toNat.testBit i = true ↔ (a.toNat.testBit i = true ∨ lev = i)) := by
  have hp := pow_lt h0 h1
  have e : setB a lev = ((BitVec.ofInt 32 a ||| BitVec.ofInt 32 (bitB lev)).toNat : Int) := wrap_u32 _ (BitVec.ofInt 32 a ||| BitVec.ofInt 32 (bitB lev)).isLt
  have hl := (BitVec.ofInt 32 a ||| BitVec.ofInt 32 (bitB lev)).isLt
  refine ⟨by rw [e]; omega, fun i hi => ?_⟩
  rw [e, Int.toNat_natCast, BitVec.testBit_toNat, BitVec.getLsbD_or, ← BitVec.testBit_toNat, ← BitVec.testBit_toNat, ofInt_toNat ha.1 ha.2, bitB_eq h0 h1, ofInt_toNat (Int.natCast_nonneg _) hp, Int.toNat_natCast, Nat.testBit_two_pow]
  simp only [Bool.or_eq_true, decide_eq_true_eq]
  constructor
  · rintro (h | h)
    · exact .inl h
    · exact .inr (by omega)
  · rintro (h | h)
    · exact .inl h
    · exact .inr (by omega)
theorem clrB_bits {a lev : Int} (ha : 0 ≤ a ∧ a < 4294967296) (h0 : 0 ≤ lev) (h1 : lev < 32) :
    (0 ≤ clrB a lev ∧ clrB a lev < 4294967296) ∧ ∀ i, i < 32 → ((clrB a lev).toNat.testBit i = true ↔ (a.toNat.testBit i = true ∧ lev ≠ i)) := by
  have hp := pow_lt h0 h1
  have e : clrB a lev = ((BitVec.ofInt 32 a &&& ~~~ BitVec.ofInt 32 (bitB lev)).toNat : Int) := wrap_u32 _ (BitVec.ofInt 32 a &&& ~~~ BitVec.ofInt 32 (bitB lev)).isLt
  have hl := (BitVec.ofInt 32 a &&& ~~~ BitVec.ofInt 32 (bitB lev)).isLt
  refine ⟨by rw [e]; omega, fun i hi => ?_⟩
  rw [e, Int.toNat_natCast, BitVec.testBit_toNat, BitVec.getLsbD_and, BitVec.getLsbD_not, ← BitVec.testBit_toNat, ← BitVec.testBit_toNat, ofInt_toNat ha.1 ha.2, bitB_eq h0 h1, ofInt_toNat (Int.natCast_nonneg _) hp, Int.toNat_natCast, Nat.testBit_two_pow]
  simp only [Bool.and_eq_true, decide_eq_true_eq, Bool.not_eq_true', decide_eq_false_iff_not, hi, true_and]
  constructor
  · rintro ⟨h, g⟩
    exact ⟨h, by omega⟩
  · rintro ⟨h, g⟩
    exact ⟨h, by omega⟩
theorem bitLen_top {v m : Nat} (h0 : 2 ^ m ≤ v) (h1 : v < 2 ^ (m + 1)) (hm : m < 64) : Lib.bitLen v = m + 1 := by
  have h2 : v < 2 ^ 64 := Nat.lt_of_lt_of_le h1 (Nat.pow_le_pow_right (by omega) (by omega))
  rw [Lib.bitLen_shift m v h0 h2]
  have : v / 2 ^ m = 1 := by
    apply Nat.div_eq_of_lt_le
    · omega
    · rw [Nat.pow_succ] at h1; omega
  rw [this]
  rfl
/- The topmost bit. -/
theorem top_bit : ∀ (m : Nat) {v : Nat}, v ≠ 0 → v < 2 ^ m → m ≤ 32 → ∃ t, t < m ∧ Lib.bitLen v = t + 1 ∧ v.testBit t = true ∧ ∀ i, t < i → v.testBit i = false
  | 0, v, h0, h1, _ => by simp at h1; omega
  | m + 1, v, h0, h1, hm => by
    rcases Nat.lt_or_ge v (2 ^ m) with h | h
    · obtain ⟨t, a1, a2⟩ := top_bit m h0 h (by omega)
      exact ⟨t, by omega, a2⟩
    · refine ⟨m, by omega, bitLen_top h h1 (by omega), ?_, fun i hi => ?_⟩
      · rw [Nat.testBit_eq_decide_div_mod_eq]
        have : v / 2 ^ m = 1 := by
          apply Nat.div_eq_of_lt_le
          · omega
          · rw [Nat.pow_succ] at h1; omega
        rw [this]; rfl
      · apply Nat.testBit_lt_two_pow
        exact Nat.lt_of_lt_of_le h1 (Nat.pow_le_pow_right (by omega) hi)
theorem mget_put (m : List (Int × Int)) (k v j : Int) : mget? I64 (mput I64 m k v) j = if k = j then some v else mget? I64 m j := by
  induction m with
  | nil => by_cases h : k = j <;> simp [mput, mget?, h]
  | cons a r ih =>
    by_cases h : a.1 = k
    · by_cases h2 : k = j <;> simp [mput, mget?, h, h2]
    · by_cases h2 : k = j
      · subst h2; simp [mput, mget?, h, ih]
      · simp [mput, mget?, h, ih, h2]
theorem mem_keys {m : List (Int × Int)} {k : Int} : k ∈ m.map Prod.fst ↔ (mget? I64 m k).isSome = true := by
  induction m with
  | nil => simp [mget?]
  | cons a r ih =>
    by_cases h : a.1 = k
    · simp [mget?, h]
    · have h' : ¬ k = a.1 := fun e => h e.symm
      simp only [List.map_cons, List.mem_cons, h', false_or, ih, mget?, h, decide_false, cond_false]
theorem put_keys (m : List (Int × Int)) (k v : Int) : (mput I64 m k v).map Prod.fst = if (mget? I64 m k).isSome = true then m.map Prod.fst else m.map Prod.fst ++ [k] := by
  induction m with
  | nil => rfl
  | cons a r ih =>
    by_cases h : a.1 = k
    · simp [mput, mget?, h]
    · simp only [mput, mget?, h, decide_false, cond_false, List.map_cons, ih]
      split <;> simp
theorem put_nodup {m : List (Int × Int)} (k v : Int) (h : (m.map Prod.fst).Nodup) : ((mput I64 m k v).map Prod.fst).Nodup := by
  rw [put_keys]
  split
  · exact h
  · rename_i hn
    rw [List.nodup_append]
    refine ⟨h, by simp, fun a ha b hb => ?_⟩
    simp only [List.mem_singleton] at hb
    subst hb
    intro e
    subst e
    exact hn (mem_keys.1 ha)
theorem del_sub (m : List (Int × Int)) (k : Int) : ((mdel I64 m k).map Prod.fst).Sublist (m.map Prod.fst) := by
  induction m with
  | nil => exact List.Sublist.refl _
  | cons a r ih =>
    by_cases h : a.1 = k
    · simp [mdel, h]
    · simp only [mdel, h, decide_false, cond_false, List.map_cons]
      exact ih.cons_cons _
theorem mget_del {m : List (Int × Int)} (hn : (m.map Prod.fst).Nodup) (k j : Int) : mget? I64 (mdel I64 m k) j = if k = j then none else mget? I64 m j := by
  induction m with
  | nil => by_cases h : k = j <;> simp [mdel, mget?, h]
  | cons a r ih =>
    simp only [List.map_cons, List.nodup_cons] at hn
    by_cases h : a.1 = k
    · simp only [mdel, h, decide_true, cond_true, mget?]
      by_cases h2 : k = j
      · subst h2
        rw [if_pos rfl]
        cases hc : mget? I64 r k with
        | none => rfl
        | some v =>
          exfalso
          exact hn.1 (by rw [h]; exact mem_keys.2 (by rw [hc]; rfl))
      · simp [h2]
    · simp only [mdel, h, decide_false, cond_false, mget?, ih hn.2]
      by_cases h2 : k = j
      · subst h2; simp [h]
      · simp [h2]
theorem mhas_put {m : List (Int × Int)} {k v j : Int} : mhas I64 (mput I64 m k v) j = true ↔ k = j ∨ mhas I64 m j = true := by
  unfold mhas
  rw [mget_put]
  by_cases h : k = j <;> simp [h]
theorem mval_put {m : List (Int × Int)} {k v j : Int} : mval I64 (mput I64 m k v) j = if k = j then v else mval I64 m j := by
  unfold mval
  rw [mget_put]
  by_cases h : k = j <;> simp [h]
theorem mhas_del {m : List (Int × Int)} (hn : (m.map Prod.fst).Nodup) {k j : Int} : mhas I64 (mdel I64 m k) j = true ↔ k ≠ j ∧ mhas I64 m j = true := by
  unfold mhas
  rw [mget_del hn]
  by_cases h : k = j <;> simp [h]
theorem mval_del {m : List (Int × Int)} (hn : (m.map Prod.fst).Nodup) {k j : Int} (h : k ≠ j) : mval I64 (mdel I64 m k) j = mval I64 m j := by
  unfold mval
  rw [mget_del hn, if_neg h]
theorem del_nodup {m : List (Int × Int)} (hn : (m.map Prod.fst).Nodup) (k : Int) : ((mdel I64 m k).map Prod.fst).Nodup := (del_sub m k).nodup hn
/- Lists. -/
theorem getD_setN {α : Type} {l : List α} {d v : α} {i j : Nat} : (l.set i v).getD j d = if i = j then (if i < l.length then v else d) else l.getD j d := by
  unfold List.getD
  rw [List.getElem?_set]
  by_cases h : i = j
  · subst h
    by_cases h2 : i < l.length
    · simp [h2]
    · simp [h2]
  · simp [h]
theorem set_back {α : Type} {l : List α} {d v : α} {i : Nat} : (l.set i v).set i (l.getD i d) = l := by
  apply List.ext_getElem?
  intro j
  rw [List.getElem?_set, List.getElem?_set, List.length_set]
  by_cases h : i = j
  · subst h
    by_cases h2 : i < l.length
    · simp [h2, List.getD]
    · simp [h2]
  · simp [h]

end Go.Proofs.Ytpmfgdedkmddlaa.Runq
