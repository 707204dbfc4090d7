/-
 BitsMix: what and and or of words are, and the conditions.
-/
import Derived.Test.YtppgbcmeagbalaaDoorApicBitsP0
namespace Go.Proofs.YtppgbcmeagbalaaDoor.Apic
open Go.Sx
set_option maxRecDepth 100000
set_option maxHeartbeats 1000000
set_option linter.unusedSimpArgs false
set_option linter.unusedVariables false

theorem wrap_u64 (X : Nat) (h : X < 18446744073709551616) : Go.IntKind.wrap .u64 (X : Int) = X := by
 unfold Go.IntKind.wrap
 show (if (false && decide ((X : Int) % 2 ^ 64 ≥ 2 ^ (64 - 1))) = true then _ else (X : Int) % 2 ^ 64) = _
 rw [Bool.false_and, if_neg (by simp)]
 omega
def U (x : Int) : Nat := (x % 18446744073709551616).toNat
theorem U_lt (x : Int) : U x < 18446744073709551616 := by unfold U; omega
theorem U_of (x : Int) : (BitVec.ofInt 64 x).toNat = U x := by
 rw [BitVec.toNat_ofInt]
 rfl
theorem bits_and (x y : Int) : Go.bits .and .u64 x y = ((U x &&& U y : Nat) : Int) := by
 show Go.IntKind.wrap .u64 (((BitVec.ofInt 64 x &&& BitVec.ofInt 64 y).toNat : Nat) : Int) = _
 rw [BitVec.toNat_and, U_of, U_of]
 exact wrap_u64 _ (Nat.lt_of_le_of_lt Nat.and_le_left (U_lt x))
theorem bits_or (x y : Int) : Go.bits .or .u64 x y = ((U x ||| U y : Nat) : Int) := by
 show Go.IntKind.wrap .u64 (((BitVec.ofInt 64 x ||| BitVec.ofInt 64 y).toNat : Nat) : Int) = _
 rw [BitVec.toNat_or, U_of, U_of]
 exact wrap_u64 _ (Nat.or_lt_two_pow (n := 64) (U_lt x) (U_lt y))
theorem U_div (x : Int) (i : Nat) (hi : i < 64) : x / 2 ^ i % 2 = ((U x / 2 ^ i % 2 : Nat) : Int) := by
 have h1 : x = (U x : Int) + 2 ^ i * (2 * (2 ^ (63 - i) * (x / 18446744073709551616))) := by
  have e : (2 : Int) ^ i * (2 * (2 ^ (63 - i) * (x / 18446744073709551616))) = 18446744073709551616 * (x / 18446744073709551616) := by
   have e2 : (2 : Int) ^ i * (2 * 2 ^ (63 - i)) = 18446744073709551616 := by
    rw [← Int.pow_succ', ← Int.pow_add, show i + (63 - i + 1) = 64 from by omega]
    rfl
   rw [← e2]
   simp only [Int.mul_assoc]
  rw [e]
  unfold U
  omega
 have hp : (2 : Int) ^ i ≠ 0 := Int.pow_ne_zero (by decide)
 rw [h1, Int.add_mul_ediv_left _ _ hp, Int.add_mul_emod_self_left, ← h1, Int.natCast_emod, Int.natCast_ediv, Int.natCast_pow]
 rfl
theorem bitN_test (a : List Int) (k i : Nat) (hi : i < 64) : bitN a (64 * k + i) = (U (a.getD k 0)).testBit i := by
 unfold bitN
 rw [show (64 * k + i) / 64 = k from by omega, show (64 * k + i) % 64 = i from by omega, Nat.testBit_eq_decide_div_mod_eq]
 apply decide_eq_decide.mpr
 rw [U_div _ _ hi]
 omega
theorem horTo_0 (f : Nat → Bool) (k : Nat) : horTo f 0 k = hor f (64 * k) 64 := by
 unfold horTo
 rw [show max (64 * k) 0 = 64 * k from by omega, show 64 * (k + 1) - 64 * k = 64 from by omega]
theorem mixA_get (a b : List Int) (k : Nat) (hk : k < 4) : Go.bits .and .u64 (a.getD k 0) (b.getD k 0) = (mixA a b).getD k 0 := by
 unfold mixA mix
 rw [bitsTo_get _ _ _ hk, horTo_0, bits_and]
 symm
 apply hor_uniq
 ·exact Nat.lt_of_le_of_lt Nat.and_le_left (U_lt _)
 ·intro i hi
  rw [Nat.testBit_and, bitN_test a k i hi, bitN_test b k i hi]
theorem mixO_get (a b : List Int) (k : Nat) (hk : k < 4) : Go.bits .or .u64 (a.getD k 0) (b.getD k 0) = (mixO a b).getD k 0 := by
 unfold mixO mix
 rw [bitsTo_get _ _ _ hk, horTo_0, bits_or]
 symm
 apply hor_uniq
 ·exact Nat.or_lt_two_pow (n := 64) (U_lt _) (U_lt _)
 ·intro i hi
  rw [Nat.testBit_or, bitN_test a k i hi, bitN_test b k i hi]
theorem getD_mem {l : List Int} {k : Nat} (h : k < l.length) : l.getD k 0 ∈ l := by
 unfold List.getD
 rw [List.getElem?_eq_getElem h]
 exact List.getElem_mem h
theorem set_take (m a : List Int) (k : Nat) (hm : m.length = 4) (ha : a.length = 4) (hk : k < 4) :
  (m.take k ++ a.drop k).getD k 0 = a.getD k 0 ∧ (m.take k ++ a.drop k).set k (m.getD k 0) = m.take (k + 1) ++ a.drop (k + 1) := by
 rcases m with _ | ⟨m0, _ | ⟨m1, _ | ⟨m2, _ | ⟨m3, _ | ⟨m4, m⟩⟩⟩⟩⟩ <;> simp at hm
 rcases a with _ | ⟨a0, _ | ⟨a1, _ | ⟨a2, _ | ⟨a3, _ | ⟨a4, a⟩⟩⟩⟩⟩ <;> simp at ha
 have : k = 0 ∨ k = 1 ∨ k = 2 ∨ k = 3 := by omega
 rcases this with rfl | rfl | rfl | rfl <;> exact ⟨rfl, rfl⟩

end Go.Proofs.YtppgbcmeagbalaaDoor.Apic
