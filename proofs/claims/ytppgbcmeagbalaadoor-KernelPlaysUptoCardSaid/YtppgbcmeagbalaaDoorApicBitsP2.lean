/-
 BitsMix: the conditions.
-/
import Derived.Test.YtppgbcmeagbalaaDoorApicBitsP1
namespace Go.Proofs.YtppgbcmeagbalaaDoor.Apic
open Go.Sx
set_option maxRecDepth 100000
set_option maxHeartbeats 1000000
set_option linter.unusedSimpArgs false
set_option linter.unusedVariables false

theorem half (v : Int) (n : Nat) : v / 2 ^ n / 2 = v / 2 ^ (n + 1) := by
 rw [Int.pow_succ, Int.ediv_ediv_of_nonneg (Int.pow_nonneg (by decide))]
theorem getD_set_eq (a : List Int) (j : Nat) (v : Int) (h : j < a.length) : (a.set j v).getD j 0 = v := by
 unfold List.getD
 rw [List.getElem?_set_self h]
 rfl
theorem mix_len (a b : List Int) : (mixA a b).length = 4 ∧ (mixO a b).length = 4 := ⟨rfl, rfl⟩
theorem take_end {m a : List Int} {k : Nat} (hm : m.length = 4) (ha : a.length = 4) (hk : k = 4) : m.take k ++ a.drop k = m := by
 subst hk
 rw [List.take_of_length_le (by omega), List.drop_of_length_le (by omega), List.append_nil]
theorem bits_rf (F : Nat → Bool) : bitsTo (rf (fr F 256)) 0 = bitsTo F 0 := by
 have h : ∀ j, j < 4 → horTo (rf (fr F 256)) 0 j = horTo F 0 j := by
  intro j hj
  rw [horTo_0, horTo_0]
  apply hor_congr
  intro i hi
  exact fr_getD F _ (by omega)
 unfold bitsTo
 rw [h 0 (by decide), h 1 (by decide), h 2 (by decide), h 3 (by decide)]

end Go.Proofs.YtppgbcmeagbalaaDoor.Apic
