/-
 BitsMix: lemmas.
-/
import Derived.Test.YtppgbcmeagbalaaDoorApicE
namespace Go.Proofs.YtppgbcmeagbalaaDoor.Apic
open Go.Sx
set_option maxRecDepth 100000
set_option maxHeartbeats 1000000
set_option linter.unusedSimpArgs false
set_option linter.unusedVariables false

def fr (F : Nat → Bool) (m : Nat) : List Bool := (List.range 256).map (fun i => decide (i < m) && F i)
theorem fr_len (F : Nat → Bool) (m : Nat) : (fr F m).length = 256 := by simp [fr]
theorem fr_zero (F : Nat → Bool) : List.replicate 256 false = fr F 0 := by
 apply List.ext_getElem
 ·simp [fr]
 ·intro i h1 h2
  rw [List.getElem_replicate]
  simp only [fr, List.getElem_map]
  rfl
theorem fr_succ (F : Nat → Bool) (m : Nat) (h : m < 256) : (fr F m).set m (F m) = fr F (m + 1) := by
 apply List.ext_getElem
 ·simp [fr]
 ·intro i h1 h2
  rw [List.getElem_set]
  simp only [fr, List.getElem_map, List.getElem_range]
  by_cases e : m = i
  ·subst e
   simp
  ·rw [if_neg e]
   have : decide (i < m) = decide (i < m + 1) := decide_eq_decide.mpr (by omega)
   rw [this]
theorem fr_getD (F : Nat → Bool) (n : Nat) (h : n < 256) : (fr F 256).getD n false = F n := by
 unfold List.getD
 rw [List.getElem?_eq_getElem (by rw [fr_len]; exact h)]
 simp [fr, h]
theorem row_fr (b : List Int) (m : Nat) : rowTo b m = fr (bitN b) m := rfl
theorem mra_fr (a b : List Int) (m : Nat) : mixRA a b m = fr (fun i => bitN a i && bitN b i) m := rfl
theorem mro_fr (a b : List Int) (m : Nat) : mixRO a b m = fr (fun i => bitN a i || bitN b i) m := rfl
theorem hor_lt (f : Nat → Bool) (k : Nat) : ∀ s, 0 ≤ hor f s k ∧ hor f s k < (2 : Int) ^ k := by
 induction k with
 | zero => intro s; exact ⟨Int.le_refl 0, by simp [hor]⟩
 | succ k ih =>
  intro s
  obtain ⟨h1, h2⟩ := ih (s + 1)
  have e : (2 : Int) ^ (k + 1) = 2 * 2 ^ k := by rw [Int.pow_succ]; omega
  rw [e]
  show 0 ≤ (if f s = true then (1 : Int) else 0) + 2 * hor f (s + 1) k ∧ _
  by_cases h : f s = true
  ·rw [show hor f s (k + 1) = (if f s = true then (1 : Int) else 0) + 2 * hor f (s + 1) k from rfl, if_pos h]
   omega
  ·rw [show hor f s (k + 1) = (if f s = true then (1 : Int) else 0) + 2 * hor f (s + 1) k from rfl, if_neg h]
   omega
theorem hor_uniq (f : Nat → Bool) (k : Nat) : ∀ s (N : Nat), N < 2 ^ k → (∀ i, i < k → N.testBit i = f (s + i)) → hor f s k = (N : Int) := by
 induction k with
 | zero =>
  intro s N h _
  have : N = 0 := by simpa using h
  rw [this]; rfl
 | succ k ih =>
  intro s N h hb
  have h2 : N / 2 < 2 ^ k := by rw [Nat.pow_succ] at h; omega
  have e := ih (s + 1) (N / 2) h2 (fun i hi => by
   rw [Nat.testBit_div_two, hb (i + 1) (by omega)]
   congr 1; omega)
  have e0 := hb 0 (by omega)
  rw [Nat.testBit_zero, Nat.add_zero] at e0
  show (if f s = true then (1 : Int) else 0) + 2 * hor f (s + 1) k = _
  rw [e, ← e0]
  by_cases q : N % 2 = 1
  ·rw [if_pos (by simpa using q)]; omega
  ·rw [if_neg (by simpa using q)]; omega
theorem hor_congr (f g : Nat → Bool) (k : Nat) : ∀ s, (∀ i, i < k → f (s + i) = g (s + i)) → hor f s k = hor g s k := by
 induction k with
 | zero => intro s _; rfl
 | succ k ih =>
  intro s h
  show (if f s = true then (1 : Int) else 0) + 2 * hor f (s + 1) k = (if g s = true then (1 : Int) else 0) + 2 * hor g (s + 1) k
  have h0 := h 0 (by omega)
  rw [Nat.add_zero] at h0
  rw [h0, ih (s + 1) (fun i hi => by
   have := h (i + 1) (by omega)
   rwa [show s + (i + 1) = s + 1 + i from by omega] at this)]
theorem horTo_ne (f : Nat → Bool) (n j : Nat) (h : ¬ n / 64 = j) : horTo f n j = horTo f (n + 1) j := by
 unfold horTo
 by_cases q : n / 64 < j
 ·rw [show max (64 * j) n = 64 * j from by omega, show max (64 * j) (n + 1) = 64 * j from by omega]
 ·rw [show 64 * (j + 1) - max (64 * j) n = 0 from by omega, show 64 * (j + 1) - max (64 * j) (n + 1) = 0 from by omega]
  rfl
theorem horTo_eq (f : Nat → Bool) (n j : Nat) (h : n / 64 = j) : horTo f n j = (if f n = true then 1 else 0) + 2 * horTo f (n + 1) j := by
 unfold horTo
 rw [show max (64 * j) n = n from by omega, show max (64 * j) (n + 1) = n + 1 from by omega, show 64 * (j + 1) - n = (64 * (j + 1) - (n + 1)) + 1 from by omega]
 rfl
theorem horTo_lt (f : Nat → Bool) (n j : Nat) (h : n / 64 = j) : 0 ≤ horTo f (n + 1) j ∧ horTo f (n + 1) j < 9223372036854775808 := by
 unfold horTo
 obtain ⟨h1, h2⟩ := hor_lt f (64 * (j + 1) - max (64 * j) (n + 1)) (max (64 * j) (n + 1))
 refine ⟨h1, Int.lt_of_lt_of_le h2 ?_⟩
 have hk : 64 * (j + 1) - max (64 * j) (n + 1) ≤ 63 := by omega
 have : (2 : Nat) ^ (64 * (j + 1) - max (64 * j) (n + 1)) ≤ 2 ^ 63 := Nat.pow_le_pow_right (by decide) hk
 have h3 : ((2 ^ (64 * (j + 1) - max (64 * j) (n + 1)) : Nat) : Int) ≤ ((2 ^ 63 : Nat) : Int) := Int.ofNat_le.mpr this
 rw [Int.natCast_pow] at h3
 exact h3
theorem bitsTo_all (f : Nat → Bool) : [0, 0, 0, 0] = bitsTo f 256 := rfl
theorem bitsTo_get (f : Nat → Bool) (m j : Nat) (h : j < 4) : (bitsTo f m).getD j 0 = horTo f m j := by
 rcases j with _ | _ | _ | _ | j
 ·rfl
 ·rfl
 ·rfl
 ·rfl
 ·omega
theorem bitsTo_set (f : Nat → Bool) (n : Nat) (h : n < 256) : (bitsTo f (n + 1)).set (n / 64) ((if f n = true then 1 else 0) + 2 * (bitsTo f (n + 1)).getD (n / 64) 0) = bitsTo f n := by
 rw [bitsTo_get _ _ _ (by omega)]
 have hn : n / 64 = 0 ∨ n / 64 = 1 ∨ n / 64 = 2 ∨ n / 64 = 3 := by omega
 rcases hn with q | q | q | q
 ·rw [q, ← horTo_eq f n 0 q]
  unfold bitsTo
  rw [horTo_ne f n 1 (by omega), horTo_ne f n 2 (by omega), horTo_ne f n 3 (by omega)]
  rfl
 ·rw [q, ← horTo_eq f n 1 q]
  unfold bitsTo
  rw [horTo_ne f n 0 (by omega), horTo_ne f n 2 (by omega), horTo_ne f n 3 (by omega)]
  rfl
 ·rw [q, ← horTo_eq f n 2 q]
  unfold bitsTo
  rw [horTo_ne f n 0 (by omega), horTo_ne f n 1 (by omega), horTo_ne f n 3 (by omega)]
  rfl
 ·rw [q, ← horTo_eq f n 3 q]
  unfold bitsTo
  rw [horTo_ne f n 0 (by omega), horTo_ne f n 1 (by omega), horTo_ne f n 2 (by omega)]
  rfl

end Go.Proofs.YtppgbcmeagbalaaDoor.Apic
