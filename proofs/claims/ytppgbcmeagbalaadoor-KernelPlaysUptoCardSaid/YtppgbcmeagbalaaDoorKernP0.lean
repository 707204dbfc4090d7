/-
 KernelPlays: plain facts: what each part does with the states that come about.
-/
import Derived.Test.YtppgbcmeagbalaaDoorKernE
namespace Go.Proofs.YtppgbcmeagbalaaDoor.Kern
open Go.Sx
set_option maxRecDepth 100000
set_option maxHeartbeats 1000000
set_option linter.unusedSimpArgs false
set_option linter.unusedVariables false

theorem local_end (b : Bool) : Apic.stepL (s64 b, s64 true, 0) (3, 0) = ((s64 b, s64 false, 0), 64, 0, ()) := by cases b <;> decide +kernel
theorem local_take : Apic.stepL (s64 true, s64 false, 0) (2, 0) = ((s64 false, s64 true, 0), 64, 0, ()) := by decide +kernel
theorem local_ask (b b' : Bool) : Apic.stepL (s64 b, s64 b', 0) (1, 64) = ((s64 true, s64 b', 0), -1, 0, ()) := by cases b <;> cases b' <;> decide +kernel
theorem local_would (b b' : Bool) : Apic.wouldL (s64 b, s64 b', 0) = if (b && !b') = true then 64 else -1 := by cases b <;> cases b' <;> decide +kernel
theorem uart_right {d : By} {lo : Int} (hd : d.length ≤ 16) (h0 : 0 ≤ lo) (h1 : lo ≤ 1099511627776) : Uart.right (d, [], lo, decide (0 < d.length)) = true := by
 unfold Uart.right
 simp [hd, h0, h1]
theorem uart_in {d : By} {lo c : Int} (hd : d.length ≤ 16) (h0 : 0 ≤ lo) (h1 : lo < 1099511627776) : Uart.step (d, [], lo, decide (0 < d.length)) 1 c =
  if d.length = 16 then ((d, [], lo + 1, true), 0, 0, ()) else ((d ++ [c], [], lo, true), 0, 0, ()) := by
 unfold Uart.step
 rw [if_pos (uart_right hd h0 (by omega)), if_pos rfl]
 by_cases h : d.length = 16
 ·rw [if_pos h, if_neg (by dsimp only; omega), if_neg (by dsimp only; omega)]
  unfold Uart.fin
  dsimp only
  rw [decide_eq_true (by omega)]
 ·rw [if_neg h, if_pos (by dsimp only; omega)]
  unfold Uart.fin
  dsimp only
  rw [decide_eq_true (by simp)]
theorem uart_read {d : By} {lo : Int} (hd : d.length ≤ 16) (h0 : 0 ≤ lo) (h1 : lo < 1099511627776) (hp : 0 < d.length) (c : Int) : Uart.step (d, [], lo, true) 2 c =
  ((d.drop 1, [], lo, decide (0 < (d.drop 1).length)), d.getD 0 0, 0, ()) := by
 have hr := uart_right hd h0 (by omega)
 rw [decide_eq_true hp] at hr
 unfold Uart.step
 rw [if_pos hr, if_neg (by decide), if_pos rfl, if_neg (by intro e; simp only [] at e; rw [e] at hp; simp at hp)]
 rfl
theorem line_err {q : Int × Int × Bool × Bool × Bool × Bool × Bool} (h : Line.okP q = true) {k : Int} (h1 : 1 ≤ k) (h5 : k ≤ 5) : Line.err [q] k 0 = 0 := by
 have hr : Line.right [q] = true := by unfold Line.right; simp [h]
 unfold Line.err
 rw [if_neg (by rw [hr]; decide), if_neg (by omega), if_neg (by simp)]
theorem ok_pin {d : By} {a s p : Int} (hp : 0 ≤ p ∧ p ≤ 1) (h : 0 < d.length → 0 ≤ a ∨ 0 ≤ s) : Line.okP (pinOf d a s p) = true := by
 have h0 : decide (0 ≤ p) = true := decide_eq_true hp.1
 have h1 : decide (p < 8) = true := decide_eq_true (by omega)
 unfold Line.okP pinOf
 simp only [h0, h1]
 by_cases hd : 0 < d.length
 ·rcases h hd with h | h <;> simp [h]
 ·simp [hd]
theorem pin_up {d : By} {a s p : Int} {cs : List CR} (hp : 0 ≤ p ∧ p ≤ 1) (h : 0 < d.length → 0 ≤ a ∨ 0 ≤ s) :
  pinF [pinOf d a s p] cs 1 = ([(p, 64, true, false, true, false, true)], if a < 0 ∧ s < 0 then ask1 cs (0, p, 64) else cs) := by
 unfold pinF
 rw [if_pos (line_err (ok_pin hp h) (by omega) (by omega))]
 have e : Line.cstep (pinOf d a s p) 1 = ((p, 64, true, false, true, false, true), !(decide (0 ≤ a) || decide (0 ≤ s))) := by
  unfold Line.cstep Line.note Line.fire pinOf
  simp
 unfold Line.out Line.ask
 have e2 : Line.at_ [pinOf d a s p] 0 = pinOf d a s p := rfl
 rw [e2, e]
 refine Prod.ext rfl ?_
 simp only []
 by_cases q : a < 0 ∧ s < 0
 ·rw [if_pos q, if_pos (by rw [decide_eq_false (by omega), decide_eq_false (by omega)]; rfl)]; rfl
 ·rw [if_neg q, if_neg]
  ·rfl
  ·simp; omega
theorem pin_down {d : By} {a s p : Int} {cs : List CR} (hp : 0 ≤ p ∧ p ≤ 1) (h : 0 < d.length → 0 ≤ a ∨ 0 ≤ s) :
  pinF [pinOf d a s p] cs 2 = ([pinOf [] a s p], cs) := by
 unfold pinF
 rw [if_pos (line_err (ok_pin hp h) (by omega) (by omega))]
 have e : Line.cstep (pinOf d a s p) 2 = (pinOf [] a s p, false) := by
  unfold Line.cstep Line.note Line.fire pinOf
  simp
 unfold Line.out Line.ask
 have e2 : Line.at_ [pinOf d a s p] 0 = pinOf d a s p := rfl
 rw [e2, e]
 rfl
theorem pin_end {a s p : Int} {cs : List CR} (hp : 0 ≤ p ∧ p ≤ 1) : pinF [pinOf [] a s p] cs 5 = ([(p, 64, true, false, false, false, false)], cs) := by
 unfold pinF
 rw [if_pos (line_err (ok_pin hp (by simp)) (by omega) (by omega))]
 have e : Line.cstep (pinOf [] a s p) 5 = ((p, 64, true, false, false, false, false), false) := by
  unfold Line.cstep Line.note Line.fire pinOf
  simp
 unfold Line.out Line.ask
 have e2 : Line.at_ [pinOf [] a s p] 0 = pinOf [] a s p := rfl
 rw [e2, e]
 rfl
theorem frames_len (n : Nat) : (frames n).length = n := by cases n <;> simp [frames]
theorem frames_at (n : Nat) (i : Int) (h0 : 0 ≤ i) (h1 : i < n) : Nest.fr (frames n) i = (decide (i = 0), false) := by
 unfold Nest.fr
 cases n with
 | zero => omega
 | succ m =>
  unfold frames
  by_cases e : i = 0
  ·subst e; rfl
  ·obtain ⟨j, hj⟩ : ∃ j, i.toNat = j + 1 := ⟨i.toNat - 1, by omega⟩
   rw [hj, decide_eq_false e]
   have : j < m := by omega
   simp [List.getD, this]
theorem frames_right {n : Nat} (h : n ≤ 400) : Nest.right (decide ((n : Int) = 0), frames n) = true := by
 unfold Nest.right
 classical
 refine decide_eq_true ⟨by rw [frames_len]; exact h, fun e => ?_, fun i h0 h1 => ?_⟩
 ·rw [frames_len]; simp at e; omega
 ·simp only [frames_len] at h1
  rw [frames_at n i h0 h1]
  refine ⟨fun e => (by cases e), fun e => ?_⟩
  simp; omega
theorem frames_snoc (n : Nat) : frames n ++ [(decide ((n : Int) = 0), false)] = frames (n + 1) := by
 cases n with
 | zero => rfl
 | succ m =>
  unfold frames
  rw [decide_eq_false (by omega), List.cons_append, ← List.replicate_succ']
theorem frames_take (n : Nat) : (frames (n + 1)).take n = frames n := by
 rw [← frames_snoc, List.take_append_of_le_length (by rw [frames_len]; omega), List.take_of_length_le (by rw [frames_len]; omega)]
theorem nest_save {sv : Int} (h0 : 0 ≤ sv) (h : sv < 400) : Nest.step (nestOf false sv) 1 = (nestOf false (sv + 1), 0, ()) := by
 have e : ((sv.toNat : Nat) : Int) = sv := Int.toNat_of_nonneg h0
 have hr := frames_right (n := sv.toNat) (by omega)
 rw [e] at hr
 unfold nestOf
 simp only [Bool.false_eq_true, if_false]
 unfold Nest.step
 rw [if_pos hr, if_neg (by omega), if_neg (by simp only [frames_len]; omega), if_neg (by omega), if_pos (Or.inl rfl)]
 have hs := frames_snoc sv.toNat
 rw [e] at hs
 rw [decide_eq_false (by omega : ¬ sv + 1 = 0), show (sv + 1).toNat = sv.toNat + 1 by omega, ← hs]
 rfl
theorem nest_full : Nest.step (nestOf false 400) 1 = Nest.bad 4 := by
 have hr : Nest.right (decide ((400 : Int) = 0), frames (Int.toNat 400)) = true := frames_right (n := 400) (by omega)
 unfold nestOf
 simp only [Bool.false_eq_true, if_false]
 unfold Nest.step
 rw [if_pos hr, if_neg (by omega), if_pos ⟨Or.inl rfl, by rw [frames_len]; rfl⟩]
theorem nest_restore {sv : Int} (h0 : 0 < sv) (h : sv ≤ 400) : Nest.step (nestOf false sv) 2 = (nestOf false (sv - 1), 0, ()) := by
 have e : ((sv.toNat : Nat) : Int) = sv := Int.toNat_of_nonneg (by omega)
 have hr := frames_right (n := sv.toNat) (by omega)
 rw [e] at hr
 unfold nestOf
 simp only [Bool.false_eq_true, if_false]
 unfold Nest.step
 have hf := frames_at sv.toNat (sv - 1) (by omega) (by omega)
 rw [if_pos hr, if_neg (by omega), if_neg (by rintro ⟨q, _⟩; omega), if_neg (by omega), if_neg (by omega), if_neg (by rw [frames_len]; omega)]
 simp only [frames_len, e, hf]
 rw [if_neg (by decide), show sv.toNat = (sv - 1).toNat + 1 by omega, frames_take, show decide (sv - 1 = 0) = decide (sv - 1 = 0) from rfl]
theorem right_on : Nest.right (true, []) = true := by
 unfold Nest.right
 classical
 exact decide_eq_true ⟨by simp, fun _ => rfl, fun i h0 h1 => by have h1 : i < 0 := h1; omega⟩
theorem nest_none : Nest.step (nestOf false 0) 2 = Nest.bad 3 := by
 have e : nestOf false 0 = (true, []) := rfl
 rw [e]
 unfold Nest.step
 rw [if_pos right_on, if_neg (by omega), if_neg (by rintro ⟨q, _⟩; omega), if_neg (by omega), if_neg (by omega), if_pos (by rfl)]
theorem nest_enter (sv : Int) : Nest.step (nestOf false 0) 3 = (nestOf true sv, 0, ()) := by
 have e : nestOf false 0 = (true, []) := rfl
 rw [e]
 unfold Nest.step
 rw [if_pos right_on, if_neg (by omega), if_neg (by rintro ⟨_, q⟩; simp at q), if_neg (by rintro ⟨_, q⟩; cases q), if_pos (Or.inr rfl)]
 rfl
theorem nest_leave (sv : Int) : Nest.step (nestOf true sv) 4 = (nestOf false 0, 0, ()) := by
 have hr : Nest.right (false, [(true, true)]) = true := by
  unfold Nest.right
  classical
  refine decide_eq_true ⟨by simp, fun e => (by cases e), fun i h0 h1 => ?_⟩
  have h1 : i < 1 := h1
  have : i = 0 := by omega
  subst this
  exact ⟨fun _ => rfl, fun e => by omega⟩
 unfold nestOf
 simp only [Bool.false_eq_true, if_false, if_true]
 unfold Nest.step
 rw [if_pos hr, if_neg (by omega), if_neg (by rintro ⟨q, _⟩; omega), if_neg (by omega), if_neg (by omega), if_neg (by decide), if_neg (by decide)]
 rfl
theorem nest_on (sv : Int) (s : Bool) : (nestOf s sv).1 = (!s && decide (sv = 0)) := by
 unfold nestOf
 cases s <;> simp
theorem cores_get {a s : Int} {sv : List Int} {i : Int} (h0 : 0 ≤ i) (h1 : i ≤ 1) : (coresOf a s sv).getD i.toNat zc = coreOf a s (sv.getD i.toNat 0) i := by
 have : i = 0 ∨ i = 1 := by omega
 rcases this with rfl | rfl <;> rfl
theorem cores_set {a s a' s' : Int} {sv sv' : List Int} {i : Int} {c : CR} (h0 : 0 ≤ i) (h1 : i ≤ 1) (hc : c = coreOf a' s' (sv'.getD i.toNat 0) i)
  (ho : ∀ j : Int, 0 ≤ j → j ≤ 1 → j ≠ i → coreOf a s (sv.getD j.toNat 0) j = coreOf a' s' (sv'.getD j.toNat 0) j) : (coresOf a s sv).set i.toNat c = coresOf a' s' sv' := by
 have : i = 0 ∨ i = 1 := by omega
 rcases this with rfl | rfl
 ·have h := ho 1 (by omega) (by omega) (by omega)
  rw [hc]
  unfold coresOf
  simp only [Int.toNat_zero, List.set_cons_zero]
  rw [show (1 : Int).toNat = 1 from rfl] at h
  rw [h]
 ·have h := ho 0 (by omega) (by omega) (by omega)
  rw [hc]
  unfold coresOf
  rw [show (1 : Int).toNat = 1 from rfl]
  simp only [List.set_cons_succ, List.set_cons_zero]
  rw [show (0 : Int).toNat = 0 from rfl] at h
  rw [h]
theorem core_other {a s a' s' sv i j : Int} (hj : j ≠ i) (ha : a = a' ∨ (a ≠ j ∧ a' ≠ j)) (hs : s = s' ∨ (s ≠ j ∧ s' ≠ j)) : coreOf a s sv j = coreOf a' s' sv j := by
 have e1 : decide (a = j) = decide (a' = j) := by
  rcases ha with rfl | ⟨h1, h2⟩
  ·rfl
  ·rw [decide_eq_false h1, decide_eq_false h2]
 have e2 : decide (s = j) = decide (s' = j) := by
  rcases hs with rfl | ⟨h1, h2⟩
  ·rfl
  ·rw [decide_eq_false h1, decide_eq_false h2]
 unfold coreOf
 rw [e1, e2]
theorem ask_cores {a s p : Int} {sv : List Int} (hp : 0 ≤ p ∧ p ≤ 1) (ha : a < 0) (hs : s < 0) : ask1 (coresOf a s sv) (0, p, 64) = coresOf p s sv := by
 unfold ask1
 simp only []
 rw [cores_get hp.1 hp.2]
 have e : Apic.stepL (coreOf a s (sv.getD p.toNat 0) p).1 (1, 64) = ((s64 true, s64 (decide (s = p)), 0), -1, 0, ()) := local_ask _ _
 rw [e, if_pos rfl]
 refine cores_set hp.1 hp.2 ?_ fun j h0 h1 hj => core_other hj (Or.inr ⟨by omega, fun e => hj e.symm⟩) (Or.inl rfl)
 unfold coreOf
 rw [decide_eq_true rfl]

end Go.Proofs.YtppgbcmeagbalaaDoor.Kern
