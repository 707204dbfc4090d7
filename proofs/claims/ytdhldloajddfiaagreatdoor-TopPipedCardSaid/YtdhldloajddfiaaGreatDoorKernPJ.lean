/-
 The conditions, proved.
-/
import Derived.Test.YtdhldloajddfiaaGreatDoorKernE
namespace Go.Proofs.YtdhldloajddfiaaGreatDoor.Kern
open Go.Sx
set_option maxRecDepth 100000
set_option maxHeartbeats 1000000
set_option linter.unusedSimpArgs false
set_option linter.unusedVariables false

theorem local_end (b : Bool) : Apic.stepL (s64 b, s64 true, 0) (3, 0) = ((s64 b, s64 false, 0), 64, 0, ()) := by cases b <;> decide +kernel
theorem local_take : Apic.stepL (s64 true, s64 false, 0) (2, 0) = ((s64 false, s64 true, 0), 64, 0, ()) := by decide +kernel
theorem local_ask (b b' : Bool) : Apic.stepL (s64 b, s64 b', 0) (1, 64) = ((s64 true, s64 b', 0), -1, 0, ()) := by cases b <;> cases b' <;> decide +kernel
theorem local_would (b b' : Bool) : Apic.wouldL (s64 b, s64 b', 0) = if (b && !b') = true then 64 else -1 := by cases b <;> cases b' <;> decide +kernel
theorem uart_right {d : By} {lo : Int} (hd : d.length ≤ 16) (h0 : 0 ≤ lo) (h1 : lo ≤ 1099511627776) : Uart.right (d, [], lo, decide (0 < d.length)) = true := by
 unfold Uart.right
 simp [hd, h0, h1]
theorem uart_in {d : By} {lo c : Int} (hd : d.length ≤ 16) (h0 : 0 ≤ lo) (h1 : lo < 1099511627776) : Uart.step (d, [], lo, decide (0 < d.length)) 1 c =
  if d.length = 16 then ((d, [], lo + 1, true), 0, 0, ()) else ((d ++ [c], [], lo, true), 0, 0, ()) := by
 unfold Uart.step
 rw [if_pos (uart_right hd h0 (by omega)), if_pos rfl]
 by_cases h : d.length = 16
 ·rw [if_pos h, if_neg (by dsimp only; omega), if_neg (by dsimp only; omega)]
  unfold Uart.fin
  dsimp only
  rw [decide_eq_true (by omega)]
 ·rw [if_neg h, if_pos (by dsimp only; omega)]
  unfold Uart.fin
  dsimp only
  rw [decide_eq_true (by simp)]
theorem uart_read {d : By} {lo : Int} (hd : d.length ≤ 16) (h0 : 0 ≤ lo) (h1 : lo < 1099511627776) (hp : 0 < d.length) (c : Int) : Uart.step (d, [], lo, true) 2 c =
  ((d.drop 1, [], lo, decide (0 < (d.drop 1).length)), d.getD 0 0, 0, ()) := by
 have hr := uart_right hd h0 (by omega)
 rw [decide_eq_true hp] at hr
 unfold Uart.step
 rw [if_pos hr, if_neg (by decide), if_pos rfl, if_neg (by intro e; simp only [] at e; rw [e] at hp; simp at hp)]
 rfl
theorem line_err {q : Int × Int × Bool × Bool × Bool × Bool × Bool} (h : Line.okP q = true) {k : Int} (h1 : 1 ≤ k) (h5 : k ≤ 5) : Line.err [q] k 0 = 0 := by
 have hr : Line.right [q] = true := by unfold Line.right; simp [h]
 unfold Line.err
 rw [if_neg (by rw [hr]; decide), if_neg (by omega), if_neg (by simp)]
theorem ok_pin {d : By} {a s p : Int} (hp : 0 ≤ p ∧ p ≤ 1) (h : 0 < d.length → 0 ≤ a ∨ 0 ≤ s) : Line.okP (pinOf d a s p) = true := by
 have h0 : decide (0 ≤ p) = true := decide_eq_true hp.1
 have h1 : decide (p < 8) = true := decide_eq_true (by omega)
 unfold Line.okP pinOf
 simp only [h0, h1]
 by_cases hd : 0 < d.length
 ·rcases h hd with h | h <;> simp [h]
 ·simp [hd]
theorem pin_up {d : By} {a s p : Int} {cs : List CR} (hp : 0 ≤ p ∧ p ≤ 1) (h : 0 < d.length → 0 ≤ a ∨ 0 ≤ s) :
  pinF [pinOf d a s p] cs 1 = ([(p, 64, true, false, true, false, true)], if a < 0 ∧ s < 0 then ask1 cs (0, p, 64) else cs) := by
 unfold pinF
 rw [if_pos (line_err (ok_pin hp h) (by omega) (by omega))]
 have e : Line.cstep (pinOf d a s p) 1 = ((p, 64, true, false, true, false, true), !(decide (0 ≤ a) || decide (0 ≤ s))) := by
  unfold Line.cstep Line.note Line.fire pinOf
  simp
 unfold Line.out Line.ask
 have e2 : Line.at_ [pinOf d a s p] 0 = pinOf d a s p := rfl
 rw [e2, e]
 refine Prod.ext rfl ?_
 simp only []
 by_cases q : a < 0 ∧ s < 0
 ·rw [if_pos q, if_pos (by rw [decide_eq_false (by omega), decide_eq_false (by omega)]; rfl)]; rfl
 ·rw [if_neg q, if_neg]
  ·rfl
  ·simp; omega
theorem pin_down {d : By} {a s p : Int} {cs : List CR} (hp : 0 ≤ p ∧ p ≤ 1) (h : 0 < d.length → 0 ≤ a ∨ 0 ≤ s) :
  pinF [pinOf d a s p] cs 2 = ([pinOf [] a s p], cs) := by
 unfold pinF
 rw [if_pos (line_err (ok_pin hp h) (by omega) (by omega))]
 have e : Line.cstep (pinOf d a s p) 2 = (pinOf [] a s p, false) := by
  unfold Line.cstep Line.note Line.fire pinOf
  simp
 unfold Line.out Line.ask
 have e2 : Line.at_ [pinOf d a s p] 0 = pinOf d a s p := rfl
 rw [e2, e]
 rfl
theorem pin_end {a s p : Int} {cs : List CR} (hp : 0 ≤ p ∧ p ≤ 1) : pinF [pinOf [] a s p] cs 5 = ([(p, 64, true, false, false, false, false)], cs) := by
 unfold pinF
 rw [if_pos (line_err (ok_pin hp (by simp)) (by omega) (by omega))]
 have e : Line.cstep (pinOf [] a s p) 5 = ((p, 64, true, false, false, false, false), false) := by
  unfold Line.cstep Line.note Line.fire pinOf
  simp
 unfold Line.out Line.ask
 have e2 : Line.at_ [pinOf [] a s p] 0 = pinOf [] a s p := rfl
 rw [e2, e]
 rfl
theorem frames_len (n : Nat) : (frames n).length = n := by cases n <;> simp [frames]
theorem frames_at (n : Nat) (i : Int) (h0 : 0 ≤ i) (h1 : i < n) : Nest.fr (frames n) i = (decide (i = 0), false) := by
 unfold Nest.fr
 cases n with
 | zero => omega
 | succ m =>
  unfold frames
  by_cases e : i = 0
  ·subst e; rfl
  ·obtain ⟨j, hj⟩ : ∃ j, i.toNat = j + 1 := ⟨i.toNat - 1, by omega⟩
   rw [hj, decide_eq_false e]
   have : j < m := by omega
   simp [List.getD, this]
theorem frames_right {n : Nat} (h : n ≤ 400) : Nest.right (decide ((n : Int) = 0), frames n) = true := by
 unfold Nest.right
 classical
 refine decide_eq_true ⟨by rw [frames_len]; exact h, fun e => ?_, fun i h0 h1 => ?_⟩
 ·rw [frames_len]; simp at e; omega
 ·simp only [frames_len] at h1
  rw [frames_at n i h0 h1]
  refine ⟨fun e => (by cases e), fun e => ?_⟩
  simp; omega
theorem frames_snoc (n : Nat) : frames n ++ [(decide ((n : Int) = 0), false)] = frames (n + 1) := by
 cases n with
 | zero => rfl
 | succ m =>
  unfold frames
  rw [decide_eq_false (by omega), List.cons_append, ← List.replicate_succ']
theorem frames_take (n : Nat) : (frames (n + 1)).take n = frames n := by
 rw [← frames_snoc, List.take_append_of_le_length (by rw [frames_len]; omega), List.take_of_length_le (by rw [frames_len]; omega)]
theorem nest_save {sv : Int} (h0 : 0 ≤ sv) (h : sv < 400) : Nest.step (nestOf false sv) 1 = (nestOf false (sv + 1), 0, ()) := by
 have e : ((sv.toNat : Nat) : Int) = sv := Int.toNat_of_nonneg h0
 have hr := frames_right (n := sv.toNat) (by omega)
 rw [e] at hr
 unfold nestOf
 simp only [Bool.false_eq_true, if_false]
 unfold Nest.step
 rw [if_pos hr, if_neg (by omega), if_neg (by simp only [frames_len]; omega), if_neg (by omega), if_pos (Or.inl rfl)]
 have hs := frames_snoc sv.toNat
 rw [e] at hs
 rw [decide_eq_false (by omega : ¬ sv + 1 = 0), show (sv + 1).toNat = sv.toNat + 1 by omega, ← hs]
 rfl
theorem nest_full : Nest.step (nestOf false 400) 1 = Nest.bad 4 := by
 have hr : Nest.right (decide ((400 : Int) = 0), frames (Int.toNat 400)) = true := frames_right (n := 400) (by omega)
 unfold nestOf
 simp only [Bool.false_eq_true, if_false]
 unfold Nest.step
 rw [if_pos hr, if_neg (by omega), if_pos ⟨Or.inl rfl, by rw [frames_len]; rfl⟩]
theorem nest_restore {sv : Int} (h0 : 0 < sv) (h : sv ≤ 400) : Nest.step (nestOf false sv) 2 = (nestOf false (sv - 1), 0, ()) := by
 have e : ((sv.toNat : Nat) : Int) = sv := Int.toNat_of_nonneg (by omega)
 have hr := frames_right (n := sv.toNat) (by omega)
 rw [e] at hr
 unfold nestOf
 simp only [Bool.false_eq_true, if_false]
 unfold Nest.step
 have hf := frames_at sv.toNat (sv - 1) (by omega) (by omega)
 rw [if_pos hr, if_neg (by omega), if_neg (by rintro ⟨q, _⟩; omega), if_neg (by omega), if_neg (by omega), if_neg (by rw [frames_len]; omega)]
 simp only [frames_len, e, hf]
 rw [if_neg (by decide), show sv.toNat = (sv - 1).toNat + 1 by omega, frames_take, show decide (sv - 1 = 0) = decide (sv - 1 = 0) from rfl]
theorem right_on : Nest.right (true, []) = true := by
 unfold Nest.right
 classical
 exact decide_eq_true ⟨by simp, fun _ => rfl, fun i h0 h1 => by have h1 : i < 0 := h1; omega⟩
theorem nest_none : Nest.step (nestOf false 0) 2 = Nest.bad 3 := by
 have e : nestOf false 0 = (true, []) := rfl
 rw [e]
 unfold Nest.step
 rw [if_pos right_on, if_neg (by omega), if_neg (by rintro ⟨q, _⟩; omega), if_neg (by omega), if_neg (by omega), if_pos (by rfl)]
theorem nest_enter (sv : Int) : Nest.step (nestOf false 0) 3 = (nestOf true sv, 0, ()) := by
 have e : nestOf false 0 = (true, []) := rfl
 rw [e]
 unfold Nest.step
 rw [if_pos right_on, if_neg (by omega), if_neg (by rintro ⟨_, q⟩; simp at q), if_neg (by rintro ⟨_, q⟩; cases q), if_pos (Or.inr rfl)]
 rfl
theorem nest_leave (sv : Int) : Nest.step (nestOf true sv) 4 = (nestOf false 0, 0, ()) := by
 have hr : Nest.right (false, [(true, true)]) = true := by
  unfold Nest.right
  classical
  refine decide_eq_true ⟨by simp, fun e => (by cases e), fun i h0 h1 => ?_⟩
  have h1 : i < 1 := h1
  have : i = 0 := by omega
  subst this
  exact ⟨fun _ => rfl, fun e => by omega⟩
 unfold nestOf
 simp only [Bool.false_eq_true, if_false, if_true]
 unfold Nest.step
 rw [if_pos hr, if_neg (by omega), if_neg (by rintro ⟨q, _⟩; omega), if_neg (by omega), if_neg (by omega), if_neg (by decide), if_neg (by decide)]
 rfl
theorem nest_on (sv : Int) (s : Bool) : (nestOf s sv).1 = (!s && decide (sv = 0)) := by
 unfold nestOf
 cases s <;> simp
theorem cores_get {a s : Int} {sv : List Int} {i : Int} (h0 : 0 ≤ i) (h1 : i ≤ 1) : (coresOf a s sv).getD i.toNat zc = coreOf a s (sv.getD i.toNat 0) i := by
 have : i = 0 ∨ i = 1 := by omega
 rcases this with rfl | rfl <;> rfl
theorem cores_set {a s a' s' : Int} {sv sv' : List Int} {i : Int} {c : CR} (h0 : 0 ≤ i) (h1 : i ≤ 1) (hc : c = coreOf a' s' (sv'.getD i.toNat 0) i)
  (ho : ∀ j : Int, 0 ≤ j → j ≤ 1 → j ≠ i → coreOf a s (sv.getD j.toNat 0) j = coreOf a' s' (sv'.getD j.toNat 0) j) : (coresOf a s sv).set i.toNat c = coresOf a' s' sv' := by
 have : i = 0 ∨ i = 1 := by omega
 rcases this with rfl | rfl
 ·have h := ho 1 (by omega) (by omega) (by omega)
  rw [hc]
  unfold coresOf
  simp only [Int.toNat_zero, List.set_cons_zero]
  rw [show (1 : Int).toNat = 1 from rfl] at h
  rw [h]
 ·have h := ho 0 (by omega) (by omega) (by omega)
  rw [hc]
  unfold coresOf
  rw [show (1 : Int).toNat = 1 from rfl]
  simp only [List.set_cons_succ, List.set_cons_zero]
  rw [show (0 : Int).toNat = 0 from rfl] at h
  rw [h]
theorem core_other {a s a' s' sv i j : Int} (hj : j ≠ i) (ha : a = a' ∨ (a ≠ j ∧ a' ≠ j)) (hs : s = s' ∨ (s ≠ j ∧ s' ≠ j)) : coreOf a s sv j = coreOf a' s' sv j := by
 have e1 : decide (a = j) = decide (a' = j) := by
  rcases ha with rfl | ⟨h1, h2⟩
  ·rfl
  ·rw [decide_eq_false h1, decide_eq_false h2]
 have e2 : decide (s = j) = decide (s' = j) := by
  rcases hs with rfl | ⟨h1, h2⟩
  ·rfl
  ·rw [decide_eq_false h1, decide_eq_false h2]
 unfold coreOf
 rw [e1, e2]
theorem ask_cores {a s p : Int} {sv : List Int} (hp : 0 ≤ p ∧ p ≤ 1) (ha : a < 0) (hs : s < 0) : ask1 (coresOf a s sv) (0, p, 64) = coresOf p s sv := by
 unfold ask1
 simp only []
 rw [cores_get hp.1 hp.2]
 have e : Apic.stepL (coreOf a s (sv.getD p.toNat 0) p).1 (1, 64) = ((s64 true, s64 (decide (s = p)), 0), -1, 0, ()) := local_ask _ _
 rw [e, if_pos rfl]
 refine cores_set hp.1 hp.2 ?_ fun j h0 h1 hj => core_other hj (Or.inr ⟨by omega, fun e => hj e.symm⟩) (Or.inl rfl)
 unfold coreOf
 rw [decide_eq_true rfl]

def good1 (w : YW) (k : Int) : Prop := match w with
 | (d, f, _, lo, tk, a, s, p, sv) => d.length ≤ 16 ∧ (f.length : Int) ≤ k ∧ (0 ≤ lo ∧ lo ≤ k) ∧ (0 ≤ tk ∧ tk ≤ k) ∧ (-1 ≤ a ∧ a ≤ 1) ∧ (-1 ≤ s ∧ s ≤ 1) ∧ (a < 0 ∨ s < 0) ∧ (0 ≤ p ∧ p ≤ 1) ∧
  sv.length = 2 ∧ (∀ i : Int, 0 ≤ i → i ≤ 1 → 0 ≤ sv.getD i.toNat 0 ∧ sv.getD i.toNat 0 ≤ 400 ∧ (s = i → sv.getD i.toNat 0 = 0))
theorem good_ask {w : YW} {k : Int} (h : good1 w k) : goodY (yask w) k := by
 obtain ⟨d, f, t, lo, tk, a, s, p, sv⟩ := w
 obtain ⟨h1, h2, h3, h4, h5, h6, h7, h8, h9, h10⟩ := h
 unfold yask
 simp only []
 split
 ·rename_i q
  exact ⟨h1, h2, h3, h4, by omega, h6, by omega, fun _ => by omega, h8, h9, h10⟩
 ·rename_i q
  exact ⟨h1, h2, h3, h4, h5, h6, h7, fun _ => by omega, h8, h9, h10⟩
theorem sv_set {sv : List Int} {i j v : Int} (hl : sv.length = 2) (hi : 0 ≤ i ∧ i ≤ 1) (hj : 0 ≤ j ∧ j ≤ 1) : (sv.set i.toNat v).getD j.toNat 0 = if j = i then v else sv.getD j.toNat 0 := by
 by_cases e : j = i
 ·subst e
  rw [if_pos rfl]
  have : j.toNat < sv.length := by omega
  simp [List.getD, this]
 ·rw [if_neg e]
  have : i.toNat ≠ j.toNat := by omega
  simp [List.getD, List.getElem?_set_ne this]
theorem ybody_eq (d f : By) (t : TT) (lo tk a s p : Int) (sv : List Int) (kd co n b : Int) : ybody (d, f, t, lo, tk, a, s, p, sv) (kd, co, n, b) =
  if kd < 1 ∨ 6 < kd then ((d, f, t, lo, tk, a, s, p, sv), 5, [])
  else if kd ≠ 1 ∧ kd ≠ 3 ∧ co ≠ 0 ∧ co ≠ 1 then ((d, f, t, lo, tk, a, s, p, sv), 2, [])
  else if kd = 1 then (if d.length = 16 then ((d, f, t, lo + 1, tk, a, s, p, sv), 0, []) else ((d ++ [b], f, t, lo, tk, a, s, p, sv), 0, []))
  else if kd = 3 then ((d, f, (if (Tty.readT t n).2.2.1 = 0 then (Tty.readT t n).1 else t), lo, tk, a, s, p, sv), (Tty.readT t n).2.2.1, (Tty.readT t n).2.1)
  else if kd = 6 then ((d, f, t, lo, tk, a, s, co, sv), 0, [])
  else if kd ≠ 2 ∧ s = co then ((d, f, t, lo, tk, a, s, p, sv), 6, [])
  else if kd = 4 then (if sv.getD co.toNat 0 = 400 then ((d, f, t, lo, tk, a, s, p, sv), 4, []) else ((d, f, t, lo, tk, a, s, p, sv.set co.toNat (sv.getD co.toNat 0 + 1)), 0, []))
  else if kd = 5 then (if sv.getD co.toNat 0 = 0 then ((d, f, t, lo, tk, a, s, p, sv), 3, []) else ((d, f, t, lo, tk, a, s, p, sv.set co.toNat (sv.getD co.toNat 0 - 1)), 0, []))
  else if s = co then (if 0 < d.length then ((d.drop 1, f ++ [d.getD 0 0], t, lo, tk, a, s, p, sv), 0, []) else ((d, f, t, lo, tk, a, -1, p, sv), 0, []))
  else if a = co ∧ sv.getD co.toNat 0 = 0 then ((d, f, t, lo, tk + 1, -1, co, p, sv), 0, [])
  else if 0 < f.length then ((d, f.drop 1, (if (Tty.keyT t (f.getD 0 0)).2 = 0 then (Tty.keyT t (f.getD 0 0)).1 else t), lo, tk, a, s, p, sv), 0, [])
  else ((d, f, t, lo, tk, a, s, p, sv), 7, []) := rfl
theorem good_body {w : YW} {k : Int} (o : KOp) (h : goodY w k) : good1 (ybody w o).1 (k + 1) := by
 obtain ⟨d, f, t, lo, tk, a, s, p, sv⟩ := w
 obtain ⟨kd, co, n, b⟩ := o
 obtain ⟨h1, h2, h3, h4, h5, h6, h7, _, h8, h9, h10⟩ := h
 have hb : good1 (d, f, t, lo, tk, a, s, p, sv) (k + 1) := ⟨h1, by omega, by omega, by omega, h5, h6, h7, h8, h9, h10⟩
 have hsv : ∀ v : Int, 0 ≤ v → v ≤ 400 → (0 ≤ co ∧ co ≤ 1) → s ≠ co → ∀ i : Int, 0 ≤ i → i ≤ 1 → 0 ≤ (sv.set co.toNat v).getD i.toNat 0 ∧ (sv.set co.toNat v).getD i.toNat 0 ≤ 400 ∧ (s = i → (sv.set co.toNat v).getD i.toNat 0 = 0) := fun v v0 v1 hk hs i i0 i1 => by
  rw [sv_set h9 hk ⟨i0, i1⟩]
  by_cases e : i = co
  ·rw [if_pos e]; exact ⟨v0, v1, fun q => absurd (q.trans e) hs⟩
  ·rw [if_neg e]; exact h10 i i0 i1
 rw [ybody_eq]
 by_cases q1 : kd < 1 ∨ 6 < kd
 ·rw [if_pos q1]; exact hb
 rw [if_neg q1]
 by_cases q2 : kd ≠ 1 ∧ kd ≠ 3 ∧ co ≠ 0 ∧ co ≠ 1
 ·rw [if_pos q2]; exact hb
 rw [if_neg q2]
 by_cases q3 : kd = 1
 ·rw [if_pos q3]
  by_cases q : d.length = 16
  ·rw [if_pos q]; exact ⟨h1, by omega, by omega, by omega, h5, h6, h7, h8, h9, h10⟩
  ·rw [if_neg q]; exact ⟨by simp; omega, by omega, by omega, by omega, h5, h6, h7, h8, h9, h10⟩
 rw [if_neg q3]
 by_cases q4 : kd = 3
 ·rw [if_pos q4]; exact ⟨h1, by omega, by omega, by omega, h5, h6, h7, h8, h9, h10⟩
 rw [if_neg q4]
 have hk : 0 ≤ co ∧ co ≤ 1 := by omega
 by_cases q5 : kd = 6
 ·rw [if_pos q5]; exact ⟨h1, by omega, by omega, by omega, h5, h6, h7, hk, h9, h10⟩
 rw [if_neg q5]
 by_cases q6 : kd ≠ 2 ∧ s = co
 ·rw [if_pos q6]; exact hb
 rw [if_neg q6]
 have hv := h10 co hk.1 hk.2
 by_cases q7 : kd = 4
 ·rw [if_pos q7]
  by_cases q : sv.getD co.toNat 0 = 400
  ·rw [if_pos q]; exact hb
  ·rw [if_neg q]; exact ⟨h1, by omega, by omega, by omega, h5, h6, h7, h8, by simpa using h9, hsv _ (by omega) (by omega) hk (by omega)⟩
 rw [if_neg q7]
 by_cases q8 : kd = 5
 ·rw [if_pos q8]
  by_cases q : sv.getD co.toNat 0 = 0
  ·rw [if_pos q]; exact hb
  ·rw [if_neg q]; exact ⟨h1, by omega, by omega, by omega, h5, h6, h7, h8, by simpa using h9, hsv _ (by omega) (by omega) hk (by omega)⟩
 rw [if_neg q8]
 by_cases q9 : s = co
 ·rw [if_pos q9]
  by_cases q : 0 < d.length
  ·rw [if_pos q]; exact ⟨by simp; omega, by simp; omega, by omega, by omega, h5, h6, h7, h8, h9, h10⟩
  ·rw [if_neg q]; exact ⟨h1, by omega, by omega, by omega, h5, by omega, by omega, h8, h9, fun i i0 i1 => ⟨(h10 i i0 i1).1, (h10 i i0 i1).2.1, fun e => by omega⟩⟩
 rw [if_neg q9]
 by_cases q10 : a = co ∧ sv.getD co.toNat 0 = 0
 ·rw [if_pos q10]; exact ⟨h1, by omega, by omega, by omega, by omega, by omega, by omega, h8, h9, fun i i0 i1 => ⟨(h10 i i0 i1).1, (h10 i i0 i1).2.1, fun e => by rw [← e]; exact q10.2⟩⟩
 rw [if_neg q10]
 by_cases q11 : 0 < f.length
 ·rw [if_pos q11]; exact ⟨h1, by simp; omega, by omega, by omega, h5, h6, h7, h8, h9, h10⟩
 ·rw [if_neg q11]; exact hb
theorem good_do {w : YW} {k : Int} (o : KOp) (h : goodY w k) : goodY (ydo w o).1 (k + 1) := good_ask (good_body o h)
theorem good_0 : goodY y0 0 := ⟨by simp, by simp, by omega, by omega, by omega, by omega, by omega, by simp, by omega, rfl, fun i h0 h1 => by
 have : i = 0 ∨ i = 1 := by omega
 rcases this with rfl | rfl <;> simp⟩
theorem ypl_snoc (l : List KOp) (o : KOp) : ypl (l ++ [o]) = yone (ypl l) o := by unfold ypl; rw [List.foldl_append]; rfl
theorem ypl_good : ∀ (ops : List KOp), goodY (ypl ops).1 ops.length ∧ (ypl ops).2.length = ops.length := by
 intro ops
 have key : ∀ n, n ≤ ops.length → goodY (ypl (ops.take n)).1 n ∧ (ypl (ops.take n)).2.length = n := by
  intro n
  induction n with
  | zero => intro _; exact ⟨good_0, rfl⟩
  | succ n ih =>
   intro hn
   obtain ⟨h1, h2⟩ := ih (by omega)
   rw [take_succ' (0, 0, 0, 0) (by omega), ypl_snoc]
   unfold yone
   refine ⟨?_, by simp [h2]⟩
   have := good_do (ops.getD n (0, 0, 0, 0)) h1
   exact this
 have := key ops.length (Nat.le_refl _)
 rwa [List.take_length] at this
theorem ypl_next {ops : List KOp} {k : Int} (h0 : 0 ≤ k) (h : k < ops.length) : ypl (ops.take (k + 1).toNat) = yone (ypl (ops.take k.toNat)) (ops.getD k.toNat (0, 0, 0, 0)) := by
 rw [takeI_succ (0, 0, 0, 0) h0 h, ypl_snoc]

theorem ydo_pair {w : YW} {o : KOp} {d f : By} {t : TT} {lo tk a s p : Int} {sv : List Int} {A : KAns} (h : ybody w o = ((d, f, t, lo, tk, a, s, p, sv), A)) :
  (0 < (d.length : Int) → a < 0 → s < 0 → (d, f, t, lo, tk, p, s, p, sv) = (ydo w o).1 ∧ A = (ydo w o).2) ∧
  ((¬ 0 < (d.length : Int) ∨ ¬ a < 0) ∨ ¬ s < 0 → (d, f, t, lo, tk, a, s, p, sv) = (ydo w o).1 ∧ A = (ydo w o).2) := by
 unfold ydo
 rw [h]
 unfold yask
 dsimp only
 refine ⟨fun h1 h2 h3 => ?_, fun h1 => ?_⟩
 ·rw [if_pos ⟨by omega, h2, h3⟩]; exact ⟨rfl, rfl⟩
 ·rw [if_neg (by omega)]; exact ⟨rfl, rfl⟩
set_option maxHeartbeats 8000000 in
section
open Line
theorem e_lstep (x : List PN × (Int × Int) × Unit) (_ : True) (_ : LensL cStepO.as x) : E_lstep x := by
 obtain ⟨l, ⟨k, i⟩, u'⟩ := x
 unfold E_lstep
 delta qlstep_t1 qlstep_t2 qlstep_t3 qlstep_1 qlstep_12 qlstep_14 qlstep_15 qlstep_16 qlstep_18 qlstep_2 qlstep_3 qlstep_4 qlstep_5 qlstep_8 qlstep_6 qlstep_7 qlstep_9 qlstep_10 qlstep_11 qlstep_13 qlstep_19 qlstep_20 qlstep_21 qlstep_17
 simp only [Bool.not_eq_true', Bool.not_eq_false', Bool.not_eq_true, Bool.not_eq_false, beq_self_eq_true, decide_eq_true_eq, decide_eq_false_iff_not, Bool.not_false, Bool.not_true, beq_iff_eq, beq_eq_false_iff_ne, bne_iff_ne, ne_eq, bne_eq_false_iff_eq, holds_iff, true_and, and_true, and_self, eq_self, List.length_cons, List.length_nil, List.length_append, List.length_set, List.length_replicate, List.set_cons_zero, cond_true, cond_false, Bool.false_eq_true, Bool.true_eq_false, forall_const, false_imp_iff, imp_self, implies_true, and_imp, Decidable.not_not, Bool.and_eq_true, Bool.or_eq_true, Bool.and_eq_false_iff, Bool.or_eq_false_iff, ← List.length_eq_zero_iff, or_self, or_false, false_or, Prod.forall, Int.reduceEq, Int.reduceLT, Int.reduceLE, List.nil_append, Nat.zero_add, Int.toNat_zero, List.drop_zero, List.length_drop, List.length_take, not_true_eq_false, not_false_eq_true]
 try simp only [flip_f, flip_t, decide_eq_true_eq, decide_eq_false_iff_not]
 refine ⟨fun hr => ?_, fun hr => ⟨fun hk => ?_, fun k1 k5 => ⟨fun hi => ?_, fun i0 i1 => ?_⟩⟩⟩
 ·rw [step_bad (e := 1) (by simp [err, hr]) (by decide)]; simp [bad]
 ·rw [step_bad (e := 5) (by simp [err, hr, hk]) (by decide)]; simp [bad]
 ·rw [step_bad (e := 3) (by simp only [err, hr]; grind) (by decide)]; simp [bad]
 have hl := right_len hr
 have hlen : i.toNat < l.length := by omega
 have hst := step_ok (l := l) (k := k) (i := i) (by simp only [err, hr]; grind)
 have hz : (0, 0, false, false, false, false, false) = zero := rfl
 refine ⟨by omega, ⟨by omega, by omega⟩, ?_, ?_⟩
 ·simp only [Line.at_, hz]
  generalize l.getD i.toNat zero = p
  obtain ⟨c, v, lv, m, u, kp, s⟩ := p
  simp only [Line.note]
  repeat' (first | with_reducible apply And.intro | with_reducible intro _)
  all_goals first
   | omega
   | (subst_vars; rfl)
   | grind
 ·intro a ha _ _
  have hg : a.getD i.toNat zero = note (at_ l i) k := by rw [ha]; exact set_getD hlen
  have hs : ∀ y, a.set i.toNat y = l.set i.toNat y := fun y => by rw [ha, List.set_set]
  have hgs : ∀ y, (l.set i.toNat y).getD i.toNat zero = y := fun y => set_getD hlen
  rw [hst]
  simp only [hz, hs, hg, hgs, Line.out, Line.ask, Line.cstep, Line.at_]
  clear hg hs hgs hst
  rw [ha]
  clear ha
  simp only [Line.at_]
  obtain ⟨c, v, lv, m, u, kp, s, hpe⟩ : ∃ c v lv m u kp s, l.getD i.toNat zero = (c, v, lv, m, u, kp, s) := ⟨_, _, _, _, _, _, _, rfl⟩
  simp only [hpe]
  clear hpe
  cases lv <;> simp only [Line.note, Line.fire]
  all_goals (repeat' (first | with_reducible apply And.intro | with_reducible intro _))
  all_goals first
   | omega
   | contradiction
   | (cases m <;> cases u <;> cases kp <;> cases s <;> grind)
end
theorem ask1_eq (cs : List CR) (s : Int × Int × Int) : ask1 cs s = if (Apic.stepL (crAt cs s.2.1).1 (1, s.2.2)).2.2.1 = 0 then cs.set s.2.1.toNat ((Apic.stepL (crAt cs s.2.1).1 (1, s.2.2)).1, (crAt cs s.2.1).2) else cs := rfl
theorem pin_loop {sent : List (Int × Int × Int)} {cs cs' : List CR} {j : Int} (hs : ∀ e ∈ sent, 0 ≤ e.2.1 ∧ e.2.1 < 2) (hl : sent.length ≤ 9223372036854775807) (h0 : 0 ≤ j) (h1 : j ≤ (sent.length : Int)) (h : cs' = (sent.take j.toNat).foldl ask1 cs) (hjl : j < (sent.length : Int)) :
  (0 ≤ j ∧ j < (sent.length : Int)) ∧ (0 ≤ (seAt sent j).2.1 ∧ (seAt sent j).2.1 < ((2 : Nat) : Int)) ∧
   ((Apic.stepL (crAt cs' (seAt sent j).2.1).1 (1, (seAt sent j).2.2)).2.2.1 = 0 →
    (-9223372036854775808 ≤ j + 1 ∧ j + 1 ≤ 9223372036854775807) ∧
    (0 ≤ j + 1 ∧ j + 1 ≤ (sent.length : Int) ∧ cs'.set (seAt sent j).2.1.toNat ((Apic.stepL (crAt cs' (seAt sent j).2.1).1 (1, (seAt sent j).2.2)).1, (crAt cs' (seAt sent j).2.1).2) = (sent.take (j + 1).toNat).foldl ask1 cs) ∧
    ((sent.length : Int) - (j + 1)).toNat < ((sent.length : Int) - j).toNat) ∧
   (¬ (Apic.stepL (crAt cs' (seAt sent j).2.1).1 (1, (seAt sent j).2.2)).2.2.1 = 0 →
    (-9223372036854775808 ≤ j + 1 ∧ j + 1 ≤ 9223372036854775807) ∧
    (0 ≤ j + 1 ∧ j + 1 ≤ (sent.length : Int) ∧ cs' = (sent.take (j + 1).toNat).foldl ask1 cs) ∧
    ((sent.length : Int) - (j + 1)).toNat < ((sent.length : Int) - j).toNat) := by
 have hm : seAt sent j ∈ sent := getD_mem (by omega)
 have hb := hs _ hm
 have hf : (sent.take (j + 1).toNat).foldl ask1 cs = ask1 cs' (seAt sent j) := by rw [foldl_takeI (0, 0, 0) h0 hjl, ← h]; rfl
 refine ⟨⟨h0, hjl⟩, ⟨hb.1, hb.2⟩, fun q => ⟨by omega, ⟨by omega, by omega, ?_⟩, by omega⟩, fun q => ⟨by omega, ⟨by omega, by omega, ?_⟩, by omega⟩⟩
 ·rw [hf, ask1_eq, if_pos q]
 ·rw [hf, ask1_eq, if_neg q]
theorem line_step {ps : List (Int × Int × Bool × Bool × Bool × Bool × Bool)} {k : Int} (h : Line.err ps k 0 = 0) : Line.step ps k 0 = (Line.out ps k 0, Line.ask ps k 0, 0, ()) := if_pos h
theorem ask_range {d : By} {a s p k : Int} (hp : 0 ≤ p ∧ p ≤ 1) : ∀ e ∈ Line.ask [pinOf d a s p] k 0, 0 ≤ e.2.1 ∧ e.2.1 < 2 := by
 intro e he
 unfold Line.ask at he
 split at he
 ·rw [List.mem_singleton] at he
  subst he
  exact ⟨hp.1, by show p < 2; omega⟩
 ·cases he
theorem pin_fin {ps : List (Int × Int × Bool × Bool × Bool × Bool × Bool)} {cs cs' : List CR} {k : Int} {sent : List (Int × Int × Int)} {j : Int} (h : Line.err ps k 0 = 0) (hs : sent = Line.ask ps k 0) (hj : (sent.length : Int) ≤ j) (hc : cs' = (sent.take j.toNat).foldl ask1 cs) :
  pinF ps cs k = (Line.out ps k 0, cs') := by
 unfold pinF
 rw [if_pos h, hc, takeI_all hj, hs]

theorem ydo_at {w : YW} {o : KOp} {W : YW} {A : KAns} (h : ybody w o = (W, A)) : ydo w o = (yask W, A) := by unfold ydo; rw [h]
theorem boot_step {j : Int} (h0 : 0 ≤ j) (h : j < 2) : (bootAt j).set j.toNat ((crAt (bootAt j) j).1, (true, (crAt (bootAt j) j).2.1.2), (crAt (bootAt j) j).2.2) = bootAt (j + 1) := by
 have : j = 0 ∨ j = 1 := by omega
 rcases this with rfl | rfl <;> rfl
theorem ask_same {d f : By} {t : TT} {lo tk a s p : Int} {sv : List Int} (h : 0 < d.length → 0 ≤ a ∨ 0 ≤ s) : yask (d, f, t, lo, tk, a, s, p, sv) = (d, f, t, lo, tk, a, s, p, sv) := by
 unfold yask
 dsimp only
 rw [if_neg (by omega)]
theorem whole_up {d f : By} {t : TT} {lo tk a s p : Int} {sv : List Int} (hd : 0 < d.length) (hp : 0 ≤ p ∧ p ≤ 1) (h : a < 0 ∨ s < 0) :
  wholeOf (yask (d, f, t, lo, tk, a, s, p, sv)) = ((d, [], lo, true), [(p, 64, true, false, true, false, true)], if a < 0 ∧ s < 0 then ask1 (coresOf a s sv) (0, p, 64) else coresOf a s sv, f, t, tk) := by
 unfold yask
 dsimp only
 by_cases q : a < 0 ∧ s < 0
 ·rw [if_pos (by omega), if_pos q, ask_cores hp q.1 q.2]
  unfold wholeOf pinOf
  dsimp only
  rw [decide_eq_true hd, decide_eq_true hp.1]
  rfl
 ·rw [if_neg (by omega), if_neg q]
  unfold wholeOf pinOf
  dsimp only
  have e : (decide (0 ≤ a) || decide (0 ≤ s)) = true := by simp; omega
  rw [decide_eq_true hd, e]
theorem nest_set {a s co v : Int} {sv : List Int} (hl : sv.length = 2) (hco : 0 ≤ co ∧ co ≤ 1) (hs : s ≠ co) :
  (coresOf a s sv).set co.toNat ((coreOf a s (sv.getD co.toNat 0) co).1, nestOf false v, (coreOf a s (sv.getD co.toNat 0) co).2.2) = coresOf a s (sv.set co.toNat v) := by
 refine cores_set hco.1 hco.2 ?_ fun j h0 h1 hj => ?_
 ·rw [sv_set hl hco hco, if_pos rfl]
  unfold coreOf
  rw [decide_eq_false hs]
 ·rw [sv_set hl hco ⟨h0, h1⟩, if_neg hj]
theorem core_nest {a s v i : Int} (h : s ≠ i) : (coreOf a s v i).2.1 = nestOf false v := by
 unfold coreOf
 rw [decide_eq_false h]
theorem crAt_set {cs : List CR} {co : Int} {c : CR} (hl : cs.length = 2) (hco : 0 ≤ co ∧ co ≤ 1) : crAt (cs.set co.toNat c) co = c := by
 unfold crAt
 have : co.toNat < cs.length := by omega
 simp [List.getD, this]
theorem nestF_cut {cs : List CR} {co k : Int} (hl : cs.length = 2) (hco : 0 ≤ co ∧ co ≤ 1) :
  ((Nest.step (crAt cs co).2.1 k).2.1 = 0 → cs.set co.toNat ((crAt cs co).1, (Nest.step (crAt cs co).2.1 k).1, (crAt cs co).2.2) = cs.set co.toNat (nestF (crAt cs co) k)) ∧
  (¬ (Nest.step (crAt cs co).2.1 k).2.1 = 0 → cs = cs.set co.toNat (nestF (crAt cs co) k)) := by
 unfold nestF
 refine ⟨fun h => by rw [if_pos h], fun h => ?_⟩
 rw [if_neg h]
 unfold crAt
 have : co.toNat < cs.length := by omega
 simp [List.getD, this]
theorem cores_len (a s : Int) (sv : List Int) : (coresOf a s sv).length = 2 := rfl
theorem end_cores {a s co : Int} {sv : List Int} {c1 c2 c3 : List CR} (hco : 0 ≤ co ∧ co ≤ 1) (hs : s = co) (hv : sv.getD co.toNat 0 = 0)
  (h1 : c1 = (coresOf a s sv).set co.toNat ((coreOf a s (sv.getD co.toNat 0) co).1, (coreOf a s (sv.getD co.toNat 0) co).2.1, false))
  (h2 : c2 = c1.set co.toNat ((Apic.stepL (crAt c1 co).1 (3, 0)).1, (crAt c1 co).2)) (h3 : c3 = c2.set co.toNat (nestF (crAt c2 co) 4)) : c3 = coresOf a (-1) sv := by
 subst h1
 rw [crAt_set (cores_len _ _ _) hco, List.set_set] at h2
 subst h2
 rw [crAt_set (cores_len _ _ _) hco, List.set_set] at h3
 subst h3
 refine cores_set hco.1 hco.2 ?_ fun j h0 h1 hj => core_other hj (Or.inl rfl) (Or.inr ⟨by omega, by omega⟩)
 rw [hv]
 unfold coreOf nestF
 dsimp only
 rw [decide_eq_true hs, decide_eq_false (by omega : ¬ (-1 : Int) = co), local_end, nest_leave, if_pos rfl]
theorem take_cores {a s co : Int} {sv : List Int} {c1 c2 c3 : List CR} (hco : 0 ≤ co ∧ co ≤ 1) (ha : a = co) (hs : s < 0) (hv : sv.getD co.toNat 0 = 0)
  (h1 : c1 = (coresOf a s sv).set co.toNat (nestF (coreOf a s (sv.getD co.toNat 0) co) 3))
  (h2 : c2 = c1.set co.toNat ((Apic.stepL (crAt c1 co).1 (2, 0)).1, (crAt c1 co).2)) (h3 : c3 = c2.set co.toNat ((crAt c2 co).1, (crAt c2 co).2.1, true)) : c3 = coresOf (-1) co sv := by
 subst h1
 rw [crAt_set (cores_len _ _ _) hco, List.set_set] at h2
 subst h2
 rw [crAt_set (cores_len _ _ _) hco, List.set_set] at h3
 subst h3
 refine cores_set hco.1 hco.2 ?_ fun j h0 h1 hj => core_other hj (Or.inr ⟨by omega, by omega⟩) (Or.inr ⟨by omega, by omega⟩)
 rw [hv]
 unfold coreOf nestF
 dsimp only
 rw [decide_eq_true ha, decide_eq_false (by omega : ¬ s = co), decide_eq_false (by omega : ¬ (-1 : Int) = co), decide_eq_true rfl, nest_enter 0, if_pos rfl]
 dsimp only
 rw [local_take]
theorem core_on {a s v i : Int} (h : s ≠ i) : (coreOf a s v i).2.1.1 = decide (v = 0) := by
 rw [core_nest h]; rfl
theorem core_would {a s v i : Int} (h : s ≠ i) : Apic.wouldL (coreOf a s v i).1 = if a = i then 64 else -1 := by
 unfold coreOf
 dsimp only
 rw [decide_eq_false h, local_would]
 by_cases q : a = i <;> simp [q]
set_option maxHeartbeats 16000000 in
theorem e_kplay (x : List KOp × Unit) (hpre : x.1.length ≤ 1048576) (hlens : LensL cYPlay.as x) : E_kplay x := by
 obtain ⟨ops, u⟩ := x
 simp only [] at hpre
 unfold E_kplay
 delta qkplay_t1 qkplay_t2 qkplay_t3 qkplay_t4 qkplay_t5 qkplay_t6 qkplay_t7 qkplay_t8 qkplay_2 qkplay_7 qkplay_10 qkplay_11 qkplay_13 qkplay_16 qkplay_18 qkplay_20 qkplay_23 qkplay_27 qkplay_28 qkplay_29 qkplay_32 qkplay_34 qkplay_35 qkplay_41 qkplay_44 qkplay_46 qkplay_47 qkplay_50 qkplay_53 qkplay_57 qkplay_61 qkplay_62 qkplay_64 qkplay_65 qkplay_66 qkplay_67 qkplay_68 qkplay_70 qkplay_77 qkplay_78 qkplay_80 qkplay_84 qkplay_85 qkplay_87 qkplay_89 qkplay_90 qkplay_91 qkplay_94 qkplay_95 qkplay_96 qkplay_100 qkplay_106 qkplay_107 qkplay_109 qkplay_111 qkplay_112 qkplay_113 qkplay_115 qkplay_118 qkplay_119 qkplay_125 qkplay_128 qkplay_1 qkplay_3 qkplay_5 qkplay_8 qkplay_9 qkplay_15 qkplay_17 qkplay_19 qkplay_21 qkplay_22 qkplay_25 qkplay_26 qkplay_30 qkplay_36 qkplay_40 qkplay_48 qkplay_56 qkplay_60 qkplay_63 qkplay_69 qkplay_72 qkplay_76 qkplay_79 qkplay_81 qkplay_82 qkplay_83 qkplay_97 qkplay_105 qkplay_108 qkplay_110 qkplay_120 qkplay_121 qkplay_122 qkplay_123 qkplay_124 qkplay_131 qkplay_132 qkplay_4 qkplay_24 qkplay_37 qkplay_38 qkplay_39 qkplay_42 qkplay_51 qkplay_52 qkplay_55 qkplay_58 qkplay_59 qkplay_73 qkplay_75 qkplay_86 qkplay_88 qkplay_92 qkplay_98 qkplay_101 qkplay_102 qkplay_103 qkplay_104 qkplay_114 qkplay_116 qkplay_117 qkplay_126 qkplay_127 qkplay_129 qkplay_130 qkplay_6 qkplay_12 qkplay_33 qkplay_43 qkplay_45 qkplay_49 qkplay_71 qkplay_74 qkplay_14 qkplay_31 qkplay_54 qkplay_93 qkplay_99
 simp (maxSteps := 10000000) only [Bool.not_eq_true', Bool.not_eq_false', Bool.not_eq_true, Bool.not_eq_false, beq_self_eq_true, decide_eq_true_eq, decide_eq_false_iff_not, Bool.not_false, Bool.not_true, beq_iff_eq, beq_eq_false_iff_ne, bne_iff_ne, ne_eq, bne_eq_false_iff_eq, holds_iff, true_and, and_true, and_self, eq_self, List.length_cons, List.length_nil, List.length_append, List.length_set, List.length_replicate, List.set_cons_zero, cond_true, cond_false, Bool.false_eq_true, Bool.true_eq_false, forall_const, false_imp_iff, imp_self, implies_true, and_imp, Decidable.not_not, Bool.and_eq_true, Bool.or_eq_true, Bool.and_eq_false_iff, Bool.or_eq_false_iff, ← List.length_eq_zero_iff, or_self, or_false, false_or, Prod.forall, Int.reduceEq, Int.reduceLT, Int.reduceLE, List.nil_append, Nat.zero_add, Int.toNat_zero, List.drop_zero, List.length_drop, List.length_take, not_true_eq_false, not_false_eq_true,  RR_eq, R8_eq, R32_eq, pair_eta, List.set_cons_zero, show Int.negSucc 0 = (-1 : Int) from rfl, show Int.toNat 1 = 1 from rfl]
 refine ⟨rfl, fun bt j hj0 hj1 hb _ _ _ _ => ⟨fun hjl => ⟨⟨hj0, by omega⟩, by omega, ⟨by omega, by omega, by rw [hb]; exact boot_step hj0 hjl⟩, by omega⟩, fun hjl => ⟨⟨by omega, ?_⟩, ?_⟩⟩⟩
 ·have : j = 2 := by omega
  subst this; subst hb; rfl
 intro dd oo lo as_ ps cs f tl te tk e k _ hk0 hk1 hq
 clear hlens hb
 simp only [Prod.mk.injEq] at hq
 obtain ⟨hq1, hq2⟩ := hq
 have hgd := ypl_good (ops.take k.toNat)
 have hlen : (ops.take k.toNat).length = k.toNat := by rw [List.length_take]; omega
 rw [hlen, Int.toNat_of_nonneg hk0, ← hq2] at hgd
 obtain ⟨hg, he⟩ := hgd
 have hnx : k < ops.length → ypl (ops.take (k + 1).toNat) = ((ydo (ypl (ops.take k.toNat)).1 (opAt ops k)).1, e ++ [(ydo (ypl (ops.take k.toNat)).1 (opAt ops k)).2]) := fun h => by
  rw [ypl_next hk0 h]
  unfold yone
  rw [← hq2]; rfl
 have hend : ¬ k < ops.length → (ypl ops).2 = e ∧ (ypl ops).1 = (ypl (ops.take k.toNat)).1 := fun h => by
  have : ops.take k.toNat = ops := takeI_all (by omega)
  rw [this] at hq2 ⊢
  exact ⟨hq2.symm, rfl⟩
 generalize (ypl (ops.take k.toNat)).1 = w at *
 obtain ⟨d, f0, t, lo0, tk0, a, s, p, sv⟩ := w
 unfold wholeOf at hq1
 simp only [Prod.mk.injEq] at hq1
 obtain ⟨⟨rfl, rfl, rfl, rfl⟩, rfl, rfl, rfl, rfl, rfl⟩ := hq1
 generalize opAt ops k = o at *
 obtain ⟨kd, co, n, by_⟩ := o
 dsimp only
 intro hdl hdb _ _ _ _ _ _ _ _ hfl hfb _ _ _ _ _ _ _ _ _ _
 have hfin : ∀ {X : WH} {A : KAns}, k < ops.length → X = wholeOf (ydo (dd, f, (tl, te), lo, tk, a, s, p, sv) (kd, co, n, by_)).1 → A = (ydo (dd, f, (tl, te), lo, tk, a, s, p, sv) (kd, co, n, by_)).2 →
   (-9223372036854775808 ≤ k + 1 ∧ k + 1 ≤ 9223372036854775807) ∧ (0 ≤ k + 1 ∧ k + 1 ≤ (ops.length : Int) ∧ (X, e ++ [A]) = (wholeOf (ypl (ops.take (k + 1).toNat)).1, (ypl (ops.take (k + 1).toNat)).2)) ∧ ((ops.length : Int) - (k + 1)).toNat < ((ops.length : Int) - k).toNat := fun hlt hX hA => by
  rw [hnx hlt]
  exact ⟨by omega, ⟨by omega, by omega, by rw [hX, hA]⟩, by omega⟩
 obtain ⟨g1, g2, g3, g4, g5, g6, g7, g8, g9, g10, g11⟩ := id hg
 have herr : ∀ q : Int, 1 ≤ q → q ≤ 5 → Line.err [pinOf dd a s p] q 0 = 0 := fun q h1 h5 => line_err (ok_pin g9 g8) h1 h5
 have hroom : (e.length + 1 ≤ 9223372036854775807 ∧ (e.length + 1 + (e.length + 1) / 4 + 192) * 32 ≤ 281474976710656) := by omega
 have hgo : ∀ {W : YW} {A : KAns} {X : WH}, k < ops.length → ybody (dd, f, (tl, te), lo, tk, a, s, p, sv) (kd, co, n, by_) = (W, A) → X = wholeOf (yask W) →
   (-9223372036854775808 ≤ k + 1 ∧ k + 1 ≤ 9223372036854775807) ∧ (0 ≤ k + 1 ∧ k + 1 ≤ (ops.length : Int) ∧ (X, e ++ [A]) = (wholeOf (ypl (ops.take (k + 1).toNat)).1, (ypl (ops.take (k + 1).toNat)).2)) ∧ ((ops.length : Int) - (k + 1)).toNat < ((ops.length : Int) - k).toNat := fun hlt hb hX => by
  refine hfin hlt ?_ ?_
  ·rw [ydo_at hb]; exact hX
  ·rw [ydo_at hb]
 have hsm : wholeOf (dd, f, (tl, te), lo, tk, a, s, p, sv) = wholeOf (yask (dd, f, (tl, te), lo, tk, a, s, p, sv)) := by rw [ask_same g8]
 refine ⟨fun hlt => ⟨⟨hk0, hlt⟩, fun c1 => ⟨hroom, hfin hlt ?_ ?_⟩, fun c1 c2 => ⟨fun c3 c4 => ⟨⟨c3, c4⟩, fun c5 => ⟨⟨c3, c4⟩, c5⟩⟩, fun c3 c4 c5 => ⟨hroom, hfin hlt ?_ ?_⟩, fun c3 kd' hkd _ _ => ?_⟩⟩, fun hge => ?_⟩
 ·rw [ydo_at (by rw [ybody_eq, if_pos c1])]; exact hsm
 ·rw [ydo_at (by rw [ybody_eq, if_pos c1])]
 ·rw [ydo_at (by rw [ybody_eq, if_neg (by omega), if_pos (by omega)])]; exact hsm
 ·rw [ydo_at (by rw [ybody_eq, if_neg (by omega), if_pos (by omega)])]
 ·subst hkd
  refine ⟨fun k1 => ?_, fun k1 => ⟨fun k2 => ?_, fun k2 => ⟨fun k3 => ⟨fun r0 => ?_, fun r0 => ?_⟩, fun k3 => ⟨fun k4 => ?_, fun k4 => ⟨fun k5 => ?_, fun k5 => ?_⟩⟩⟩⟩⟩
  ·subst k1
   obtain ⟨d', lo', hd', hU, hb⟩ : ∃ d' lo', 0 < d'.length ∧ Uart.step (dd, [], lo, decide (0 < dd.length)) 1 by_ = ((d', [], lo', true), 0, 0, ()) ∧ ybody (dd, f, (tl, te), lo, tk, a, s, p, sv) (1, co, n, by_) = ((d', f, (tl, te), lo', tk, a, s, p, sv), 0, []) := by
    rw [ybody_eq, if_neg (by omega), if_neg (by omega), if_pos rfl, uart_in g1 g3.1 (by omega)]
    by_cases hd : dd.length = 16
    ·rw [if_pos hd, if_pos hd]; exact ⟨dd, lo + 1, by omega, rfl, rfl⟩
    ·rw [if_neg hd, if_neg hd]; exact ⟨dd ++ [by_], lo, by simp, rfl, rfl⟩
   rw [hU]
   dsimp only
   rw [if_pos rfl, if_pos rfl]
   refine ⟨⟨fun _ => ?_, fun q => absurd rfl q⟩, ?_⟩
   ·intro d2 b2 lo2 fl heq _ _ _ _ _ _
    simp only [Prod.mk.injEq] at heq
    obtain ⟨rfl, rfl, rfl, rfl⟩ := heq
    refine ⟨fun _ => ?_, fun q => by cases q⟩
    have hx := line_step (herr 1 (by omega) (by omega))
    refine ⟨fun q => absurd (congrArg (fun t => t.2.2.1) hx) q, fun _ => ?_⟩
    intro sent ps' hsent hps hsl _ _ _
    rw [hx] at hsent hps
    dsimp only at hsent hps
    refine ⟨⟨by omega, rfl⟩, fun cs' j j0 j1 hcs _ _ _ _ => ⟨fun hjl => pin_loop (by rw [hsent]; exact ask_range g9) hsl j0 j1 hcs hjl, fun hjl => ?_⟩⟩
    rw [pin_fin (herr 1 (by omega) (by omega)) hsent (by omega) hcs, hps]
   ·intro d2 b2 lo2 fl ps' cs' heq _ _ _ _ _ _ _ _ _ _
    rw [pin_up g9 g8] at heq
    simp only [Prod.mk.injEq] at heq
    obtain ⟨⟨rfl, rfl, rfl, rfl⟩, rfl, rfl⟩ := heq
    refine ⟨hroom, hgo hlt hb ?_⟩
    rw [whole_up hd' g9 g7]
  ·subst k2
   have hco : 0 ≤ co ∧ co ≤ 1 := by omega
   have hcr : crAt (coresOf a s sv) co = coreOf a s (sv.getD co.toNat 0) co := cores_get hco.1 hco.2
   have hv := g11 co hco.1 hco.2
   have hb0 : ∀ {R : YW × KAns}, (if s = co then (if 0 < dd.length then ((dd.drop 1, f ++ [dd.getD 0 0], (tl, te), lo, tk, a, s, p, sv), 0, []) else ((dd, f, (tl, te), lo, tk, a, -1, p, sv), 0, []))
     else if a = co ∧ sv.getD co.toNat 0 = 0 then ((dd, f, (tl, te), lo, tk + 1, -1, co, p, sv), 0, [])
     else if 0 < f.length then ((dd, f.drop 1, (if (Tty.keyT (tl, te) (f.getD 0 0)).2 = 0 then (Tty.keyT (tl, te) (f.getD 0 0)).1 else (tl, te)), lo, tk, a, s, p, sv), 0, [])
     else ((dd, f, (tl, te), lo, tk, a, s, p, sv), 7, [])) = R → ybody (dd, f, (tl, te), lo, tk, a, s, p, sv) (2, co, n, by_) = R := fun h => by
    rw [ybody_eq, if_neg (by omega), if_neg (by omega), if_neg (by omega), if_neg (by omega), if_neg (by omega), if_neg (by omega), if_neg (by omega), if_neg (by omega)]
    exact h
   rw [hcr]
   refine ⟨⟨hco.1, by omega⟩, fun hs hd => ?_, fun c => ⟨fun hs => ?_, fun hs => ?_⟩⟩
   ·have hs : s = co := of_decide_eq_true hs
    have hd' : 0 < dd.length := of_decide_eq_true hd
    rw [hd, uart_read g1 g3.1 (by omega) hd' 0]
    dsimp only
    rw [if_pos rfl]
    refine ⟨⟨fun _ => ?_, fun q => absurd rfl q⟩, ?_⟩
    ·intro d2 b2 lo2 fl heq _ _ _ _ _ _
     simp only [Prod.mk.injEq] at heq
     obtain ⟨rfl, rfl, rfl, rfl⟩ := heq
     refine ⟨fun hq => ?_, fun hq => ?_⟩
     ·rw [if_pos hq]
      have hx := line_step (herr 1 (by omega) (by omega))
      refine ⟨fun q => absurd (congrArg (fun t => t.2.2.1) hx) q, fun _ => ?_⟩
      intro sent ps' hsent hps hsl _ _ _
      rw [hx] at hsent hps
      dsimp only at hsent hps
      refine ⟨⟨by omega, rfl⟩, fun cs' j j0 j1 hcs _ _ _ _ => ⟨fun hjl => pin_loop (by rw [hsent]; exact ask_range g9) hsl j0 j1 hcs hjl, fun hjl => ?_⟩⟩
      rw [pin_fin (herr 1 (by omega) (by omega)) hsent (by omega) hcs, hps]
     ·rw [if_neg (by rw [hq]; decide)]
      have hx := line_step (herr 2 (by omega) (by omega))
      refine ⟨fun q => absurd (congrArg (fun t => t.2.2.1) hx) q, fun _ => ?_⟩
      intro sent ps' hsent hps hsl _ _ _
      rw [hx] at hsent hps
      dsimp only at hsent hps
      refine ⟨⟨by omega, rfl⟩, fun cs' j j0 j1 hcs _ _ _ _ => ⟨fun hjl => pin_loop (by rw [hsent]; exact ask_range g9) hsl j0 j1 hcs hjl, fun hjl => ?_⟩⟩
      rw [pin_fin (herr 2 (by omega) (by omega)) hsent (by omega) hcs, hps]
    ·intro d2 b2 lo2 fl ps' cs' heq _ _ _ _ _ _ _ _ _ _
     by_cases hd2 : 0 < (dd.drop 1).length
     ·rw [if_pos (decide_eq_true hd2), pin_up g9 g8] at heq
      simp only [Prod.mk.injEq] at heq
      obtain ⟨⟨rfl, rfl, rfl, rfl⟩, rfl, rfl⟩ := heq
      refine ⟨by omega, by omega, hroom, hgo hlt (hb0 (by rw [if_pos hs, if_pos hd'])) ?_⟩
      rw [whole_up hd2 g9 g7, decide_eq_true hd2]
     ·rw [if_neg (by simp only [decide_eq_true_eq]; exact hd2), pin_down g9 g8] at heq
      simp only [Prod.mk.injEq] at heq
      obtain ⟨⟨rfl, rfl, rfl, rfl⟩, rfl, rfl⟩ := heq
      refine ⟨by omega, by omega, hroom, hgo hlt (hb0 (by rw [if_pos hs, if_pos hd'])) ?_⟩
      rw [ask_same (fun h => absurd h hd2)]
      have e : dd.drop 1 = [] := List.eq_nil_of_length_eq_zero (by omega)
      rw [e]; rfl
   ·have hs' : s = co := of_decide_eq_true hs
    have hd : ¬ 0 < dd.length := by
     rcases c with c | c
     ·rw [hs] at c; cases c
     ·exact of_decide_eq_false c
    intro cs1 h1 l1 _ cs2 h2 l2 _
    refine ⟨nestF_cut l2 hco, ?_⟩
    intro cs3 h3 _ _
    have hcs3 := end_cores hco hs' (hv.2.2 hs') h1 h2 h3
    clear h1 h2 h3
    subst hcs3
    have hx := line_step (herr 5 (by omega) (by omega))
    refine ⟨fun q => absurd (congrArg (fun t => t.2.2.1) hx) q, fun _ => ?_⟩
    intro sent ps' hsent hps hsl _ _ _
    rw [hx] at hsent hps
    dsimp only at hsent hps
    refine ⟨⟨by omega, rfl⟩, fun cs' j j0 j1 hcs _ _ _ _ => ⟨fun hjl => pin_loop (by rw [hsent]; exact ask_range g9) hsl j0 j1 hcs hjl, fun hjl => ⟨hroom, hgo hlt (hb0 (by rw [if_pos hs', if_neg hd])) ?_⟩⟩⟩
    have hp := pin_fin (herr 5 (by omega) (by omega)) hsent (by omega) hcs
    have hd0 : dd = [] := List.eq_nil_of_length_eq_zero (by omega)
    rw [hd0, pin_end g9] at hp
    simp only [Prod.mk.injEq] at hp
    rw [hd0] at hps
    rw [hps, ← hp.1, ← hp.2, hd0, ask_same (by simp)]
    have e : (decide (0 ≤ a) || decide ((0 : Int) ≤ -1)) = false := by simp; omega
    unfold wholeOf pinOf
    dsimp only
    rw [e]; rfl
   ·have hs' : s ≠ co := of_decide_eq_false hs
    rw [core_on hs', core_would hs']
    refine ⟨fun hon => ⟨hon, fun hw => ⟨?_, ?_⟩, fun hw => ?_⟩, fun hon => ?_⟩
    ·rw [← hcr]
     exact nestF_cut (cores_len _ _ _) hco
    ·intro cs1 h1 l1 _ cs2 h2 l2 _ cs3 h3 _ _
     have hv0 : sv.getD co.toNat 0 = 0 := of_decide_eq_true hon
     have ha : a = co := by
      by_cases q : a = co
      ·exact q
      ·rw [if_neg q] at hw; omega
     have hcs3 := take_cores hco ha (by omega) hv0 h1 h2 h3
     clear h1 h2 h3
     subst hcs3
     refine ⟨by omega, hroom, hgo hlt (hb0 (by rw [if_neg hs', if_pos ⟨ha, hv0⟩])) ?_⟩
     rw [ask_same (by omega)]
     have e1 : (decide (0 ≤ a) || decide (0 ≤ s)) = true := by simp; omega
     have e2 : (decide ((0 : Int) ≤ -1) || decide (0 ≤ co)) = true := by simp; omega
     unfold wholeOf pinOf
     dsimp only
     rw [e1, e2]
    ·have hne : ¬ (a = co ∧ sv.getD co.toNat 0 = 0) := fun q => by rw [if_pos q.1] at hw; omega
     rw [Int.toNat_natCast, List.take_length]
     refine ⟨fun hf => ⟨hf, fun q => ⟨by omega, hroom, hgo hlt (hb0 (by rw [if_neg hs', if_neg hne, if_pos (by omega), if_pos (by exact q)])) ?_⟩, fun q => ⟨by omega, hroom, hgo hlt (hb0 (by rw [if_neg hs', if_neg hne, if_pos (by omega), if_neg (by exact q)])) ?_⟩⟩, fun hf => ⟨hroom, hgo hlt (hb0 (by rw [if_neg hs', if_neg hne, if_neg (by omega)])) hsm⟩⟩
     ·rw [ask_same g8]; rfl
     ·rw [ask_same g8]; rfl
    ·have hne : ¬ (a = co ∧ sv.getD co.toNat 0 = 0) := fun q => of_decide_eq_false hon q.2
     rw [Int.toNat_natCast, List.take_length]
     refine ⟨fun hf => ⟨hf, fun q => ⟨by omega, hroom, hgo hlt (hb0 (by rw [if_neg hs', if_neg hne, if_pos (by omega), if_pos (by exact q)])) ?_⟩, fun q => ⟨by omega, hroom, hgo hlt (hb0 (by rw [if_neg hs', if_neg hne, if_pos (by omega), if_neg (by exact q)])) ?_⟩⟩, fun hf => ⟨hroom, hgo hlt (hb0 (by rw [if_neg hs', if_neg hne, if_neg (by omega)])) hsm⟩⟩
     ·rw [ask_same g8]; rfl
     ·rw [ask_same g8]; rfl
  ·refine ⟨hroom, hgo hlt (by rw [ybody_eq, if_neg (by omega), if_neg (by omega), if_neg (by omega), if_pos k3, if_pos r0]) ?_⟩
   rw [ask_same g8]; rfl
  ·refine ⟨hroom, hgo hlt (by rw [ybody_eq, if_neg (by omega), if_neg (by omega), if_neg (by omega), if_pos k3, if_neg r0]) ?_⟩
   rw [ask_same g8]; rfl
  ·have hco : 0 ≤ co ∧ co ≤ 1 := by omega
   have hcr : crAt (coresOf a s sv) co = coreOf a s (sv.getD co.toNat 0) co := cores_get hco.1 hco.2
   have hm : mval (Ty.int IntKind.i64) (mput (Ty.int IntKind.i64) (mput (Ty.int IntKind.i64) [] 4 1) 5 2) kd' = 1 := by subst k4; rfl
   have hv := g11 co hco.1 hco.2
   rw [hcr, hm]
   refine ⟨⟨hco.1, by omega⟩, fun hs => ⟨hroom, ?_⟩, fun hs => ?_⟩
   ·have hs : s = co := of_decide_eq_true hs
    exact hgo hlt (by rw [ybody_eq, if_neg (by omega), if_neg (by omega), if_neg (by omega), if_neg (by omega), if_neg (by omega), if_pos (by omega)]) hsm
   have hs : s ≠ co := of_decide_eq_false hs
   have hset := fun v => nest_set (v := v) (a := a) g10 hco hs
   rw [core_nest hs]
   by_cases h4 : sv.getD co.toNat 0 = 400
   ·have hn : Nest.step (nestOf false (sv.getD co.toNat 0)) 1 = Nest.bad 4 := by rw [h4]; exact nest_full
    rw [hn]
    refine ⟨fun q => absurd q (by decide), fun _ => ⟨hroom, ?_⟩⟩
    exact hgo hlt (by rw [ybody_eq, if_neg (by omega), if_neg (by omega), if_neg (by omega), if_neg (by omega), if_neg (by omega), if_neg (by omega), if_pos (by omega), if_pos h4]; rfl) hsm
   ·rw [nest_save hv.1 (by omega)]
    refine ⟨fun _ => ⟨hroom, ?_⟩, fun q => absurd rfl q⟩
    refine hgo hlt (by rw [ybody_eq, if_neg (by omega), if_neg (by omega), if_neg (by omega), if_neg (by omega), if_neg (by omega), if_neg (by omega), if_pos (by omega), if_neg h4]) ?_
    rw [ask_same g8]
    dsimp only
    rw [hset]
    rfl
  ·have hco : 0 ≤ co ∧ co ≤ 1 := by omega
   have hcr : crAt (coresOf a s sv) co = coreOf a s (sv.getD co.toNat 0) co := cores_get hco.1 hco.2
   have hm : mval (Ty.int IntKind.i64) (mput (Ty.int IntKind.i64) (mput (Ty.int IntKind.i64) [] 4 1) 5 2) kd' = 2 := by subst k5; rfl
   have hv := g11 co hco.1 hco.2
   rw [hcr, hm]
   refine ⟨⟨hco.1, by omega⟩, fun hs => ⟨hroom, ?_⟩, fun hs => ?_⟩
   ·have hs : s = co := of_decide_eq_true hs
    exact hgo hlt (by rw [ybody_eq, if_neg (by omega), if_neg (by omega), if_neg (by omega), if_neg (by omega), if_neg (by omega), if_pos (by omega)]) hsm
   have hs : s ≠ co := of_decide_eq_false hs
   have hset := fun v => nest_set (v := v) (a := a) g10 hco hs
   rw [core_nest hs]
   by_cases h4 : sv.getD co.toNat 0 = 0
   ·have hn : Nest.step (nestOf false (sv.getD co.toNat 0)) 2 = Nest.bad 3 := by rw [h4]; exact nest_none
    rw [hn]
    refine ⟨fun q => absurd q (by decide), fun _ => ⟨hroom, ?_⟩⟩
    exact hgo hlt (by rw [ybody_eq, if_neg (by omega), if_neg (by omega), if_neg (by omega), if_neg (by omega), if_neg (by omega), if_neg (by omega), if_neg (by omega), if_pos (by omega), if_pos h4]; rfl) hsm
   ·rw [nest_restore (by omega) hv.2.1]
    refine ⟨fun _ => ⟨hroom, ?_⟩, fun q => absurd rfl q⟩
    refine hgo hlt (by rw [ybody_eq, if_neg (by omega), if_neg (by omega), if_neg (by omega), if_neg (by omega), if_neg (by omega), if_neg (by omega), if_neg (by omega), if_pos (by omega), if_neg h4]) ?_
    rw [ask_same g8]
    dsimp only
    rw [hset]
    rfl
  ·have hco : 0 ≤ co ∧ co ≤ 1 := by omega
   refine ⟨by show (0 : Int) < 1; omega, hroom, hgo hlt (by rw [ybody_eq, if_neg (by omega), if_neg (by omega), if_neg (by omega), if_neg (by omega), if_pos (by omega)]) ?_⟩
   rw [ask_same g8]; rfl
 ·obtain ⟨he1, he2⟩ := hend hge
  rw [he2, ← he1]
  exact ⟨by omega, by omega, rfl, rfl⟩

end Go.Proofs.YtdhldloajddfiaaGreatDoor.Kern
