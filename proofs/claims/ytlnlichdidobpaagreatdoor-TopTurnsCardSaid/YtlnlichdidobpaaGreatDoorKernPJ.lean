/-
 The conditions, proved.
-/
import Derived.Test.YtlnlichdidobpaaGreatDoorKernE
namespace Go.Proofs.YtlnlichdidobpaaGreatDoor.Kern
open Go.Sx
set_option maxRecDepth 100000
set_option maxHeartbeats 1000000
set_option linter.unusedSimpArgs false
set_option linter.unusedVariables false

theorem Fc (b : Bool) : Apic.aW (zL b, zL true, 0) (3, 0) = ((zL b, zL false, 0), 64, 0, ()) := by cases b <;> decide +kernel
theorem BT : Apic.aW (zL true, zL false, 0) (2, 0) = ((zL false, zL true, 0), 64, 0, ()) := by decide +kernel
theorem EW (b b' : Bool) : Apic.aW (zL b, zL b', 0) (1, 64) = ((zL true, zL b', 0), -1, 0, ()) := by cases b <;> cases b' <;> decide +kernel
theorem Ao (b b' : Bool) : Apic.dj (zL b, zL b', 0) = if (b && !b') = true then 64 else -1 := by cases b <;> cases b' <;> decide +kernel
theorem wI {d : By} {lo : Int} (hd : d.length ≤ 16) (h0 : 0 ≤ lo) (h1 : lo ≤ 1099511627776) : Uart.right (d, [], lo, decide (0 < d.length)) = true := by
 unfold Uart.right
 simp [hd, h0, h1]
theorem LK {d : By} {lo c : Int} (hd : d.length ≤ 16) (h0 : 0 ≤ lo) (h1 : lo < 1099511627776) : Uart.step (d, [], lo, decide (0 < d.length)) 1 c =
  if d.length = 16 then ((d, [], lo + 1, true), 0, 0, ()) else ((d ++ [c], [], lo, true), 0, 0, ()) := by
 unfold Uart.step
 rw [if_pos (wI hd h0 (by omega)), if_pos rfl]
 by_cases h : d.length = 16
 ·rw [if_pos h, if_neg (by dsimp only; omega), if_neg (by dsimp only; omega)]
  unfold Uart.fin
  dsimp only
  rw [decide_eq_true (by omega)]
 ·rw [if_neg h, if_pos (by dsimp only; omega)]
  unfold Uart.fin
  dsimp only
  rw [decide_eq_true (by simp)]
theorem EZ {d : By} {lo : Int} (hd : d.length ≤ 16) (h0 : 0 ≤ lo) (h1 : lo < 1099511627776) (hp : 0 < d.length) (c : Int) : Uart.step (d, [], lo, true) 2 c =
  ((d.drop 1, [], lo, decide (0 < (d.drop 1).length)), d.getD 0 0, 0, ()) := by
 have hr := wI hd h0 (by omega)
 rw [decide_eq_true hp] at hr
 unfold Uart.step
 rw [if_pos hr, if_neg (by decide), if_pos rfl, if_neg (by intro e; simp only [] at e; rw [e] at hp; simp at hp)]
 rfl
theorem k6 {q : Int × Int × Bool × Bool × Bool × Bool × Bool} (h : Line.Gf q = true) {k : Int} (h1 : 1 ≤ k) (h5 : k ≤ 5) : Line.err [q] k 0 = 0 := by
 have hr : Line.right [q] = true := by unfold Line.right; simp [h]
 unfold Line.err
 rw [if_neg (by rw [hr]; decide), if_neg (by omega), if_neg (by simp)]
theorem yc {d : By} {a s p : Int} (hp : 0 ≤ p ∧ p ≤ 1) (h : 0 < d.length → 0 ≤ a ∨ 0 ≤ s) : Line.Gf (dG d a s p) = true := by
 have h0 : decide (0 ≤ p) = true := decide_eq_true hp.1
 have h1 : decide (p < 8) = true := decide_eq_true (by omega)
 unfold Line.Gf dG
 simp only [h0, h1]
 by_cases hd : 0 < d.length
 ·rcases h hd with h | h <;> simp [h]
 ·simp [hd]
theorem Jr {d : By} {a s p : Int} {cs : List CR} (hp : 0 ≤ p ∧ p ≤ 1) (h : 0 < d.length → 0 ≤ a ∨ 0 ≤ s) :
  ve [dG d a s p] cs 1 = ([(p, 64, true, false, true, false, true)], if a < 0 ∧ s < 0 then iV cs (0, p, 64) else cs) := by
 unfold ve
 rw [if_pos (k6 (yc hp h) (by omega) (by omega))]
 have e : Line.pF (dG d a s p) 1 = ((p, 64, true, false, true, false, true), !(decide (0 ≤ a) || decide (0 ≤ s))) := by
  unfold Line.pF Line.note Line.ES dG
  simp
 unfold Line.out Line.ask
 have e2 : Line.at_ [dG d a s p] 0 = dG d a s p := rfl
 rw [e2, e]
 refine Prod.ext rfl ?_
 simp only []
 by_cases q : a < 0 ∧ s < 0
 ·rw [if_pos q, if_pos (by rw [decide_eq_false (by omega), decide_eq_false (by omega)]; rfl)]; rfl
 ·rw [if_neg q, if_neg]
  ·rfl
  ·simp; omega
theorem J5 {d : By} {a s p : Int} {cs : List CR} (hp : 0 ≤ p ∧ p ≤ 1) (h : 0 < d.length → 0 ≤ a ∨ 0 ≤ s) :
  ve [dG d a s p] cs 2 = ([dG [] a s p], cs) := by
 unfold ve
 rw [if_pos (k6 (yc hp h) (by omega) (by omega))]
 have e : Line.pF (dG d a s p) 2 = (dG [] a s p, false) := by
  unfold Line.pF Line.note Line.ES dG
  simp
 unfold Line.out Line.ask
 have e2 : Line.at_ [dG d a s p] 0 = dG d a s p := rfl
 rw [e2, e]
 rfl
theorem OA {a s p : Int} {cs : List CR} (hp : 0 ≤ p ∧ p ≤ 1) : ve [dG [] a s p] cs 5 = ([(p, 64, true, false, false, false, false)], cs) := by
 unfold ve
 rw [if_pos (k6 (yc hp (by simp)) (by omega) (by omega))]
 have e : Line.pF (dG [] a s p) 5 = ((p, 64, true, false, false, false, false), false) := by
  unfold Line.pF Line.note Line.ES dG
  simp
 unfold Line.out Line.ask
 have e2 : Line.at_ [dG [] a s p] 0 = dG [] a s p := rfl
 rw [e2, e]
 rfl
theorem dH (n : Nat) : (iG n).length = n := by cases n <;> simp [iG]
theorem xu (n : Nat) (i : Int) (h0 : 0 ≤ i) (h1 : i < n) : Nest.fr (iG n) i = (decide (i = 0), false) := by
 unfold Nest.fr
 cases n with
 | zero => omega
 | succ m =>
  unfold iG
  by_cases e : i = 0
  ·subst e; rfl
  ·obtain ⟨j, hj⟩ : ∃ j, i.toNat = j + 1 := ⟨i.toNat - 1, by omega⟩
   rw [hj, decide_eq_false e]
   have : j < m := by omega
   simp [List.getD, this]
theorem mc {n : Nat} (h : n ≤ 400) : Nest.right (decide ((n : Int) = 0), iG n) = true := by
 unfold Nest.right
 classical
 refine decide_eq_true ⟨by rw [dH]; exact h, fun e => ?_, fun i h0 h1 => ?_⟩
 ·rw [dH]; simp at e; omega
 ·simp only [dH] at h1
  rw [xu n i h0 h1]
  refine ⟨fun e => (by cases e), fun e => ?_⟩
  simp; omega
theorem sX (n : Nat) : iG n ++ [(decide ((n : Int) = 0), false)] = iG (n + 1) := by
 cases n with
 | zero => rfl
 | succ m =>
  unfold iG
  rw [decide_eq_false (by omega), List.cons_append, ← List.replicate_succ']
theorem AB (n : Nat) : (iG (n + 1)).take n = iG n := by
 rw [← sX, List.take_append_of_le_length (by rw [dH]; omega), List.take_of_length_le (by rw [dH]; omega)]
theorem Fj {sv : Int} (h0 : 0 ≤ sv) (h : sv < 400) : Nest.step (db false sv) 1 = (db false (sv + 1), 0, ()) := by
 have e : ((sv.toNat : Nat) : Int) = sv := Int.toNat_of_nonneg h0
 have hr := mc (n := sv.toNat) (by omega)
 rw [e] at hr
 unfold db
 simp only [Bool.false_eq_true, if_false]
 unfold Nest.step
 rw [if_pos hr, if_neg (by omega), if_neg (by simp only [dH]; omega), if_neg (by omega), if_pos (Or.inl rfl)]
 have hs := sX sv.toNat
 rw [e] at hs
 rw [decide_eq_false (by omega : ¬ sv + 1 = 0), show (sv + 1).toNat = sv.toNat + 1 by omega, ← hs]
 rfl
theorem EI : Nest.step (db false 400) 1 = Nest.bad 4 := by
 have hr : Nest.right (decide ((400 : Int) = 0), iG (Int.toNat 400)) = true := mc (n := 400) (by omega)
 unfold db
 simp only [Bool.false_eq_true, if_false]
 unfold Nest.step
 rw [if_pos hr, if_neg (by omega), if_pos ⟨Or.inl rfl, by rw [dH]; rfl⟩]
theorem y6 {sv : Int} (h0 : 0 < sv) (h : sv ≤ 400) : Nest.step (db false sv) 2 = (db false (sv - 1), 0, ()) := by
 have e : ((sv.toNat : Nat) : Int) = sv := Int.toNat_of_nonneg (by omega)
 have hr := mc (n := sv.toNat) (by omega)
 rw [e] at hr
 unfold db
 simp only [Bool.false_eq_true, if_false]
 unfold Nest.step
 have hf := xu sv.toNat (sv - 1) (by omega) (by omega)
 rw [if_pos hr, if_neg (by omega), if_neg (by rintro ⟨q, _⟩; omega), if_neg (by omega), if_neg (by omega), if_neg (by rw [dH]; omega)]
 simp only [dH, e, hf]
 rw [if_neg (by decide), show sv.toNat = (sv - 1).toNat + 1 by omega, AB, show decide (sv - 1 = 0) = decide (sv - 1 = 0) from rfl]
theorem Bk : Nest.right (true, []) = true := by
 unfold Nest.right
 classical
 exact decide_eq_true ⟨by simp, fun _ => rfl, fun i h0 h1 => by have h1 : i < 0 := h1; omega⟩
theorem EY : Nest.step (db false 0) 2 = Nest.bad 3 := by
 have e : db false 0 = (true, []) := rfl
 rw [e]
 unfold Nest.step
 rw [if_pos Bk, if_neg (by omega), if_neg (by rintro ⟨q, _⟩; omega), if_neg (by omega), if_neg (by omega), if_pos (by rfl)]
theorem CZ (sv : Int) : Nest.step (db false 0) 3 = (db true sv, 0, ()) := by
 have e : db false 0 = (true, []) := rfl
 rw [e]
 unfold Nest.step
 rw [if_pos Bk, if_neg (by omega), if_neg (by rintro ⟨_, q⟩; simp at q), if_neg (by rintro ⟨_, q⟩; cases q), if_pos (Or.inr rfl)]
 rfl
theorem B4 (sv : Int) : Nest.step (db true sv) 4 = (db false 0, 0, ()) := by
 have hr : Nest.right (false, [(true, true)]) = true := by
  unfold Nest.right
  classical
  refine decide_eq_true ⟨by simp, fun e => (by cases e), fun i h0 h1 => ?_⟩
  have h1 : i < 1 := h1
  have : i = 0 := by omega
  subst this
  exact ⟨fun _ => rfl, fun e => by omega⟩
 unfold db
 simp only [Bool.false_eq_true, if_false, if_true]
 unfold Nest.step
 rw [if_pos hr, if_neg (by omega), if_neg (by rintro ⟨q, _⟩; omega), if_neg (by omega), if_neg (by omega), if_neg (by decide), if_neg (by decide)]
 rfl
theorem oR {a s : Int} {sv : List Int} {i : Int} (h0 : 0 ≤ i) (h1 : i ≤ 1) : (cj a s sv).getD i.toNat zc = cb a s (sv.getD i.toNat 0) i := by
 have : i = 0 ∨ i = 1 := by omega
 rcases this with rfl | rfl <;> rfl
theorem o4 {a s a' s' : Int} {sv sv' : List Int} {i : Int} {c : CR} (h0 : 0 ≤ i) (h1 : i ≤ 1) (hc : c = cb a' s' (sv'.getD i.toNat 0) i)
  (ho : ∀ j : Int, 0 ≤ j → j ≤ 1 → j ≠ i → cb a s (sv.getD j.toNat 0) j = cb a' s' (sv'.getD j.toNat 0) j) : (cj a s sv).set i.toNat c = cj a' s' sv' := by
 have : i = 0 ∨ i = 1 := by omega
 rcases this with rfl | rfl
 ·have h := ho 1 (by omega) (by omega) (by omega)
  rw [hc]
  unfold cj
  simp only [Int.toNat_zero, List.set_cons_zero]
  rw [show (1 : Int).toNat = 1 from rfl] at h
  rw [h]
 ·have h := ho 0 (by omega) (by omega) (by omega)
  rw [hc]
  unfold cj
  rw [show (1 : Int).toNat = 1 from rfl]
  simp only [List.set_cons_succ, List.set_cons_zero]
  rw [show (0 : Int).toNat = 0 from rfl] at h
  rw [h]
theorem qb {a s a' s' sv i j : Int} (hj : j ≠ i) (ha : a = a' ∨ (a ≠ j ∧ a' ≠ j)) (hs : s = s' ∨ (s ≠ j ∧ s' ≠ j)) : cb a s sv j = cb a' s' sv j := by
 have e1 : decide (a = j) = decide (a' = j) := by
  rcases ha with rfl | ⟨h1, h2⟩
  ·rfl
  ·rw [decide_eq_false h1, decide_eq_false h2]
 have e2 : decide (s = j) = decide (s' = j) := by
  rcases hs with rfl | ⟨h1, h2⟩
  ·rfl
  ·rw [decide_eq_false h1, decide_eq_false h2]
 unfold cb
 rw [e1, e2]
theorem FM {a s p : Int} {sv : List Int} (hp : 0 ≤ p ∧ p ≤ 1) (ha : a < 0) (hs : s < 0) : iV (cj a s sv) (0, p, 64) = cj p s sv := by
 unfold iV
 simp only []
 rw [oR hp.1 hp.2]
 have e : Apic.aW (cb a s (sv.getD p.toNat 0) p).1 (1, 64) = ((zL true, zL (decide (s = p)), 0), -1, 0, ()) := EW _ _
 rw [e, if_pos rfl]
 refine o4 hp.1 hp.2 ?_ fun j h0 h1 hj => qb hj (Or.inr ⟨by omega, fun e => hj e.symm⟩) (Or.inl rfl)
 unfold cb
 rw [decide_eq_true rfl]

def Ii (w : YW) (k : Int) : Prop := match w with
 | (d, f, _, lo, tk, a, s, p, sv) => d.length ≤ 16 ∧ (f.length : Int) ≤ k ∧ (0 ≤ lo ∧ lo ≤ k) ∧ (0 ≤ tk ∧ tk ≤ k) ∧ (-1 ≤ a ∧ a ≤ 1) ∧ (-1 ≤ s ∧ s ≤ 1) ∧ (a < 0 ∨ s < 0) ∧ (0 ≤ p ∧ p ≤ 1) ∧
  sv.length = 2 ∧ (∀ i : Int, 0 ≤ i → i ≤ 1 → 0 ≤ sv.getD i.toNat 0 ∧ sv.getD i.toNat 0 ≤ 400 ∧ (s = i → sv.getD i.toNat 0 = 0))
theorem Gs {w : YW} {k : Int} (h : Ii w k) : vf (sF w) k := by
 obtain ⟨d, f, t, lo, tk, a, s, p, sv⟩ := w
 obtain ⟨h1, h2, h3, h4, h5, h6, h7, h8, h9, h10⟩ := h
 unfold sF
 simp only []
 split
 ·rename_i q
  exact ⟨h1, h2, h3, h4, by omega, h6, by omega, fun _ => by omega, h8, h9, h10⟩
 ·rename_i q
  exact ⟨h1, h2, h3, h4, h5, h6, h7, fun _ => by omega, h8, h9, h10⟩
theorem Dz {sv : List Int} {i j v : Int} (hl : sv.length = 2) (hi : 0 ≤ i ∧ i ≤ 1) (hj : 0 ≤ j ∧ j ≤ 1) : (sv.set i.toNat v).getD j.toNat 0 = if j = i then v else sv.getD j.toNat 0 := by
 by_cases e : j = i
 ·subst e
  rw [if_pos rfl]
  have : j.toNat < sv.length := by omega
  simp [List.getD, this]
 ·rw [if_neg e]
  have : i.toNat ≠ j.toNat := by omega
  simp [List.getD, List.getElem?_set_ne this]
theorem cu (d f : By) (t : TT) (lo tk a s p : Int) (sv : List Int) (kd co n b : Int) : lx (d, f, t, lo, tk, a, s, p, sv) (kd, co, n, b) =
  if kd < 1 ∨ 6 < kd then ((d, f, t, lo, tk, a, s, p, sv), 5, [])
  else if kd ≠ 1 ∧ kd ≠ 3 ∧ co ≠ 0 ∧ co ≠ 1 then ((d, f, t, lo, tk, a, s, p, sv), 2, [])
  else if kd = 1 then (if d.length = 16 then ((d, f, t, lo + 1, tk, a, s, p, sv), 0, []) else ((d ++ [b], f, t, lo, tk, a, s, p, sv), 0, []))
  else if kd = 3 then ((d, f, (if (Tty.bW t n).2.2.1 = 0 then (Tty.bW t n).1 else t), lo, tk, a, s, p, sv), (Tty.bW t n).2.2.1, (Tty.bW t n).2.1)
  else if kd = 6 then ((d, f, t, lo, tk, a, s, co, sv), 0, [])
  else if kd ≠ 2 ∧ s = co then ((d, f, t, lo, tk, a, s, p, sv), 6, [])
  else if kd = 4 then (if sv.getD co.toNat 0 = 400 then ((d, f, t, lo, tk, a, s, p, sv), 4, []) else ((d, f, t, lo, tk, a, s, p, sv.set co.toNat (sv.getD co.toNat 0 + 1)), 0, []))
  else if kd = 5 then (if sv.getD co.toNat 0 = 0 then ((d, f, t, lo, tk, a, s, p, sv), 3, []) else ((d, f, t, lo, tk, a, s, p, sv.set co.toNat (sv.getD co.toNat 0 - 1)), 0, []))
  else if s = co then (if 0 < d.length then ((d.drop 1, f ++ [d.getD 0 0], t, lo, tk, a, s, p, sv), 0, []) else ((d, f, t, lo, tk, a, -1, p, sv), 0, []))
  else if a = co ∧ sv.getD co.toNat 0 = 0 then ((d, f, t, lo, tk + 1, -1, co, p, sv), 0, [])
  else if 0 < f.length then ((d, f.drop 1, (if (Tty.ph t (f.getD 0 0)).2 = 0 then (Tty.ph t (f.getD 0 0)).1 else t), lo, tk, a, s, p, sv), 0, [])
  else ((d, f, t, lo, tk, a, s, p, sv), 7, []) := rfl
theorem EX {w : YW} {k : Int} (o : D1) (h : vf w k) : Ii (lx w o).1 (k + 1) := by
 obtain ⟨d, f, t, lo, tk, a, s, p, sv⟩ := w
 obtain ⟨kd, co, n, b⟩ := o
 obtain ⟨h1, h2, h3, h4, h5, h6, h7, _, h8, h9, h10⟩ := h
 have hb : Ii (d, f, t, lo, tk, a, s, p, sv) (k + 1) := ⟨h1, by omega, by omega, by omega, h5, h6, h7, h8, h9, h10⟩
 have hsv : ∀ v : Int, 0 ≤ v → v ≤ 400 → (0 ≤ co ∧ co ≤ 1) → s ≠ co → ∀ i : Int, 0 ≤ i → i ≤ 1 → 0 ≤ (sv.set co.toNat v).getD i.toNat 0 ∧ (sv.set co.toNat v).getD i.toNat 0 ≤ 400 ∧ (s = i → (sv.set co.toNat v).getD i.toNat 0 = 0) := fun v v0 v1 hk hs i i0 i1 => by
  rw [Dz h9 hk ⟨i0, i1⟩]
  by_cases e : i = co
  ·rw [if_pos e]; exact ⟨v0, v1, fun q => absurd (q.trans e) hs⟩
  ·rw [if_neg e]; exact h10 i i0 i1
 rw [cu]
 by_cases q1 : kd < 1 ∨ 6 < kd
 ·rw [if_pos q1]; exact hb
 rw [if_neg q1]
 by_cases q2 : kd ≠ 1 ∧ kd ≠ 3 ∧ co ≠ 0 ∧ co ≠ 1
 ·rw [if_pos q2]; exact hb
 rw [if_neg q2]
 by_cases q3 : kd = 1
 ·rw [if_pos q3]
  by_cases q : d.length = 16
  ·rw [if_pos q]; exact ⟨h1, by omega, by omega, by omega, h5, h6, h7, h8, h9, h10⟩
  ·rw [if_neg q]; exact ⟨by simp; omega, by omega, by omega, by omega, h5, h6, h7, h8, h9, h10⟩
 rw [if_neg q3]
 by_cases q4 : kd = 3
 ·rw [if_pos q4]; exact ⟨h1, by omega, by omega, by omega, h5, h6, h7, h8, h9, h10⟩
 rw [if_neg q4]
 have hk : 0 ≤ co ∧ co ≤ 1 := by omega
 by_cases q5 : kd = 6
 ·rw [if_pos q5]; exact ⟨h1, by omega, by omega, by omega, h5, h6, h7, hk, h9, h10⟩
 rw [if_neg q5]
 by_cases q6 : kd ≠ 2 ∧ s = co
 ·rw [if_pos q6]; exact hb
 rw [if_neg q6]
 have hv := h10 co hk.1 hk.2
 by_cases q7 : kd = 4
 ·rw [if_pos q7]
  by_cases q : sv.getD co.toNat 0 = 400
  ·rw [if_pos q]; exact hb
  ·rw [if_neg q]; exact ⟨h1, by omega, by omega, by omega, h5, h6, h7, h8, by simpa using h9, hsv _ (by omega) (by omega) hk (by omega)⟩
 rw [if_neg q7]
 by_cases q8 : kd = 5
 ·rw [if_pos q8]
  by_cases q : sv.getD co.toNat 0 = 0
  ·rw [if_pos q]; exact hb
  ·rw [if_neg q]; exact ⟨h1, by omega, by omega, by omega, h5, h6, h7, h8, by simpa using h9, hsv _ (by omega) (by omega) hk (by omega)⟩
 rw [if_neg q8]
 by_cases q9 : s = co
 ·rw [if_pos q9]
  by_cases q : 0 < d.length
  ·rw [if_pos q]; exact ⟨by simp; omega, by simp; omega, by omega, by omega, h5, h6, h7, h8, h9, h10⟩
  ·rw [if_neg q]; exact ⟨h1, by omega, by omega, by omega, h5, by omega, by omega, h8, h9, fun i i0 i1 => ⟨(h10 i i0 i1).1, (h10 i i0 i1).2.1, fun e => by omega⟩⟩
 rw [if_neg q9]
 by_cases q10 : a = co ∧ sv.getD co.toNat 0 = 0
 ·rw [if_pos q10]; exact ⟨h1, by omega, by omega, by omega, by omega, by omega, by omega, h8, h9, fun i i0 i1 => ⟨(h10 i i0 i1).1, (h10 i i0 i1).2.1, fun e => by rw [← e]; exact q10.2⟩⟩
 rw [if_neg q10]
 by_cases q11 : 0 < f.length
 ·rw [if_pos q11]; exact ⟨h1, by simp; omega, by omega, by omega, h5, h6, h7, h8, h9, h10⟩
 ·rw [if_neg q11]; exact hb
theorem Ly {w : YW} {k : Int} (o : D1) (h : vf w k) : vf (N1 w o).1 (k + 1) := Gs (EX o h)
theorem RC : vf y0 0 := ⟨by simp, by simp, by omega, by omega, by omega, by omega, by omega, by simp, by omega, rfl, fun i h0 h1 => by
 have : i = 0 ∨ i = 1 := by omega
 rcases this with rfl | rfl <;> simp⟩
theorem Bx (l : List D1) (o : D1) : iZ (l ++ [o]) = Ax (iZ l) o := by unfold iZ; rw [List.foldl_append]; rfl
theorem wm : ∀ (ops : List D1), vf (iZ ops).1 ops.length ∧ (iZ ops).2.length = ops.length := by
 intro ops
 have key : ∀ n, n ≤ ops.length → vf (iZ (ops.take n)).1 n ∧ (iZ (ops.take n)).2.length = n := by
  intro n
  induction n with
  | zero => intro _; exact ⟨RC, rfl⟩
  | succ n ih =>
   intro hn
   obtain ⟨h1, h2⟩ := ih (by omega)
   rw [vH (0, 0, 0, 0) (by omega), Bx]
   unfold Ax
   refine ⟨?_, by simp [h2]⟩
   have := Ly (ops.getD n (0, 0, 0, 0)) h1
   exact this
 have := key ops.length (Nat.le_refl _)
 rwa [List.take_length] at this
theorem Kq {ops : List D1} {k : Int} (h0 : 0 ≤ k) (h : k < ops.length) : iZ (ops.take (k + 1).toNat) = Ax (iZ (ops.take k.toNat)) (ops.getD k.toNat (0, 0, 0, 0)) := by
 rw [dT (0, 0, 0, 0) h0 h, Bx]

set_option maxHeartbeats 8000000 in
section
open Line
theorem NB (x : List PN × (Int × Int) × Unit) (_ : True) (_ : aD iI.as x) : zq x := by
 obtain ⟨l, ⟨k, i⟩, u'⟩ := x
 unfold zq
 delta bo fU xk aZ js lg fR lr oG aB nV nR j8 re qM jH lU oH jc jq lD rU rP lL
 simp only [Bool.not_eq_true', Bool.not_eq_false', Bool.not_eq_true, Bool.not_eq_false, beq_self_eq_true, decide_eq_true_eq, decide_eq_false_iff_not, Bool.not_false, Bool.not_true, beq_iff_eq, beq_eq_false_iff_ne, bne_iff_ne, ne_eq, bne_eq_false_iff_eq, aE, true_and, and_true, and_self, eq_self, List.length_cons, List.length_nil, List.length_append, List.length_set, List.length_replicate, List.set_cons_zero, cond_true, cond_false, Bool.false_eq_true, Bool.true_eq_false, forall_const, false_imp_iff, imp_self, implies_true, and_imp, Decidable.not_not, Bool.and_eq_true, Bool.or_eq_true, Bool.and_eq_false_iff, Bool.or_eq_false_iff, ← List.length_eq_zero_iff, or_self, or_false, false_or, Prod.forall, Int.reduceEq, Int.reduceLT, Int.reduceLE, List.nil_append, Nat.zero_add, Int.toNat_zero, List.drop_zero, List.length_drop, List.length_take, not_true_eq_false, not_false_eq_true]
 try simp only [eP, eH, decide_eq_true_eq, decide_eq_false_iff_not]
 refine ⟨fun hr => ?_, fun hr => ⟨fun hk => ?_, fun k1 k5 => ⟨fun hi => ?_, fun i0 i1 => ?_⟩⟩⟩
 ·rw [lV (e := 1) (by simp [err, hr]) (by decide)]; simp [bad]
 ·rw [lV (e := 5) (by simp [err, hr, hk]) (by decide)]; simp [bad]
 ·rw [lV (e := 3) (by simp only [err, hr]; grind) (by decide)]; simp [bad]
 have hl := ow hr
 have hlen : i.toNat < l.length := by omega
 have hst := DV (l := l) (k := k) (i := i) (by simp only [err, hr]; grind)
 have hz : (0, 0, false, false, false, false, false) = zero := rfl
 refine ⟨by omega, ⟨by omega, by omega⟩, ?_, ?_⟩
 ·simp only [Line.at_, hz]
  generalize l.getD i.toNat zero = p
  obtain ⟨c, v, lv, m, u, kp, s⟩ := p
  simp only [Line.note]
  repeat' (first | with_reducible apply And.intro | with_reducible intro _)
  all_goals first
   | omega
   | (subst_vars; rfl)
   | grind
 ·intro a ha _ _
  have hg : a.getD i.toNat zero = note (at_ l i) k := by rw [ha]; exact qx hlen
  have hs : ∀ y, a.set i.toNat y = l.set i.toNat y := fun y => by rw [ha, List.set_set]
  have hgs : ∀ y, (l.set i.toNat y).getD i.toNat zero = y := fun y => qx hlen
  rw [hst]
  simp only [hz, hs, hg, hgs, Line.out, Line.ask, Line.pF, Line.at_]
  clear hg hs hgs hst
  rw [ha]
  clear ha
  simp only [Line.at_]
  obtain ⟨c, v, lv, m, u, kp, s, hpe⟩ : ∃ c v lv m u kp s, l.getD i.toNat zero = (c, v, lv, m, u, kp, s) := ⟨_, _, _, _, _, _, _, rfl⟩
  simp only [hpe]
  clear hpe
  cases lv <;> simp only [Line.note, Line.ES]
  all_goals (repeat' (first | with_reducible apply And.intro | with_reducible intro _))
  all_goals first
   | omega
   | contradiction
   | (cases m <;> cases u <;> cases kp <;> cases s <;> grind)
end
theorem DW (cs : List CR) (s : Int × Int × Int) : iV cs s = if (Apic.aW (dL cs s.2.1).1 (1, s.2.2)).2.2.1 = 0 then cs.set s.2.1.toNat ((Apic.aW (dL cs s.2.1).1 (1, s.2.2)).1, (dL cs s.2.1).2) else cs := rfl
theorem rj {sent : List (Int × Int × Int)} {cs cs' : List CR} {j : Int} (hs : ∀ e ∈ sent, 0 ≤ e.2.1 ∧ e.2.1 < 2) (hl : sent.length ≤ 9223372036854775807) (h0 : 0 ≤ j) (h1 : j ≤ (sent.length : Int)) (h : cs' = (sent.take j.toNat).foldl iV cs) (hjl : j < (sent.length : Int)) :
  (0 ≤ j ∧ j < (sent.length : Int)) ∧ (0 ≤ (kn sent j).2.1 ∧ (kn sent j).2.1 < ((2 : Nat) : Int)) ∧
   ((Apic.aW (dL cs' (kn sent j).2.1).1 (1, (kn sent j).2.2)).2.2.1 = 0 →
    (-9223372036854775808 ≤ j + 1 ∧ j + 1 ≤ 9223372036854775807) ∧
    (0 ≤ j + 1 ∧ j + 1 ≤ (sent.length : Int) ∧ cs'.set (kn sent j).2.1.toNat ((Apic.aW (dL cs' (kn sent j).2.1).1 (1, (kn sent j).2.2)).1, (dL cs' (kn sent j).2.1).2) = (sent.take (j + 1).toNat).foldl iV cs) ∧
    ((sent.length : Int) - (j + 1)).toNat < ((sent.length : Int) - j).toNat) ∧
   (¬ (Apic.aW (dL cs' (kn sent j).2.1).1 (1, (kn sent j).2.2)).2.2.1 = 0 →
    (-9223372036854775808 ≤ j + 1 ∧ j + 1 ≤ 9223372036854775807) ∧
    (0 ≤ j + 1 ∧ j + 1 ≤ (sent.length : Int) ∧ cs' = (sent.take (j + 1).toNat).foldl iV cs) ∧
    ((sent.length : Int) - (j + 1)).toNat < ((sent.length : Int) - j).toNat) := by
 have hm : kn sent j ∈ sent := j7 (by omega)
 have hb := hs _ hm
 have hf : (sent.take (j + 1).toNat).foldl iV cs = iV cs' (kn sent j) := by rw [Bz (0, 0, 0) h0 hjl, ← h]; rfl
 refine ⟨⟨h0, hjl⟩, ⟨hb.1, hb.2⟩, fun q => ⟨by omega, ⟨by omega, by omega, ?_⟩, by omega⟩, fun q => ⟨by omega, ⟨by omega, by omega, ?_⟩, by omega⟩⟩
 ·rw [hf, DW, if_pos q]
 ·rw [hf, DW, if_neg q]
theorem o9 {ps : List (Int × Int × Bool × Bool × Bool × Bool × Bool)} {k : Int} (h : Line.err ps k 0 = 0) : Line.step ps k 0 = (Line.out ps k 0, Line.ask ps k 0, 0, ()) := if_pos h
theorem oz {d : By} {a s p k : Int} (hp : 0 ≤ p ∧ p ≤ 1) : ∀ e ∈ Line.ask [dG d a s p] k 0, 0 ≤ e.2.1 ∧ e.2.1 < 2 := by
 intro e he
 unfold Line.ask at he
 split at he
 ·rw [List.mem_singleton] at he
  subst he
  exact ⟨hp.1, by show p < 2; omega⟩
 ·cases he
theorem tH {ps : List (Int × Int × Bool × Bool × Bool × Bool × Bool)} {cs cs' : List CR} {k : Int} {sent : List (Int × Int × Int)} {j : Int} (h : Line.err ps k 0 = 0) (hs : sent = Line.ask ps k 0) (hj : (sent.length : Int) ≤ j) (hc : cs' = (sent.take j.toNat).foldl iV cs) :
  ve ps cs k = (Line.out ps k 0, cs') := by
 unfold ve
 rw [if_pos h, hc, ff hj, hs]

theorem sD {w : YW} {o : D1} {W : YW} {A : yP} (h : lx w o = (W, A)) : N1 w o = (sF W, A) := by unfold N1; rw [h]
theorem Fl {j : Int} (h0 : 0 ≤ j) (h : j < 2) : (mL j).set j.toNat ((dL (mL j) j).1, (true, (dL (mL j) j).2.1.2), (dL (mL j) j).2.2) = mL (j + 1) := by
 have : j = 0 ∨ j = 1 := by omega
 rcases this with rfl | rfl <;> rfl
theorem dD {d f : By} {t : TT} {lo tk a s p : Int} {sv : List Int} (h : 0 < d.length → 0 ≤ a ∨ 0 ≤ s) : sF (d, f, t, lo, tk, a, s, p, sv) = (d, f, t, lo, tk, a, s, p, sv) := by
 unfold sF
 dsimp only
 rw [if_neg (by omega)]
theorem BA {d f : By} {t : TT} {lo tk a s p : Int} {sv : List Int} (hd : 0 < d.length) (hp : 0 ≤ p ∧ p ≤ 1) (h : a < 0 ∨ s < 0) :
  cZ (sF (d, f, t, lo, tk, a, s, p, sv)) = ((d, [], lo, true), [(p, 64, true, false, true, false, true)], if a < 0 ∧ s < 0 then iV (cj a s sv) (0, p, 64) else cj a s sv, f, t, tk) := by
 unfold sF
 dsimp only
 by_cases q : a < 0 ∧ s < 0
 ·rw [if_pos (by omega), if_pos q, FM hp q.1 q.2]
  unfold cZ dG
  dsimp only
  rw [decide_eq_true hd, decide_eq_true hp.1]
  rfl
 ·rw [if_neg (by omega), if_neg q]
  unfold cZ dG
  dsimp only
  have e : (decide (0 ≤ a) || decide (0 ≤ s)) = true := by simp; omega
  rw [decide_eq_true hd, e]
theorem AJ {a s co v : Int} {sv : List Int} (hl : sv.length = 2) (hco : 0 ≤ co ∧ co ≤ 1) (hs : s ≠ co) :
  (cj a s sv).set co.toNat ((cb a s (sv.getD co.toNat 0) co).1, db false v, (cb a s (sv.getD co.toNat 0) co).2.2) = cj a s (sv.set co.toNat v) := by
 refine o4 hco.1 hco.2 ?_ fun j h0 h1 hj => ?_
 ·rw [Dz hl hco hco, if_pos rfl]
  unfold cb
  rw [decide_eq_false hs]
 ·rw [Dz hl hco ⟨h0, h1⟩, if_neg hj]
theorem su {a s v i : Int} (h : s ≠ i) : (cb a s v i).2.1 = db false v := by
 unfold cb
 rw [decide_eq_false h]
theorem qW {cs : List CR} {co : Int} {c : CR} (hl : cs.length = 2) (hco : 0 ≤ co ∧ co ≤ 1) : dL (cs.set co.toNat c) co = c := by
 unfold dL
 have : co.toNat < cs.length := by omega
 simp [List.getD, this]
theorem xJ {cs : List CR} {co k : Int} (hl : cs.length = 2) (hco : 0 ≤ co ∧ co ≤ 1) :
  ((Nest.step (dL cs co).2.1 k).2.1 = 0 → cs.set co.toNat ((dL cs co).1, (Nest.step (dL cs co).2.1 k).1, (dL cs co).2.2) = cs.set co.toNat (jM (dL cs co) k)) ∧
  (¬ (Nest.step (dL cs co).2.1 k).2.1 = 0 → cs = cs.set co.toNat (jM (dL cs co) k)) := by
 unfold jM
 refine ⟨fun h => by rw [if_pos h], fun h => ?_⟩
 rw [if_neg h]
 unfold dL
 have : co.toNat < cs.length := by omega
 simp [List.getD, this]
theorem lN (a s : Int) (sv : List Int) : (cj a s sv).length = 2 := rfl
theorem Fo {a s co : Int} {sv : List Int} {c1 c2 c3 : List CR} (hco : 0 ≤ co ∧ co ≤ 1) (hs : s = co) (hv : sv.getD co.toNat 0 = 0)
  (h1 : c1 = (cj a s sv).set co.toNat ((cb a s (sv.getD co.toNat 0) co).1, (cb a s (sv.getD co.toNat 0) co).2.1, false))
  (h2 : c2 = c1.set co.toNat ((Apic.aW (dL c1 co).1 (3, 0)).1, (dL c1 co).2)) (h3 : c3 = c2.set co.toNat (jM (dL c2 co) 4)) : c3 = cj a (-1) sv := by
 subst h1
 rw [qW (lN _ _ _) hco, List.set_set] at h2
 subst h2
 rw [qW (lN _ _ _) hco, List.set_set] at h3
 subst h3
 refine o4 hco.1 hco.2 ?_ fun j h0 h1 hj => qb hj (Or.inl rfl) (Or.inr ⟨by omega, by omega⟩)
 rw [hv]
 unfold cb jM
 dsimp only
 rw [decide_eq_true hs, decide_eq_false (by omega : ¬ (-1 : Int) = co), Fc, B4, if_pos rfl]
theorem Dk {a s co : Int} {sv : List Int} {c1 c2 c3 : List CR} (hco : 0 ≤ co ∧ co ≤ 1) (ha : a = co) (hs : s < 0) (hv : sv.getD co.toNat 0 = 0)
  (h1 : c1 = (cj a s sv).set co.toNat (jM (cb a s (sv.getD co.toNat 0) co) 3))
  (h2 : c2 = c1.set co.toNat ((Apic.aW (dL c1 co).1 (2, 0)).1, (dL c1 co).2)) (h3 : c3 = c2.set co.toNat ((dL c2 co).1, (dL c2 co).2.1, true)) : c3 = cj (-1) co sv := by
 subst h1
 rw [qW (lN _ _ _) hco, List.set_set] at h2
 subst h2
 rw [qW (lN _ _ _) hco, List.set_set] at h3
 subst h3
 refine o4 hco.1 hco.2 ?_ fun j h0 h1 hj => qb hj (Or.inr ⟨by omega, by omega⟩) (Or.inr ⟨by omega, by omega⟩)
 rw [hv]
 unfold cb jM
 dsimp only
 rw [decide_eq_true ha, decide_eq_false (by omega : ¬ s = co), decide_eq_false (by omega : ¬ (-1 : Int) = co), decide_eq_true rfl, CZ 0, if_pos rfl]
 dsimp only
 rw [BT]
theorem Ma {a s v i : Int} (h : s ≠ i) : (cb a s v i).2.1.1 = decide (v = 0) := by
 rw [su h]; rfl
theorem Cl {a s v i : Int} (h : s ≠ i) : Apic.dj (cb a s v i).1 = if a = i then 64 else -1 := by
 unfold cb
 dsimp only
 rw [decide_eq_false h, Ao]
 by_cases q : a = i <;> simp [q]
set_option maxHeartbeats 16000000 in
theorem MQ (x : List D1 × Unit) (hpre : x.1.length ≤ 1048576) (hlens : aD gW.as x) : y7 x := by
 obtain ⟨ops, u⟩ := x
 simp only [] at hpre
 unfold y7
 delta ab jr bh br cF cS dB gG aj dX ag eU aA ai cV bm bS bK bU fb jg pe ck o6 dx dt kZ bz dv k9 rZ bw bC bB jb bT kT gO jf fN jk jh cT ln lj ee rA sK gX rJ p6 jQ mI pL gP my pI ma fM mN dI p4 eI ax lJ jY kb az gF lf au aS jd eW cE jl gN gM gE gS fg gQ kW jo eZ sI sE rY jw fL pW dJ mj mg mP mu l8 jO mT j5 fO rI lE rO fe kY gT oI oV o0 lM kN eu lP l4 oW mv cK pR di p9 me mS p8 pN mG fJ gf sr l5 kX oy oS sg rK sA rM sd oP oJ
 simp (maxSteps := 10000000) only [Bool.not_eq_true', Bool.not_eq_false', Bool.not_eq_true, Bool.not_eq_false, beq_self_eq_true, decide_eq_true_eq, decide_eq_false_iff_not, Bool.not_false, Bool.not_true, beq_iff_eq, beq_eq_false_iff_ne, bne_iff_ne, ne_eq, bne_eq_false_iff_eq, aE, true_and, and_true, and_self, eq_self, List.length_cons, List.length_nil, List.length_append, List.length_set, List.length_replicate, List.set_cons_zero, cond_true, cond_false, Bool.false_eq_true, Bool.true_eq_false, forall_const, false_imp_iff, imp_self, implies_true, and_imp, Decidable.not_not, Bool.and_eq_true, Bool.or_eq_true, Bool.and_eq_false_iff, Bool.or_eq_false_iff, ← List.length_eq_zero_iff, or_self, or_false, false_or, Prod.forall, Int.reduceEq, Int.reduceLT, Int.reduceLE, List.nil_append, Nat.zero_add, Int.toNat_zero, List.drop_zero, List.length_drop, List.length_take, not_true_eq_false, not_false_eq_true,  vC, uF, yF, bM, List.set_cons_zero, show Int.negSucc 0 = (-1 : Int) from rfl, show Int.toNat 1 = 1 from rfl]
 refine ⟨rfl, fun bt j hj0 hj1 hb _ _ _ _ => ⟨fun hjl => ⟨⟨hj0, by omega⟩, by omega, ⟨by omega, by omega, by rw [hb]; exact Fl hj0 hjl⟩, by omega⟩, fun hjl => ⟨⟨by omega, ?_⟩, ?_⟩⟩⟩
 ·have : j = 2 := by omega
  subst this; subst hb; rfl
 intro dd oo lo as_ ps cs f tl te tk e k _ hk0 hk1 hq
 clear hlens hb
 simp only [Prod.mk.injEq] at hq
 obtain ⟨hq1, hq2⟩ := hq
 have hgd := wm (ops.take k.toNat)
 have hlen : (ops.take k.toNat).length = k.toNat := by rw [List.length_take]; omega
 rw [hlen, Int.toNat_of_nonneg hk0, ← hq2] at hgd
 obtain ⟨hg, he⟩ := hgd
 have hnx : k < ops.length → iZ (ops.take (k + 1).toNat) = ((N1 (iZ (ops.take k.toNat)).1 (aV ops k)).1, e ++ [(N1 (iZ (ops.take k.toNat)).1 (aV ops k)).2]) := fun h => by
  rw [Kq hk0 h]
  unfold Ax
  rw [← hq2]; rfl
 have hend : ¬ k < ops.length → (iZ ops).2 = e ∧ (iZ ops).1 = (iZ (ops.take k.toNat)).1 := fun h => by
  have : ops.take k.toNat = ops := ff (by omega)
  rw [this] at hq2 ⊢
  exact ⟨hq2.symm, rfl⟩
 generalize (iZ (ops.take k.toNat)).1 = w at *
 obtain ⟨d, f0, t, lo0, tk0, a, s, p, sv⟩ := w
 unfold cZ at hq1
 simp only [Prod.mk.injEq] at hq1
 obtain ⟨⟨rfl, rfl, rfl, rfl⟩, rfl, rfl, rfl, rfl, rfl⟩ := hq1
 generalize aV ops k = o at *
 obtain ⟨kd, co, n, by_⟩ := o
 dsimp only
 intro hdl hdb _ _ _ _ _ _ _ _ hfl hfb _ _ _ _ _ _ _ _ _ _
 have hfin : ∀ {X : WH} {A : yP}, k < ops.length → X = cZ (N1 (dd, f, (tl, te), lo, tk, a, s, p, sv) (kd, co, n, by_)).1 → A = (N1 (dd, f, (tl, te), lo, tk, a, s, p, sv) (kd, co, n, by_)).2 →
   (-9223372036854775808 ≤ k + 1 ∧ k + 1 ≤ 9223372036854775807) ∧ (0 ≤ k + 1 ∧ k + 1 ≤ (ops.length : Int) ∧ (X, e ++ [A]) = (cZ (iZ (ops.take (k + 1).toNat)).1, (iZ (ops.take (k + 1).toNat)).2)) ∧ ((ops.length : Int) - (k + 1)).toNat < ((ops.length : Int) - k).toNat := fun hlt hX hA => by
  rw [hnx hlt]
  exact ⟨by omega, ⟨by omega, by omega, by rw [hX, hA]⟩, by omega⟩
 obtain ⟨g1, g2, g3, g4, g5, g6, g7, g8, g9, g10, g11⟩ := id hg
 have herr : ∀ q : Int, 1 ≤ q → q ≤ 5 → Line.err [dG dd a s p] q 0 = 0 := fun q h1 h5 => k6 (yc g9 g8) h1 h5
 have hroom : (e.length + 1 ≤ 9223372036854775807 ∧ (e.length + 1 + (e.length + 1) / 4 + 192) * 32 ≤ 281474976710656) := by omega
 have hgo : ∀ {W : YW} {A : yP} {X : WH}, k < ops.length → lx (dd, f, (tl, te), lo, tk, a, s, p, sv) (kd, co, n, by_) = (W, A) → X = cZ (sF W) →
   (-9223372036854775808 ≤ k + 1 ∧ k + 1 ≤ 9223372036854775807) ∧ (0 ≤ k + 1 ∧ k + 1 ≤ (ops.length : Int) ∧ (X, e ++ [A]) = (cZ (iZ (ops.take (k + 1).toNat)).1, (iZ (ops.take (k + 1).toNat)).2)) ∧ ((ops.length : Int) - (k + 1)).toNat < ((ops.length : Int) - k).toNat := fun hlt hb hX => by
  refine hfin hlt ?_ ?_
  ·rw [sD hb]; exact hX
  ·rw [sD hb]
 have hsm : cZ (dd, f, (tl, te), lo, tk, a, s, p, sv) = cZ (sF (dd, f, (tl, te), lo, tk, a, s, p, sv)) := by rw [dD g8]
 refine ⟨fun hlt => ⟨⟨hk0, hlt⟩, fun c1 => ⟨hroom, hfin hlt ?_ ?_⟩, fun c1 c2 => ⟨fun c3 c4 => ⟨⟨c3, c4⟩, fun c5 => ⟨⟨c3, c4⟩, c5⟩⟩, fun c3 c4 c5 => ⟨hroom, hfin hlt ?_ ?_⟩, fun c3 kd' hkd _ _ => ?_⟩⟩, fun hge => ?_⟩
 ·rw [sD (by rw [cu, if_pos c1])]; exact hsm
 ·rw [sD (by rw [cu, if_pos c1])]
 ·rw [sD (by rw [cu, if_neg (by omega), if_pos (by omega)])]; exact hsm
 ·rw [sD (by rw [cu, if_neg (by omega), if_pos (by omega)])]
 ·subst hkd
  refine ⟨fun k1 => ?_, fun k1 => ⟨fun k2 => ?_, fun k2 => ⟨fun k3 => ⟨fun r0 => ?_, fun r0 => ?_⟩, fun k3 => ⟨fun k4 => ?_, fun k4 => ⟨fun k5 => ?_, fun k5 => ?_⟩⟩⟩⟩⟩
  ·subst k1
   obtain ⟨d', lo', hd', hU, hb⟩ : ∃ d' lo', 0 < d'.length ∧ Uart.step (dd, [], lo, decide (0 < dd.length)) 1 by_ = ((d', [], lo', true), 0, 0, ()) ∧ lx (dd, f, (tl, te), lo, tk, a, s, p, sv) (1, co, n, by_) = ((d', f, (tl, te), lo', tk, a, s, p, sv), 0, []) := by
    rw [cu, if_neg (by omega), if_neg (by omega), if_pos rfl, LK g1 g3.1 (by omega)]
    by_cases hd : dd.length = 16
    ·rw [if_pos hd, if_pos hd]; exact ⟨dd, lo + 1, by omega, rfl, rfl⟩
    ·rw [if_neg hd, if_neg hd]; exact ⟨dd ++ [by_], lo, by simp, rfl, rfl⟩
   rw [hU]
   dsimp only
   rw [if_pos rfl, if_pos rfl]
   refine ⟨⟨fun _ => ?_, fun q => absurd rfl q⟩, ?_⟩
   ·intro d2 b2 lo2 fl heq _ _ _ _ _ _
    simp only [Prod.mk.injEq] at heq
    obtain ⟨rfl, rfl, rfl, rfl⟩ := heq
    refine ⟨fun _ => ?_, fun q => by cases q⟩
    have hx := o9 (herr 1 (by omega) (by omega))
    refine ⟨fun q => absurd (congrArg (fun t => t.2.2.1) hx) q, fun _ => ?_⟩
    intro sent ps' hsent hps hsl _ _ _
    rw [hx] at hsent hps
    dsimp only at hsent hps
    refine ⟨⟨by omega, rfl⟩, fun cs' j j0 j1 hcs _ _ _ _ => ⟨fun hjl => rj (by rw [hsent]; exact oz g9) hsl j0 j1 hcs hjl, fun hjl => ?_⟩⟩
    rw [tH (herr 1 (by omega) (by omega)) hsent (by omega) hcs, hps]
   ·intro d2 b2 lo2 fl ps' cs' heq _ _ _ _ _ _ _ _ _ _
    rw [Jr g9 g8] at heq
    simp only [Prod.mk.injEq] at heq
    obtain ⟨⟨rfl, rfl, rfl, rfl⟩, rfl, rfl⟩ := heq
    refine ⟨hroom, hgo hlt hb ?_⟩
    rw [BA hd' g9 g7]
  ·subst k2
   have hco : 0 ≤ co ∧ co ≤ 1 := by omega
   have hcr : dL (cj a s sv) co = cb a s (sv.getD co.toNat 0) co := oR hco.1 hco.2
   have hv := g11 co hco.1 hco.2
   have hb0 : ∀ {R : YW × yP}, (if s = co then (if 0 < dd.length then ((dd.drop 1, f ++ [dd.getD 0 0], (tl, te), lo, tk, a, s, p, sv), 0, []) else ((dd, f, (tl, te), lo, tk, a, -1, p, sv), 0, []))
     else if a = co ∧ sv.getD co.toNat 0 = 0 then ((dd, f, (tl, te), lo, tk + 1, -1, co, p, sv), 0, [])
     else if 0 < f.length then ((dd, f.drop 1, (if (Tty.ph (tl, te) (f.getD 0 0)).2 = 0 then (Tty.ph (tl, te) (f.getD 0 0)).1 else (tl, te)), lo, tk, a, s, p, sv), 0, [])
     else ((dd, f, (tl, te), lo, tk, a, s, p, sv), 7, [])) = R → lx (dd, f, (tl, te), lo, tk, a, s, p, sv) (2, co, n, by_) = R := fun h => by
    rw [cu, if_neg (by omega), if_neg (by omega), if_neg (by omega), if_neg (by omega), if_neg (by omega), if_neg (by omega), if_neg (by omega), if_neg (by omega)]
    exact h
   rw [hcr]
   refine ⟨⟨hco.1, by omega⟩, fun hs hd => ?_, fun c => ⟨fun hs => ?_, fun hs => ?_⟩⟩
   ·have hs : s = co := of_decide_eq_true hs
    have hd' : 0 < dd.length := of_decide_eq_true hd
    rw [hd, EZ g1 g3.1 (by omega) hd' 0]
    dsimp only
    rw [if_pos rfl]
    refine ⟨⟨fun _ => ?_, fun q => absurd rfl q⟩, ?_⟩
    ·intro d2 b2 lo2 fl heq _ _ _ _ _ _
     simp only [Prod.mk.injEq] at heq
     obtain ⟨rfl, rfl, rfl, rfl⟩ := heq
     refine ⟨fun hq => ?_, fun hq => ?_⟩
     ·rw [if_pos hq]
      have hx := o9 (herr 1 (by omega) (by omega))
      refine ⟨fun q => absurd (congrArg (fun t => t.2.2.1) hx) q, fun _ => ?_⟩
      intro sent ps' hsent hps hsl _ _ _
      rw [hx] at hsent hps
      dsimp only at hsent hps
      refine ⟨⟨by omega, rfl⟩, fun cs' j j0 j1 hcs _ _ _ _ => ⟨fun hjl => rj (by rw [hsent]; exact oz g9) hsl j0 j1 hcs hjl, fun hjl => ?_⟩⟩
      rw [tH (herr 1 (by omega) (by omega)) hsent (by omega) hcs, hps]
     ·rw [if_neg (by rw [hq]; decide)]
      have hx := o9 (herr 2 (by omega) (by omega))
      refine ⟨fun q => absurd (congrArg (fun t => t.2.2.1) hx) q, fun _ => ?_⟩
      intro sent ps' hsent hps hsl _ _ _
      rw [hx] at hsent hps
      dsimp only at hsent hps
      refine ⟨⟨by omega, rfl⟩, fun cs' j j0 j1 hcs _ _ _ _ => ⟨fun hjl => rj (by rw [hsent]; exact oz g9) hsl j0 j1 hcs hjl, fun hjl => ?_⟩⟩
      rw [tH (herr 2 (by omega) (by omega)) hsent (by omega) hcs, hps]
    ·intro d2 b2 lo2 fl ps' cs' heq _ _ _ _ _ _ _ _ _ _
     by_cases hd2 : 0 < (dd.drop 1).length
     ·rw [if_pos (decide_eq_true hd2), Jr g9 g8] at heq
      simp only [Prod.mk.injEq] at heq
      obtain ⟨⟨rfl, rfl, rfl, rfl⟩, rfl, rfl⟩ := heq
      refine ⟨by omega, by omega, hroom, hgo hlt (hb0 (by rw [if_pos hs, if_pos hd'])) ?_⟩
      rw [BA hd2 g9 g7, decide_eq_true hd2]
     ·rw [if_neg (by simp only [decide_eq_true_eq]; exact hd2), J5 g9 g8] at heq
      simp only [Prod.mk.injEq] at heq
      obtain ⟨⟨rfl, rfl, rfl, rfl⟩, rfl, rfl⟩ := heq
      refine ⟨by omega, by omega, hroom, hgo hlt (hb0 (by rw [if_pos hs, if_pos hd'])) ?_⟩
      rw [dD (fun h => absurd h hd2)]
      have e : dd.drop 1 = [] := List.eq_nil_of_length_eq_zero (by omega)
      rw [e]; rfl
   ·have hs' : s = co := of_decide_eq_true hs
    have hd : ¬ 0 < dd.length := by
     rcases c with c | c
     ·rw [hs] at c; cases c
     ·exact of_decide_eq_false c
    intro cs1 h1 l1 _ cs2 h2 l2 _
    refine ⟨xJ l2 hco, ?_⟩
    intro cs3 h3 _ _
    have hcs3 := Fo hco hs' (hv.2.2 hs') h1 h2 h3
    clear h1 h2 h3
    subst hcs3
    have hx := o9 (herr 5 (by omega) (by omega))
    refine ⟨fun q => absurd (congrArg (fun t => t.2.2.1) hx) q, fun _ => ?_⟩
    intro sent ps' hsent hps hsl _ _ _
    rw [hx] at hsent hps
    dsimp only at hsent hps
    refine ⟨⟨by omega, rfl⟩, fun cs' j j0 j1 hcs _ _ _ _ => ⟨fun hjl => rj (by rw [hsent]; exact oz g9) hsl j0 j1 hcs hjl, fun hjl => ⟨hroom, hgo hlt (hb0 (by rw [if_pos hs', if_neg hd])) ?_⟩⟩⟩
    have hp := tH (herr 5 (by omega) (by omega)) hsent (by omega) hcs
    have hd0 : dd = [] := List.eq_nil_of_length_eq_zero (by omega)
    rw [hd0, OA g9] at hp
    simp only [Prod.mk.injEq] at hp
    rw [hd0] at hps
    rw [hps, ← hp.1, ← hp.2, hd0, dD (by simp)]
    have e : (decide (0 ≤ a) || decide ((0 : Int) ≤ -1)) = false := by simp; omega
    unfold cZ dG
    dsimp only
    rw [e]; rfl
   ·have hs' : s ≠ co := of_decide_eq_false hs
    rw [Ma hs', Cl hs']
    refine ⟨fun hon => ⟨hon, fun hw => ⟨?_, ?_⟩, fun hw => ?_⟩, fun hon => ?_⟩
    ·rw [← hcr]
     exact xJ (lN _ _ _) hco
    ·intro cs1 h1 l1 _ cs2 h2 l2 _ cs3 h3 _ _
     have hv0 : sv.getD co.toNat 0 = 0 := of_decide_eq_true hon
     have ha : a = co := by
      by_cases q : a = co
      ·exact q
      ·rw [if_neg q] at hw; omega
     have hcs3 := Dk hco ha (by omega) hv0 h1 h2 h3
     clear h1 h2 h3
     subst hcs3
     refine ⟨by omega, hroom, hgo hlt (hb0 (by rw [if_neg hs', if_pos ⟨ha, hv0⟩])) ?_⟩
     rw [dD (by omega)]
     have e1 : (decide (0 ≤ a) || decide (0 ≤ s)) = true := by simp; omega
     have e2 : (decide ((0 : Int) ≤ -1) || decide (0 ≤ co)) = true := by simp; omega
     unfold cZ dG
     dsimp only
     rw [e1, e2]
    ·have hne : ¬ (a = co ∧ sv.getD co.toNat 0 = 0) := fun q => by rw [if_pos q.1] at hw; omega
     rw [Int.toNat_natCast, List.take_length]
     refine ⟨fun hf => ⟨hf, fun q => ⟨by omega, hroom, hgo hlt (hb0 (by rw [if_neg hs', if_neg hne, if_pos (by omega), if_pos (by exact q)])) ?_⟩, fun q => ⟨by omega, hroom, hgo hlt (hb0 (by rw [if_neg hs', if_neg hne, if_pos (by omega), if_neg (by exact q)])) ?_⟩⟩, fun hf => ⟨hroom, hgo hlt (hb0 (by rw [if_neg hs', if_neg hne, if_neg (by omega)])) hsm⟩⟩
     ·rw [dD g8]; rfl
     ·rw [dD g8]; rfl
    ·have hne : ¬ (a = co ∧ sv.getD co.toNat 0 = 0) := fun q => of_decide_eq_false hon q.2
     rw [Int.toNat_natCast, List.take_length]
     refine ⟨fun hf => ⟨hf, fun q => ⟨by omega, hroom, hgo hlt (hb0 (by rw [if_neg hs', if_neg hne, if_pos (by omega), if_pos (by exact q)])) ?_⟩, fun q => ⟨by omega, hroom, hgo hlt (hb0 (by rw [if_neg hs', if_neg hne, if_pos (by omega), if_neg (by exact q)])) ?_⟩⟩, fun hf => ⟨hroom, hgo hlt (hb0 (by rw [if_neg hs', if_neg hne, if_neg (by omega)])) hsm⟩⟩
     ·rw [dD g8]; rfl
     ·rw [dD g8]; rfl
  ·refine ⟨hroom, hgo hlt (by rw [cu, if_neg (by omega), if_neg (by omega), if_neg (by omega), if_pos k3, if_pos r0]) ?_⟩
   rw [dD g8]; rfl
  ·refine ⟨hroom, hgo hlt (by rw [cu, if_neg (by omega), if_neg (by omega), if_neg (by omega), if_pos k3, if_neg r0]) ?_⟩
   rw [dD g8]; rfl
  ·have hco : 0 ≤ co ∧ co ≤ 1 := by omega
   have hcr : dL (cj a s sv) co = cb a s (sv.getD co.toNat 0) co := oR hco.1 hco.2
   have hm : Bu (Ty.int IntKind.i64) (nh (Ty.int IntKind.i64) (nh (Ty.int IntKind.i64) [] 4 1) 5 2) kd' = 1 := by subst k4; rfl
   have hv := g11 co hco.1 hco.2
   rw [hcr, hm]
   refine ⟨⟨hco.1, by omega⟩, fun hs => ⟨hroom, ?_⟩, fun hs => ?_⟩
   ·have hs : s = co := of_decide_eq_true hs
    exact hgo hlt (by rw [cu, if_neg (by omega), if_neg (by omega), if_neg (by omega), if_neg (by omega), if_neg (by omega), if_pos (by omega)]) hsm
   have hs : s ≠ co := of_decide_eq_false hs
   have fK := fun v => AJ (v := v) (a := a) g10 hco hs
   rw [su hs]
   by_cases h4 : sv.getD co.toNat 0 = 400
   ·have hn : Nest.step (db false (sv.getD co.toNat 0)) 1 = Nest.bad 4 := by rw [h4]; exact EI
    rw [hn]
    refine ⟨fun q => absurd q (by decide), fun _ => ⟨hroom, ?_⟩⟩
    exact hgo hlt (by rw [cu, if_neg (by omega), if_neg (by omega), if_neg (by omega), if_neg (by omega), if_neg (by omega), if_neg (by omega), if_pos (by omega), if_pos h4]; rfl) hsm
   ·rw [Fj hv.1 (by omega)]
    refine ⟨fun _ => ⟨hroom, ?_⟩, fun q => absurd rfl q⟩
    refine hgo hlt (by rw [cu, if_neg (by omega), if_neg (by omega), if_neg (by omega), if_neg (by omega), if_neg (by omega), if_neg (by omega), if_pos (by omega), if_neg h4]) ?_
    rw [dD g8]
    dsimp only
    rw [fK]
    rfl
  ·have hco : 0 ≤ co ∧ co ≤ 1 := by omega
   have hcr : dL (cj a s sv) co = cb a s (sv.getD co.toNat 0) co := oR hco.1 hco.2
   have hm : Bu (Ty.int IntKind.i64) (nh (Ty.int IntKind.i64) (nh (Ty.int IntKind.i64) [] 4 1) 5 2) kd' = 2 := by subst k5; rfl
   have hv := g11 co hco.1 hco.2
   rw [hcr, hm]
   refine ⟨⟨hco.1, by omega⟩, fun hs => ⟨hroom, ?_⟩, fun hs => ?_⟩
   ·have hs : s = co := of_decide_eq_true hs
    exact hgo hlt (by rw [cu, if_neg (by omega), if_neg (by omega), if_neg (by omega), if_neg (by omega), if_neg (by omega), if_pos (by omega)]) hsm
   have hs : s ≠ co := of_decide_eq_false hs
   have fK := fun v => AJ (v := v) (a := a) g10 hco hs
   rw [su hs]
   by_cases h4 : sv.getD co.toNat 0 = 0
   ·have hn : Nest.step (db false (sv.getD co.toNat 0)) 2 = Nest.bad 3 := by rw [h4]; exact EY
    rw [hn]
    refine ⟨fun q => absurd q (by decide), fun _ => ⟨hroom, ?_⟩⟩
    exact hgo hlt (by rw [cu, if_neg (by omega), if_neg (by omega), if_neg (by omega), if_neg (by omega), if_neg (by omega), if_neg (by omega), if_neg (by omega), if_pos (by omega), if_pos h4]; rfl) hsm
   ·rw [y6 (by omega) hv.2.1]
    refine ⟨fun _ => ⟨hroom, ?_⟩, fun q => absurd rfl q⟩
    refine hgo hlt (by rw [cu, if_neg (by omega), if_neg (by omega), if_neg (by omega), if_neg (by omega), if_neg (by omega), if_neg (by omega), if_neg (by omega), if_pos (by omega), if_neg h4]) ?_
    rw [dD g8]
    dsimp only
    rw [fK]
    rfl
  ·have hco : 0 ≤ co ∧ co ≤ 1 := by omega
   refine ⟨by show (0 : Int) < 1; omega, hroom, hgo hlt (by rw [cu, if_neg (by omega), if_neg (by omega), if_neg (by omega), if_neg (by omega), if_pos (by omega)]) ?_⟩
   rw [dD g8]; rfl
 ·obtain ⟨he1, he2⟩ := hend hge
  rw [he2, ← he1]
  exact ⟨by omega, by omega, rfl, rfl⟩

end Go.Proofs.YtlnlichdidobpaaGreatDoor.Kern
