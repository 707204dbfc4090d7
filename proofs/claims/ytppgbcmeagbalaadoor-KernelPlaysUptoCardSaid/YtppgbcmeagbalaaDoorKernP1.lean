/-
 KernelPlays: the document's answer keeps its state within bounds.
-/
import Derived.Test.YtppgbcmeagbalaaDoorKernP0
namespace Go.Proofs.YtppgbcmeagbalaaDoor.Kern
open Go.Sx
set_option maxRecDepth 100000
set_option maxHeartbeats 1000000
set_option linter.unusedSimpArgs false
set_option linter.unusedVariables false

def good1 (w : YW) (k : Int) : Prop := match w with
 | (d, f, _, lo, tk, a, s, p, sv) => d.length ≤ 16 ∧ (f.length : Int) ≤ k ∧ (0 ≤ lo ∧ lo ≤ k) ∧ (0 ≤ tk ∧ tk ≤ k) ∧ (-1 ≤ a ∧ a ≤ 1) ∧ (-1 ≤ s ∧ s ≤ 1) ∧ (a < 0 ∨ s < 0) ∧ (0 ≤ p ∧ p ≤ 1) ∧
  sv.length = 2 ∧ (∀ i : Int, 0 ≤ i → i ≤ 1 → 0 ≤ sv.getD i.toNat 0 ∧ sv.getD i.toNat 0 ≤ 400 ∧ (s = i → sv.getD i.toNat 0 = 0))
theorem good_ask {w : YW} {k : Int} (h : good1 w k) : goodY (yask w) k := by
 obtain ⟨d, f, t, lo, tk, a, s, p, sv⟩ := w
 obtain ⟨h1, h2, h3, h4, h5, h6, h7, h8, h9, h10⟩ := h
 unfold yask
 simp only []
 split
 ·rename_i q
  exact ⟨h1, h2, h3, h4, by omega, h6, by omega, fun _ => by omega, h8, h9, h10⟩
 ·rename_i q
  exact ⟨h1, h2, h3, h4, h5, h6, h7, fun _ => by omega, h8, h9, h10⟩
theorem sv_set {sv : List Int} {i j v : Int} (hl : sv.length = 2) (hi : 0 ≤ i ∧ i ≤ 1) (hj : 0 ≤ j ∧ j ≤ 1) : (sv.set i.toNat v).getD j.toNat 0 = if j = i then v else sv.getD j.toNat 0 := by
 by_cases e : j = i
 ·subst e
  rw [if_pos rfl]
  have : j.toNat < sv.length := by omega
  simp [List.getD, this]
 ·rw [if_neg e]
  have : i.toNat ≠ j.toNat := by omega
  simp [List.getD, List.getElem?_set_ne this]
theorem ybody_eq (d f : By) (t : TT) (lo tk a s p : Int) (sv : List Int) (kd co n b : Int) : ybody (d, f, t, lo, tk, a, s, p, sv) (kd, co, n, b) =
  if kd < 1 ∨ 6 < kd then ((d, f, t, lo, tk, a, s, p, sv), 5, [])
  else if kd ≠ 1 ∧ kd ≠ 3 ∧ co ≠ 0 ∧ co ≠ 1 then ((d, f, t, lo, tk, a, s, p, sv), 2, [])
  else if kd = 1 then (if d.length = 16 then ((d, f, t, lo + 1, tk, a, s, p, sv), 0, []) else ((d ++ [b], f, t, lo, tk, a, s, p, sv), 0, []))
  else if kd = 3 then ((d, f, (if (Tty.readT t n).2.2.1 = 0 then (Tty.readT t n).1 else t), lo, tk, a, s, p, sv), (Tty.readT t n).2.2.1, (Tty.readT t n).2.1)
  else if kd = 6 then ((d, f, t, lo, tk, a, s, co, sv), 0, [])
  else if kd ≠ 2 ∧ s = co then ((d, f, t, lo, tk, a, s, p, sv), 6, [])
  else if kd = 4 then (if sv.getD co.toNat 0 = 400 then ((d, f, t, lo, tk, a, s, p, sv), 4, []) else ((d, f, t, lo, tk, a, s, p, sv.set co.toNat (sv.getD co.toNat 0 + 1)), 0, []))
  else if kd = 5 then (if sv.getD co.toNat 0 = 0 then ((d, f, t, lo, tk, a, s, p, sv), 3, []) else ((d, f, t, lo, tk, a, s, p, sv.set co.toNat (sv.getD co.toNat 0 - 1)), 0, []))
  else if s = co then (if 0 < d.length then ((d.drop 1, f ++ [d.getD 0 0], t, lo, tk, a, s, p, sv), 0, []) else ((d, f, t, lo, tk, a, -1, p, sv), 0, []))
  else if a = co ∧ sv.getD co.toNat 0 = 0 then ((d, f, t, lo, tk + 1, -1, co, p, sv), 0, [])
  else if 0 < f.length then ((d, f.drop 1, (if (Tty.keyT t (f.getD 0 0)).2 = 0 then (Tty.keyT t (f.getD 0 0)).1 else t), lo, tk, a, s, p, sv), 0, [])
  else ((d, f, t, lo, tk, a, s, p, sv), 7, []) := rfl
theorem good_body {w : YW} {k : Int} (o : KOp) (h : goodY w k) : good1 (ybody w o).1 (k + 1) := by
 obtain ⟨d, f, t, lo, tk, a, s, p, sv⟩ := w
 obtain ⟨kd, co, n, b⟩ := o
 obtain ⟨h1, h2, h3, h4, h5, h6, h7, _, h8, h9, h10⟩ := h
 have hb : good1 (d, f, t, lo, tk, a, s, p, sv) (k + 1) := ⟨h1, by omega, by omega, by omega, h5, h6, h7, h8, h9, h10⟩
 have hsv : ∀ v : Int, 0 ≤ v → v ≤ 400 → (0 ≤ co ∧ co ≤ 1) → s ≠ co → ∀ i : Int, 0 ≤ i → i ≤ 1 → 0 ≤ (sv.set co.toNat v).getD i.toNat 0 ∧ (sv.set co.toNat v).getD i.toNat 0 ≤ 400 ∧ (s = i → (sv.set co.toNat v).getD i.toNat 0 = 0) := fun v v0 v1 hk hs i i0 i1 => by
  rw [sv_set h9 hk ⟨i0, i1⟩]
  by_cases e : i = co
  ·rw [if_pos e]; exact ⟨v0, v1, fun q => absurd (q.trans e) hs⟩
  ·rw [if_neg e]; exact h10 i i0 i1
 rw [ybody_eq]
 by_cases q1 : kd < 1 ∨ 6 < kd
 ·rw [if_pos q1]; exact hb
 rw [if_neg q1]
 by_cases q2 : kd ≠ 1 ∧ kd ≠ 3 ∧ co ≠ 0 ∧ co ≠ 1
 ·rw [if_pos q2]; exact hb
 rw [if_neg q2]
 by_cases q3 : kd = 1
 ·rw [if_pos q3]
  by_cases q : d.length = 16
  ·rw [if_pos q]; exact ⟨h1, by omega, by omega, by omega, h5, h6, h7, h8, h9, h10⟩
  ·rw [if_neg q]; exact ⟨by simp; omega, by omega, by omega, by omega, h5, h6, h7, h8, h9, h10⟩
 rw [if_neg q3]
 by_cases q4 : kd = 3
 ·rw [if_pos q4]; exact ⟨h1, by omega, by omega, by omega, h5, h6, h7, h8, h9, h10⟩
 rw [if_neg q4]
 have hk : 0 ≤ co ∧ co ≤ 1 := by omega
 by_cases q5 : kd = 6
 ·rw [if_pos q5]; exact ⟨h1, by omega, by omega, by omega, h5, h6, h7, hk, h9, h10⟩
 rw [if_neg q5]
 by_cases q6 : kd ≠ 2 ∧ s = co
 ·rw [if_pos q6]; exact hb
 rw [if_neg q6]
 have hv := h10 co hk.1 hk.2
 by_cases q7 : kd = 4
 ·rw [if_pos q7]
  by_cases q : sv.getD co.toNat 0 = 400
  ·rw [if_pos q]; exact hb
  ·rw [if_neg q]; exact ⟨h1, by omega, by omega, by omega, h5, h6, h7, h8, by simpa using h9, hsv _ (by omega) (by omega) hk (by omega)⟩
 rw [if_neg q7]
 by_cases q8 : kd = 5
 ·rw [if_pos q8]
  by_cases q : sv.getD co.toNat 0 = 0
  ·rw [if_pos q]; exact hb
  ·rw [if_neg q]; exact ⟨h1, by omega, by omega, by omega, h5, h6, h7, h8, by simpa using h9, hsv _ (by omega) (by omega) hk (by omega)⟩
 rw [if_neg q8]
 by_cases q9 : s = co
 ·rw [if_pos q9]
  by_cases q : 0 < d.length
  ·rw [if_pos q]; exact ⟨by simp; omega, by simp; omega, by omega, by omega, h5, h6, h7, h8, h9, h10⟩
  ·rw [if_neg q]; exact ⟨h1, by omega, by omega, by omega, h5, by omega, by omega, h8, h9, fun i i0 i1 => ⟨(h10 i i0 i1).1, (h10 i i0 i1).2.1, fun e => by omega⟩⟩
 rw [if_neg q9]
 by_cases q10 : a = co ∧ sv.getD co.toNat 0 = 0
 ·rw [if_pos q10]; exact ⟨h1, by omega, by omega, by omega, by omega, by omega, by omega, h8, h9, fun i i0 i1 => ⟨(h10 i i0 i1).1, (h10 i i0 i1).2.1, fun e => by rw [← e]; exact q10.2⟩⟩
 rw [if_neg q10]
 by_cases q11 : 0 < f.length
 ·rw [if_pos q11]; exact ⟨h1, by simp; omega, by omega, by omega, h5, h6, h7, h8, h9, h10⟩
 ·rw [if_neg q11]; exact hb
theorem good_do {w : YW} {k : Int} (o : KOp) (h : goodY w k) : goodY (ydo w o).1 (k + 1) := good_ask (good_body o h)
theorem good_0 : goodY y0 0 := ⟨by simp, by simp, by omega, by omega, by omega, by omega, by omega, by simp, by omega, rfl, fun i h0 h1 => by
 have : i = 0 ∨ i = 1 := by omega
 rcases this with rfl | rfl <;> simp⟩
theorem ypl_snoc (l : List KOp) (o : KOp) : ypl (l ++ [o]) = yone (ypl l) o := by unfold ypl; rw [List.foldl_append]; rfl
theorem ypl_good : ∀ (ops : List KOp), goodY (ypl ops).1 ops.length ∧ (ypl ops).2.length = ops.length := by
 intro ops
 have key : ∀ n, n ≤ ops.length → goodY (ypl (ops.take n)).1 n ∧ (ypl (ops.take n)).2.length = n := by
  intro n
  induction n with
  | zero => intro _; exact ⟨good_0, rfl⟩
  | succ n ih =>
   intro hn
   obtain ⟨h1, h2⟩ := ih (by omega)
   rw [take_succ' (0, 0, 0, 0) (by omega), ypl_snoc]
   unfold yone
   refine ⟨?_, by simp [h2]⟩
   have := good_do (ops.getD n (0, 0, 0, 0)) h1
   exact this
 have := key ops.length (Nat.le_refl _)
 rwa [List.take_length] at this
theorem ypl_next {ops : List KOp} {k : Int} (h0 : 0 ≤ k) (h : k < ops.length) : ypl (ops.take (k + 1).toNat) = yone (ypl (ops.take k.toNat)) (ops.getD k.toNat (0, 0, 0, 0)) := by
 rw [takeI_succ (0, 0, 0, 0) h0 h, ypl_snoc]

end Go.Proofs.YtppgbcmeagbalaaDoor.Kern
