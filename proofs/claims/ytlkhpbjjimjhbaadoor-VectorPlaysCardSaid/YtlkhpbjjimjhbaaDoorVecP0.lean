/-
  VectorPlays: plain facts: sets of numbers, the slots, what is taken of each core.
-/
import Derived.Test.YtlkhpbjjimjhbaaDoorVecBitfP
namespace Go.Proofs.YtlkhpbjjimjhbaaDoor.Vec
open Go.Sx
set_option maxRecDepth 100000
set_option maxHeartbeats 1000000
set_option linter.unusedSimpArgs false
set_option linter.unusedVariables false

theorem hor_bit (f : Nat → Bool) : ∀ (k s i : Nat), i < k → hor f s k / 2 ^ i % 2 = if f (s + i) = true then 1 else 0
  | 0, s, i, h => by omega
  | k + 1, s, i, h => by
    have e : hor f s (k + 1) = (if f s = true then 1 else 0) + 2 * hor f (s + 1) k := rfl
    cases i with
    | zero =>
      have key : ∀ (a b : Int), (a = 0 ∨ a = 1) → (a + 2 * b) % 2 = a := fun a b h => by omega
      rw [e, Int.pow_zero, Int.ediv_one, Nat.add_zero]
      exact key _ _ (by split <;> simp)
    | succ i =>
      have h2 : hor f s (k + 1) / 2 = hor f (s + 1) k := by
        have key : ∀ (a b : Int), (a = 0 ∨ a = 1) → (a + 2 * b) / 2 = b := fun a b h => by omega
        rw [e]
        exact key _ _ (by split <;> simp)
      have hp : (2 : Int) ^ (i + 1) = 2 * 2 ^ i := by rw [Int.pow_succ]; omega
      rw [hp, ← Int.ediv_ediv_of_nonneg (by omega), h2, hor_bit f k (s + 1) i (by omega), show s + 1 + i = s + (i + 1) by omega]
theorem bitN_to (f : Nat → Bool) {j : Nat} (h : j < 256) : bitN (bitsTo f 0) j = f j := by
  unfold bitN
  rw [bitsTo_get _ _ _ (by omega), horTo_0, hor_bit _ _ _ _ (Nat.mod_lt _ (by omega)), show 64 * (j / 64) + j % 64 = j by omega]
  cases f j <;> rfl
theorem bitN_put {b : List Int} {n : Int} {v : Bool} (h0 : 0 ≤ n) (h1 : n < 256) {j : Nat} (hj : j < 256) : bitN (putB b n v) j = if j = n.toNat then v else bitN b j := by
  unfold putB
  rw [if_pos (fits_iff.2 ⟨h0, h1⟩), bitN_to _ hj]
/- How many there are. -/
def nB (f : Nat → Bool) : Nat → Nat
  | 0 => 0
  | m + 1 => (if f m = true then 1 else 0) + nB f m
theorem allB_len (f : Nat → Bool) : ∀ m, (allB f m).length = nB f m
  | 0 => rfl
  | m + 1 => by
    rw [all_succ]
    show _ = (if f m = true then 1 else 0) + nB f m
    split
    · rw [List.length_append, allB_len f m]; simp; omega
    · rw [allB_len f m]; omega
theorem nB_congr {f g : Nat → Bool} : ∀ m, (∀ j, j < m → f j = g j) → nB f m = nB g m
  | 0, _ => rfl
  | m + 1, h => by
    show (if f m = true then 1 else 0) + nB f m = (if g m = true then 1 else 0) + nB g m
    rw [h m (by omega), nB_congr m (fun j hj => h j (by omega))]
theorem nB_put {f g : Nat → Bool} {n : Nat} : ∀ m, (∀ j, j < m → j ≠ n → g j = f j) → f n = false → g n = true → nB g m = nB f m + (if n < m then 1 else 0)
  | 0, _, _, _ => rfl
  | m + 1, h, hf, hg => by
    show (if g m = true then 1 else 0) + nB g m = (if f m = true then 1 else 0) + nB f m + _
    rw [nB_put m (fun j hj => h j (by omega)) hf hg]
    by_cases e : m = n
    · subst e
      rw [hf, hg, if_neg (by omega : ¬ m < m), if_pos (by omega : m < m + 1)]
      simp; omega
    · rw [h m (by omega) e]
      by_cases e2 : n < m
      · rw [if_pos e2, if_pos (by omega : n < m + 1)]; omega
      · rw [if_neg e2, if_neg (by omega : ¬ n < m + 1)]; omega
theorem nB_ge {f : Nat → Bool} {s : Nat} : ∀ d, (∀ j, s ≤ j → j < s + d → f j = true) → d ≤ nB f (s + d)
  | 0, _ => by omega
  | d + 1, h => by
    have e : nB f (s + (d + 1)) = (if f (s + d) = true then 1 else 0) + nB f (s + d) := rfl
    rw [e, if_pos (h (s + d) (by omega) (by omega))]
    have := nB_ge d (fun j h1 h2 => h j h1 (by omega))
    omega
theorem len_putT {b : List Int} {n : Int} (h0 : 0 ≤ n) (h1 : n < 256) (h : bitN b n.toNat = false) : (allOf (putB b n true)).length = (allOf b).length + 1 := by
  unfold allOf
  rw [allB_len, allB_len, nB_put (n := n.toNat) 256 (fun j hj hne => by rw [bitN_put h0 h1 hj, if_neg hne]) h (by rw [bitN_put h0 h1 (by omega), if_pos rfl]), if_pos (by omega)]
theorem len_putF {b : List Int} {n : Int} (h0 : 0 ≤ n) (h1 : n < 256) (h : bitN b n.toNat = true) : (allOf (putB b n false)).length + 1 = (allOf b).length := by
  unfold allOf
  rw [allB_len, allB_len, nB_put (f := bitN (putB b n false)) (n := n.toNat) 256 (fun j hj hne => by rw [bitN_put h0 h1 hj, if_neg hne]) (by rw [bitN_put h0 h1 (by omega), if_pos rfl]) h, if_pos (by omega)]
/- The least one that is free. -/
theorem lst_spec (h : Nat → Bool) : ∀ (k n : Nat), n ≤ lstN h n k ∧ lstN h n k ≤ n + k ∧ (∀ j, n ≤ j → j < lstN h n k → h j = true) ∧ (lstN h n k < n + k → h (lstN h n k) = false)
  | 0, n => ⟨Nat.le_refl _, Nat.le_refl _, fun j h1 h2 => by have : j < n := h2; omega, fun h1 => by have : n < n := h1; omega⟩
  | k + 1, n => by
    unfold lstN
    by_cases e : h n = true
    · rw [if_pos e]
      obtain ⟨h1, h2, h3, h4⟩ := lst_spec h k (n + 1)
      refine ⟨by omega, by omega, fun j q1 q2 => ?_, fun q => h4 (by omega)⟩
      by_cases ej : j = n
      · subst ej; exact e
      · exact h3 j (by omega) q2
    · rw [if_neg e]
      exact ⟨Nat.le_refl _, by omega, fun j h1 h2 => by omega, fun _ => by simpa using e⟩
theorem lst_congr {f g : Nat → Bool} : ∀ (k n : Nat), (∀ j, n ≤ j → j < n + k → f j = g j) → lstN f n k = lstN g n k
  | 0, _, _ => rfl
  | k + 1, n, h => by
    unfold lstN
    rw [h n (by omega) (by omega), lst_congr k (n + 1) (fun j h1 h2 => h j (by omega) (by omega))]
theorem lst_free {f : Nat → Bool} (h : nB f 256 < 224) : lstN f 32 224 < 256 ∧ f (lstN f 32 224) = false := by
  obtain ⟨h1, h2, h3, h4⟩ := lst_spec f 224 32
  have : lstN f 32 224 < 256 := by
    by_cases e : lstN f 32 224 < 256
    · exact e
    · have := nB_ge (f := f) (s := 32) 224 (fun j q1 q2 => h3 j q1 (by omega))
      rw [show 32 + 224 = 256 from rfl] at this
      omega
  exact ⟨this, h4 (by omega)⟩
/- The best core. -/
theorem bst_congr {f : Nat → Bool} {g g' : Nat → Int} : ∀ n, (∀ k, k < n → g k = g' k) → bst f g n = bst f g' n
  | 0, _ => rfl
  | n + 1, h => by
    unfold bst
    rw [bst_congr n (fun k hk => h k (by omega)), h n (by omega)]
theorem bst_spec (f : Nat → Bool) (g : Nat → Int) : ∀ n, (bst f g n = (-1, 1000)) ∨ (0 ≤ (bst f g n).1 ∧ (bst f g n).1 < n ∧ (bst f g n).2 = g (bst f g n).1.toNat ∧ (bst f g n).2 < 224 ∧ f (bst f g n).1.toNat = true)
  | 0 => Or.inl rfl
  | n + 1 => by
    unfold bst
    split
    · rename_i h
      refine Or.inr ⟨by simp, by simp; omega, by simp, h.2.1, by simpa using h.1⟩
    · rcases bst_spec f g n with h | ⟨h1, h2, h3⟩
      · exact Or.inl h
      · exact Or.inr ⟨h1, by omega, h3⟩
theorem bst_step {f : Nat → Bool} {g : Nat → Int} {n : Nat} (hf : f n = true) (hg : g n < 224) (h : (bst f g n).1 < 0 ∨ g n < g (bst f g n).1.toNat) : (bst f g (n + 1)).1 = n := by
  have e : bst f g (n + 1) = if f n = true ∧ g n < 224 ∧ g n < (bst f g n).2 then ((n : Int), g n) else bst f g n := rfl
  rcases bst_spec f g n with hb | ⟨h1, h2, h3, h4, _⟩
  · rw [e, if_pos ⟨hf, hg, by rw [hb]; show g n < 1000; omega⟩]
  · rw [e, if_pos ⟨hf, hg, by rw [h3]; omega⟩]
theorem bst_skip {f : Nat → Bool} {g : Nat → Int} {n : Nat} (h : f n = false ∨ ¬ g n < 224 ∨ (0 ≤ (bst f g n).1 ∧ ¬ g n < g (bst f g n).1.toNat)) : bst f g (n + 1) = bst f g n := by
  have e : bst f g (n + 1) = if f n = true ∧ g n < 224 ∧ g n < (bst f g n).2 then ((n : Int), g n) else bst f g n := rfl
  rw [e, if_neg]
  rintro ⟨h1, h2, h3⟩
  rcases h with h | h | ⟨h4, h5⟩
  · rw [h] at h1; cases h1
  · exact h h2
  · rcases bst_spec f g n with hb | ⟨_, _, q3, _⟩
    · rw [hb] at h4; simp at h4
    · rw [q3] at h3; exact h5 h3
/- The slots. -/
def isAt (c : Int) (s : Int × Int) : Bool := decide (0 < s.2) && decide (s.1 = c)
theorem cnt_set {c : Int} {s : Int × Int} : ∀ {l : VS} {i : Nat}, i < l.length → cntS (l.set i s) c + (if isAt c (l.getD i (0, 0)) = true then 1 else 0) = cntS l c + (if isAt c s = true then 1 else 0)
  | [], i, h => by simp at h
  | a :: r, 0, _ => by
    have e1 : ∀ b, cntS (b :: r) c = (if isAt c b = true then 1 else 0) + cntS r c := fun b => by
      unfold cntS
      rw [List.filter_cons]
      have : (decide (0 < b.2) && decide (b.1 = c)) = isAt c b := rfl
      rw [this]
      split <;> simp <;> omega
    show cntS (s :: r) c + (if isAt c a = true then 1 else 0) = _
    rw [e1, e1]
    omega
  | a :: r, i + 1, h => by
    have e1 : ∀ b (l : VS), cntS (b :: l) c = (if isAt c b = true then 1 else 0) + cntS l c := fun b l => by
      unfold cntS
      rw [List.filter_cons]
      have : (decide (0 < b.2) && decide (b.1 = c)) = isAt c b := rfl
      rw [this]
      split <;> simp <;> omega
    show cntS (a :: r.set i s) c + (if isAt c (r.getD i (0, 0)) = true then 1 else 0) = _
    have := cnt_set (c := c) (s := s) (l := r) (i := i) (by simpa using h)
    rw [e1, e1]
    omega
theorem used_iff {l : VS} {c v : Int} : usedS l c v = true ↔ ∃ j, j < l.length ∧ l.getD j (0, 0) = (c, v) ∧ 0 < v := by
  unfold usedS
  rw [List.any_eq_true]
  constructor
  · rintro ⟨s, hs, h⟩
    obtain ⟨j, hj, rfl⟩ := List.mem_iff_getElem.1 hs
    simp only [Bool.and_eq_true, decide_eq_true_eq] at h
    refine ⟨j, hj, ?_, by omega⟩
    simp only [List.getD, List.getElem?_eq_getElem hj, Option.getD_some]
    exact Prod.ext h.1.2 h.2
  · rintro ⟨j, hj, h, hv⟩
    simp only [List.getD, List.getElem?_eq_getElem hj, Option.getD_some] at h
    exact ⟨l[j], List.getElem_mem hj, by rw [h]; simpa using hv⟩
theorem getD_set' {α : Type} {l : List α} {i j : Nat} {s d : α} (h : i < l.length) : (l.set i s).getD j d = if j = i then s else l.getD j d := by
  by_cases e : j = i
  · subst e; simp [List.getD, h]
  · rw [if_neg e]; simp [List.getD, List.getElem?_set_ne (Ne.symm e)]
theorem mem_getD {α : Type} {l : List α} {i : Nat} {d : α} (h : i < l.length) : l.getD i d ∈ l := by
  simp only [List.getD, List.getElem?_eq_getElem h, Option.getD_some]; exact List.getElem_mem h

end Go.Proofs.YtlkhpbjjimjhbaaDoor.Vec
