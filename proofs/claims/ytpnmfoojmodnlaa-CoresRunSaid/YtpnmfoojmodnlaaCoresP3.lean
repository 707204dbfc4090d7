/-
  CoresRun: the reference.
-/
import Derived.Test.YtpnmfoojmodnlaaCoresP2
namespace Go.Proofs.Ytpnmfoojmodnlaa.Cores
open Go.Sx
set_option maxRecDepth 100000
set_option maxHeartbeats 1000000
set_option linter.unusedSimpArgs false
set_option linter.unusedVariables false

theorem wr_zero {n sl : Int} {l : List Th} (h : wr n sl l = 0) : okA n sl l ∧ l.all okT = true := by
  unfold wr at h
  split at h
  · assumption
  · cases h
theorem none_all {P : Int → Bool} {l : List Int} (ha : l.any P = false) : l.filter (fun y => !P y) = l := by
  rw [List.filter_eq_self]
  intro y hy
  rw [List.any_eq_false] at ha
  have := ha y hy
  cases hp : P y with
  | true => exact absurd hp this
  | false => rfl
theorem df_init {P : Int → Bool} {l : List Int} {j : Int} (h0 : 0 ≤ j) (h : j < l.length) (ha : (l.take j.toNat).any P = false) (h1 : P (l.getD j.toNat 0) = true) : l.take j.toNat = (l.take (j + 1).toNat).filter (fun y => !P y) := by
  rw [takeI_succ 0 h0 h, List.filter_append, none_all ha, List.filter_cons_of_neg (by rw [h1]; decide), List.filter_nil, List.append_nil]
theorem drop_get {w l : List Int} {j : Int} (h0 : 0 ≤ j) (h : j < w.length) (hw : w.length = l.length) (hd : w.drop j.toNat = l.drop j.toNat) : w.getD j.toNat 0 = l.getD j.toNat 0 ∧ w.drop (j + 1).toNat = l.drop (j + 1).toNat := by
  have h1 : j.toNat < w.length := by omega
  have h2 : j.toNat < l.length := by omega
  rw [List.drop_eq_getElem_cons h1, List.drop_eq_getElem_cons h2] at hd
  injection hd with h3 h4
  rw [show (j + 1).toNat = j.toNat + 1 by omega]
  exact ⟨by simp [List.getD, h1, h2, h3], h4⟩
theorem df_skip {P : Int → Bool} {w l : List Int} {i j : Int} (h0 : 0 ≤ j) (h : j < w.length) (hw : w.length = l.length) (ht : w.take i.toNat = (l.take j.toNat).filter (fun y => !P y)) (hd : w.drop j.toNat = l.drop j.toNat) (h1 : P (w.getD j.toNat 0) = true) :
    w.take i.toNat = (l.take (j + 1).toNat).filter (fun y => !P y) ∧ w.drop (j + 1).toNat = l.drop (j + 1).toNat := by
  obtain ⟨h2, h3⟩ := drop_get h0 h hw hd
  refine ⟨?_, h3⟩
  rw [takeI_succ 0 h0 (by omega), List.filter_append, List.filter_cons_of_neg (by rw [← h2, h1]; decide), List.filter_nil, List.append_nil, ht]
theorem df_keep {P : Int → Bool} {w l : List Int} {i j : Int} (hi : 0 ≤ i) (hij : i ≤ j) (h : j < w.length) (hw : w.length = l.length) (ht : w.take i.toNat = (l.take j.toNat).filter (fun y => !P y)) (hd : w.drop j.toNat = l.drop j.toNat) (h1 : P (w.getD j.toNat 0) = false) :
    (w.set i.toNat (w.getD j.toNat 0)).take (i + 1).toNat = (l.take (j + 1).toNat).filter (fun y => !P y) ∧ (w.set i.toNat (w.getD j.toNat 0)).drop (j + 1).toNat = l.drop (j + 1).toNat := by
  obtain ⟨h2, h3⟩ := drop_get (by omega) h hw hd
  have hlen : i < (w.set i.toNat (w.getD j.toNat 0)).length := by rw [List.length_set]; omega
  refine ⟨?_, ?_⟩
  · rw [takeI_succ 0 hi hlen, takeI_succ 0 (show 0 ≤ j by omega) (by omega), List.filter_append, List.filter_cons_of_pos (by rw [← h2, h1]; rfl), List.filter_nil, ← ht, ← h2]
    congr 1
    · rw [List.take_set_of_le (Nat.le_refl _)]
    · have : i.toNat < w.length := by omega
      simp [List.getD, this]
  · rw [List.drop_set_of_lt (by omega), h3]
theorem df_view {w : List Int} {i : Int} {r : List Int} (hi : i ≤ w.length) : List.take i.toNat (List.take i.toNat w ++ r) = w.take i.toNat := by
  rw [List.take_append_of_le_length (by rw [List.length_take]; omega), List.take_take, Nat.min_self]
theorem df_end {P : Int → Bool} {w l : List Int} {i j : Int} (hi : i ≤ w.length) (h : ¬ j < w.length) (hw : w.length = l.length) (ht : w.take i.toNat = (l.take j.toNat).filter (fun y => !P y)) (r : List Int) : List.take i.toNat (List.take i.toNat w ++ r) = l.filter (fun y => !P y) := by
  rw [df_view hi, ht, takeI_all (by omega)]
theorem sel_snoc {l : List Th} {left line : List Int} {lev j : Int} (h0 : 0 ≤ j) (h1 : j < line.length) :
    selL l left (line.take (j + 1).toNat) lev = selL l left (line.take j.toNat) lev ++ if (th l (line.getD j.toNat 0)).2.1 = lev ∧ 0 < left.getD (line.getD j.toNat 0).toNat 0 then [line.getD j.toNat 0] else [] := by
  unfold selL
  rw [takeI_succ 0 h0 h1, List.filter_append]
  congr 1
  rw [List.filter_cons]
  by_cases h : (th l (line.getD j.toNat 0)).2.1 = lev ∧ 0 < left.getD (line.getD j.toNat 0).toNat 0
  · rw [if_pos h, if_pos (by rw [decide_eq_true h.1, decide_eq_true h.2]; rfl)]; rfl
  · rw [if_neg h, if_neg (by rw [Bool.and_eq_true, decide_eq_true_eq, decide_eq_true_eq]; exact h)]; rfl
theorem take_put {xs a : List Int} {N : Nat} {y : Int} (h : a = xs.take N) (hl : a.length < N) : a ++ [y] = (xs ++ [y]).take N := by
  subst h
  rw [List.length_take] at hl
  rw [List.take_append, List.take_of_length_le (by omega : xs.length ≤ N), List.take_of_length_le (by simp; omega)]
theorem take_full {xs a : List Int} {N : Nat} {zs : List Int} (h : a = xs.take N) (hl : N ≤ a.length) : a = (xs ++ zs).take N := by
  subst h
  rw [List.length_take] at hl
  rw [List.take_append, show N - xs.length = 0 by omega]
  simp
theorem idx_iff {l : List Int} {x : Int} : (idx l x = -1 ∧ x ∉ l) ∨ (0 ≤ idx l x ∧ idx l x < l.length ∧ l.getD (idx l x).toNat 0 = x ∧ (l.take (idx l x).toNat).idxOf? x = none) := by
  unfold idx
  cases h : l.idxOf? x with
  | none => exact .inl ⟨rfl, List.idxOf?_eq_none_iff.1 h⟩
  | some i =>
    refine .inr ?_
    have h : l.findIdx? (· == x) = some i := h
    rw [List.findIdx?_eq_some_iff_getElem] at h
    obtain ⟨h1, h2, h3⟩ := h
    refine ⟨by simp, by simpa using h1, ?_, ?_⟩
    · simp only [Int.toNat_natCast]
      rw [List.getD_eq_getElem?_getD, List.getElem?_eq_getElem h1]
      simpa using h2
    · simp only [Int.toNat_natCast]
      rw [List.idxOf?_eq_none_iff]
      intro hm
      obtain ⟨j, hj, he⟩ := List.mem_take_iff_getElem.1 hm
      have := h3 j (by omega)
      simp [he] at this
theorem fil_id {l : List Int} {y : Int} (h : y ∉ l) : l.filter (fun z => !decide (z = y)) = l := by
  rw [List.filter_eq_self]
  intro a ha
  have : a ≠ y := fun e => h (e ▸ ha)
  simp [this]
theorem any_none {l : List Int} {y : Int} (h : l.idxOf? y = none) : l.any (fun z => decide (z = y)) = false := by
  rw [List.idxOf?_eq_none_iff] at h
  rw [List.any_eq_false]
  intro a ha
  have : a ≠ y := fun e => h (e ▸ ha)
  simp [this]
theorem fil_len (l : List Int) (y : Int) : (l.filter (fun z => !decide (z = y))).length ≤ l.length := List.length_filter_le _ _
theorem foldA_snoc {sl : Int} {a : List Int} {j : Int} (h0 : 0 ≤ j) (h1 : j < a.length) (q : NS) : (a.take (j + 1).toNat).foldl (stA sl) q = stA sl ((a.take j.toNat).foldl (stA sl) q) (a.getD j.toNat 0) := by
  rw [takeI_succ 0 h0 h1, List.foldl_append]; rfl

end Go.Proofs.Ytpnmfoojmodnlaa.Cores
