/-
  Sx, part Z: plain facts on lists that are read by integers.
-/
import Derived.Test.YtpnmfoojmodnlaaSxX
import Derived.Test.YtpnmfoojmodnlaaSxY
namespace Go.Sx

theorem getD_lt {α : Type} {xs : List α} {k : Nat} {d : α} (h : k < xs.length) : xs.getD k d = xs[k] := by
  simp [h]
theorem take_succ' {α : Type} {xs : List α} {k : Nat} (d : α) (h : k < xs.length) : xs.take (k + 1) = xs.take k ++ [xs.getD k d] := by
  rw [List.take_add_one, getD_lt h, List.getElem?_eq_getElem h]; rfl
theorem takeI_succ {α : Type} {xs : List α} {k : Int} (d : α) (h0 : 0 ≤ k) (h : k < xs.length) : xs.take (k + 1).toNat = xs.take k.toNat ++ [xs.getD k.toNat d] := by
  rw [show (k + 1).toNat = k.toNat + 1 by omega]
  exact take_succ' d (by omega)
theorem takeI_zero {α : Type} {xs : List α} {k : Int} (h : k ≤ 0) : xs.take k.toNat = [] := by rw [show k.toNat = 0 by omega]; rfl
theorem takeI_all {α : Type} {xs : List α} {k : Int} (h : xs.length ≤ k) : xs.take k.toNat = xs := List.take_of_length_le (by omega)
theorem getD_mem {α : Type} {xs : List α} {k : Nat} {d : α} (h : k < xs.length) : xs.getD k d ∈ xs := by
  rw [getD_lt h]; exact List.getElem_mem h
theorem all_takeI {α : Type} {p : α → Bool} {xs : List α} {k : Int} (d : α) (h0 : 0 ≤ k) (h : k < xs.length) : (xs.take (k + 1).toNat).all p = ((xs.take k.toNat).all p && p (xs.getD k.toNat d)) := by
  rw [takeI_succ d h0 h]; simp
theorem any_takeI {α : Type} {p : α → Bool} {xs : List α} {k : Int} (d : α) (h0 : 0 ≤ k) (h : k < xs.length) : (xs.take (k + 1).toNat).any p = ((xs.take k.toNat).any p || p (xs.getD k.toNat d)) := by
  rw [takeI_succ d h0 h]; simp
theorem foldl_takeI {α β : Type} {f : β → α → β} {b : β} {xs : List α} {k : Int} (d : α) (h0 : 0 ≤ k) (h : k < xs.length) : (xs.take (k + 1).toNat).foldl f b = f ((xs.take k.toNat).foldl f b) (xs.getD k.toNat d) := by
  rw [takeI_succ d h0 h]; simp
theorem all_false_of {α : Type} {p : α → Bool} {xs : List α} {k : Nat} {d : α} (h : k < xs.length) (hp : p (xs.getD k d) = false) : xs.all p = false := by
  rw [List.all_eq_false]
  exact ⟨xs.getD k d, getD_mem h, by rw [hp]; decide⟩
theorem any_true_of {α : Type} {p : α → Bool} {xs : List α} {k : Nat} {d : α} (h : k < xs.length) (hp : p (xs.getD k d) = true) : xs.any p = true := by
  rw [List.any_eq_true]
  exact ⟨xs.getD k d, getD_mem h, hp⟩
theorem ne_of_getD {α : Type} {xs ys : List α} {k : Nat} {d : α} (h : xs.getD k d ≠ ys.getD k d) : xs ≠ ys := fun e => h (by rw [e])
theorem ne_of_length {α : Type} {xs ys : List α} (h : (xs.length : Int) ≠ (ys.length : Int)) : xs ≠ ys := fun e => h (by rw [e])
theorem eq_of_take {α : Type} {xs ys : List α} {k : Int} (hl : (xs.length : Int) = (ys.length : Int)) (hk : (xs.length : Int) ≤ k) (h : xs.take k.toNat = ys.take k.toNat) : xs = ys := by
  rwa [takeI_all hk, takeI_all (by omega)] at h
end Go.Sx
