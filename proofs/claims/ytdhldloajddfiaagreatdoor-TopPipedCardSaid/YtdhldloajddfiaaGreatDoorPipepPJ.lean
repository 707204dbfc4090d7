/-
 The conditions, proved.
-/
import Derived.Test.YtdhldloajddfiaaGreatDoorPipepE
namespace Go.Proofs.YtdhldloajddfiaaGreatDoor.Pipep
open Go.Sx
set_option maxRecDepth 100000
set_option maxHeartbeats 1000000
set_option linter.unusedSimpArgs false
set_option linter.unusedVariables false

theorem right_c {h : List Int} {w r : Int} (hr : right (h, w, r) = true) : h.length ≤ 64 ∧ (0 ≤ w ∧ w ≤ 1099511627776) ∧ (0 ≤ r ∧ r ≤ 1099511627776) := by
 unfold right at hr
 simp only [Bool.and_eq_true, decide_eq_true_eq] at hr
 omega
theorem take_min {l : List Int} {v : Int} : l.take (min v l.length).toNat = l.take v.toNat := by
 by_cases h : v ≤ l.length
 ·rw [show min v (l.length : Int) = v by omega]
 ·rw [show min v (l.length : Int) = l.length by omega, List.take_of_length_le (by omega), List.take_of_length_le (by omega)]
theorem drop_min {l : List Int} {v : Int} : l.drop (min v l.length).toNat = l.drop v.toNat := by
 by_cases h : v ≤ l.length
 ·rw [show min v (l.length : Int) = v by omega]
 ·rw [show min v (l.length : Int) = l.length by omega, List.drop_of_length_le (by omega), List.drop_of_length_le (by omega)]
theorem take_all {l : List Int} : l.take (l.length : Int).toNat = l := by simp
theorem st_bad {p : PT} {o : Int × Int × List Int} {e : Int} (h : step p o = bad e) : ([], 0, 0) = (step p o).1 ∧ 0 = (step p o).2.1 ∧ [] = (step p o).2.2.1 ∧ e = (step p o).2.2.2.1 := by rw [h]; exact ⟨rfl, rfl, rfl, rfl⟩
theorem st_fin {p q : PT} {o : Int × Int × List Int} {n : Int} {l : List Int} (h : step p o = fin q n l) : q = (step p o).1 ∧ n = (step p o).2.1 ∧ l = (step p o).2.2.1 ∧ 0 = (step p o).2.2.2.1 := by rw [h]; exact ⟨rfl, rfl, rfl, rfl⟩
theorem e_step (x : (List Int × Int × Int) × (Int × Int × List Int) × Unit) (hp : x.2.1.2.2.length ≤ 140737488355328) (hl : LensL cStep.as x) : E_step x := by
 obtain ⟨⟨h, w, r⟩, ⟨k, m, d⟩, u⟩ := x
 have hd : d.length ≤ 140737488355328 := hp
 clear hp
 clear hl
 unfold E_step
 delta qstep_t1 qstep_1 qstep_6 qstep_8 qstep_9 qstep_11 qstep_12 qstep_14 qstep_16 qstep_2 qstep_3 qstep_4 qstep_7 qstep_10 qstep_13 qstep_15 qstep_5
 simp only [Bool.not_eq_true', Bool.not_eq_false', Bool.not_eq_true, Bool.not_eq_false, beq_self_eq_true, decide_eq_true_eq, decide_eq_false_iff_not, Bool.not_false, Bool.not_true, beq_iff_eq, beq_eq_false_iff_ne, bne_iff_ne, ne_eq, bne_eq_false_iff_eq, holds_iff, true_and, and_true, and_self, eq_self, List.length_cons, List.length_nil, List.length_append, List.length_set, List.length_replicate, List.set_cons_zero, cond_true, cond_false, Bool.false_eq_true, Bool.true_eq_false, forall_const, false_imp_iff, imp_self, implies_true, and_imp, Decidable.not_not, Bool.and_eq_true, Bool.or_eq_true, Bool.and_eq_false_iff, Bool.or_eq_false_iff, ← List.length_eq_zero_iff, or_self, or_false, false_or, Prod.forall, Int.reduceEq, Int.reduceLT, Int.reduceLE, List.nil_append, Nat.zero_add, Int.toNat_zero, List.drop_zero, List.length_drop, List.length_take, not_true_eq_false, not_false_eq_true,  pair_eta, take_min, drop_min, take_all]
 refine ⟨fun hr => st_bad (by unfold step; rw [if_pos hr]), fun hr => ?_⟩
 obtain ⟨h1, h2, h3⟩ := right_c hr
 have hs : step (h, w, r) (k, m, d) = (if k = 1 then (if w = 0 then bad 6 else if r = 0 then bad 3 else if full (h, w, r) d = true then bad 7
  else fin (h ++ d.take (64 - h.length), w, r) (min (64 - h.length : Int) d.length) [])
 else if k = 2 then (if r = 0 then bad 6 else if m < 1 then bad 2 else if h = [] ∧ 0 < w then bad 7
  else fin (h.drop m.toNat, w, r) 0 (h.take m.toNat))
 else if k = 3 then (if w = 1099511627776 then bad 4 else fin (h, w + 1, r) 0 [])
 else if k = 4 then (if r = 1099511627776 then bad 4 else fin (h, w, r + 1) 0 [])
 else if k = 5 then (if w = 0 then bad 3 else fin (h, w - 1, r) 0 [])
 else if k = 6 then (if r = 0 then bad 3 else fin (h, w, r - 1) 0 [])
 else bad 5) := by unfold step; rw [if_neg (by rw [hr]; simp)]
 have hf : full (h, w, r) d = true ↔ (64 < h.length + d.length ∧ (h.length = 64 ∨ d.length ≤ 16)) := by simp [full]
 clear hr
 repeat' (first | (apply st_bad; rw [hs]) | (apply st_fin; rw [hs]) | with_reducible apply And.intro | with_reducible intro _)
 all_goals try omega
 all_goals simp only [hf, ← List.length_eq_zero_iff]
 all_goals try rw [show (64 - (h.length : Int)).toNat = 64 - h.length by omega]
 all_goals (repeat' split) <;> first | rfl | omega
theorem e_right (x : (List Int × Int × Int) × Unit) (_ : True) (hl : LensL cRight.as x) : E_right x := by
 obtain ⟨⟨h, w, r⟩, u⟩ := x
 clear hl
 unfold E_right right
 delta qright_3 qright_1 qright_2 qright_4 qright_5
 simp only [Bool.not_eq_true', Bool.not_eq_false', Bool.not_eq_true, Bool.not_eq_false, beq_self_eq_true, decide_eq_true_eq, decide_eq_false_iff_not, Bool.not_false, Bool.not_true, beq_iff_eq, beq_eq_false_iff_ne, bne_iff_ne, ne_eq, bne_eq_false_iff_eq, holds_iff, true_and, and_true, and_self, eq_self, List.length_cons, List.length_nil, List.length_append, List.length_set, List.length_replicate, List.set_cons_zero, cond_true, cond_false, Bool.false_eq_true, Bool.true_eq_false, forall_const, false_imp_iff, imp_self, implies_true, and_imp, Decidable.not_not, Bool.and_eq_true, Bool.or_eq_true, Bool.and_eq_false_iff, Bool.or_eq_false_iff, ← List.length_eq_zero_iff, or_self, or_false, false_or, Prod.forall, Int.reduceEq, Int.reduceLT, Int.reduceLE, List.nil_append, Nat.zero_add, Int.toNat_zero, List.drop_zero, List.length_drop, List.length_take, not_true_eq_false, not_false_eq_true,  pair_eta]
 ((try rw [Bool.eq_iff_iff]); (try simp only [eq_self, natlit_lt, natlit_le, lit_lt, lit_le, natlit_eq, Bool.and_eq_true, Bool.or_eq_true, Bool.and_eq_false_iff, Bool.or_eq_false_iff, Bool.not_eq_true', Bool.not_eq_false', Bool.not_eq_true, Bool.not_eq_false, decide_eq_true_eq, decide_eq_false_iff_not, beq_iff_eq, beq_eq_false_iff_ne, bne_iff_ne, ne_eq, bne_eq_false_iff_eq, Decidable.not_not, Bool.false_eq_true, Bool.true_eq_false]); (try simp only [flip_f, flip_t]); (try simp only [eq_self, natlit_lt, natlit_le, lit_lt, lit_le, natlit_eq, Bool.and_eq_true, Bool.or_eq_true, Bool.and_eq_false_iff, Bool.or_eq_false_iff, Bool.not_eq_true', Bool.not_eq_false', Bool.not_eq_true, Bool.not_eq_false, decide_eq_true_eq, decide_eq_false_iff_not, beq_iff_eq, beq_eq_false_iff_ne, bne_iff_ne, ne_eq, bne_eq_false_iff_eq, Decidable.not_not, Bool.false_eq_true, Bool.true_eq_false]); (try first | omega | grind))
theorem e_clone (x : List Int × Unit) (hx : x.1.length ≤ 140737488355328) (_ : LensL cClone.as x) : E_clone x := by
 unfold E_clone
 simp only [Bool.not_eq_true', Bool.not_eq_false', Bool.not_eq_true, Bool.not_eq_false, beq_self_eq_true, decide_eq_true_eq, decide_eq_false_iff_not, Bool.not_false, Bool.not_true, beq_iff_eq, beq_eq_false_iff_ne, bne_iff_ne, ne_eq, bne_eq_false_iff_eq, holds_iff, true_and, and_true, and_self, eq_self, List.length_cons, List.length_nil, List.length_append, List.length_set, List.length_replicate, List.set_cons_zero, cond_true, cond_false, Bool.false_eq_true, Bool.true_eq_false, forall_const, false_imp_iff, imp_self, implies_true, and_imp, Decidable.not_not, Bool.and_eq_true, Bool.or_eq_true, Bool.and_eq_false_iff, Bool.or_eq_false_iff, ← List.length_eq_zero_iff, or_self, or_false, false_or, Prod.forall, Int.reduceEq, Int.reduceLT, Int.reduceLE, List.nil_append, Nat.zero_add, Int.toNat_zero, List.drop_zero, List.length_drop, List.length_take, not_true_eq_false, not_false_eq_true]
 try simp only [flip_f, flip_t, decide_eq_true_eq, decide_eq_false_iff_not]
 intro b hb
 refine ⟨fun h => ?_, fun _ => by omega⟩
 have := hb h
 first | exact this.symm | (rw [this]) | (exact (List.length_eq_zero_iff.1 (by omega)).symm)
theorem split_c {a c : List Int} {m : Int} (h : a.length = 0 ∨ ¬ (c.length : Int) < m) (h' : (c.length : Int) ≤ m) : (c ++ a).drop m.toNat = a ∧ (c ++ a).take m.toNat = c := by
 rcases h with h | h
 ·have := List.length_eq_zero_iff.1 h
  subst this
  rw [List.append_nil]
  exact ⟨List.drop_of_length_le (by omega), List.take_of_length_le (by omega)⟩
 ·have : m.toNat = c.length := by omega
  rw [this]
  exact ⟨List.drop_left .., List.take_left ..⟩
theorem toNat1 : Int.toNat 1 = 1 := rfl
theorem step_len {p : PT} {o : Int × Int × List Int} (he : (step p o).2.2.2.1 = 0) : 2 * (step p o).2.2.1.length + (step p o).1.1.length ≤ p.1.length + 64 ∧ (step p o).2.2.1.length ≤ 64 := by
 obtain ⟨h, w, r⟩ := p
 by_cases hr : right (h, w, r) = false
 ·unfold step at he; rw [if_pos hr] at he; cases he
 ·have hr' : right (h, w, r) = true := by simpa using hr
  obtain ⟨h1, _, _⟩ := right_c hr'
  revert he
  unfold step
  rw [if_neg hr]
  simp only []
  repeat' split
  all_goals simp only [bad, fin]
  all_goals first | (intro he; cases he; done) | (intro _; simp only [List.length_append, List.length_take, List.length_drop, List.length_nil]; omega)
theorem pl_next {l : List (Int × Int × List Int)} {k : Int} (h0 : 0 ≤ k) (hk : k < l.length) : pl (l.take (k + 1).toNat) = one (pl (l.take k.toNat)) (l.getD k.toNat (0, 0, [])) := by
 unfold pl
 exact foldl_takeI (f := one) (b := (([], 1, 1), [], [])) (0, 0, []) h0 hk
theorem getD_mem {α : Type} {l : List α} {k : Int} (d : α) (h0 : 0 ≤ k) (hk : k < l.length) : l.getD k.toNat d ∈ l := by
 have h : k.toNat < l.length := by omega
 simp [List.getD, h]
theorem same_self (p : PT) : same p p = true := by simp [same]

end Go.Proofs.YtdhldloajddfiaaGreatDoor.Pipep
