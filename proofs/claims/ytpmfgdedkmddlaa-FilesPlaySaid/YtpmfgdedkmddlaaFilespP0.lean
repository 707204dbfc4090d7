/-
  FilesPlay: counting, first places, the small conditions.
-/
import Derived.Test.YtpmfgdedkmddlaaFilespE
namespace Go.Proofs.Ytpmfgdedkmddlaa.Filesp
open Go.Sx
set_option maxRecDepth 100000
set_option maxHeartbeats 1000000
set_option linter.unusedSimpArgs false
set_option linter.unusedVariables false

theorem takeI_succ {α : Type} (d : α) {l : List α} {k : Int} (h0 : 0 ≤ k) (h1 : k < l.length) : l.take (k + 1).toNat = l.take k.toNat ++ [l.getD k.toNat d] := by
  have e : (k + 1).toNat = k.toNat + 1 := by omega
  have hlt : k.toNat < l.length := by omega
  rw [e, List.take_add_one, List.getElem?_eq_getElem hlt]
  simp [hlt]
theorem takeI_all {α : Type} {l : List α} {k : Int} (h : (l.length : Int) ≤ k) : l.take k.toNat = l := List.take_of_length_le (by omega)
theorem idx_at {l : List Int} {x : Int} {k : Nat} (hk : k < l.length) (hn : (l.take k).idxOf? x = none) (hg : l.getD k 0 = x) : idx l x = k := by
  have e : l.idxOf? x = some k := by
    show l.findIdx? (· == x) = some k
    rw [List.findIdx?_eq_some_iff_getElem]
    refine ⟨hk, ?_, fun j hj => ?_⟩
    · have : l[k] = x := by rw [← hg]; simp [List.getD, hk]
      simp [this]
    · rw [List.idxOf?_eq_none_iff] at hn
      intro h
      have h : l[j] = x := by simpa using h
      exact hn (by rw [← h]; exact List.mem_take_iff_getElem.2 ⟨j, by omega, rfl⟩)
  unfold idx
  rw [e]
theorem idx_none {l : List Int} {x : Int} (h : l.idxOf? x = none) : idx l x = -1 := by
  unfold idx
  rw [h]
theorem take_none {l : List Int} {x : Int} {k : Int} (h0 : 0 ≤ k) (h1 : k < l.length) (hn : (l.take k.toNat).idxOf? x = none) (hg : ¬ l.getD k.toNat 0 = x) : (l.take (k + 1).toNat).idxOf? x = none := by
  rw [takeI_succ 0 h0 h1, List.idxOf?_eq_none_iff, List.mem_append]
  rw [List.idxOf?_eq_none_iff] at hn
  rintro (h | h)
  · exact hn h
  · exact hg (List.mem_singleton.1 h).symm
theorem cnt_nil (y : Int) : cnt y [] = 0 := rfl
theorem cnt_cons (y a : Int) (l : List Int) : cnt y (a :: l) = (if a = y then 1 else 0) + cnt y l := by
  unfold cnt
  rw [List.countP_cons]
  by_cases h : a = y <;> simp [h] <;> omega
theorem cnt_app (y : Int) (l m : List Int) : cnt y (l ++ m) = cnt y l + cnt y m := by
  unfold cnt
  rw [List.countP_append]
  omega
theorem cnt_pos (y : Int) (l : List Int) : 0 ≤ cnt y l ∧ cnt y l ≤ l.length := by
  unfold cnt
  have := List.countP_le_length (p := fun x => decide (x = y)) (l := l)
  omega
theorem cnt_set {y v : Int} : ∀ {l : List Int} {j : Nat}, j < l.length → cnt y (l.set j v) = cnt y l - (if l.getD j 0 = y then 1 else 0) + (if v = y then 1 else 0)
  | [], _, h => by simp at h
  | a :: l, 0, _ => by
    simp only [List.set_cons_zero, cnt_cons, List.getD_cons_zero]
    omega
  | a :: l, j + 1, h => by
    have ih := cnt_set (y := y) (v := v) (l := l) (j := j) (by simpa using h)
    simp only [List.set_cons_succ, cnt_cons, List.getD_cons_succ, ih]
    omega
theorem cntM_cons (y : Int) (r : List Int) (m : List (List Int)) : cntM y (r :: m) = cnt y r + cntM y m := by
  unfold cntM
  rw [List.flatten_cons, cnt_app]
theorem cntM_nil (y : Int) : cntM y [] = 0 := rfl
theorem cntM_app (y : Int) (m n : List (List Int)) : cntM y (m ++ n) = cntM y m + cntM y n := by
  unfold cntM
  rw [List.flatten_append, cnt_app]
theorem cntM_pos (y : Int) : ∀ (m : List (List Int)), 0 ≤ cntM y m
  | [] => by simp [cntM_nil]
  | r :: m => by
    rw [cntM_cons]
    have := cntM_pos y m
    have := cnt_pos y r
    omega
theorem cntM_set {y : Int} {r : List Int} : ∀ {m : List (List Int)} {p : Nat}, p < m.length → cntM y (m.set p r) = cntM y m - cnt y (m.getD p []) + cnt y r
  | [], _, h => by simp at h
  | a :: m, 0, _ => by
    simp only [List.set_cons_zero, cntM_cons, List.getD_cons_zero]
    omega
  | a :: m, p + 1, h => by
    have ih := cntM_set (y := y) (r := r) (m := m) (p := p) (by simpa using h)
    simp only [List.set_cons_succ, cntM_cons, List.getD_cons_succ, ih]
    omega
/- One number of one process turned. -/
theorem cntM_put {m : List (List Int)} {p j : Nat} {v y : Int} (hp : p < m.length) (hj : j < (m.getD p []).length) :
    cntM y (m.set p ((m.getD p []).set j v)) = cntM y m - (if (m.getD p []).getD j 0 = y then 1 else 0) + (if v = y then 1 else 0) := by
  rw [cntM_set hp, cnt_set hj]
  omega
theorem cnt_rep {y : Int} (h : y ≠ 0) (n : Nat) : cnt y (List.replicate n 0) = 0 := by
  unfold cnt
  rw [List.countP_replicate]
  have : ¬ (0 : Int) = y := fun e => h e.symm
  simp [this]
theorem e_equal (x : List FA × List FA × Unit) (_ : True) (hl : LensL cEqual.as x) : E_equal x := by
  obtain ⟨xs, ys, u⟩ := x
  have hlx : xs.length ≤ 9223372036854775807 := hl.1.1
  unfold E_equal
  simp only [Bool.not_eq_true', Bool.not_eq_false', Bool.not_eq_true, Bool.not_eq_false, beq_self_eq_true, decide_eq_true_eq, decide_eq_false_iff_not, Bool.not_false, Bool.not_true, beq_iff_eq, beq_eq_false_iff_ne, bne_iff_ne, ne_eq, bne_eq_false_iff_eq, holds_iff, true_and, and_true, and_self, eq_self, List.length_cons, List.length_nil, List.length_append, List.length_set, List.length_replicate, List.set_cons_zero, cond_true, cond_false, Bool.false_eq_true, Bool.true_eq_false, forall_const, false_imp_iff, imp_self, implies_true, and_imp, Decidable.not_not, Bool.and_eq_true, Bool.or_eq_true, Bool.and_eq_false_iff, Bool.or_eq_false_iff, ← List.length_eq_zero_iff, or_self, or_false, false_or, Prod.forall, Int.reduceEq, Int.reduceLT, Int.reduceLE, List.nil_append, Nat.zero_add, Int.toNat_zero, List.drop_zero, List.length_drop, List.length_take, not_true_eq_false, not_false_eq_true,  pair_eta, deq_iff, deq_false]
  repeat' (first | with_reducible apply And.intro | with_reducible intro _)
  all_goals try omega
  all_goals grind [takeI_succ, takeI_all]

end Go.Proofs.Ytpmfgdedkmddlaa.Filesp
