/-
  RunqPlays: the reference's list, a step at a time.
-/
import Derived.Test.YtpmfgdedkmddlaaRunqP0
namespace Go.Proofs.Ytpmfgdedkmddlaa.Runq
open Go.Sx
set_option maxRecDepth 100000
set_option maxHeartbeats 1000000
set_option linter.unusedSimpArgs false
set_option linter.unusedVariables false

theorem take_len {α : Type} {l : List α} : l.take (l.length : Int).toNat = l := by simp
theorem del_eq {α : Type} {a V W : List α} {i j n m : Nat} (hj : j = i + 1) (hi : i < a.length) (hn : n = i + (a.length - j)) (hm : m = n) :
    (((a.take i ++ (a.drop j ++ V)).take m ++ W).take n) = a.take i ++ a.drop (i + 1) := by
  subst hm
  subst hj
  have hl : (a.take i ++ a.drop (i + 1)).length = m := by rw [List.length_append, List.length_take, List.length_drop]; omega
  rw [← List.append_assoc, ← hl, List.take_left, List.take_left]
theorem runQ_next {ops : List RO} {k : Int} {l : QL} {e t : List Int} (h0 : 0 ≤ k) (h1 : k < ops.length) (h : runQ (ops.take k.toNat) = (l, e, t)) : runQ (ops.take (k + 1).toNat) = stQ (l, e, t) (opAt ops k) := by
  rw [takeI_succ (0, 0, 0) h0 h1]
  unfold runQ at h ⊢
  rw [List.foldl_append, h]
  rfl
theorem isAdd_iff {o : RO} : isAdd o ↔ o.1 = 1 ∨ o.1 = 2 := Iff.rfl
theorem st_err {l : QL} {e t : List Int} {o : RO} {n : Int} (h : errQ l o = n) (hn : n ≠ 0) : stQ (l, e, t) o = (l, e ++ [n], t) := by
  unfold stQ nextQ
  simp only [h]
  rw [if_pos hn, if_neg (fun g => hn g.1)]
theorem err5 {l : QL} {o : RO} (h : o.1 < 1 ∨ 4 < o.1) : errQ l o = 5 := by unfold errQ; rw [if_pos h]
theorem err2 {l : QL} {o : RO} (h : o.1 = 1 ∨ o.1 = 2) (h2 : o.2.2 < 0 ∨ 31 < o.2.2) : errQ l o = 2 := by
  unfold errQ; rw [if_neg (by omega), if_pos ⟨h, h2⟩]
theorem err6 {l : QL} {o : RO} (h : o.1 = 1 ∨ o.1 = 2) (h2 : ¬ (o.2.2 < 0 ∨ 31 < o.2.2)) (h3 : 0 ≤ posQ l o.2.1) : errQ l o = 6 := by
  unfold errQ; rw [if_neg (by omega), if_neg (fun g => h2 g.2), if_pos ⟨h, h3⟩]
theorem err_add {l : QL} {o : RO} (h : o.1 = 1 ∨ o.1 = 2) (h2 : ¬ (o.2.2 < 0 ∨ 31 < o.2.2)) (h3 : ¬ 0 ≤ posQ l o.2.1) : errQ l o = 0 := by
  unfold errQ; rw [if_neg (by omega), if_neg (fun g => h2 g.2), if_neg (fun g => h3 g.2), if_pos (isAdd_iff.2 h)]
theorem err3 {l : QL} {o : RO} (h : (o.1 = 3 ∧ l = []) ∨ (o.1 = 4 ∧ posQ l o.2.1 < 0)) : errQ l o = 3 := by
  have hn : ¬ isAdd o := by rw [isAdd_iff]; omega
  unfold errQ; rw [if_neg (by omega), if_neg (fun g => hn g.1), if_neg (fun g => hn g.1), if_neg hn, if_pos h]
theorem err_take {l : QL} {o : RO} (h : o.1 = 3) (h2 : l ≠ []) : errQ l o = 0 := by
  have hn : ¬ isAdd o := by rw [isAdd_iff]; omega
  unfold errQ; rw [if_neg (by omega), if_neg (fun g => hn g.1), if_neg (fun g => hn g.1), if_neg hn, if_neg]
  rintro (g | g)
  · exact h2 g.2
  · omega
theorem err_drop {l : QL} {o : RO} (h : o.1 = 4) (h2 : 0 ≤ posQ l o.2.1) : errQ l o = 0 := by
  have hn : ¬ isAdd o := by rw [isAdd_iff]; omega
  unfold errQ; rw [if_neg (by omega), if_neg (fun g => hn g.1), if_neg (fun g => hn g.1), if_neg hn, if_neg]
  rintro (g | g)
  · omega
  · omega
theorem st_add {l : QL} {e t : List Int} {o : RO} {k : Int} (h : o.1 = 1 ∨ o.1 = 2) (h2 : ¬ (o.2.2 < 0 ∨ 31 < o.2.2)) (h3 : ¬ 0 ≤ posQ l o.2.1) (hk : k = inQ l o) :
    stQ (l, e, t) o = (insA l k [(o.2.1, o.2.2)], e ++ [0], t) := by
  have := err_add h h2 h3
  unfold stQ nextQ
  simp only [this]
  rw [if_neg (by omega), if_pos (isAdd_iff.2 h), if_neg (by omega), hk]
  rfl
theorem st_take {l : QL} {e t : List Int} {o : RO} (h : o.1 = 3) (h2 : l ≠ []) : stQ (l, e, t) o = (l.drop 1, e ++ [0], t ++ [(l.getD 0 (0, 0)).1]) := by
  have := err_take h h2
  unfold stQ nextQ
  simp only [this]
  rw [if_neg (by omega), if_neg (by rw [isAdd_iff]; omega), if_pos h, if_pos ⟨trivial, h⟩]
theorem st_drop {l : QL} {e t : List Int} {o : RO} (h : o.1 = 4) (h2 : 0 ≤ posQ l o.2.1) : stQ (l, e, t) o = (l.take (posQ l o.2.1).toNat ++ l.drop ((posQ l o.2.1).toNat + 1), e ++ [0], t) := by
  have := err_drop h h2
  unfold stQ nextQ
  simp only [this]
  rw [if_neg (by omega), if_neg (by rw [isAdd_iff]; omega), if_neg (by omega), if_neg (fun g => by have := g.2; omega), List.eraseIdx_eq_take_drop_succ]
/- Where one is put in: a step of the search. -/
def bef (o : RO) (e : Int × Int) : Bool := decide (o.2.2 < e.2) || (decide (o.1 = 1) && decide (e.2 = o.2.2))
theorem bef_iff {o : RO} {e : Int × Int} : bef o e = true ↔ o.2.2 < e.2 ∨ (o.1 = 1 ∧ e.2 = o.2.2) := by unfold bef; simp
theorem inQ_eq {l : QL} {o : RO} : inQ l o = (l.takeWhile (bef o)).length := rfl
theorem inQ_le {l : QL} {o : RO} : inQ l o ≤ l.length := by
  rw [inQ_eq]
  exact (List.takeWhile_sublist _).length_le
theorem inQ_get {l : QL} {o : RO} (h : inQ l o < l.length) : bef o (l.getD (inQ l o) (0, 0)) = false := by
  induction l with
  | nil => simp at h
  | cons a l ih =>
    rw [inQ_eq, List.takeWhile_cons] at h ⊢
    cases hb : bef o a with
    | false => simp only [hb, Bool.false_eq_true, if_false, List.length_nil]; exact hb
    | true =>
      simp only [hb, if_true, List.length_cons, List.getD_cons_succ] at h ⊢
      exact ih (by rw [inQ_eq]; omega)
theorem inQ_bef {l : QL} {o : RO} {k : Nat} (h : k < inQ l o) : bef o (l.getD k (0, 0)) = true := by
  induction l generalizing k with
  | nil => simp [inQ] at h
  | cons a l ih =>
    rw [inQ_eq, List.takeWhile_cons] at h
    cases hb : bef o a with
    | false => simp [hb] at h
    | true =>
      simp only [hb, if_true, List.length_cons] at h
      cases k with
      | zero => exact hb
      | succ k => exact ih (by rw [inQ_eq]; omega)
theorem inQ_step {l : QL} {o : RO} {k : Int} (h0 : 0 ≤ k) (h1 : k < l.length) (h2 : k ≤ (inQ l o : Int)) (hb : o.2.2 < (l.getD k.toNat (0, 0)).2 ∨ (o.1 = 1 ∧ (l.getD k.toNat (0, 0)).2 = o.2.2)) : k + 1 ≤ (inQ l o : Int) := by
  rcases Int.lt_or_le k (inQ l o) with g | g
  · omega
  · have e : inQ l o = k.toNat := by omega
    have := inQ_get (l := l) (o := o) (by omega)
    rw [e, Bool.eq_false_iff] at this
    exact absurd (bef_iff.2 hb) this
theorem inQ_stop {l : QL} {o : RO} {k : Int} (h0 : 0 ≤ k) (h1 : k < l.length) (h2 : k ≤ (inQ l o : Int)) (hb : ¬ o.2.2 < (l.getD k.toNat (0, 0)).2) (hc : ¬ (o.1 = 1 ∧ (l.getD k.toNat (0, 0)).2 = o.2.2)) : k = (inQ l o : Int) := by
  rcases Int.lt_or_le k (inQ l o) with g | g
  · have := bef_iff.1 (inQ_bef (l := l) (o := o) (k := k.toNat) (by omega))
    rcases this with g | g
    · exact absurd g hb
    · exact absurd g hc
  · omega
theorem ins_len {l : QL} {k : Int} {p : Int × Int} (h0 : 0 ≤ k) (h1 : k ≤ l.length) : (insA l k [p]).length = l.length + 1 := by
  unfold insA
  simp only [List.length_append, List.length_take, List.length_drop, List.length_cons, List.length_nil]
  omega
theorem ids_succ {l : QL} {k : Int} (h0 : 0 ≤ k) (h1 : k < l.length) : ids (l.take (k + 1).toNat) = ids (l.take k.toNat) ++ [(l.getD k.toNat (0, 0)).1] := by
  rw [takeI_succ (0, 0) h0 h1]
  unfold ids
  rw [List.map_append]
  rfl

end Go.Proofs.Ytpmfgdedkmddlaa.Runq
