/-
  LiftGoes: the sorted list, its parts, its ends.
-/
import Derived.Test.YtpnmfoojmodnlaaLiftsP1
namespace Go.Proofs.Ytpnmfoojmodnlaa.Lifts
open Go.Sx
set_option maxRecDepth 100000
set_option maxHeartbeats 1000000
set_option linter.unusedSimpArgs false
set_option linter.unusedVariables false

theorem sortI_pm {l : List Int} : (sortI l).Perm l := List.mergeSort_perm _ _
theorem sortI_len {l : List Int} : (sortI l).length = l.length := sortI_pm.length_eq
theorem sortI_pw {l : List Int} : (sortI l).Pairwise (· ≤ ·) := by
  have := List.pairwise_mergeSort (le := fun x y : Int => decide (x ≤ y)) (fun a b c h h' => by simp only [decide_eq_true_eq] at *; omega) (fun a b => by simp only [Bool.or_eq_true, decide_eq_true_eq]; omega) l
  exact this.imp (fun h => by simpa using h)
theorem sortI_eq {s l : List Int} (h : s.Perm l) (hs : s.Pairwise (· ≤ ·)) : s = sortI l :=
  (h.trans sortI_pm.symm).eq_of_pairwise (fun _ _ _ _ h1 h2 => Int.le_antisymm h1 h2) hs sortI_pw
theorem filter_sort {l : List Int} {p : Int → Bool} : (sortI l).filter p = sortI (l.filter p) :=
  sortI_eq (sortI_pm.filter p) (sortI_pw.sublist List.filter_sublist)
theorem split_pw {s : List Int} {h : Int} (hs : s.Pairwise (· ≤ ·)) : s = s.filter (fun x => decide (x < h)) ++ s.filter (fun x => decide (h ≤ x)) := by
  induction s with
  | nil => rfl
  | cons a s ih =>
    rw [List.pairwise_cons] at hs
    by_cases ha : a < h
    · rw [List.filter_cons_of_pos (by simpa using ha), List.filter_cons_of_neg (by simp; omega), List.cons_append, ← ih hs.2]
    · have h1 : s.filter (fun x => decide (x < h)) = [] := by
        rw [List.filter_eq_nil_iff]
        intro b hb
        have := hs.1 b hb
        simp; omega
      have h2 : s.filter (fun x => decide (h ≤ x)) = s := by
        rw [List.filter_eq_self]
        intro b hb
        have := hs.1 b hb
        simp; omega
      rw [List.filter_cons_of_neg (by simpa using ha), h1, List.filter_cons_of_pos (by simp; omega), h2]
      rfl
theorem lb_len {l : List Int} {h : Int} : (lb l h).toNat = (l.filter (fun x => decide (x < h))).length := by
  unfold lb
  rw [Int.toNat_natCast, List.countP_eq_length_filter]
theorem lb_bd {l : List Int} {h : Int} : 0 ≤ lb l h ∧ lb l h ≤ l.length := by
  unfold lb
  have := List.countP_le_length (p := fun x => decide (x < h)) (l := l)
  omega
theorem take_lb {l : List Int} {h : Int} : (sortI l).take (lb (sortI l) h).toNat = down h l := by
  have e := split_pw (h := h) (sortI_pw (l := l))
  rw [lb_len]
  conv => lhs; arg 2; rw [e]
  rw [List.take_left]
  exact filter_sort
theorem drop_lb {l : List Int} {h : Int} : (sortI l).drop (lb (sortI l) h).toNat = up h l := by
  have e := split_pw (h := h) (sortI_pw (l := l))
  rw [lb_len]
  conv => lhs; arg 2; rw [e]
  rw [List.drop_left]
  exact filter_sort
theorem up_len {h : Int} {l : List Int} : (up h l).length ≤ l.length := by
  unfold up; rw [sortI_len]; exact List.length_filter_le _ _
theorem down_len {h : Int} {l : List Int} : (down h l).length ≤ l.length := by
  unfold down; rw [sortI_len]; exact List.length_filter_le _ _
theorem gmem {l : List Int} {i : Nat} (h : i < l.length) : l.getD i 0 ∈ l := by
  rw [List.getD_eq_getElem?_getD, List.getElem?_eq_getElem h]
  exact List.getElem_mem h
theorem foldmin {l : List Int} {a : Int} : (l.foldl min a = a ∨ l.foldl min a ∈ l) ∧ l.foldl min a ≤ a ∧ ∀ x ∈ l, l.foldl min a ≤ x := by
  induction l generalizing a with
  | nil => simp
  | cons b l ih =>
    rw [List.foldl_cons]
    obtain ⟨h1, h2, h3⟩ := ih (a := min a b)
    refine ⟨?_, by omega, fun x hx => ?_⟩
    · rcases h1 with h1 | h1
      · rw [h1]
        by_cases hab : a ≤ b
        · exact Or.inl (by omega)
        · exact Or.inr (by rw [show min a b = b by omega]; simp)
      · exact Or.inr (List.mem_cons_of_mem _ h1)
    · rcases List.mem_cons.1 hx with rfl | hx
      · omega
      · exact h3 x hx
theorem foldmax {l : List Int} {a : Int} : (l.foldl max a = a ∨ l.foldl max a ∈ l) ∧ a ≤ l.foldl max a ∧ ∀ x ∈ l, x ≤ l.foldl max a := by
  induction l generalizing a with
  | nil => simp
  | cons b l ih =>
    rw [List.foldl_cons]
    obtain ⟨h1, h2, h3⟩ := ih (a := max a b)
    refine ⟨?_, by omega, fun x hx => ?_⟩
    · rcases h1 with h1 | h1
      · rw [h1]
        by_cases hab : b ≤ a
        · exact Or.inl (by omega)
        · exact Or.inr (by rw [show max a b = b by omega]; simp)
      · exact Or.inr (List.mem_cons_of_mem _ h1)
    · rcases List.mem_cons.1 hx with rfl | hx
      · omega
      · exact h3 x hx
theorem mn_spec {l : List Int} (h : 0 < l.length) : mn l ∈ l ∧ ∀ x ∈ l, mn l ≤ x := by
  cases l with
  | nil => simp at h
  | cons a l =>
    have := foldmin (l := l) (a := a)
    show l.foldl min a ∈ a :: l ∧ ∀ x ∈ a :: l, l.foldl min a ≤ x
    refine ⟨?_, fun x hx => ?_⟩
    · rcases this.1 with h | h
      · rw [h]; simp
      · exact List.mem_cons_of_mem _ h
    · rcases List.mem_cons.1 hx with rfl | hx
      · exact this.2.1
      · exact this.2.2 x hx
theorem mx_spec {l : List Int} (h : 0 < l.length) : mx l ∈ l ∧ ∀ x ∈ l, x ≤ mx l := by
  cases l with
  | nil => simp at h
  | cons a l =>
    have := foldmax (l := l) (a := a)
    show l.foldl max a ∈ a :: l ∧ ∀ x ∈ a :: l, x ≤ l.foldl max a
    refine ⟨?_, fun x hx => ?_⟩
    · rcases this.1 with h | h
      · rw [h]; simp
      · exact List.mem_cons_of_mem _ h
    · rcases List.mem_cons.1 hx with rfl | hx
      · exact this.2.1
      · exact this.2.2 x hx
theorem mem_getD {l : List Int} {x : Int} (h : x ∈ l) : ∃ i, i < l.length ∧ l.getD i 0 = x := by
  obtain ⟨i, hi, rfl⟩ := List.mem_iff_getElem.1 h
  exact ⟨i, hi, by simp [List.getD, hi]⟩
theorem first_sort {l : List Int} (h : 0 < l.length) : (sortI l).getD 0 0 = mn l := by
  have hs : 0 < (sortI l).length := by rw [sortI_len]; exact h
  obtain ⟨h1, h2⟩ := mn_spec h
  have h3 := h2 _ (sortI_pm.mem_iff.1 (gmem hs))
  obtain ⟨i, hi, e⟩ := mem_getD (sortI_pm.mem_iff.2 h1)
  have := pw_get (sortI_pw (l := l)) (Nat.zero_le i) hi
  omega
theorem last_sort {l : List Int} (h : 0 < l.length) : (sortI l).getD (l.length - 1) 0 = mx l := by
  have hs : l.length - 1 < (sortI l).length := by rw [sortI_len]; omega
  obtain ⟨h1, h2⟩ := mx_spec h
  have h3 := h2 _ (sortI_pm.mem_iff.1 (gmem hs))
  obtain ⟨i, hi, e⟩ := mem_getD (sortI_pm.mem_iff.2 h1)
  have := pw_get (sortI_pw (l := l)) (show i ≤ l.length - 1 by rw [sortI_len] at hi; omega) hs
  omega
theorem okB_mem {l : List Int} (h : l.all okB = true) {x : Int} (hx : x ∈ l) : 0 ≤ x ∧ x ≤ 1099511627776 := okB_iff.1 (List.all_eq_true.1 h x hx)
theorem way_zero {h : Int} {l : List Int} (hw : (way h l).2 = 0) : l.length ≤ 400 ∧ l.all okB = true ∧ okB h = true ∧ wr l = 0 ∧ wr [h] = 0 := by
  unfold way at hw
  split at hw
  · cases hw
  · rename_i hh
    have h1 : wr l = 0 := by omega
    have h2 : wr [h] = 0 := by omega
    exact ⟨(wr_zero h1).1, (wr_zero h1).2, wr_one.1 h2, h1, h2⟩
theorem way_two {h : Int} {l : List Int} (hw : (way h l).2 ≠ 0) : (way h l).2 = 2 ∧ (way h l).1 = 0 := by
  unfold way at hw ⊢
  split at hw
  · rename_i hh; rw [if_pos hh]; exact ⟨rfl, rfl⟩
  · exact absurd rfl hw
theorem toNat0 : Int.toNat 0 = 0 := rfl
theorem two_flat {a b : List Int} : [a, b].flatten = a ++ b := by simp
theorem set_two {a b : List Int} : (([] :: [] :: ([] : List (List Int))).set 0 a).set 1 b = [a, b] := rfl
theorem e_sweep (x : Int × List Int × Unit) (hp : True) (hl : LensL cSweep.as x) : E_sweep x := by
  obtain ⟨h, l, u⟩ := x
  unfold E_sweep
  by_cases hw : (way h l).2 = 0
  · obtain ⟨hlen, hall, hok, _, _⟩ := way_zero hw
    have es : sweep h l = (up h l ++ down h l, 0) := by simp [sweep, hw]
    have hb := lb_bd (l := sortI l) (h := h)
    have hsl := sortI_len (l := l)
    have h1 := up_len (h := h) (l := l)
    have h2 := down_len (h := h) (l := l)
    rw [take_all, set_two, two_flat, toNat0, List.drop_zero, take_lb, drop_lb, hw, es]
    simp only [Bool.not_eq_true', Bool.not_eq_false', Bool.not_eq_true, Bool.not_eq_false, beq_self_eq_true, decide_eq_true_eq, decide_eq_false_iff_not, Bool.not_false, Bool.not_true, beq_iff_eq, beq_eq_false_iff_ne, bne_iff_ne, ne_eq, bne_eq_false_iff_eq, holds_iff, true_and, and_true, and_self, eq_self, List.length_cons, List.length_nil, List.length_append, List.length_set, List.length_replicate, List.set_cons_zero, cond_true, cond_false, Bool.false_eq_true, Bool.true_eq_false, forall_const, false_imp_iff, imp_self, implies_true, and_imp, Decidable.not_not, Bool.and_eq_true, Bool.or_eq_true, Bool.and_eq_false_iff, Bool.or_eq_false_iff, ← List.length_eq_zero_iff, or_self, or_false, false_or, Prod.forall, Int.reduceEq, Int.reduceLT, Int.reduceLE, List.nil_append, Nat.zero_add, Int.toNat_zero, List.drop_zero, List.length_drop, List.length_take, not_true_eq_false, not_false_eq_true,  hw]
    exact ⟨hlen, ⟨by omega, sortI_pw⟩, by omega, by omega, by omega⟩
  · have h2 := way_two hw
    have es : sweep h l = ([], 2) := by simp [sweep, hw]
    rw [es, h2.1]
    simp only [Bool.not_eq_true', Bool.not_eq_false', Bool.not_eq_true, Bool.not_eq_false, beq_self_eq_true, decide_eq_true_eq, decide_eq_false_iff_not, Bool.not_false, Bool.not_true, beq_iff_eq, beq_eq_false_iff_ne, bne_iff_ne, ne_eq, bne_eq_false_iff_eq, holds_iff, true_and, and_true, and_self, eq_self, List.length_cons, List.length_nil, List.length_append, List.length_set, List.length_replicate, List.set_cons_zero, cond_true, cond_false, Bool.false_eq_true, Bool.true_eq_false, forall_const, false_imp_iff, imp_self, implies_true, and_imp, Decidable.not_not, Bool.and_eq_true, Bool.or_eq_true, Bool.and_eq_false_iff, Bool.or_eq_false_iff, ← List.length_eq_zero_iff, or_self, or_false, false_or, Prod.forall, Int.reduceEq, Int.reduceLT, Int.reduceLE, List.nil_append, Nat.zero_add, Int.toNat_zero, List.drop_zero, List.length_drop, List.length_take, not_true_eq_false, not_false_eq_true,  h2.1]
    try grind
theorem e_short (x : Int × List Int × Unit) (hp : True) (hl : LensL cShort.as x) : E_short x := by
  obtain ⟨h, l, u⟩ := x
  unfold E_short
  by_cases hw : (way h l).2 = 0
  · obtain ⟨hlen, hall, hok, _, _⟩ := way_zero hw
    by_cases hz : l.length = 0
    · have es : short h l = ([], 0) := by simp [short, hw, hz]
      rw [es, hw]
      simp only [Bool.not_eq_true', Bool.not_eq_false', Bool.not_eq_true, Bool.not_eq_false, beq_self_eq_true, decide_eq_true_eq, decide_eq_false_iff_not, Bool.not_false, Bool.not_true, beq_iff_eq, beq_eq_false_iff_ne, bne_iff_ne, ne_eq, bne_eq_false_iff_eq, holds_iff, true_and, and_true, and_self, eq_self, List.length_cons, List.length_nil, List.length_append, List.length_set, List.length_replicate, List.set_cons_zero, cond_true, cond_false, Bool.false_eq_true, Bool.true_eq_false, forall_const, false_imp_iff, imp_self, implies_true, and_imp, Decidable.not_not, Bool.and_eq_true, Bool.or_eq_true, Bool.and_eq_false_iff, Bool.or_eq_false_iff, ← List.length_eq_zero_iff, or_self, or_false, false_or, Prod.forall, Int.reduceEq, Int.reduceLT, Int.reduceLE, List.nil_append, Nat.zero_add, Int.toNat_zero, List.drop_zero, List.length_drop, List.length_take, not_true_eq_false, not_false_eq_true,  hz]
      try grind
    · have es : short h l = (order h l, 0) := by simp [short, hw, hz]
      have hb := lb_bd (l := sortI l) (h := h)
      have hsl := sortI_len (l := l)
      have h1 := up_len (h := h) (l := l)
      have h2 := down_len (h := h) (l := l)
      have e1 : (((sortI l).length : Int) - 1).toNat = l.length - 1 := by omega
      have hho := okB_iff.1 hok
      have hmx := okB_mem hall (mx_spec (by omega)).1
      have hmn := okB_mem hall (mn_spec (by omega)).1
      rw [take_all, set_two, set_two, two_flat, two_flat, toNat0, List.drop_zero, take_lb, drop_lb, hw, es, e1, last_sort (l := l) (by omega), first_sort (l := l) (by omega)]
      simp only [Bool.not_eq_true', Bool.not_eq_false', Bool.not_eq_true, Bool.not_eq_false, beq_self_eq_true, decide_eq_true_eq, decide_eq_false_iff_not, Bool.not_false, Bool.not_true, beq_iff_eq, beq_eq_false_iff_ne, bne_iff_ne, ne_eq, bne_eq_false_iff_eq, holds_iff, true_and, and_true, and_self, eq_self, List.length_cons, List.length_nil, List.length_append, List.length_set, List.length_replicate, List.set_cons_zero, cond_true, cond_false, Bool.false_eq_true, Bool.true_eq_false, forall_const, false_imp_iff, imp_self, implies_true, and_imp, Decidable.not_not, Bool.and_eq_true, Bool.or_eq_true, Bool.and_eq_false_iff, Bool.or_eq_false_iff, ← List.length_eq_zero_iff, or_self, or_false, false_or, Prod.forall, Int.reduceEq, Int.reduceLT, Int.reduceLE, List.nil_append, Nat.zero_add, Int.toNat_zero, List.drop_zero, List.length_drop, List.length_take, not_true_eq_false, not_false_eq_true,  Nat.le_eq]
      refine ⟨fun hz' => absurd hz' (by omega), fun _ => ?_⟩
      have hpw := sortI_pw (l := l)
      have hle1 : (down h l).length.le 400 := by show (down h l).length ≤ 400; omega
      have hrl : (down h l).reverse.length = (down h l).length := List.length_reverse
      repeat' (first | with_reducible apply And.intro | with_reducible intro _)
      all_goals first
        | assumption
        | omega
        | (unfold order; rw [if_pos (by assumption)])
        | (unfold order; rw [if_neg (by assumption)])
        | trace_state
  · have h2 := way_two hw
    have es : short h l = ([], 2) := by simp [short, hw]
    rw [es, h2.1]
    simp only [Bool.not_eq_true', Bool.not_eq_false', Bool.not_eq_true, Bool.not_eq_false, beq_self_eq_true, decide_eq_true_eq, decide_eq_false_iff_not, Bool.not_false, Bool.not_true, beq_iff_eq, beq_eq_false_iff_ne, bne_iff_ne, ne_eq, bne_eq_false_iff_eq, holds_iff, true_and, and_true, and_self, eq_self, List.length_cons, List.length_nil, List.length_append, List.length_set, List.length_replicate, List.set_cons_zero, cond_true, cond_false, Bool.false_eq_true, Bool.true_eq_false, forall_const, false_imp_iff, imp_self, implies_true, and_imp, Decidable.not_not, Bool.and_eq_true, Bool.or_eq_true, Bool.and_eq_false_iff, Bool.or_eq_false_iff, ← List.length_eq_zero_iff, or_self, or_false, false_or, Prod.forall, Int.reduceEq, Int.reduceLT, Int.reduceLE, List.nil_append, Nat.zero_add, Int.toNat_zero, List.drop_zero, List.length_drop, List.length_take, not_true_eq_false, not_false_eq_true,  h2.1]
    try grind

end Go.Proofs.Ytpnmfoojmodnlaa.Lifts
