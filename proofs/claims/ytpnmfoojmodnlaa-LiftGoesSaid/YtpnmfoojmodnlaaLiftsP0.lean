/-
  LiftGoes: the small functions.
-/
import Derived.Test.YtpnmfoojmodnlaaLiftsE
namespace Go.Proofs.Ytpnmfoojmodnlaa.Lifts
open Go.Sx
set_option maxRecDepth 100000
set_option maxHeartbeats 1000000
set_option linter.unusedSimpArgs false
set_option linter.unusedVariables false

theorem takeI_succ {α : Type} (d : α) {l : List α} {k : Int} (h0 : 0 ≤ k) (h1 : k < l.length) : l.take (k + 1).toNat = l.take k.toNat ++ [l.getD k.toNat d] := by
  have e : (k + 1).toNat = k.toNat + 1 := by omega
  have hlt : k.toNat < l.length := by omega
  rw [e, List.take_add_one, List.getElem?_eq_getElem hlt]
  simp [hlt]
theorem takeI_all {α : Type} {l : List α} {k : Int} (h : (l.length : Int) ≤ k) : l.take k.toNat = l := List.take_of_length_le (by omega)
theorem all_false {l : List Int} {k : Nat} (h : k < l.length) (hb : okB (l.getD k 0) = false) : l.all okB = false := by
  rw [List.all_eq_false]
  refine ⟨l.getD k 0, ?_, by rw [hb]; decide⟩
  rw [List.getD_eq_getElem?_getD, List.getElem?_eq_getElem h]
  exact List.getElem_mem h
theorem okB_bad {a : Int} (h : a < 0 ∨ 1099511627776 < a) : okB a = false := by unfold okB; simp; omega
theorem okB_ok {a : Int} (h : 0 ≤ a) (h' : a ≤ 1099511627776) : okB a = true := by unfold okB; simp; omega
theorem all_next {l : List Int} {k : Int} (h0 : 0 ≤ k) (h : k < l.length) (ha : (l.take k.toNat).all okB = true) (h1 : ¬ l.getD k.toNat 0 < 0) (h2 : ¬ 1099511627776 < l.getD k.toNat 0) : (l.take (k + 1).toNat).all okB = true := by
  rw [takeI_succ 0 h0 h, List.all_append, ha, List.all_cons, okB_ok (by omega) (by omega)]
  rfl
theorem all_get {l : List Int} {k : Nat} (h : k < l.length) (ha : l.all okB = true) : 0 ≤ l.getD k 0 ∧ l.getD k 0 ≤ 1099511627776 := by
  have := List.all_eq_true.1 ha (l.getD k 0) (by rw [List.getD_eq_getElem?_getD, List.getElem?_eq_getElem h]; exact List.getElem_mem h)
  unfold okB at this
  grind
theorem e_any (x : List Int × Unit) (hpre : True) (hlens : LensL cAny.as x) : E_any x := by
  obtain ⟨x, u⟩ := x
  have hlx : x.length ≤ 9223372036854775807 := hlens.1.1
  unfold E_any
  simp only [Bool.not_eq_true', Bool.not_eq_false', Bool.not_eq_true, Bool.not_eq_false, beq_self_eq_true, decide_eq_true_eq, decide_eq_false_iff_not, Bool.not_false, Bool.not_true, beq_iff_eq, beq_eq_false_iff_ne, bne_iff_ne, ne_eq, bne_eq_false_iff_eq, holds_iff, true_and, and_true, and_self, eq_self, List.length_cons, List.length_nil, List.length_append, List.length_set, List.length_replicate, List.set_cons_zero, cond_true, cond_false, Bool.false_eq_true, Bool.true_eq_false, forall_const, false_imp_iff, imp_self, implies_true, and_imp, Decidable.not_not, Bool.and_eq_true, Bool.or_eq_true, Bool.and_eq_false_iff, Bool.or_eq_false_iff, ← List.length_eq_zero_iff, or_self, or_false, false_or, Prod.forall, Int.reduceEq, Int.reduceLT, Int.reduceLE, List.nil_append, Nat.zero_add, Int.toNat_zero, List.drop_zero, List.length_drop, List.length_take, not_true_eq_false, not_false_eq_true,  pair_eta]
  refine ⟨⟨by omega, rfl⟩, ?_⟩
  intro k _ h0 h1 h2 _ _
  refine ⟨fun h => ⟨⟨h0, h⟩, fun hb => ?_, fun g1 g2 => ⟨by omega, ⟨by omega, by omega, all_next h0 h h2 g1 g2⟩, by omega⟩⟩, fun h => ?_⟩
  · rw [all_false (by omega) (okB_bad hb), decide_eq_true h0]; rfl
  · rw [takeI_all (by omega)] at h2
    rw [h2]; rfl
theorem take_all {α : Type} {l : List α} : l.take (l.length : Int).toNat = l := by simp
theorem toNat1 : Int.toNat 1 = 1 := rfl
theorem e_equal (x : List Int × List Int × Unit) (_ : True) (hl : LensL cEqual.as x) : E_equal x := by
  obtain ⟨xs, ys, u⟩ := x
  have hlx : xs.length ≤ 9223372036854775807 := hl.1.1
  unfold E_equal
  simp only [Bool.not_eq_true', Bool.not_eq_false', Bool.not_eq_true, Bool.not_eq_false, beq_self_eq_true, decide_eq_true_eq, decide_eq_false_iff_not, Bool.not_false, Bool.not_true, beq_iff_eq, beq_eq_false_iff_ne, bne_iff_ne, ne_eq, bne_eq_false_iff_eq, holds_iff, true_and, and_true, and_self, eq_self, List.length_cons, List.length_nil, List.length_append, List.length_set, List.length_replicate, List.set_cons_zero, cond_true, cond_false, Bool.false_eq_true, Bool.true_eq_false, forall_const, false_imp_iff, imp_self, implies_true, and_imp, Decidable.not_not, Bool.and_eq_true, Bool.or_eq_true, Bool.and_eq_false_iff, Bool.or_eq_false_iff, ← List.length_eq_zero_iff, or_self, or_false, false_or, Prod.forall, Int.reduceEq, Int.reduceLT, Int.reduceLE, List.nil_append, Nat.zero_add, Int.toNat_zero, List.drop_zero, List.length_drop, List.length_take, not_true_eq_false, not_false_eq_true]
  try simp only [flip_f, flip_t, decide_eq_true_eq, decide_eq_false_iff_not]
  repeat' (first | with_reducible apply And.intro | with_reducible intro _)
  all_goals try omega
  all_goals grind [takeI_succ, takeI_all]
theorem mn_one {l : List Int} (h : 0 < l.length) : l.getD 0 0 = mn (l.take 1) := by
  cases l with
  | nil => simp at h
  | cons a l => rfl
theorem mn_succ {l : List Int} {k : Int} (h0 : 1 ≤ k) (h1 : k < l.length) : mn (l.take (k + 1).toNat) = min (mn (l.take k.toNat)) (l.getD k.toNat 0) := by
  rw [takeI_succ 0 (by omega) h1]
  cases l with
  | nil => simp at h1; omega
  | cons a l =>
    have e : k.toNat = (k.toNat - 1) + 1 := by omega
    rw [e]
    simp [mn, List.foldl_append]
theorem e_min (x : List Int × Unit) (hp : 0 < x.1.length) (hl : LensL cMin.as x) : E_min x := by
  obtain ⟨l, u⟩ := x
  have hlen : l.length ≤ 9223372036854775807 := hl.1.1
  simp only [] at hp
  have h1 := mn_one hp
  have h2 := fun (k : Int) h0 h1 => mn_succ (l := l) (k := k) h0 h1
  unfold E_min
  simp only [Bool.not_eq_true', Bool.not_eq_false', Bool.not_eq_true, Bool.not_eq_false, beq_self_eq_true, decide_eq_true_eq, decide_eq_false_iff_not, Bool.not_false, Bool.not_true, beq_iff_eq, beq_eq_false_iff_ne, bne_iff_ne, ne_eq, bne_eq_false_iff_eq, holds_iff, true_and, and_true, and_self, eq_self, List.length_cons, List.length_nil, List.length_append, List.length_set, List.length_replicate, List.set_cons_zero, cond_true, cond_false, Bool.false_eq_true, Bool.true_eq_false, forall_const, false_imp_iff, imp_self, implies_true, and_imp, Decidable.not_not, Bool.and_eq_true, Bool.or_eq_true, Bool.and_eq_false_iff, Bool.or_eq_false_iff, ← List.length_eq_zero_iff, or_self, or_false, false_or, Prod.forall, Int.reduceEq, Int.reduceLT, Int.reduceLE, List.nil_append, Nat.zero_add, Int.toNat_zero, List.drop_zero, List.length_drop, List.length_take, not_true_eq_false, not_false_eq_true]
  try simp only [flip_f, flip_t, decide_eq_true_eq, decide_eq_false_iff_not]
  repeat' (first | with_reducible apply And.intro | with_reducible intro _)
  all_goals try omega
  all_goals grind [takeI_all]
theorem mx_one {l : List Int} (h : 0 < l.length) : l.getD 0 0 = mx (l.take 1) := by
  cases l with
  | nil => simp at h
  | cons a l => rfl
theorem mx_succ {l : List Int} {k : Int} (h0 : 1 ≤ k) (h1 : k < l.length) : mx (l.take (k + 1).toNat) = max (mx (l.take k.toNat)) (l.getD k.toNat 0) := by
  rw [takeI_succ 0 (by omega) h1]
  cases l with
  | nil => simp at h1; omega
  | cons a l =>
    have e : k.toNat = (k.toNat - 1) + 1 := by omega
    rw [e]
    simp [mx, List.foldl_append]
theorem e_max (x : List Int × Unit) (hp : 0 < x.1.length) (hl : LensL cMax.as x) : E_max x := by
  obtain ⟨l, u⟩ := x
  have hlen : l.length ≤ 9223372036854775807 := hl.1.1
  simp only [] at hp
  have h1 := mx_one hp
  have h2 := fun (k : Int) h0 h1 => mx_succ (l := l) (k := k) h0 h1
  unfold E_max
  simp only [Bool.not_eq_true', Bool.not_eq_false', Bool.not_eq_true, Bool.not_eq_false, beq_self_eq_true, decide_eq_true_eq, decide_eq_false_iff_not, Bool.not_false, Bool.not_true, beq_iff_eq, beq_eq_false_iff_ne, bne_iff_ne, ne_eq, bne_eq_false_iff_eq, holds_iff, true_and, and_true, and_self, eq_self, List.length_cons, List.length_nil, List.length_append, List.length_set, List.length_replicate, List.set_cons_zero, cond_true, cond_false, Bool.false_eq_true, Bool.true_eq_false, forall_const, false_imp_iff, imp_self, implies_true, and_imp, Decidable.not_not, Bool.and_eq_true, Bool.or_eq_true, Bool.and_eq_false_iff, Bool.or_eq_false_iff, ← List.length_eq_zero_iff, or_self, or_false, false_or, Prod.forall, Int.reduceEq, Int.reduceLT, Int.reduceLE, List.nil_append, Nat.zero_add, Int.toNat_zero, List.drop_zero, List.length_drop, List.length_take, not_true_eq_false, not_false_eq_true]
  try simp only [flip_f, flip_t, decide_eq_true_eq, decide_eq_false_iff_not]
  repeat' (first | with_reducible apply And.intro | with_reducible intro _)
  all_goals try omega
  all_goals grind [takeI_all]
theorem e_nan (x : Int × Unit) (hp : True) (hl : LensL cNaN.as x) : E_nan x := by
  unfold E_nan
  simp
theorem e_less (x : Int × Int × Unit) (hp : True) (hl : LensL cLess.as x) : E_less x := by
  obtain ⟨a, b, u⟩ := x
  unfold E_less
  simp
theorem e_clone (x : List Int × Unit) (hp : x.1.length ≤ 400) (hl : LensL cClone.as x) : E_clone x := by
  obtain ⟨l, u⟩ := x
  simp only [] at hp
  unfold E_clone
  intro b hb
  refine ⟨fun h => (hb h).symm, fun _ => ⟨⟨?_, ?_⟩, rfl⟩⟩
  · simp only [List.length_nil]; omega
  · simp only [List.length_nil]; omega
theorem e_wrong (x : List Int × Unit) (hp : True) (hl : LensL cWrong.as x) : E_wrong x := by
  obtain ⟨l, u⟩ := x
  have hlen : l.length ≤ 9223372036854775807 := hl.1.1
  unfold E_wrong wr
  simp only [Bool.not_eq_true', Bool.not_eq_false', Bool.not_eq_true, Bool.not_eq_false, beq_self_eq_true, decide_eq_true_eq, decide_eq_false_iff_not, Bool.not_false, Bool.not_true, beq_iff_eq, beq_eq_false_iff_ne, bne_iff_ne, ne_eq, bne_eq_false_iff_eq, holds_iff, true_and, and_true, and_self, eq_self, List.length_cons, List.length_nil, List.length_append, List.length_set, List.length_replicate, List.set_cons_zero, cond_true, cond_false, Bool.false_eq_true, Bool.true_eq_false, forall_const, false_imp_iff, imp_self, implies_true, and_imp, Decidable.not_not, Bool.and_eq_true, Bool.or_eq_true, Bool.and_eq_false_iff, Bool.or_eq_false_iff, ← List.length_eq_zero_iff, or_self, or_false, false_or, Prod.forall, Int.reduceEq, Int.reduceLT, Int.reduceLE, List.nil_append, Nat.zero_add, Int.toNat_zero, List.drop_zero, List.length_drop, List.length_take, not_true_eq_false, not_false_eq_true]
  try simp only [flip_f, flip_t, decide_eq_true_eq, decide_eq_false_iff_not]
  repeat' (first | with_reducible apply And.intro | with_reducible intro _)
  all_goals try omega
  all_goals grind
theorem swp_len {d : List Int} {i j : Int} : (swp d i j).length = d.length := by simp [swp]
theorem revs_len {d : List Int} {n : Nat} : (revs d n).length = d.length := by
  induction n with
  | zero => rfl
  | succ n ih => rw [revs, swp_len, ih]
theorem swp_get {d : List Int} {i j : Int} (h0 : 0 ≤ i) (h1 : i < d.length) (h2 : 0 ≤ j) (h3 : j < d.length) (k : Nat) : (swp d i j)[k]? = d[if (k : Int) = j then i.toNat else if (k : Int) = i then j.toNat else k]? := by
  unfold swp
  simp only [List.getElem?_set, List.getD_eq_getElem?_getD]
  grind
theorem revs_get {d : List Int} {n : Nat} (h : 2 * n ≤ d.length) (k : Nat) : (revs d n)[k]? = d[if k < n ∨ (d.length - n ≤ k ∧ k < d.length) then d.length - 1 - k else k]? := by
  induction n generalizing k with
  | zero =>
    unfold revs
    rw [if_neg (by omega)]
  | succ n ih =>
    rw [revs, swp_get (by omega) (by rw [revs_len]; omega) (by omega) (by rw [revs_len]; omega), ih (by omega)]
    congr 1
    repeat' split
    all_goals omega
theorem revs_next {d : List Int} {i j : Int} (h : 0 ≤ i) (hj : j = d.length - 1 - i) : revs d (i + 1).toNat = ((revs d i.toNat).set i.toNat ((revs d i.toNat).getD j.toNat 0)).set j.toNat ((revs d i.toNat).getD i.toNat 0) := by
  have e : (i + 1).toNat = i.toNat + 1 := by omega
  have e1 : ((i.toNat : Nat) : Int) = i := by omega
  rw [e, revs, e1, ← hj]
  rfl
theorem revs_all {d : List Int} {n : Nat} (h : 2 * n ≤ d.length) (h' : d.length ≤ 2 * n + 1) : revs d n = d.reverse := by
  apply List.ext_getElem?
  intro k
  rw [revs_get h]
  by_cases hk : k < d.length
  · rw [List.getElem?_reverse hk]
    congr 1
    split <;> omega
  · rw [List.getElem?_eq_none (by split <;> omega), List.getElem?_eq_none (by rw [List.length_reverse]; omega)]
theorem e_rev (x : List Int × Unit) (hp : x.1.length ≤ 400) (hl : pRev.lens x) : E_rev x := by
  obtain ⟨d, u⟩ := x
  simp only [] at hp
  unfold E_rev
  simp only [Bool.not_eq_true', Bool.not_eq_false', Bool.not_eq_true, Bool.not_eq_false, beq_self_eq_true, decide_eq_true_eq, decide_eq_false_iff_not, Bool.not_false, Bool.not_true, beq_iff_eq, beq_eq_false_iff_ne, bne_iff_ne, ne_eq, bne_eq_false_iff_eq, holds_iff, true_and, and_true, and_self, eq_self, List.length_cons, List.length_nil, List.length_append, List.length_set, List.length_replicate, List.set_cons_zero, cond_true, cond_false, Bool.false_eq_true, Bool.true_eq_false, forall_const, false_imp_iff, imp_self, implies_true, and_imp, Decidable.not_not, Bool.and_eq_true, Bool.or_eq_true, Bool.and_eq_false_iff, Bool.or_eq_false_iff, ← List.length_eq_zero_iff, or_self, or_false, false_or, Prod.forall, Int.reduceEq, Int.reduceLT, Int.reduceLE, List.nil_append, Nat.zero_add, Int.toNat_zero, List.drop_zero, List.length_drop, List.length_take, not_true_eq_false, not_false_eq_true]
  try simp only [flip_f, flip_t, decide_eq_true_eq, decide_eq_false_iff_not]
  refine ⟨by omega, ⟨by omega, by omega, rfl⟩, ?_⟩
  intro g i j h0 hj h1 hg _ _ _ _ _ _
  have hlen : g.length = d.length := by rw [hg, revs_len]
  refine ⟨fun hij => ⟨by omega, by omega, by omega, by omega, by omega, by omega, ⟨by omega, by omega, by omega, ?_⟩, by omega⟩, fun hij => ?_⟩
  · rw [revs_next h0 hj, ← hg]
  · rw [hg, revs_all (by omega) (by omega)]

end Go.Proofs.Ytpnmfoojmodnlaa.Lifts
