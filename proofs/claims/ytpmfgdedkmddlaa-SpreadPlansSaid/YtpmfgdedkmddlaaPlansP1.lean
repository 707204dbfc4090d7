/-
  SpreadPlans: the order, the swap, the ends.
-/
import Derived.Test.YtpmfgdedkmddlaaPlansP0
namespace Go.Proofs.Ytpmfgdedkmddlaa.Plans
open Go.Sx
set_option maxRecDepth 100000
set_option maxHeartbeats 1000000
set_option linter.unusedSimpArgs false
set_option linter.unusedVariables false

theorem okW_get {w d : List Int} (h : okW w d) {i : Nat} (hi : i < d.length) : 0 ≤ d.getD i 0 ∧ d.getD i 0 < w.length := by
  apply h.2.2
  rw [List.getD_eq_getElem?_getD, List.getElem?_eq_getElem hi]
  exact List.getElem_mem hi
theorem okW_wt {w d : List Int} (h : okW w d) {a : Int} (h0 : 0 ≤ a) (h1 : a < w.length) : 0 ≤ wt w a ∧ wt w a ≤ 1073741824 := all_get (by omega) h.2.1
theorem e_cmp (x : Int × Int × List Int × Unit) (hp : okW x.2.2.1 [x.1, x.2.1]) (hl : pCmp.lens x) : E_cmp x := by
  obtain ⟨a, b, w, u⟩ := x
  simp only [] at hp
  have ha := hp.2.2 a (by simp)
  have hb := hp.2.2 b (by simp)
  have wa := okW_wt hp ha.1 ha.2
  have wb := okW_wt hp hb.1 hb.2
  unfold wt at wa wb
  unfold E_cmp wt
  simp only [Bool.not_eq_true', Bool.not_eq_false', Bool.not_eq_true, Bool.not_eq_false, beq_self_eq_true, decide_eq_true_eq, decide_eq_false_iff_not, Bool.not_false, Bool.not_true, beq_iff_eq, beq_eq_false_iff_ne, bne_iff_ne, ne_eq, bne_eq_false_iff_eq, holds_iff, true_and, and_true, and_self, eq_self, List.length_cons, List.length_nil, List.length_append, List.length_set, List.length_replicate, List.set_cons_zero, cond_true, cond_false, Bool.false_eq_true, Bool.true_eq_false, forall_const, false_imp_iff, imp_self, implies_true, and_imp, Decidable.not_not, Bool.and_eq_true, Bool.or_eq_true, Bool.and_eq_false_iff, Bool.or_eq_false_iff, ← List.length_eq_zero_iff, or_self, or_false, false_or, Prod.forall, Int.reduceEq, Int.reduceLT, Int.reduceLE, List.nil_append, Nat.zero_add, Int.toNat_zero, List.drop_zero, List.length_drop, List.length_take, not_true_eq_false, not_false_eq_true]
  try simp only [flip_f, flip_t, decide_eq_true_eq, decide_eq_false_iff_not]
  repeat' (first | with_reducible apply And.intro | with_reducible intro _)
  all_goals first | omega | grind
theorem ord_len {n : Int} : (ord n).length = n.toNat := by simp [ord]
theorem ord_get {n : Int} {i : Nat} (h : i < n.toNat) : (ord n)[i]? = some (i : Int) := by
  unfold ord
  rw [List.getElem?_map, List.getElem?_range h]; rfl
theorem ord_succ {n : Int} (h : 0 ≤ n) : ord (n + 1) = ord n ++ [n] := by
  have e : (n + 1).toNat = n.toNat + 1 := by omega
  unfold ord
  rw [e, List.range_succ, List.map_append]
  simp; omega
theorem ord_next {n k : Int} {o : List Int} (h0 : 0 ≤ k) (h1 : k < n) (hl : o.length = n.toNat) (ho : o.take k.toNat = ord k) : (o.set k.toNat k).take (k + 1).toNat = ord (k + 1) := by
  have e : (k + 1).toNat = k.toNat + 1 := by omega
  rw [ord_succ h0, e, List.take_add_one, List.take_set, List.set_eq_of_length_le (by simp; omega), ho, List.getElem?_set_self (by omega)]
  rfl
theorem e_ord (x : Int × Unit) (hp : 0 ≤ x.1 ∧ x.1 ≤ 400) (hl : LensL cOrd.as x) : E_ord x := by
  obtain ⟨n, u⟩ := x
  simp only [] at hp
  unfold E_ord
  simp only [Bool.not_eq_true', Bool.not_eq_false', Bool.not_eq_true, Bool.not_eq_false, beq_self_eq_true, decide_eq_true_eq, decide_eq_false_iff_not, Bool.not_false, Bool.not_true, beq_iff_eq, beq_eq_false_iff_ne, bne_iff_ne, ne_eq, bne_eq_false_iff_eq, holds_iff, true_and, and_true, and_self, eq_self, List.length_cons, List.length_nil, List.length_append, List.length_set, List.length_replicate, List.set_cons_zero, cond_true, cond_false, Bool.false_eq_true, Bool.true_eq_false, forall_const, false_imp_iff, imp_self, implies_true, and_imp, Decidable.not_not, Bool.and_eq_true, Bool.or_eq_true, Bool.and_eq_false_iff, Bool.or_eq_false_iff, ← List.length_eq_zero_iff, or_self, or_false, false_or, Prod.forall, Int.reduceEq, Int.reduceLT, Int.reduceLE, List.nil_append, Nat.zero_add, Int.toNat_zero, List.drop_zero, List.length_drop, List.length_take, not_true_eq_false, not_false_eq_true,  List.length_replicate]
  repeat' (first | with_reducible apply And.intro | with_reducible intro _)
  all_goals try omega
  all_goals first | (refine ord_next (n := n) ?_ ?_ ?_ ?_ <;> first | assumption | omega) | grind [takeI_all] | (simp [ord]; done)
theorem swp_len {d : List Int} {i j : Int} : (swp d i j).length = d.length := by simp [swp]
theorem swaps_len {d : List Int} {a b : Int} {n : Nat} : (swaps d a b n).length = d.length := by
  induction n with
  | zero => rfl
  | succ n ih => rw [swaps, swp_len, ih]
theorem swaps_next {d : List Int} {a b i : Int} (h : 0 ≤ i) : swaps d a b (i + 1).toNat = ((swaps d a b i.toNat).set (a + i).toNat ((swaps d a b i.toNat).getD (b + i).toNat 0)).set (b + i).toNat ((swaps d a b i.toNat).getD (a + i).toNat 0) := by
  have e : (i + 1).toNat = i.toNat + 1 := by omega
  have e1 : ((i.toNat : Nat) : Int) = i := by omega
  rw [e, swaps, e1]
  rfl
theorem e_swap (x : List Int × Int × Int × Int × List Int × Unit) (hp : (0 ≤ x.2.1 ∧ 0 ≤ x.2.2.2.1 ∧ x.2.1 + x.2.2.2.1 ≤ x.2.2.1 ∧ x.2.2.1 + x.2.2.2.1 ≤ x.1.length) ∧ x.1.length ≤ 400) (hl : pSwap.lens x) : E_swap x := by
  obtain ⟨d, a, b, n, w, u⟩ := x
  simp only [] at hp
  unfold E_swap
  simp only [Bool.not_eq_true', Bool.not_eq_false', Bool.not_eq_true, Bool.not_eq_false, beq_self_eq_true, decide_eq_true_eq, decide_eq_false_iff_not, Bool.not_false, Bool.not_true, beq_iff_eq, beq_eq_false_iff_ne, bne_iff_ne, ne_eq, bne_eq_false_iff_eq, holds_iff, true_and, and_true, and_self, eq_self, List.length_cons, List.length_nil, List.length_append, List.length_set, List.length_replicate, List.set_cons_zero, cond_true, cond_false, Bool.false_eq_true, Bool.true_eq_false, forall_const, false_imp_iff, imp_self, implies_true, and_imp, Decidable.not_not, Bool.and_eq_true, Bool.or_eq_true, Bool.and_eq_false_iff, Bool.or_eq_false_iff, ← List.length_eq_zero_iff, or_self, or_false, false_or, Prod.forall, Int.reduceEq, Int.reduceLT, Int.reduceLE, List.nil_append, Nat.zero_add, Int.toNat_zero, List.drop_zero, List.length_drop, List.length_take, not_true_eq_false, not_false_eq_true]
  try simp only [flip_f, flip_t, decide_eq_true_eq, decide_eq_false_iff_not]
  have hs := fun n => swaps_len (d := d) (a := a) (b := b) (n := n)
  have hn := fun i h => swaps_next (d := d) (a := a) (b := b) (i := i) h
  repeat' (first | with_reducible apply And.intro | with_reducible intro _)
  all_goals try omega
  all_goals grind [swaps]
theorem e_sort (x : List Int × List Int × Unit) (hp : x.1.length ≤ 400 ∧ okW x.2.1 x.1 ∧ up x.1) (hl : pSort.lens x) : E_sort x := by
  unfold E_sort
  simp only [Bool.not_eq_true', Bool.not_eq_false', Bool.not_eq_true, Bool.not_eq_false, beq_self_eq_true, decide_eq_true_eq, decide_eq_false_iff_not, Bool.not_false, Bool.not_true, beq_iff_eq, beq_eq_false_iff_ne, bne_iff_ne, ne_eq, bne_eq_false_iff_eq, holds_iff, true_and, and_true, and_self, eq_self, List.length_cons, List.length_nil, List.length_append, List.length_set, List.length_replicate, List.set_cons_zero, cond_true, cond_false, Bool.false_eq_true, Bool.true_eq_false, forall_const, false_imp_iff, imp_self, implies_true, and_imp, Decidable.not_not, Bool.and_eq_true, Bool.or_eq_true, Bool.and_eq_false_iff, Bool.or_eq_false_iff, ← List.length_eq_zero_iff, or_self, or_false, false_or, Prod.forall, Int.reduceEq, Int.reduceLT, Int.reduceLE, List.nil_append, Nat.zero_add, Int.toNat_zero, List.drop_zero, List.length_drop, List.length_take, not_true_eq_false, not_false_eq_true]
  try simp only [flip_f, flip_t, decide_eq_true_eq, decide_eq_false_iff_not]
  try exact hp
theorem e_same (x : (List Int × Int) × (List Int × Int) × Unit) (hp : True) (hl : LensL cSame.as x) : E_same x := by
  obtain ⟨⟨p, a⟩, ⟨q, b⟩, u⟩ := x
  unfold E_same
  simp only [Bool.not_eq_true', Bool.not_eq_false', Bool.not_eq_true, Bool.not_eq_false, beq_self_eq_true, decide_eq_true_eq, decide_eq_false_iff_not, Bool.not_false, Bool.not_true, beq_iff_eq, beq_eq_false_iff_ne, bne_iff_ne, ne_eq, bne_eq_false_iff_eq, holds_iff, true_and, and_true, and_self, eq_self, List.length_cons, List.length_nil, List.length_append, List.length_set, List.length_replicate, List.set_cons_zero, cond_true, cond_false, Bool.false_eq_true, Bool.true_eq_false, forall_const, false_imp_iff, imp_self, implies_true, and_imp, Decidable.not_not, Bool.and_eq_true, Bool.or_eq_true, Bool.and_eq_false_iff, Bool.or_eq_false_iff, ← List.length_eq_zero_iff, or_self, or_false, false_or, Prod.forall, Int.reduceEq, Int.reduceLT, Int.reduceLE, List.nil_append, Nat.zero_add, Int.toNat_zero, List.drop_zero, List.length_drop, List.length_take, not_true_eq_false, not_false_eq_true]
  try simp only [flip_f, flip_t, decide_eq_true_eq, decide_eq_false_iff_not]
  simp only [Prod.mk.injEq]
  grind
theorem ord_mem {n a : Int} : a ∈ ord n ↔ 0 ≤ a ∧ a < n := by
  unfold ord
  simp only [List.mem_map, List.mem_range]
  constructor
  · rintro ⟨k, h, rfl⟩
    simp; omega
  · rintro ⟨h0, h1⟩
    exact ⟨a.toNat, by omega, by simp; omega⟩
theorem ord_up {n : Int} : up (ord n) := by
  unfold up ord
  rw [List.pairwise_map]
  refine List.Pairwise.imp ?_ List.pairwise_lt_range
  intro a b h
  simp; omega
theorem sortT_perm {w l : List Int} : (sortT w l).Perm l := List.mergeSort_perm l (leT w)
theorem sortT_len {w l : List Int} : (sortT w l).length = l.length := sortT_perm.length_eq
theorem okW_sort {w d : List Int} (h : okW w d) : okW w (sortT w d) := ⟨h.1, h.2.1, fun x hx => h.2.2 x (sortT_perm.mem_iff.1 hx)⟩
theorem wrong_zero {l : List Int} {c : Int} (h : wrong l c = 0) : (1 ≤ c ∧ c ≤ 8) ∧ l.length ≤ 400 ∧ okW l (ord l.length) := by
  unfold wrong at h
  split at h
  · omega
  · rename_i hh
    refine ⟨⟨by omega, by omega⟩, by omega, by omega, ?_, fun x hx => ?_⟩
    · rcases hb : l.all inS with _ | _
      · exact absurd (Or.inr (Or.inr (Or.inr hb))) hh
      · rfl
    · exact ord_mem.1 hx
theorem e_list (x : List Int × Int × Unit) (hp : True) (hl : LensL cList.as x) : E_list x := by
  obtain ⟨l, c, u⟩ := x
  unfold E_list
  by_cases h : wrong l c = 0
  · have hw := wrong_zero h
    have e : order l false = ord l.length := rfl
    simp only [Bool.not_eq_true', Bool.not_eq_false', Bool.not_eq_true, Bool.not_eq_false, beq_self_eq_true, decide_eq_true_eq, decide_eq_false_iff_not, Bool.not_false, Bool.not_true, beq_iff_eq, beq_eq_false_iff_ne, bne_iff_ne, ne_eq, bne_eq_false_iff_eq, holds_iff, true_and, and_true, and_self, eq_self, List.length_cons, List.length_nil, List.length_append, List.length_set, List.length_replicate, List.set_cons_zero, cond_true, cond_false, Bool.false_eq_true, Bool.true_eq_false, forall_const, false_imp_iff, imp_self, implies_true, and_imp, Decidable.not_not, Bool.and_eq_true, Bool.or_eq_true, Bool.and_eq_false_iff, Bool.or_eq_false_iff, ← List.length_eq_zero_iff, or_self, or_false, false_or, Prod.forall, Int.reduceEq, Int.reduceLT, Int.reduceLE, List.nil_append, Nat.zero_add, Int.toNat_zero, List.drop_zero, List.length_drop, List.length_take, not_true_eq_false, not_false_eq_true,  h, shared, e, ord_len]
    refine ⟨?_, ?_⟩
    all_goals grind
  · simp only [Bool.not_eq_true', Bool.not_eq_false', Bool.not_eq_true, Bool.not_eq_false, beq_self_eq_true, decide_eq_true_eq, decide_eq_false_iff_not, Bool.not_false, Bool.not_true, beq_iff_eq, beq_eq_false_iff_ne, bne_iff_ne, ne_eq, bne_eq_false_iff_eq, holds_iff, true_and, and_true, and_self, eq_self, List.length_cons, List.length_nil, List.length_append, List.length_set, List.length_replicate, List.set_cons_zero, cond_true, cond_false, Bool.false_eq_true, Bool.true_eq_false, forall_const, false_imp_iff, imp_self, implies_true, and_imp, Decidable.not_not, Bool.and_eq_true, Bool.or_eq_true, Bool.and_eq_false_iff, Bool.or_eq_false_iff, ← List.length_eq_zero_iff, or_self, or_false, false_or, Prod.forall, Int.reduceEq, Int.reduceLT, Int.reduceLE, List.nil_append, Nat.zero_add, Int.toNat_zero, List.drop_zero, List.length_drop, List.length_take, not_true_eq_false, not_false_eq_true,  h, shared]
    try grind
theorem e_longest (x : List Int × Int × Unit) (hp : True) (hl : LensL cLongest.as x) : E_longest x := by
  obtain ⟨l, c, u⟩ := x
  unfold E_longest
  by_cases h : wrong l c = 0
  · have hw := wrong_zero h
    have hs := okW_sort hw.2.2
    have hu := ord_up (n := l.length)
    have e : order l true = sortT l (ord l.length) := rfl
    simp only [Bool.not_eq_true', Bool.not_eq_false', Bool.not_eq_true, Bool.not_eq_false, beq_self_eq_true, decide_eq_true_eq, decide_eq_false_iff_not, Bool.not_false, Bool.not_true, beq_iff_eq, beq_eq_false_iff_ne, bne_iff_ne, ne_eq, bne_eq_false_iff_eq, holds_iff, true_and, and_true, and_self, eq_self, List.length_cons, List.length_nil, List.length_append, List.length_set, List.length_replicate, List.set_cons_zero, cond_true, cond_false, Bool.false_eq_true, Bool.true_eq_false, forall_const, false_imp_iff, imp_self, implies_true, and_imp, Decidable.not_not, Bool.and_eq_true, Bool.or_eq_true, Bool.and_eq_false_iff, Bool.or_eq_false_iff, ← List.length_eq_zero_iff, or_self, or_false, false_or, Prod.forall, Int.reduceEq, Int.reduceLT, Int.reduceLE, List.nil_append, Nat.zero_add, Int.toNat_zero, List.drop_zero, List.length_drop, List.length_take, not_true_eq_false, not_false_eq_true,  h, shared, e, ord_len, sortT_len]
    grind
  · simp only [Bool.not_eq_true', Bool.not_eq_false', Bool.not_eq_true, Bool.not_eq_false, beq_self_eq_true, decide_eq_true_eq, decide_eq_false_iff_not, Bool.not_false, Bool.not_true, beq_iff_eq, beq_eq_false_iff_ne, bne_iff_ne, ne_eq, bne_eq_false_iff_eq, holds_iff, true_and, and_true, and_self, eq_self, List.length_cons, List.length_nil, List.length_append, List.length_set, List.length_replicate, List.set_cons_zero, cond_true, cond_false, Bool.false_eq_true, Bool.true_eq_false, forall_const, false_imp_iff, imp_self, implies_true, and_imp, Decidable.not_not, Bool.and_eq_true, Bool.or_eq_true, Bool.and_eq_false_iff, Bool.or_eq_false_iff, ← List.length_eq_zero_iff, or_self, or_false, false_or, Prod.forall, Int.reduceEq, Int.reduceLT, Int.reduceLE, List.nil_append, Nat.zero_add, Int.toNat_zero, List.drop_zero, List.length_drop, List.length_take, not_true_eq_false, not_false_eq_true,  h, shared]
    try grind
theorem order_len {w : List Int} {b : Bool} : (order w b).length = w.length := by
  cases b <;> simp [order, sortT_len, ord_len]
theorem order_ok {w : List Int} {b : Bool} (h : okW w (ord w.length)) : okW w (order w b) := by
  cases b
  · exact h
  · exact okW_sort h
theorem shared_ok {l : List Int} {c : Int} {b : Bool} (h : wrong l c = 0) : shared l c b = ((plan l c (order l b)).1, 0, ()) := by
  simp [shared, h]
theorem shared_no {l : List Int} {c : Int} {b : Bool} (h : ¬ wrong l c = 0) : shared l c b = (([], 0), wrong l c, ()) := by
  simp [shared, h]
theorem e_law (x : List Int × Int × Unit) (hp : True) (hl : LensL cLaw.as x) : E_law x := by
  obtain ⟨l, c, u⟩ := x
  unfold E_law
  by_cases h : wrong l c = 0
  · have hw := wrong_zero h
    have h1 := order_ok (b := false) hw.2.2
    have h2 := order_ok (b := true) hw.2.2
    simp only [shared_ok h, order_len, h]
    simp only [Bool.not_eq_true', Bool.not_eq_false', Bool.not_eq_true, Bool.not_eq_false, beq_self_eq_true, decide_eq_true_eq, decide_eq_false_iff_not, Bool.not_false, Bool.not_true, beq_iff_eq, beq_eq_false_iff_ne, bne_iff_ne, ne_eq, bne_eq_false_iff_eq, holds_iff, true_and, and_true, and_self, eq_self, List.length_cons, List.length_nil, List.length_append, List.length_set, List.length_replicate, List.set_cons_zero, cond_true, cond_false, Bool.false_eq_true, Bool.true_eq_false, forall_const, false_imp_iff, imp_self, implies_true, and_imp, Decidable.not_not, Bool.and_eq_true, Bool.or_eq_true, Bool.and_eq_false_iff, Bool.or_eq_false_iff, ← List.length_eq_zero_iff, or_self, or_false, false_or, Prod.forall, Int.reduceEq, Int.reduceLT, Int.reduceLE, List.nil_append, Nat.zero_add, Int.toNat_zero, List.drop_zero, List.length_drop, List.length_take, not_true_eq_false, not_false_eq_true,  h]
    try grind
  · simp only [shared_no h]
    simp only [Bool.not_eq_true', Bool.not_eq_false', Bool.not_eq_true, Bool.not_eq_false, beq_self_eq_true, decide_eq_true_eq, decide_eq_false_iff_not, Bool.not_false, Bool.not_true, beq_iff_eq, beq_eq_false_iff_ne, bne_iff_ne, ne_eq, bne_eq_false_iff_eq, holds_iff, true_and, and_true, and_self, eq_self, List.length_cons, List.length_nil, List.length_append, List.length_set, List.length_replicate, List.set_cons_zero, cond_true, cond_false, Bool.false_eq_true, Bool.true_eq_false, forall_const, false_imp_iff, imp_self, implies_true, and_imp, Decidable.not_not, Bool.and_eq_true, Bool.or_eq_true, Bool.and_eq_false_iff, Bool.or_eq_false_iff, ← List.length_eq_zero_iff, or_self, or_false, false_or, Prod.forall, Int.reduceEq, Int.reduceLT, Int.reduceLE, List.nil_append, Nat.zero_add, Int.toNat_zero, List.drop_zero, List.length_drop, List.length_take, not_true_eq_false, not_false_eq_true,  h]
    try grind
theorem pre_law (x : HL cLaw.as) (_ : GoodL cLaw.as x) (_ : FitL cLaw.as x) : True := trivial

end Go.Proofs.Ytpmfgdedkmddlaa.Plans
