/-
  CoresRun: lists, memory, the small conditions.
-/
import Derived.Test.YtpnmfoojmodnlaaCoresE
namespace Go.Proofs.Ytpnmfoojmodnlaa.Cores
open Go.Sx
set_option maxRecDepth 100000
set_option maxHeartbeats 1000000
set_option linter.unusedSimpArgs false
set_option linter.unusedVariables false

theorem takeI_succ {α : Type} (d : α) {l : List α} {k : Int} (h0 : 0 ≤ k) (h1 : k < l.length) : l.take (k + 1).toNat = l.take k.toNat ++ [l.getD k.toNat d] := by
  have e : (k + 1).toNat = k.toNat + 1 := by omega
  have hlt : k.toNat < l.length := by omega
  rw [e, List.take_add_one, List.getElem?_eq_getElem hlt]
  simp [hlt]
theorem takeI_all {α : Type} {l : List α} {k : Int} (h : (l.length : Int) ≤ k) : l.take k.toNat = l := List.take_of_length_le (by omega)
theorem idx_at {l : List Int} {x : Int} {k : Nat} (hk : k < l.length) (hn : (l.take k).idxOf? x = none) (hg : l.getD k 0 = x) : idx l x = k := by
  have e : l.idxOf? x = some k := by
    show l.findIdx? (· == x) = some k
    rw [List.findIdx?_eq_some_iff_getElem]
    refine ⟨hk, ?_, fun j hj => ?_⟩
    · have : l[k] = x := by rw [← hg]; simp [List.getD, hk]
      simp [this]
    · rw [List.idxOf?_eq_none_iff] at hn
      intro h
      have h : l[j] = x := by simpa using h
      exact hn (by rw [← h]; exact List.mem_take_iff_getElem.2 ⟨j, by omega, rfl⟩)
  unfold idx
  rw [e]
theorem idx_none {l : List Int} {x : Int} (h : l.idxOf? x = none) : idx l x = -1 := by
  unfold idx
  rw [h]
theorem take_none {l : List Int} {x : Int} {k : Int} (h0 : 0 ≤ k) (h1 : k < l.length) (hn : (l.take k.toNat).idxOf? x = none) (hg : ¬ l.getD k.toNat 0 = x) : (l.take (k + 1).toNat).idxOf? x = none := by
  rw [takeI_succ 0 h0 h1, List.idxOf?_eq_none_iff, List.mem_append]
  rw [List.idxOf?_eq_none_iff] at hn
  rintro (h | h)
  · exact hn h
  · exact hg (List.mem_singleton.1 h).symm
theorem mget_put {t : Ty} (m : List (Int × t.D)) (k : Int) (v : t.D) (j : Int) : mget? t (mput t m k v) j = if k = j then some v else mget? t m j := by
  induction m with
  | nil => by_cases h : k = j <;> simp [mput, mget?, h]
  | cons a r ih =>
    by_cases h : a.1 = k
    · by_cases h2 : k = j <;> simp [mput, mget?, h, h2]
    · by_cases h2 : k = j
      · subst h2; simp [mput, mget?, h, ih]
      · simp [mput, mget?, h, ih, h2]
theorem mval_put {t : Ty} (m : List (Int × t.D)) (k : Int) (v : t.D) (j : Int) : mval t (mput t m k v) j = if k = j then v else mval t m j := by
  unfold mval
  rw [mget_put]
  by_cases h : k = j <;> simp [h]
theorem mhas_put {t : Ty} (m : List (Int × t.D)) (k : Int) (v : t.D) (j : Int) : mhas t (mput t m k v) j = (decide (k = j) || mhas t m j) := by
  unfold mhas
  rw [mget_put]
  by_cases h : k = j <;> simp [h]
theorem mget_at {t : Ty} : ∀ {m : List (Int × t.D)} {i : Nat} (h : i < m.length), (m.map Prod.fst).Nodup → mget? t m m[i].1 = some m[i].2
  | [], _, h, _ => by simp at h
  | a :: r, 0, _, _ => by simp [mget?]
  | a :: r, i + 1, h, hn => by
    simp only [List.map_cons, List.nodup_cons] at hn
    have hi : i < r.length := by simpa using h
    have hne : ¬ a.1 = r[i].1 := fun e => hn.1 (by rw [e]; exact List.mem_map.2 ⟨_, List.getElem_mem hi, rfl⟩)
    have ih := mget_at (t := t) hi hn.2
    simp only [List.getElem_cons_succ, mget?, hne, decide_false, cond_false]
    exact ih
theorem mput_at {t : Ty} {v : t.D} : ∀ {m : List (Int × t.D)} {i : Nat} (h : i < m.length), (m.map Prod.fst).Nodup → mput t m m[i].1 v = m.set i (m[i].1, v)
  | [], _, h, _ => by simp at h
  | a :: r, 0, _, _ => by simp [mput]
  | a :: r, i + 1, h, hn => by
    simp only [List.map_cons, List.nodup_cons] at hn
    have hi : i < r.length := by simpa using h
    have hne : ¬ a.1 = r[i].1 := fun e => hn.1 (by rw [e]; exact List.mem_map.2 ⟨_, List.getElem_mem hi, rfl⟩)
    have ih := mput_at (t := t) (v := v) hi hn.2
    simp only [List.getElem_cons_succ, mput, hne, decide_false, cond_false, List.set_cons_succ, ih]
theorem mput_new {t : Ty} {a : Int} {v : t.D} : ∀ {m : List (Int × t.D)}, mhas t m a = false → mput t m a v = m ++ [(a, v)]
  | [], _ => rfl
  | e :: r, h => by
    by_cases h1 : e.1 = a
    · simp [mhas, mget?, h1] at h
    · have h2 : mhas t r a = false := by simpa [mhas, mget?, h1] using h
      simp only [mput, h1, decide_false, cond_false, mput_new h2, List.cons_append]
theorem has_mem {t : Ty} {a : Int} : ∀ {m : List (Int × t.D)}, mhas t m a = true ↔ a ∈ m.map Prod.fst
  | [] => by simp [mhas, mget?]
  | e :: r => by
    have ih := has_mem (t := t) (a := a) (m := r)
    by_cases h1 : e.1 = a
    · simp [mhas, mget?, h1]
    · have h2 : ¬ a = e.1 := fun q => h1 q.symm
      simp only [List.map_cons, List.mem_cons, h2, false_or, ← ih]
      simp [mhas, mget?, h1]
/- The place of opening number i + 1. -/
theorem getD_set' {α : Type} {l : List α} {i j : Nat} {v d : α} (h : i < l.length) : (l.set i v).getD j d = if i = j then v else l.getD j d := by
  rw [List.getD_eq_getElem?_getD, List.getElem?_set]
  by_cases e : i = j
  · subst e; simp [h]
  · rw [if_neg e, if_neg e, List.getD_eq_getElem?_getD]
theorem getD_mem {α : Type} {l : List α} {i : Nat} {d : α} (h : i < l.length) : l.getD i d ∈ l := by
  rw [List.getD_eq_getElem?_getD, List.getElem?_eq_getElem h]
  exact List.getElem_mem h
theorem e_equal (x : List Int × List Int × Unit) (_ : True) (hl : LensL cEqual.as x) : E_equal x := by
  obtain ⟨xs, ys, u⟩ := x
  have hlx : xs.length ≤ 9223372036854775807 := hl.1.1
  unfold E_equal
  simp only [Bool.not_eq_true', Bool.not_eq_false', Bool.not_eq_true, Bool.not_eq_false, beq_self_eq_true, decide_eq_true_eq, decide_eq_false_iff_not, Bool.not_false, Bool.not_true, beq_iff_eq, beq_eq_false_iff_ne, bne_iff_ne, ne_eq, bne_eq_false_iff_eq, holds_iff, true_and, and_true, and_self, eq_self, List.length_cons, List.length_nil, List.length_append, List.length_set, List.length_replicate, List.set_cons_zero, cond_true, cond_false, Bool.false_eq_true, Bool.true_eq_false, forall_const, false_imp_iff, imp_self, implies_true, and_imp, Decidable.not_not, Bool.and_eq_true, Bool.or_eq_true, Bool.and_eq_false_iff, Bool.or_eq_false_iff, ← List.length_eq_zero_iff, or_self, or_false, false_or, Prod.forall, Int.reduceEq, Int.reduceLT, Int.reduceLE, List.nil_append, Nat.zero_add, Int.toNat_zero, List.drop_zero, List.length_drop, List.length_take, not_true_eq_false, not_false_eq_true]
  try simp only [flip_f, flip_t, decide_eq_true_eq, decide_eq_false_iff_not]
  repeat' (first | with_reducible apply And.intro | with_reducible intro _)
  all_goals try omega
  all_goals grind [takeI_succ, takeI_all]
theorem e_equalf (x : List (List Int) × List (List Int) × Unit) (_ : True) (hl : LensL cEqualF.as x) : E_equalf x := by
  obtain ⟨xs, ys, u⟩ := x
  have hlx : xs.length ≤ 9223372036854775807 := hl.1.1
  unfold E_equalf
  simp only [Bool.not_eq_true', Bool.not_eq_false', Bool.not_eq_true, Bool.not_eq_false, beq_self_eq_true, decide_eq_true_eq, decide_eq_false_iff_not, Bool.not_false, Bool.not_true, beq_iff_eq, beq_eq_false_iff_ne, bne_iff_ne, ne_eq, bne_eq_false_iff_eq, holds_iff, true_and, and_true, and_self, eq_self, List.length_cons, List.length_nil, List.length_append, List.length_set, List.length_replicate, List.set_cons_zero, cond_true, cond_false, Bool.false_eq_true, Bool.true_eq_false, forall_const, false_imp_iff, imp_self, implies_true, and_imp, Decidable.not_not, Bool.and_eq_true, Bool.or_eq_true, Bool.and_eq_false_iff, Bool.or_eq_false_iff, ← List.length_eq_zero_iff, or_self, or_false, false_or, Prod.forall, Int.reduceEq, Int.reduceLT, Int.reduceLE, List.nil_append, Nat.zero_add, Int.toNat_zero, List.drop_zero, List.length_drop, List.length_take, not_true_eq_false, not_false_eq_true]
  try simp only [flip_f, flip_t, decide_eq_true_eq, decide_eq_false_iff_not]
  repeat' (first | with_reducible apply And.intro | with_reducible intro _)
  all_goals try omega
  all_goals grind [takeI_succ, takeI_all]
theorem e_clone (x : List Int × Unit) (hp : x.1.length ≤ 400) (hl : LensL cClone.as x) : E_clone x := by
  obtain ⟨l, u⟩ := x
  simp only [] at hp
  unfold E_clone
  intro b hb
  refine ⟨fun h => (hb h).symm, fun _ => ⟨⟨?_, ?_⟩, rfl⟩⟩
  · simp only [List.length_nil]; omega
  · simp only [List.length_nil]; omega
theorem e_idx (x : List Int × Int × Unit) (hp : True) (hl : pIdx.lens x) : E_idx x := by
  obtain ⟨l, y, u⟩ := x
  have hlen : l.length ≤ 9223372036854775807 := hl.1.1
  unfold E_idx
  simp only [Bool.not_eq_true', Bool.not_eq_false', Bool.not_eq_true, Bool.not_eq_false, beq_self_eq_true, decide_eq_true_eq, decide_eq_false_iff_not, Bool.not_false, Bool.not_true, beq_iff_eq, beq_eq_false_iff_ne, bne_iff_ne, ne_eq, bne_eq_false_iff_eq, holds_iff, true_and, and_true, and_self, eq_self, List.length_cons, List.length_nil, List.length_append, List.length_set, List.length_replicate, List.set_cons_zero, cond_true, cond_false, Bool.false_eq_true, Bool.true_eq_false, forall_const, false_imp_iff, imp_self, implies_true, and_imp, Decidable.not_not, Bool.and_eq_true, Bool.or_eq_true, Bool.and_eq_false_iff, Bool.or_eq_false_iff, ← List.length_eq_zero_iff, or_self, or_false, false_or, Prod.forall, Int.reduceEq, Int.reduceLT, Int.reduceLE, List.nil_append, Nat.zero_add, Int.toNat_zero, List.drop_zero, List.length_drop, List.length_take, not_true_eq_false, not_false_eq_true]
  try simp only [flip_f, flip_t, decide_eq_true_eq, decide_eq_false_iff_not]
  refine ⟨⟨by omega, rfl⟩, ?_⟩
  intro k h0 h1 h2 _ _
  refine ⟨fun h => ⟨⟨h0, h⟩, fun hb => ?_, fun hb => ⟨by omega, ⟨⟨by omega, by omega, take_none h0 h h2 hb⟩, by omega⟩⟩⟩, fun h => ?_⟩
  · rw [idx_at (by omega) h2 hb]; omega
  · rw [takeI_all (by omega)] at h2
    exact (idx_none h2).symm
theorem okT_iff {t : Th} : okT t = true ↔ (0 ≤ t.1 ∧ t.1 ≤ 10000) ∧ (0 ≤ t.2.1 ∧ t.2.1 < 32) ∧ 0 ≤ t.2.2 ∧ t.2.2 ≤ 10000 := by unfold okT; simp; omega
theorem all_at {l : List Th} {k : Nat} (h : l.all okT = true) (hk : k < l.length) : okT (l.getD k (0, 0, 0)) = true := List.all_eq_true.1 h _ (getD_mem hk)
theorem all_succ {l : List Th} {k : Int} (h0 : 0 ≤ k) (hk : k < l.length) (h : (l.take k.toNat).all okT = true) : (l.take (k + 1).toNat).all okT = okT (l.getD k.toNat (0, 0, 0)) := by
  rw [takeI_succ (0, 0, 0) h0 hk, List.all_append, h]
  simp
theorem wr_bad {n sl : Int} {l : List Th} (h : ¬ okA n sl l) : wr n sl l = 2 := by unfold wr; rw [if_neg (fun e => h e.1)]
theorem wr_badT {n sl : Int} {l : List Th} {k : Int} (h0 : 0 ≤ k) (hk : k < l.length) (h : okT (l.getD k.toNat (0, 0, 0)) = false) : wr n sl l = 2 := by
  unfold wr
  rw [if_neg]
  intro e
  rw [all_at e.2 (by omega)] at h
  cases h
theorem wr_ok {n sl : Int} {l : List Th} (h : okA n sl l) (h' : l.all okT = true) : wr n sl l = 0 := by unfold wr; rw [if_pos ⟨h, h'⟩]

end Go.Proofs.Ytpnmfoojmodnlaa.Cores
