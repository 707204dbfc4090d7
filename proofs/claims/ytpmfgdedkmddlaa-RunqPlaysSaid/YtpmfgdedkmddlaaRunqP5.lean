/-
  RunqPlays: one thing done to the queue in memory, and who is left.
-/
import Derived.Test.YtpmfgdedkmddlaaRunqP4
namespace Go.Proofs.Ytpmfgdedkmddlaa.Runq
open Go.Sx
set_option maxRecDepth 100000
set_option maxHeartbeats 1000000
set_option linter.unusedSimpArgs false
set_option linter.unusedVariables false

theorem RQ_nil : RQ (0, List.replicate 32 [], []) [] := by
  refine ⟨⟨by simp, by decide, by decide⟩, fun e he => (by cases he), List.nodup_nil, List.Pairwise.nil, fun i hi => ?_, fun id => ⟨?_, fun e he => (by cases he)⟩, List.nodup_nil⟩
  · have e : (List.replicate 32 ([] : List Int)).getD i [] = [] := by
      unfold List.getD
      rw [List.getElem?_replicate]
      split <;> rfl
    show (List.replicate 32 ([] : List Int)).getD i [] = _ ∧ ((0 : Int).toNat.testBit i = true ↔ (List.replicate 32 ([] : List Int)).getD i [] ≠ [])
    rw [e]
    refine ⟨rfl, ?_⟩
    simp
  · show mhas I64 [] id = true ↔ 0 ≤ posQ [] id
    rw [posQ_nil]
    simp [mhas, mget?]
theorem RQ_zero {q : QM} {l : QL} (h : RQ q l) (hz : q.1 = 0) : l = [] := by
  cases l with
  | nil => rfl
  | cons a r =>
    have hr := h.2.1 a (List.mem_cons_self ..)
    have := (RQ_bit h hr.1 (by omega)).2 (List.ne_nil_of_mem (mem_atL.2 ⟨List.mem_cons_self .., rfl⟩))
    rw [hz] at this
    simp at this
theorem RQ_top {q : QM} {l : QL} (h : RQ q l) (hz : q.1 ≠ 0) :
    ∃ t : Nat, t < 32 ∧ ((Lib.bitLen q.1.toNat : Nat) : Int) - 1 = t ∧ l ≠ [] ∧ 0 < (lvl q (t : Int)).length ∧ firstQ q = (l.getD 0 (0, 0)).1 ∧ posQ l (firstQ q) = 0 := by
  have hq := h.1.2
  obtain ⟨t, t0, t1, t2, t3⟩ := top_bit 32 (v := q.1.toNat) (by omega) (by have e : (2 : Nat) ^ 32 = 4294967296 := by decide
                                                                           omega) (by omega)
  have hat := (RQ_bit h (lev := (t : Int)) (by omega) (by omega)).1 (by simpa using t2)
  have hb : ((Lib.bitLen q.1.toNat : Nat) : Int) - 1 = t := by omega
  have hL := RQ_lvl h (lev := (t : Int)) (by omega) (by omega)
  have hf : firstQ q = (ids (atL l (t : Int))).getD 0 0 := by unfold firstQ; rw [hb, hL]
  cases l with
  | nil => exact absurd rfl hat
  | cons a r =>
    have hr := h.2.1 a (List.mem_cons_self ..)
    have ha := (RQ_bit h hr.1 (by omega)).2 (List.ne_nil_of_mem (mem_atL.2 ⟨List.mem_cons_self .., rfl⟩))
    have h1 : a.2 ≤ t := by
      rcases Int.lt_or_le (t : Int) a.2 with g | g
      · rw [t3 a.2.toNat (by omega)] at ha
        cases ha
      · exact g
    obtain ⟨x, hx⟩ := List.exists_mem_of_ne_nil _ hat
    obtain ⟨hx1, hx2⟩ := mem_atL.1 hx
    have h2 : (t : Int) ≤ a.2 := by
      rcases List.mem_cons.1 hx1 with rfl | g
      · omega
      · have := (List.pairwise_cons.1 h.2.2.2.1).1 x g
        omega
    have h3 : a.2 = (t : Int) := by omega
    have hat2 : atL (a :: r) (t : Int) = a :: atL r (t : Int) := by
      unfold atL
      rw [List.filter_cons]
      simp [h3]
    rw [hat2] at hf hL
    have hf2 : firstQ q = a.1 := hf
    refine ⟨t, t0, hb, by simp, by rw [hL]; simp [ids], hf2, ?_⟩
    have := posQ_at (l := a :: r) (id := a.1) (k := 0) (by simp) rfl rfl
    rw [hf2, this]
    rfl
theorem doQ_err2 {q : QM} {o : RO} (h : o.1 = 1 ∨ o.1 = 2) (h2 : o.2.2 < 0 ∨ 31 < o.2.2) : doQ q o = (q, 0, 2) := by
  unfold doQ; rw [if_pos (isAdd_iff.2 h), if_pos h2]
theorem doQ_err6 {q : QM} {o : RO} (h : o.1 = 1 ∨ o.1 = 2) (h2 : ¬ (o.2.2 < 0 ∨ 31 < o.2.2)) (h3 : mhas I64 q.2.2 o.2.1 = true) : doQ q o = (q, 0, 6) := by
  unfold doQ; rw [if_pos (isAdd_iff.2 h), if_neg h2, if_pos h3]
theorem doQ_add {q : QM} {o : RO} (h : o.1 = 1 ∨ o.1 = 2) (h2 : ¬ (o.2.2 < 0 ∨ 31 < o.2.2)) (h3 : ¬ mhas I64 q.2.2 o.2.1 = true) : doQ q o = (addQ q o.2.1 o.2.2 (decide (o.1 = 2)), 0, 0) := by
  unfold doQ; rw [if_pos (isAdd_iff.2 h), if_neg h2, if_neg h3]
theorem doQ_err3a {q : QM} {o : RO} (h : o.1 = 3) (h2 : q.1 = 0) : doQ q o = (q, 0, 3) := by
  unfold doQ; rw [if_neg (by rw [isAdd_iff]; omega), if_pos h, if_pos h2]
theorem doQ_take {q : QM} {o : RO} (h : o.1 = 3) (h2 : ¬ q.1 = 0) : doQ q o = (dropQ q (firstQ q), firstQ q, 0) := by
  unfold doQ; rw [if_neg (by rw [isAdd_iff]; omega), if_pos h, if_neg h2]
theorem doQ_drop {q : QM} {o : RO} (h : o.1 = 4) (h2 : mhas I64 q.2.2 o.2.1 = true) : doQ q o = (dropQ q o.2.1, 0, 0) := by
  unfold doQ; rw [if_neg (by rw [isAdd_iff]; omega), if_neg (by omega), if_pos h, if_pos h2]
theorem doQ_err3b {q : QM} {o : RO} (h : o.1 = 4) (h2 : ¬ mhas I64 q.2.2 o.2.1 = true) : doQ q o = (q, 0, 3) := by
  unfold doQ; rw [if_neg (by rw [isAdd_iff]; omega), if_neg (by omega), if_pos h, if_neg h2]
theorem doQ_err5 {q : QM} {o : RO} (h : ¬ o.1 = 1) (h2 : ¬ o.1 = 2) (h3 : ¬ o.1 = 3) (h4 : ¬ o.1 = 4) : doQ q o = (q, 0, 5) := by
  unfold doQ; rw [if_neg (by rw [isAdd_iff]; omega), if_neg h3, if_neg h4]
theorem next_err {l : QL} {o : RO} (h : errQ l o ≠ 0) : nextQ l o = l := by unfold nextQ; rw [if_pos h]
theorem doQ_law {q : QM} {l : QL} {o : RO} (h : RQ q l) : (doQ q o).2.2 = errQ l o ∧ RQ (doQ q o).1 (nextQ l o) ∧ (errQ l o = 0 → o.1 = 3 → (doQ q o).2.1 = (l.getD 0 (0, 0)).1) := by
  have hm : ∀ id, mhas I64 q.2.2 id = true ↔ 0 ≤ posQ l id := fun id => (h.2.2.2.2.2.1 id).1
  by_cases h1 : o.1 = 1 ∨ o.1 = 2
  · by_cases h2 : o.2.2 < 0 ∨ 31 < o.2.2
    · have e := err2 (l := l) h1 h2
      rw [doQ_err2 h1 h2, next_err (by omega), e]
      exact ⟨rfl, h, fun g => by omega⟩
    · by_cases h3 : 0 ≤ posQ l o.2.1
      · have e := err6 h1 h2 h3
        rw [doQ_err6 h1 h2 ((hm _).2 h3), next_err (by omega), e]
        exact ⟨rfl, h, fun g => by omega⟩
      · have e := err_add h1 h2 h3
        rw [doQ_add h1 h2 (fun g => h3 ((hm _).1 g)), e]
        refine ⟨rfl, ?_, fun _ g => by omega⟩
        unfold nextQ
        rw [if_neg (by omega), if_pos (isAdd_iff.2 h1)]
        exact RQ_add h h1 (by omega) (by omega) h3
  · by_cases h3 : o.1 = 3
    · by_cases hz : q.1 = 0
      · have e := err3 (l := l) (o := o) (.inl ⟨h3, RQ_zero h hz⟩)
        rw [doQ_err3a h3 hz, next_err (by omega), e]
        exact ⟨rfl, h, fun g => by omega⟩
      · obtain ⟨t, _, _, hl, _, hf, hp⟩ := RQ_top h hz
        have e := err_take h3 hl
        rw [doQ_take h3 hz, e]
        refine ⟨rfl, ?_, fun _ _ => hf⟩
        unfold nextQ
        rw [if_neg (by omega), if_neg (by rw [isAdd_iff]; omega), if_pos h3]
        have := RQ_drop h (id := firstQ q) (by omega)
        rw [hp] at this
        have e2 : l.eraseIdx (0 : Int).toNat = l.drop 1 := by cases l <;> rfl
        rw [e2] at this
        exact this
    · by_cases h4 : o.1 = 4
      · by_cases hp : 0 ≤ posQ l o.2.1
        · have e := err_drop h4 hp
          rw [doQ_drop h4 ((hm _).2 hp), e]
          refine ⟨rfl, ?_, fun _ g => by omega⟩
          unfold nextQ
          rw [if_neg (by omega), if_neg (by rw [isAdd_iff]; omega), if_neg h3]
          exact RQ_drop h hp
        · have e := err3 (l := l) (o := o) (.inr ⟨h4, by omega⟩)
          rw [doQ_err3b h4 (fun g => hp ((hm _).1 g)), next_err (by omega), e]
          exact ⟨rfl, h, fun g => by omega⟩
      · have e : errQ l o = 5 ∨ errQ l o = 0 := by
          by_cases h5 : o.1 < 1 ∨ 4 < o.1
          · exact .inl (err5 h5)
          · omega
        rcases e with e | e
        · rw [doQ_err5 (by omega) (by omega) h3 h4, next_err (by omega), e]
          exact ⟨rfl, h, fun g => by omega⟩
        · exfalso
          rw [err5 (by omega)] at e
          cases e
theorem next_len {l : QL} {o : RO} : (nextQ l o).length ≤ l.length + 1 := by
  unfold nextQ
  split
  · omega
  · split
    · simp only [List.length_append, List.length_cons, List.length_take, List.length_drop]
      omega
    · split
      · rw [List.length_drop]; omega
      · rw [List.length_eraseIdx]; split <;> omega
theorem st_eq {q : QM} {l : QL} {e t : List Int} {o : RO} (h : RQ q l) : stQ (l, e, t) o = (nextQ l o, e ++ [(doQ q o).2.2], if (doQ q o).2.2 = 0 ∧ o.1 = 3 then t ++ [(doQ q o).2.1] else t) := by
  obtain ⟨a1, _, a3⟩ := doQ_law (o := o) h
  unfold stQ
  simp only [a1]
  by_cases g : errQ l o = 0 ∧ o.1 = 3
  · rw [if_pos g, if_pos g, a3 g.1 g.2]
  · rw [if_neg g, if_neg g]
/- Who is left, level by level. -/
theorem fil_step {c : Int} : ∀ {l : QL}, (l.Pairwise fun a b => b.2 ≤ a.2) → l.filter (fun e => decide (c - 1 < e.2)) = l.filter (fun e => decide (c < e.2)) ++ atL l c
  | [], _ => rfl
  | a :: r, h => by
    obtain ⟨h1, h2⟩ := List.pairwise_cons.1 h
    have ih := fil_step (c := c) h2
    unfold atL at ih ⊢
    rw [List.filter_cons, List.filter_cons, List.filter_cons]
    rcases Int.lt_trichotomy a.2 c with g | g | g
    · rw [if_neg (by simp; omega), if_neg (by simp; omega), if_neg (by simp; omega)]
      exact ih
    · have e : r.filter (fun e => decide (c < e.2)) = [] := by
        rw [List.filter_eq_nil_iff]
        intro x hx
        have := h1 x hx
        simp; omega
      rw [if_pos (by simp; omega), if_neg (by simp; omega), if_pos (by simp [g]), ih, e]
      rfl
    · rw [if_pos (by simp; omega), if_pos (by simp; omega), if_neg (by simp; omega), ih]
      rfl
theorem left_to {q : QM} {l : QL} (h : RQ q l) : ∀ n : Nat, n ≤ 32 → ((List.range n).map fun j => q.2.1.getD (31 - j) []).flatten = ids (l.filter fun e => decide (31 - (n : Int) < e.2))
  | 0, _ => by
    have e : l.filter (fun e => decide (31 - ((0 : Nat) : Int) < e.2)) = [] := by
      rw [List.filter_eq_nil_iff]
      intro x hx
      have := (h.2.1 x hx).2
      simp; omega
    rw [e]
    rfl
  | n + 1, hn => by
    rw [List.range_succ, List.map_append, List.flatten_append, left_to h n (by omega)]
    have hs := fil_step (c := 31 - (n : Int)) h.2.2.2.1
    rw [show 31 - ((n + 1 : Nat) : Int) = 31 - (n : Int) - 1 by omega, hs]
    have hL := RQ_lvl h (lev := ((31 - n : Nat) : Int)) (by omega) (by omega)
    rw [show (31 : Int) - (n : Int) = ((31 - n : Nat) : Int) by omega]
    unfold ids at hL ⊢
    rw [List.map_append]
    congr 1
    rw [← hL]
    simp [lvl]
theorem left_all {q : QM} {l : QL} (h : RQ q l) : ((List.range 32).map fun j => q.2.1.getD (31 - j) []).flatten = ids l := by
  rw [left_to h 32 (by omega)]
  have e : l.filter (fun e => decide (31 - ((32 : Nat) : Int) < e.2)) = l := by
    rw [List.filter_eq_self]
    intro x hx
    have := (h.2.1 x hx).1
    simp; omega
  rw [e]
theorem left_len {q : QM} {l : QL} (h : RQ q l) {n : Nat} (hn : n ≤ 32) : (((List.range n).map fun j => q.2.1.getD (31 - j) []).flatten).length ≤ l.length := by
  rw [left_to h n hn]
  unfold ids
  rw [List.length_map]
  exact List.length_filter_le _ _
theorem left_succ {xs : List (List Int)} {k : Int} (h0 : 0 ≤ k) (h1 : k ≤ 31) : ((List.range (31 - (k - 1)).toNat).map fun j => xs.getD (31 - j) []).flatten = ((List.range (31 - k).toNat).map fun j => xs.getD (31 - j) []).flatten ++ xs.getD k.toNat [] := by
  rw [show (31 - (k - 1)).toNat = (31 - k).toNat + 1 by omega, List.range_succ, List.map_append, List.flatten_append]
  congr 1
  rw [List.map_singleton, List.flatten_singleton, show 31 - (31 - k).toNat = k.toNat by omega]
theorem ins0 {L : List Int} {x : Int} : insA L 0 [x] = x :: L := rfl

end Go.Proofs.Ytpmfgdedkmddlaa.Runq
