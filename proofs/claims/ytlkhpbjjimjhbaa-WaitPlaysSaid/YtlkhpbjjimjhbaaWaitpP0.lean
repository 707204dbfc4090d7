/-
  WaitPlays: the plain law.
-/
import Derived.Test.YtlkhpbjjimjhbaaWaitpE
namespace Go.Proofs.Ytlkhpbjjimjhbaa.Waitp
open Go.Sx
set_option maxRecDepth 100000
set_option maxHeartbeats 1000000
set_option linter.unusedSimpArgs false
set_option linter.unusedVariables false

theorem take_all {α : Type} {l : List α} : l.take (l.length : Int).toNat = l := by simp
theorem toNat1 : Int.toNat 1 = 1 := rfl
theorem takeI_succ {α : Type} (d : α) {l : List α} {k : Int} (h0 : 0 ≤ k) (h1 : k < l.length) : l.take (k + 1).toNat = l.take k.toNat ++ [l.getD k.toNat d] := by
  have e : (k + 1).toNat = k.toNat + 1 := by omega
  have hlt : k.toNat < l.length := by omega
  rw [e, List.take_add_one, List.getElem?_eq_getElem hlt]
  simp [hlt]
theorem takeI_all {α : Type} {l : List α} {k : Int} (h : (l.length : Int) ≤ k) : l.take k.toNat = l := List.take_of_length_le (by omega)
/- Where the threads are. -/
theorem idx_nil (t : Int) : idx [] t = -1 := rfl
theorem idx_cons (a t : Int) (l : List Int) : idx (a :: l) t = if a = t then 0 else if idx l t = -1 then -1 else idx l t + 1 := by
  unfold idx
  rw [List.idxOf?_cons]
  by_cases h : a = t
  · simp [h]
  · have h' : (a == t) = false := by simp [h]
    rw [h', if_neg h]
    cases hc : l.idxOf? t with
    | none => rfl
    | some i =>
      simp only [Bool.false_eq_true, if_false, Option.map_some]
      rw [if_neg (by omega)]
      omega
theorem idx_range (l : List Int) (x : Int) : -1 ≤ idx l x ∧ idx l x < l.length := by
  induction l with
  | nil => rw [idx_nil]; simp
  | cons a l ih =>
    rw [idx_cons]
    simp only [List.length_cons]
    split
    · omega
    · split <;> omega
theorem idx_mem {l : List Int} {t : Int} : 0 ≤ idx l t ↔ t ∈ l := by
  induction l with
  | nil => rw [idx_nil]; simp
  | cons a l ih =>
    rw [idx_cons, List.mem_cons, ← ih]
    have := idx_range l t
    by_cases h : a = t
    · rw [if_pos h]; simp [h.symm]
    · rw [if_neg h]
      have h2 : ¬ t = a := fun e => h e.symm
      simp only [h2, false_or]
      split <;> omega
theorem pos_range (l : OL) (t : Int) : -1 ≤ pos l t ∧ pos l t < l.length := by
  have := idx_range (l.map Prod.fst) t
  rw [List.length_map] at this
  exact this
theorem pos_cons (e : Int × Int) (l : OL) (t : Int) : pos (e :: l) t = if e.1 = t then 0 else if pos l t = -1 then -1 else pos l t + 1 := idx_cons _ _ _
theorem st_cons (e : Int × Int) (l : OL) (t : Int) : st (e :: l) t = if e.1 = t then e.2 else st l t := by
  unfold st
  rw [List.find?_cons]
  by_cases h : e.1 = t <;> simp [h]
theorem st_get {l : OL} {t : Int} (h : 0 ≤ pos l t) : st l t = (l.getD (pos l t).toNat (0, 0)).2 ∧ (l.getD (pos l t).toNat (0, 0)).1 = t := by
  induction l with
  | nil => exact absurd h (by show ¬ (0 : Int) ≤ -1; omega)
  | cons e l ih =>
    rw [pos_cons] at h ⊢
    rw [st_cons]
    by_cases he : e.1 = t
    · rw [if_pos he, if_pos he]; exact ⟨rfl, he⟩
    · rw [if_neg he] at h ⊢
      rw [if_neg he]
      have hr := pos_range l t
      by_cases h1 : pos l t = -1
      · rw [if_pos h1] at h; omega
      · rw [if_neg h1]
        rw [show (pos l t + 1).toNat = (pos l t).toNat + 1 by omega, List.getD_cons_succ]
        exact ih (by omega)
theorem st_none {l : OL} {t : Int} (h : pos l t < 0) : st l t = -1 := by
  induction l with
  | nil => rfl
  | cons e l ih =>
    rw [pos_cons] at h
    rw [st_cons]
    by_cases he : e.1 = t
    · rw [if_pos he] at h; omega
    · rw [if_neg he] at h ⊢
      have hr := pos_range l t
      by_cases h1 : pos l t = -1
      · exact ih (by omega)
      · rw [if_neg h1] at h; omega
theorem okL_tail {e : Int × Int} {l : OL} (h : okL (e :: l)) : okL l := by
  obtain ⟨h1, h2⟩ := h
  rw [List.map_cons, List.nodup_cons] at h1
  exact ⟨h1.2, fun a ha => h2 a (List.mem_cons_of_mem _ ha)⟩
theorem okL_head {e : Int × Int} {l : OL} (h : okL (e :: l)) : okE e ∧ ∀ a ∈ l, ¬ a.1 = e.1 := by
  obtain ⟨h1, h2⟩ := h
  rw [List.map_cons, List.nodup_cons] at h1
  exact ⟨h2 e List.mem_cons_self, fun a ha hc => h1.1 (by rw [← hc]; exact List.mem_map_of_mem ha)⟩
theorem setSt_off {l : OL} {t v : Int} (h : ∀ a ∈ l, ¬ a.1 = t) : setSt l t v = l := by
  unfold setSt
  rw [List.map_congr_left (g := id) (fun a ha => by rw [if_neg (h a ha)]; rfl), List.map_id]
theorem del_off {l : OL} {t : Int} (h : ∀ a ∈ l, ¬ a.1 = t) : del l t = l := by
  unfold del
  rw [List.filter_eq_self]
  intro a ha
  simp [h a ha]
theorem setSt_cons (e : Int × Int) (l : OL) (t v : Int) : setSt (e :: l) t v = (if e.1 = t then (e.1, v) else e) :: setSt l t v := rfl
theorem del_cons (e : Int × Int) (l : OL) (t : Int) : del (e :: l) t = if e.1 = t then del l t else e :: del l t := by
  unfold del
  rw [List.filter_cons]
  by_cases h : e.1 = t <;> simp [h]
/- By the index, as by the name. -/
theorem set_pos {l : OL} {t v : Int} (hok : okL l) (h : 0 ≤ pos l t) : l.set (pos l t).toNat (t, v) = setSt l t v := by
  induction l with
  | nil => rfl
  | cons e l ih =>
    rw [pos_cons] at h ⊢
    rw [setSt_cons]
    by_cases he : e.1 = t
    · rw [if_pos he, if_pos he, setSt_off (fun a ha => by rw [← he]; exact (okL_head hok).2 a ha)]
      rw [← he]; rfl
    · rw [if_neg he] at h ⊢
      rw [if_neg he]
      have hr := pos_range l t
      by_cases h1 : pos l t = -1
      · rw [if_pos h1] at h; omega
      · rw [if_neg h1]
        rw [show (pos l t + 1).toNat = (pos l t).toNat + 1 by omega, List.set_cons_succ, ih (okL_tail hok) (by omega)]
theorem del_pos {l : OL} {t : Int} (hok : okL l) (h : 0 ≤ pos l t) : l.take (pos l t).toNat ++ l.drop (pos l t + 1).toNat = del l t := by
  induction l with
  | nil => rfl
  | cons e l ih =>
    rw [pos_cons] at h ⊢
    rw [del_cons]
    by_cases he : e.1 = t
    · rw [if_pos he, if_pos he, del_off (fun a ha => by rw [← he]; exact (okL_head hok).2 a ha)]
      rfl
    · rw [if_neg he] at h ⊢
      rw [if_neg he]
      have hr := pos_range l t
      by_cases h1 : pos l t = -1
      · rw [if_pos h1] at h; omega
      · rw [if_neg h1]
        rw [show (pos l t + 1).toNat = (pos l t).toNat + 1 by omega, show (pos l t + 1 + 1).toNat = (pos l t + 1).toNat + 1 by omega, List.take_succ_cons, List.drop_succ_cons, List.cons_append, ih (okL_tail hok) (by omega)]
/- States of what was changed. -/
theorem st_set (l : OL) (t v k : Int) : st (setSt l t v) k = if k = t ∧ 0 ≤ pos l t then v else st l k := by
  induction l with
  | nil => rw [if_neg (fun h => absurd h.2 (by show ¬ (0 : Int) ≤ -1; omega))]; rfl
  | cons e l ih =>
    rw [setSt_cons, st_cons, st_cons, ih, pos_cons]
    have hr := pos_range l t
    by_cases he : e.1 = t
    · rw [if_pos he]
      simp only []
      by_cases hk : k = t
      · rw [if_pos (by rw [he, hk]), if_pos ⟨hk, by rw [if_pos he]; omega⟩]
      · rw [if_neg (fun h => hk (by rw [← h, he])), if_neg (fun h => hk h.1), if_neg (fun h => hk h.1), if_neg (fun h => hk (by rw [← h, he]))]
    · rw [if_neg he, if_neg he]
      by_cases hek : e.1 = k
      · rw [if_pos hek, if_neg (fun h => he (by rw [hek, h.1])), if_pos hek]
      · rw [if_neg hek, if_neg hek]
        by_cases hk : k = t ∧ 0 ≤ pos l t
        · rw [if_pos hk, if_pos ⟨hk.1, by split <;> omega⟩]
        · rw [if_neg hk, if_neg (fun h => hk ⟨h.1, by have h2 := h.2; split at h2 <;> omega⟩)]
theorem st_del (l : OL) (t k : Int) : st (del l t) k = if k = t then -1 else st l k := by
  induction l with
  | nil => by_cases h : k = t <;> simp [h] <;> rfl
  | cons e l ih =>
    rw [del_cons, st_cons]
    by_cases he : e.1 = t
    · rw [if_pos he, ih]
      by_cases hk : k = t
      · rw [if_pos hk, if_pos hk]
      · rw [if_neg hk, if_neg hk, if_neg (fun h => hk (by rw [← h, he]))]
    · rw [if_neg he, st_cons, ih]
      by_cases hek : e.1 = k
      · rw [if_pos hek, if_pos hek, if_neg (fun h => he (by rw [hek, h]))]
      · rw [if_neg hek, if_neg hek]
theorem st_snoc (l : OL) (t v k : Int) (h : pos l t < 0) : st (l ++ [(t, v)]) k = if k = t then v else st l k := by
  induction l with
  | nil =>
    show st [(t, v)] k = _
    rw [st_cons]
    by_cases hk : k = t
    · rw [if_pos hk, if_pos hk.symm]
    · rw [if_neg hk, if_neg (fun e => hk e.symm)]
  | cons e l ih =>
    rw [pos_cons] at h
    rw [List.cons_append, st_cons, st_cons]
    have hr := pos_range l t
    by_cases he : e.1 = t
    · rw [if_pos he] at h; omega
    · rw [if_neg he] at h
      rw [ih (by split at h <;> omega)]
      by_cases hek : e.1 = k
      · rw [if_pos hek, if_neg (fun h => he (by rw [hek, h])), if_pos hek]
      · rw [if_neg hek, if_neg hek]
theorem map_set (l : OL) (t v : Int) : (setSt l t v).map Prod.fst = l.map Prod.fst := by
  unfold setSt
  rw [List.map_map]
  apply List.map_congr_left
  intro a _
  simp only [Function.comp_def]
  split <;> rfl
theorem map_del (l : OL) (t : Int) : (del l t).map Prod.fst = (l.map Prod.fst).filter (fun y => !decide (y = t)) := by
  unfold del
  rw [List.filter_map]
  rfl
theorem okL_set {l : OL} {t v : Int} (h : okL l) (h0 : 0 ≤ v) (h2 : v ≤ 2) : okL (setSt l t v) := by
  refine ⟨by rw [map_set]; exact h.1, fun e he => ?_⟩
  unfold setSt at he
  obtain ⟨a, ha, rfl⟩ := List.mem_map.1 he
  have := h.2 a ha
  split
  · exact ⟨this.1, h0, h2⟩
  · exact this
theorem okL_del {l : OL} {t : Int} (h : okL l) : okL (del l t) := by
  refine ⟨by rw [map_del]; exact h.1.sublist List.filter_sublist, fun e he => h.2 e ((List.mem_filter.1 he).1)⟩
theorem okL_snoc {l : OL} {t : Int} (h : okL l) (hp : pos l t < 0) (h0 : 0 ≤ t) (h1 : t ≤ 63) : okL (l ++ [(t, 0)]) := by
  refine ⟨?_, fun e he => ?_⟩
  · rw [List.map_append, List.nodup_append]
    refine ⟨h.1, by simp, fun a ha b hb hab => ?_⟩
    simp only [List.map_cons, List.map_nil, List.mem_singleton] at hb
    subst hab
    have := idx_mem.2 ha
    rw [hb] at this
    unfold pos at hp
    omega
  · rcases List.mem_append.1 he with h2 | h2
    · exact h.2 e h2
    · rw [List.mem_singleton.1 h2]; exact ⟨⟨h0, h1⟩, by simp, by simp⟩
/- The first one that was not woken. -/
theorem wake1_at {l : OL} {j : Int} (h0 : 0 ≤ j) (h1 : j < l.length) (ha : (l.take j.toNat).all (fun e => decide (e.2 = 2)) = true) (h2 : ¬ (l.getD j.toNat (0, 0)).2 = 2) : wake1 l = l.set j.toNat ((l.getD j.toNat (0, 0)).1, 2) := by
  generalize hj : j.toNat = n at *
  have hn : n < l.length := by omega
  clear hj h0 h1
  induction n generalizing l with
  | zero =>
    cases l with
    | nil => exact absurd hn (by simp)
    | cons e l => exact if_neg h2
  | succ n ih =>
    cases l with
    | nil => exact absurd hn (by simp)
    | cons e l =>
      rw [List.take_succ_cons, List.all_cons, Bool.and_eq_true, decide_eq_true_eq] at ha
      rw [List.getD_cons_succ] at h2 ⊢
      rw [List.set_cons_succ, ← ih ha.2 h2 (by simpa using hn)]
      exact if_pos ha.1
theorem wake1_all {l : OL} (ha : l.all (fun e => decide (e.2 = 2)) = true) : wake1 l = l := by
  induction l with
  | nil => rfl
  | cons e l ih =>
    rw [List.all_cons, Bool.and_eq_true, decide_eq_true_eq] at ha
    show (if e.2 = 2 then e :: wake1 l else _) = _
    rw [if_pos ha.1, ih ha.2]
theorem wakeAll_all {l : OL} (ha : l.all (fun e => decide (e.2 = 2)) = true) : wakeAll l = l := by
  induction l with
  | nil => rfl
  | cons e l ih =>
    rw [List.all_cons, Bool.and_eq_true, decide_eq_true_eq] at ha
    show (e.1, 2) :: wakeAll l = _
    rw [ih ha.2, ← ha.1]
theorem wake1_len (l : OL) : (wake1 l).length = l.length := by
  induction l with
  | nil => rfl
  | cons e l ih => unfold wake1; split <;> simp [ih]
theorem wakeN_len (l : OL) (n : Nat) : (wakeN l n).length = l.length := by
  induction n with
  | zero => rfl
  | succ n ih => exact (wake1_len _).trans ih
theorem wake1_fst (l : OL) : (wake1 l).map Prod.fst = l.map Prod.fst := by
  induction l with
  | nil => rfl
  | cons e l ih => unfold wake1; split <;> simp [ih]
theorem wakeAll_wake1 (l : OL) : wakeAll (wake1 l) = wakeAll l := by
  have h : ∀ m : OL, wakeAll m = (m.map Prod.fst).map (fun t => (t, 2)) := fun m => by unfold wakeAll; rw [List.map_map]; rfl
  rw [h, h, wake1_fst]
theorem okL_wake1 {l : OL} (h : okL l) : okL (wake1 l) := by
  refine ⟨by rw [wake1_fst]; exact h.1, ?_⟩
  have h2 := h.2
  clear h
  induction l with
  | nil => exact h2
  | cons e l ih =>
    unfold wake1
    have he := h2 e List.mem_cons_self
    split
    · intro a ha
      rcases List.mem_cons.1 ha with rfl | ha
      · exact he
      · exact ih (fun b hb => h2 b (List.mem_cons_of_mem _ hb)) a ha
    · intro a ha
      rcases List.mem_cons.1 ha with rfl | ha
      · exact ⟨he.1, by simp, by simp⟩
      · exact h2 a (List.mem_cons_of_mem _ ha)
theorem okL_wakeAll {l : OL} (h : okL l) : okL (wakeAll l) := by
  refine ⟨by unfold wakeAll; rw [List.map_map]; exact h.1, fun e he => ?_⟩
  obtain ⟨a, ha, rfl⟩ := List.mem_map.1 he
  exact ⟨(h.2 a ha).1, by simp, by simp⟩
/- As many rounds as there are threads wake them all. -/
theorem wakeN_succ' (l : OL) (n : Nat) : wakeN l (n + 1) = wakeN (wake1 l) n := by
  induction n with
  | zero => rfl
  | succ n ih => show wake1 (wakeN l (n + 1)) = _; rw [ih]; rfl
theorem wakeN_cons2 (e : Int × Int) (l : OL) (n : Nat) (h : e.2 = 2) : wakeN (e :: l) n = e :: wakeN l n := by
  induction n with
  | zero => rfl
  | succ n ih =>
    show wake1 (wakeN (e :: l) n) = _
    rw [ih]
    exact if_pos h
theorem wakeN_all (l : OL) : ∀ n : Nat, l.length ≤ n → wakeN l n = wakeAll l := by
  induction l with
  | nil =>
    intro n _
    induction n with
    | zero => rfl
    | succ n ih => show wake1 (wakeN [] n) = _; rw [ih (by simp)]; rfl
  | cons e l ih =>
    intro n hn
    simp only [List.length_cons] at hn
    by_cases he : e.2 = 2
    · rw [wakeN_cons2 _ _ _ he, ih n (by omega)]
      show _ = (e.1, 2) :: wakeAll l
      rw [← he]
    · obtain ⟨m, rfl⟩ : ∃ m, n = m + 1 := ⟨n - 1, by omega⟩
      rw [wakeN_succ', show wake1 (e :: l) = (e.1, 2) :: l from if_neg he, wakeN_cons2 _ _ _ rfl, ih m (by omega)]
      rfl
/- One thing more. -/
theorem pl_snoc (l : List (Int × Int)) (o : Int × Int) : pl (l ++ [o]) = one (pl l) o := by simp [pl, List.foldl_append]
theorem pl_next {l : List (Int × Int)} {k : Int} (h0 : 0 ≤ k) (h : k < l.length) : pl (l.take (k + 1).toNat) = one (pl (l.take k.toNat)) (l.getD k.toNat (0, 0)) := by rw [takeI_succ (0, 0) h0 h, pl_snoc]
theorem good_step {s : OS} {o : Int × Int} {k : Int} (h : good s k) : good (step s o).1 (k + 1) := by
  obtain ⟨l, n, d⟩ := s
  obtain ⟨h1, h2, h3⟩ := h
  simp only [] at h1 h2 h3
  unfold step
  simp only []
  have hk : (d.length : Int) ≤ k + 1 := by omega
  repeat' split
  all_goals first
    | exact ⟨h1, h2, hk⟩
    | skip
  · exact ⟨okL_snoc h1 (by assumption) (by omega) (by omega), h2, hk⟩
  · exact ⟨okL_set h1 (by omega) (by omega), h2, hk⟩
  · refine ⟨okL_wake1 (okL_del h1), by simp only []; omega, ?_⟩
    simp only [List.length_append, List.length_cons, List.length_nil]; omega
  · refine ⟨okL_del h1, by simp only []; omega, ?_⟩
    simp only [List.length_append, List.length_cons, List.length_nil]; omega
  · exact ⟨okL_set h1 (by omega) (by omega), h2, hk⟩
  · exact ⟨okL_wake1 h1, by simp only []; omega, hk⟩
  · exact ⟨okL_wakeAll h1, h2, hk⟩

end Go.Proofs.Ytlkhpbjjimjhbaa.Waitp
