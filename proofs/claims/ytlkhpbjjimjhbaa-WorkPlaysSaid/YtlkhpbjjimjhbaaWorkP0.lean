/-
  WorkPlays: the plain law.
-/
import Derived.Test.YtlkhpbjjimjhbaaWorkE
namespace Go.Proofs.Ytlkhpbjjimjhbaa.Work
open Go.Sx
set_option maxRecDepth 100000
set_option maxHeartbeats 1000000
set_option linter.unusedSimpArgs false
set_option linter.unusedVariables false

theorem take_all {α : Type} {l : List α} : l.take (l.length : Int).toNat = l := by simp
theorem toNat1 : Int.toNat 1 = 1 := rfl
theorem takeI_succ {α : Type} (d : α) {l : List α} {k : Int} (h0 : 0 ≤ k) (h1 : k < l.length) : l.take (k + 1).toNat = l.take k.toNat ++ [l.getD k.toNat d] := by
  have e : (k + 1).toNat = k.toNat + 1 := by omega
  have hlt : k.toNat < l.length := by omega
  rw [e, List.take_add_one, List.getElem?_eq_getElem hlt]
  simp [hlt]
theorem takeI_all {α : Type} {l : List α} {k : Int} (h : (l.length : Int) ≤ k) : l.take k.toNat = l := List.take_of_length_le (by omega)
theorem idx_range (l : List Int) (x : Int) : -1 ≤ idx l x ∧ idx l x < l.length := by
  unfold idx
  cases h : l.idxOf? x with
  | none => simp only []; omega
  | some i =>
    have := List.findIdx?_eq_some_iff_getElem.1 (show l.findIdx? (· == x) = some i from h)
    obtain ⟨h1, _⟩ := this
    simp only []
    omega
theorem idx_mem {l : List Int} {x : Int} : 0 ≤ idx l x ↔ x ∈ l := by
  unfold idx
  cases h : l.idxOf? x with
  | none =>
    rw [List.idxOf?_eq_none_iff] at h
    simp only []
    constructor
    · intro h2; omega
    · intro h2; exact absurd h2 h
  | some i =>
    simp only []
    constructor
    · intro _
      have := List.findIdx?_eq_some_iff_getElem.1 (show l.findIdx? (· == x) = some i from h)
      obtain ⟨h1, h2, _⟩ := this
      have h2 : l[i] = x := by simpa using h2
      rw [← h2]
      exact List.getElem_mem h1
    · intro _; omega
theorem idx_at {l : List Int} {x : Int} {k : Nat} (hk : k < l.length) (hn : (l.take k).idxOf? x = none) (hg : l.getD k 0 = x) : idx l x = k := by
  have e : l.idxOf? x = some k := by
    show l.findIdx? (· == x) = some k
    rw [List.findIdx?_eq_some_iff_getElem]
    refine ⟨hk, ?_, fun j hj => ?_⟩
    · have : l[k] = x := by rw [← hg]; simp [List.getD, hk]
      simp [this]
    · rw [List.idxOf?_eq_none_iff] at hn
      intro h
      have h : l[j] = x := by simpa using h
      exact hn (by rw [← h]; exact List.mem_take_iff_getElem.2 ⟨j, by omega, rfl⟩)
  unfold idx
  rw [e]
theorem idx_none {l : List Int} {x : Int} (h : l.idxOf? x = none) : idx l x = -1 := by
  unfold idx
  rw [h]
theorem take_none {l : List Int} {x : Int} {k : Int} (h0 : 0 ≤ k) (h1 : k < l.length) (hn : (l.take k.toNat).idxOf? x = none) (hg : ¬ l.getD k.toNat 0 = x) : (l.take (k + 1).toNat).idxOf? x = none := by
  rw [takeI_succ 0 h0 h1, List.idxOf?_eq_none_iff, List.mem_append]
  rw [List.idxOf?_eq_none_iff] at hn
  rintro (h | h)
  · exact hn h
  · exact hg (List.mem_singleton.1 h).symm
/- The deletion in place. -/
theorem del_eq {a V W : List Int} {i j n m : Nat} (hj : j = i + 1) (hi : i < a.length) (hn : n = i + (a.length - j)) (hm : m = n) :
    (((a.take i ++ (a.drop j ++ V)).take m ++ W).take n) = a.take i ++ a.drop (i + 1) := by
  subst hm
  subst hj
  have hl : (a.take i ++ a.drop (i + 1)).length = m := by rw [List.length_append, List.length_take, List.length_drop]; omega
  rw [← List.append_assoc, ← hl, List.take_left, List.take_left]
/- The last occurrence. -/
theorem cutL_app (x : Int) (l : List Int) : (cutL x l).1 ++ (cutL x l).2 = l := by
  induction l with
  | nil => rfl
  | cons a l ih =>
    unfold cutL
    by_cases h : a = x ∨ x ∈ l
    · rw [if_pos h]; simp [ih]
    · rw [if_neg h]; rfl
theorem cutL_none {x : Int} {l : List Int} (h : ¬ x ∈ l) : cutL x l = ([], l) := by
  cases l with
  | nil => rfl
  | cons a l =>
    unfold cutL
    rw [if_neg (by simp at h ⊢; exact ⟨fun e => h.1 e.symm, h.2⟩)]
theorem cutL_snoc (x a : Int) (l : List Int) : cutL x (l ++ [a]) = if a = x then (l ++ [a], []) else ((cutL x l).1, (cutL x l).2 ++ [a]) := by
  induction l with
  | nil =>
    by_cases h : a = x <;> simp [cutL, h]
  | cons b l ih =>
    rw [List.cons_append]
    unfold cutL
    by_cases h : a = x
    · rw [if_pos h] at ih ⊢
      rw [if_pos (by right; simp [h]), ih]
    · rw [if_neg h] at ih ⊢
      have e : (b = x ∨ x ∈ l ++ [a]) ↔ (b = x ∨ x ∈ l) := by
        simp only [List.mem_append, List.mem_singleton]
        constructor
        · rintro (h1 | h1 | h1)
          · exact .inl h1
          · exact .inr h1
          · exact absurd h1.symm h
        · rintro (h1 | h1)
          · exact .inl h1
          · exact .inr (.inl h1)
      by_cases h2 : b = x ∨ x ∈ l
      · rw [if_pos h2, if_pos (e.2 h2), ih]
      · rw [if_neg h2, if_neg (fun h3 => h2 (e.1 h3))]; rfl
theorem cutL_mem {x : Int} {l : List Int} (h : x ∈ l) : (cutL x l).1 ≠ [] := by
  cases l with
  | nil => cases h
  | cons a l =>
    unfold cutL
    rw [if_pos (by rcases List.mem_cons.1 h with e | e; exact .inl e.symm; exact .inr e)]
    simp
theorem cutL_cons {x a : Int} {l : List Int} (h : x ∈ a :: l) : cutL x (a :: l) = (a :: (cutL x l).1, (cutL x l).2) := by
  conv => lhs; unfold cutL
  rw [if_pos (by rcases List.mem_cons.1 h with e | e; exact .inl e.symm; exact .inr e)]
/- A round of the flush: begins or ends. -/
theorem flush_begin {x a b : Int} {l d : List Int} (hb : ¬ 0 ≤ b) (ha : 0 ≤ a) (h : x ∈ a :: l) : flush x (l, a, d) = flush x (a :: l, b, d) := by
  unfold flush lst
  simp only [if_neg hb, if_pos ha]
  rw [if_pos h, if_pos h]
theorem flush_end {x b : Int} {l d : List Int} (hb : 0 ≤ b) (hx : 0 ≤ x) (h : x = b ∨ x ∈ l) : flush x (l, -1, d ++ [b]) = flush x (l, b, d) := by
  unfold flush lst
  simp only [if_pos hb]
  rw [if_neg (show ¬ (0 : Int) ≤ -1 by omega)]
  rw [if_pos (show x ∈ b :: l from by simpa using h), cutL_cons (by simpa using h)]
  by_cases h2 : x ∈ l
  · rw [if_pos h2]
    simp
  · rw [if_neg h2, cutL_none h2]
theorem flush_id {x : Int} {s : WS} (h : ¬ x ∈ lst s) : flush x s = s := by
  unfold flush
  rw [if_neg h]
theorem flush_done {x : Int} {s : WS} (hx : 0 ≤ x) (h1 : ¬ s.2.1 = x) (h2 : ¬ 0 ≤ idx s.1 x) : flush x s = s := by
  refine flush_id ?_
  rw [idx_mem] at h2
  unfold lst
  by_cases h : 0 ≤ s.2.1
  · rw [if_pos h]
    simp only [List.mem_cons]
    rintro (e | e)
    · exact h1 e.symm
    · exact h2 e
  · rw [if_neg h]; exact h2
theorem cutL_len (x : Int) (l : List Int) : (cutL x l).1.length + (cutL x l).2.length = l.length := by
  rw [← List.length_append, cutL_app]
theorem flush_len (x : Int) (s : WS) : (lst (flush x s)).length + (flush x s).2.2.length = (lst s).length + s.2.2.length := by
  unfold flush
  by_cases h : x ∈ lst s
  · rw [if_pos h]
    have := cutL_len x (lst s)
    unfold lst at this ⊢
    simp only [List.length_append]
    rw [if_neg (show ¬ (0 : Int) ≤ -1 by omega)]
    omega
  · rw [if_neg h]
theorem cutL_sub {x a : Int} {l : List Int} (h : a ∈ (cutL x l).2) : a ∈ l := by
  rw [← cutL_app x l]
  exact List.mem_append_right _ h
theorem good_flush {s : WS} {k x : Int} (hg : good s k) : good (flush x s) k := by
  obtain ⟨h1, h2, h3⟩ := hg
  have hl := flush_len x s
  refine ⟨fun a ha => ?_, ?_, by omega⟩
  · unfold flush at ha
    by_cases h : x ∈ lst s
    · rw [if_pos h] at ha
      have ha := cutL_sub ha
      unfold lst at ha
      by_cases hb : 0 ≤ s.2.1
      · rw [if_pos hb] at ha
        rcases List.mem_cons.1 ha with e | e
        · rw [e]; omega
        · exact h1 a e
      · rw [if_neg hb] at ha
        exact h1 a ha
    · rw [if_neg h] at ha; exact h1 a ha
  · unfold flush
    by_cases h : x ∈ lst s
    · rw [if_pos h]; simp only []; omega
    · rw [if_neg h]; exact h2
theorem good_step {s : WS} {k : Int} {o : Int × Int} (hg : good s k) : good (step s o).1 (k + 1) := by
  have hw : good s (k + 1) := ⟨hg.1, hg.2.1, by have := hg.2.2; omega⟩
  obtain ⟨h1, h2, h3⟩ := hg
  obtain ⟨w, b, d⟩ := s
  obtain ⟨kd, it⟩ := o
  simp only [lst] at h1 h2 h3
  unfold step
  simp only []
  repeat' split
  all_goals first
    | exact hw
    | exact good_flush hw
    | skip
  · refine ⟨fun a ha => ?_, h2, ?_⟩
    · rcases List.mem_append.1 ha with e | e
      · exact h1 a e
      · have : a = it := by simpa using e
        omega
    · simp only [lst]
      by_cases hb : 0 ≤ b
      · rw [if_pos hb] at h3 ⊢
        simp only [List.length_cons, List.length_append, List.length_nil] at h3 ⊢
        omega
      · rw [if_neg hb] at h3 ⊢
        simp only [List.length_cons, List.length_append, List.length_nil] at h3 ⊢
        omega
  · rename_i hb hw0
    cases w with
    | nil => exact absurd rfl hw0
    | cons a l =>
      have ha := h1 a (by simp)
      refine ⟨fun c hc => h1 c (by simp at hc; simp [hc]), ?_, ?_⟩
      · show -1 ≤ a ∧ a ≤ 99
        omega
      · rw [if_neg hb] at h3
        simp only [lst, List.drop_succ_cons, List.drop_zero, List.getD_cons_zero]
        rw [if_pos ha.1]
        simp only [List.length_cons] at h3 ⊢
        omega
  · rename_i hb
    refine ⟨h1, ⟨by show (-1 : Int) ≤ -1; omega, by show (-1 : Int) ≤ 99; omega⟩, ?_⟩
    rw [if_pos (by omega)] at h3
    simp only [lst]
    rw [if_neg (by omega)]
    simp only [List.length_cons, List.length_append, List.length_nil] at h3 ⊢
    omega
  · refine ⟨fun a ha => ?_, h2, ?_⟩
    · rcases List.mem_append.1 ha with e | e
      · exact h1 a (List.mem_of_mem_take e)
      · exact h1 a (List.mem_of_mem_drop e)
    · simp only [lst]
      have hle : (w.take (idx w it).toNat ++ w.drop ((idx w it).toNat + 1)).length ≤ w.length := by
        rw [List.length_append, List.length_take, List.length_drop]; omega
      by_cases hb : 0 ≤ b
      · rw [if_pos hb] at h3 ⊢
        simp only [List.length_cons] at h3 ⊢
        omega
      · rw [if_neg hb] at h3 ⊢
        omega
theorem pl_succ {ops : List (Int × Int)} {k : Int} (h0 : 0 ≤ k) (h1 : k < ops.length) : pl (ops.take (k + 1).toNat) = one (pl (ops.take k.toNat)) (ops.getD k.toNat (0, 0)) := by
  unfold pl
  rw [takeI_succ (0, 0) h0 h1, List.foldl_append]
  rfl
theorem st_fin {ops : List (Int × Int)} {k c : Int} {s s' : WS} {e : List Int} {o : Int × Int} (h0 : 0 ≤ k) (h1 : k < ops.length) (hp : pl (ops.take k.toNat) = (s, e)) (hg : good s k) (he : (e.length : Int) = k)
    (ho : ops.getD k.toNat (0, 0) = o) (hs : step s o = (s', c)) :
    0 ≤ k + 1 ∧ k + 1 ≤ ops.length ∧ pl (ops.take (k + 1).toNat) = (s', e ++ [c]) ∧ good s' (k + 1) ∧ ((e.length + 1 : Nat) : Int) = k + 1 := by
  refine ⟨by omega, by omega, ?_, ?_, by omega⟩
  · rw [pl_succ h0 h1, hp, ho]
    unfold one
    rw [hs]
  · have := good_step (o := o) hg
    rw [hs] at this
    exact this

theorem fl_end {it a1 : Int} {a b1 : List Int} {R : WS} (hfl : flush it (a, a1, b1) = R) (hb : ¬ a1 < 0) (hx : 0 ≤ it) (h : a1 = it ∨ 0 ≤ idx a it) : flush it (a, -1, b1 ++ [a1]) = R := by
  rw [flush_end (by omega) hx (by rcases h with e | e; exact .inl e.symm; exact .inr (idx_mem.1 e))]
  exact hfl
theorem len_end {a1 : Int} {a b1 : List Int} (hb : ¬ a1 < 0) (h : ((lst (a, a1, b1)).length : Int) + b1.length ≤ 400) : ((lst (a, -1, b1 ++ [a1])).length : Int) + ((b1.length + 1 : Nat) : Int) ≤ 400 := by
  unfold lst at h ⊢
  simp only [] at h ⊢
  rw [if_pos (by omega)] at h
  rw [if_neg (by omega)]
  simp only [List.length_cons] at h
  omega
theorem mea_end {a1 : Int} {a b1 : List Int} (hb : ¬ a1 < 0) : mea (a, -1, b1 ++ [a1]) < mea (a, a1, b1) := by
  unfold mea
  simp only []
  rw [if_pos (show 0 ≤ a1 by omega), if_neg (by omega)]
  omega
theorem busy_ne {it a1 : Int} {a : List Int} (h : a1 = it ∨ 0 ≤ idx a it) (hit : 0 ≤ it) (hb : ¬ 0 ≤ a1) : ¬ (a.length : Int) = 0 := by
  have := (idx_range a it).2
  omega
theorem fl_begin {it a1 : Int} {a b1 : List Int} {R : WS} (hfl : flush it (a, a1, b1) = R) (hb : ¬ 0 ≤ a1) (hg : ∀ g, g ∈ a → 0 ≤ g) (hne : ¬ (a.length : Int) = 0) (hx : 0 ≤ it) (h : a1 = it ∨ 0 ≤ idx a it) :
    flush it (a.drop 1, a.getD 0 0, b1) = R := by
  cases a with
  | nil => exact absurd rfl hne
  | cons c l =>
    have hm : it ∈ c :: l := idx_mem.1 (by omega)
    rw [← hfl]
    exact flush_begin hb (hg c (by simp)) hm
theorem len_begin {a1 : Int} {a b1 : List Int} (hb : ¬ 0 ≤ a1) (hg : ∀ g, g ∈ a → 0 ≤ g) (hne : ¬ (a.length : Int) = 0) (h : ((lst (a, a1, b1)).length : Int) + b1.length ≤ 400) :
    ((lst (a.drop 1, a.getD 0 0, b1)).length : Int) + b1.length ≤ 400 := by
  cases a with
  | nil => exact absurd rfl hne
  | cons c l =>
    have hc := hg c (by simp)
    unfold lst at h ⊢
    simp only [List.drop_succ_cons, List.drop_zero, List.getD_cons_zero] at h ⊢
    rw [if_neg hb] at h
    rw [if_pos hc]
    exact h
theorem mea_begin {a1 : Int} {a b1 : List Int} (hb : ¬ 0 ≤ a1) (hne : ¬ (a.length : Int) = 0) : mea (a.drop 1, a.getD 0 0, b1) < mea (a, a1, b1) := by
  unfold mea
  simp only [List.length_drop]
  rw [if_neg hb]
  split <;> omega
theorem drop_ge {a : List Int} {g : Int} (h : ∀ g : Int, g ∈ a → 0 ≤ g) (hg : g ∈ a.drop 1) : 0 ≤ g := h g (List.mem_of_mem_drop hg)
theorem fl_exit {it a1 : Int} {a b1 : List Int} {R : WS} (hfl : flush it (a, a1, b1) = R) (hx : 0 ≤ it) (h1 : ¬ a1 = it) (h2 : ¬ 0 ≤ idx a it) : (R, (0 : Int)) = ((a, a1, b1), 0) := by
  rw [← hfl, flush_done hx h1 h2]

end Go.Proofs.Ytlkhpbjjimjhbaa.Work
