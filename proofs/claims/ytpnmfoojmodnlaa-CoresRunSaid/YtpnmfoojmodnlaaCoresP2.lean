/-
  CoresRun: the reference's state.
-/
import Derived.Test.YtpnmfoojmodnlaaCoresP1
namespace Go.Proofs.Ytpnmfoojmodnlaa.Cores
open Go.Sx
set_option maxRecDepth 100000
set_option maxHeartbeats 1000000
set_option linter.unusedSimpArgs false
set_option linter.unusedVariables false

theorem len_le {l : List Int} {n : Nat} (h : l.Nodup) (h2 : ∀ a ∈ l, 0 ≤ a ∧ a < n) : l.length ≤ n := by
  have hp : (l.map Int.toNat).Nodup := by
    unfold List.Nodup at *
    rw [List.pairwise_map]
    refine List.Pairwise.imp_of_mem ?_ h
    intro a b ha hb hab
    have := h2 a ha
    have := h2 b hb
    omega
  have := List.Nodup.length_le_of_subset hp (l₂ := List.range n) (fun x hx => by
    obtain ⟨a, ha, rfl⟩ := List.mem_map.1 hx
    have := h2 a ha
    exact List.mem_range.2 (by omega))
  simpa using this
def WF (l : List Th) (now : Int) (k : Nat) (q : NS) : Prop := (q.2.1.length = l.length ∧ q.2.2.length = l.length) ∧ (∀ y ∈ q.1, 0 ≤ y ∧ y < l.length) ∧ q.1.Nodup ∧ IN l now k q.1
def cq (l : List Th) (now : Int) (k : Nat) (q : NS) : NS := ((comes l now k (q.1, q.2.1)).1, (comes l now k (q.1, q.2.1)).2, q.2.2)
theorem th_nat {l : List Th} {i : Nat} : th l (i : Int) = l.getD i (0, 0, 0) := by unfold th; simp
theorem cq_succ {l : List Th} {now : Int} {k : Nat} {q : NS} : cq l now (k + 1) q = if (th l k).1 = now then ((cq l now k q).1 ++ [(k : Int)], (cq l now k q).2.1.set k (th l k).2.2, q.2.2) else cq l now k q := by
  have e : comes l now (k + 1) (q.1, q.2.1) = if (th l k).1 = now then ((comes l now k (q.1, q.2.1)).1 ++ [(k : Int)], (comes l now k (q.1, q.2.1)).2.set k (th l k).2.2) else comes l now k (q.1, q.2.1) := rfl
  unfold cq
  rw [e]
  by_cases h : (th l (k : Int)).1 = now
  · rw [if_pos h, if_pos h]
  · rw [if_neg h, if_neg h]
theorem cq_len {l : List Th} {now : Int} {k : Nat} {q : NS} : (cq l now k q).2.1.length = q.2.1.length := by
  induction k with
  | zero => rfl
  | succ k ih =>
    rw [cq_succ]
    split
    · simp [ih]
    · exact ih
theorem cq_WF {l : List Th} {now : Int} {q : NS} (h : WF l now 0 q) : ∀ {k : Nat}, k ≤ l.length → WF l now k (cq l now k q)
  | 0, _ => h
  | k + 1, hk => by
    have ih := cq_WF h (k := k) (by omega)
    obtain ⟨⟨a1, a2⟩, a3, a4, a5⟩ := ih
    rw [cq_succ]
    have hin := a5 k (by omega)
    split
    · rename_i hc
      have hnot : (k : Int) ∉ (cq l now k q).1 := by
        rw [hin]
        rintro (h | ⟨_, h⟩)
        · omega
        · omega
      refine ⟨⟨by simpa using a1, a2⟩, fun y hy => ?_, ?_, fun i hi => ?_⟩
      · rcases List.mem_append.1 hy with hy | hy
        · exact a3 y hy
        · rw [List.mem_singleton.1 hy]; omega
      · show ((cq l now k q).1 ++ [(k : Int)]).Nodup
        rw [List.nodup_append]
        refine ⟨a4, by simp, fun a ha b hb => ?_⟩
        rw [List.mem_singleton.1 hb]
        rintro rfl
        exact hnot ha
      · show (i : Int) ∈ (cq l now k q).1 ++ [(k : Int)] ↔ _
        rw [List.mem_append, a5 i hi, List.mem_singleton]
        constructor
        · rintro ((h | h) | h)
          · exact .inl h
          · exact .inr ⟨h.1, by omega⟩
          · have : i = k := by omega
            subst this
            exact .inr ⟨hc, by omega⟩
        · rintro (h | ⟨h1, h2⟩)
          · exact .inl (.inl h)
          · by_cases e : i = k
            · exact .inr (by omega)
            · exact .inl (.inr ⟨h1, by omega⟩)
    · rename_i hc
      refine ⟨⟨a1, a2⟩, a3, a4, fun i hi => ?_⟩
      rw [a5 i hi]
      constructor
      · rintro (h | h)
        · exact .inl h
        · exact .inr ⟨h.1, by omega⟩
      · rintro (h | ⟨h1, h2⟩)
        · exact .inl h
        · by_cases e : i = k
          · subst e; exact absurd h1 hc
          · exact .inr ⟨h1, by omega⟩
theorem WF_next {l : List Th} {now : Int} {q : NS} (h : WF l now l.length q) : WF l (now + 1) 0 q := by
  obtain ⟨a1, a3, a4, a5⟩ := h
  refine ⟨a1, a3, a4, fun i hi => ?_⟩
  rw [a5 i hi]
  constructor
  · rintro (h | h)
    · exact .inl (by omega)
    · exact .inl (by omega)
  · rintro (h | h)
    · by_cases e : (th l (i : Int)).1 = now
      · exact .inr ⟨e, hi⟩
      · exact .inl (by omega)
    · omega
theorem stA_mem {sl : Int} {q : NS} {y z : Int} (hy : y ∈ q.1) : z ∈ (stA sl q y).1 ↔ z ∈ q.1 := by
  unfold stA
  simp only []
  split
  · rw [List.mem_append, List.mem_filter, List.mem_singleton]
    by_cases e : z = y
    · subst e; simp [hy]
    · simp [e]
  · exact Iff.rfl
theorem stA_WF {l : List Th} {now sl : Int} {k : Nat} {q : NS} {y : Int} (h : WF l now k q) (hy : y ∈ q.1) : WF l now k (stA sl q y) := by
  obtain ⟨⟨a1, a2⟩, a3, a4, a5⟩ := h
  refine ⟨⟨by simpa [stA] using a1, by simpa [stA] using a2⟩, fun z hz => a3 z ((stA_mem hy).1 hz), ?_, fun i hi => by rw [stA_mem hy]; exact a5 i hi⟩
  unfold stA
  simp only []
  split
  · rw [List.nodup_append]
    refine ⟨a4.sublist List.filter_sublist, by simp, fun a ha b hb => ?_⟩
    rw [List.mem_singleton.1 hb]
    have := (List.mem_filter.1 ha).2
    simpa using this
  · exact a4
theorem foldA_WF {l : List Th} {now sl : Int} {k : Nat} : ∀ {ys : List Int} {q : NS}, WF l now k q → (∀ y ∈ ys, y ∈ q.1) → WF l now k (ys.foldl (stA sl) q) ∧ ∀ z, z ∈ (ys.foldl (stA sl) q).1 ↔ z ∈ q.1
  | [], _, h, _ => ⟨h, fun _ => Iff.rfl⟩
  | y :: ys, q, h, hy => by
    have h1 := stA_WF (sl := sl) h (hy y (by simp))
    have h2 := foldA_WF (sl := sl) (ys := ys) h1 (fun z hz => (stA_mem (hy y (by simp))).2 (hy z (by simp [hz])))
    exact ⟨h2.1, fun z => (h2.2 z).trans (stA_mem (hy y (by simp)))⟩
theorem selL_mem {l : List Th} {left line : List Int} {lev y : Int} (h : y ∈ selL l left line lev) : y ∈ line := (List.mem_filter.1 h).1
theorem pk_mem {l : List Th} {left line : List Int} {y : Int} : ∀ {j : Nat}, y ∈ pk l left line j → y ∈ line
  | 0, h => by cases h
  | j + 1, h => by
    rcases List.mem_append.1 h with h | h
    · exact pk_mem h
    · exact selL_mem h
theorem mid_eq {l : List Th} {now : Int} {q : NS} : mid l now q = cq l now l.length q := rfl
theorem runs_mem {n now : Int} {l : List Th} {q : NS} {y : Int} (h : y ∈ runs n l now q) : y ∈ (mid l now q).1 := pk_mem (List.mem_of_mem_take h)
theorem runs_len {n now : Int} {l : List Th} {q : NS} : (runs n l now q).length ≤ n.toNat := by unfold runs; rw [List.length_take]; omega
theorem nst_succ {n sl : Int} {l : List Th} {t : Nat} : nst n sl l (t + 1) = ((runs n l t (nst n sl l t).1).foldl (stA sl) (mid l t (nst n sl l t).1), (nst n sl l t).2 ++ [sortI (runs n l t (nst n sl l t).1)]) := rfl
theorem okl_at {l : List Th} (h : l.all okT = true) {i : Nat} (hi : i < l.length) : (0 ≤ (th l i).1 ∧ (th l i).1 ≤ 10000) ∧ (0 ≤ (th l i).2.1 ∧ (th l i).2.1 < 32) ∧ 0 ≤ (th l i).2.2 ∧ (th l i).2.2 ≤ 10000 := by
  rw [th_nat]
  exact okT_iff.1 (all_at h hi)
theorem nst_WF {n sl : Int} {l : List Th} (hl : l.all okT = true) : ∀ (t : Nat), WF l t 0 (nst n sl l t).1
  | 0 => by
    refine ⟨⟨by simp [nst], by simp [nst]⟩, fun (y : Int) (hy : y ∈ []) => (List.not_mem_nil hy).elim, List.nodup_nil, fun i hi => ?_⟩
    have := okl_at hl hi
    constructor
    · intro h
      exact (List.not_mem_nil h).elim
    · rintro (h | h)
      · exfalso
        have h : (th l i).1 < (0 : Int) := h
        omega
      · omega
  | t + 1 => by
    have h := cq_WF (nst_WF (n := n) (sl := sl) hl t) (Nat.le_refl _)
    have h2 := (foldA_WF (sl := sl) (ys := runs n l t (nst n sl l t).1) (show WF l t l.length (mid l t (nst n sl l t).1) from h) (fun y hy => runs_mem hy)).1
    have := WF_next h2
    rw [nst_succ]
    exact this
theorem getD_repl {m i : Nat} : (List.replicate m (0 : Int)).getD i 0 = 0 := by
  rw [List.getD_eq_getElem?_getD, List.getElem?_replicate]
  split <;> rfl
theorem BD_mono {q : NS} {c c' : Int} (h : BD q c) (hc : c ≤ c') : BD q c' := fun i => by have := h i; omega
theorem stA_BD {sl c : Int} {q : NS} {y : Int} (h : BD q c) (hc : 0 ≤ c) : BD (stA sl q y) (c + 1) := fun i => by
  have h1 := h i
  have h2 := h y.toNat
  unfold stA
  simp only [List.getD_eq_getElem?_getD, List.getElem?_set] at *
  grind
theorem foldA_BD {sl : Int} : ∀ {ys : List Int} {q : NS} {c : Int}, BD q c → 0 ≤ c → BD (ys.foldl (stA sl) q) (c + ys.length)
  | [], _, _, h, _ => by simpa using h
  | y :: ys, q, c, h, hc => by
    have := foldA_BD (sl := sl) (ys := ys) (stA_BD (sl := sl) (y := y) h hc) (by omega)
    refine BD_mono this ?_
    simp only [List.length_cons]
    omega
theorem cq_BD {l : List Th} {now : Int} {q : NS} {c : Int} (hl : l.all okT = true) (h : BD q c) (hc : 0 ≤ c) : ∀ {k : Nat}, k ≤ l.length → BD (cq l now k q) c
  | 0, _ => h
  | k + 1, hk => by
    have ih := cq_BD (now := now) hl h hc (k := k) (by omega)
    have hw := okl_at hl (i := k) (by omega)
    rw [cq_succ]
    split
    · intro i
      have h1 := ih i
      have e : (cq l now k q).2.2 = q.2.2 := rfl
      simp only [List.getD_eq_getElem?_getD, List.getElem?_set, e] at *
      grind
    · exact ih
theorem nst_BD {n sl : Int} {l : List Th} (hl : l.all okT = true) (hn : n ≤ 8) : ∀ (t : Nat), BD (nst n sl l t).1 (8 * t)
  | 0 => fun i => by
    simp only [nst, getD_repl]
    omega
  | t + 1 => by
    have h := cq_BD (now := t) hl (nst_BD (sl := sl) hl hn t) (by omega) (Nat.le_refl _)
    have h2 := foldA_BD (sl := sl) (ys := runs n l t (nst n sl l t).1) (show BD (mid l t (nst n sl l t).1) (8 * t) from h) (by omega)
    rw [nst_succ]
    refine BD_mono h2 ?_
    have := runs_len (n := n) (now := t) (l := l) (q := (nst n sl l t).1)
    omega
theorem nst_out {n sl : Int} {l : List Th} : ∀ (t : Nat), (nst n sl l t).2.length = t
  | 0 => rfl
  | t + 1 => by
    rw [nst_succ]
    simp [nst_out t]

end Go.Proofs.Ytpnmfoojmodnlaa.Cores
