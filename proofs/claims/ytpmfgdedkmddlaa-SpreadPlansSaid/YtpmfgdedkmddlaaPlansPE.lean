/-
  SpreadPlans: the order, the least, the plan's run.
-/
import Derived.Test.YtpmfgdedkmddlaaPlansPD
namespace Go.Proofs.Ytpmfgdedkmddlaa.Plans
open Go.Sx
set_option maxRecDepth 100000
set_option maxHeartbeats 1000000
set_option linter.unusedSimpArgs false
set_option linter.unusedVariables false

theorem gmem {l : List Int} {i : Nat} (h : i < l.length) : l.getD i 0 ∈ l := by
  rw [List.getD_eq_getElem?_getD, List.getElem?_eq_getElem h]
  exact List.getElem_mem h
theorem mem_getD {l : List Int} {x : Int} (h : x ∈ l) : ∃ i, i < l.length ∧ l.getD i 0 = x := by
  obtain ⟨i, hi, rfl⟩ := List.mem_iff_getElem.1 h
  exact ⟨i, hi, by simp [List.getD, hi]⟩
theorem foldmin {l : List Int} {a : Int} : (l.foldl min a = a ∨ l.foldl min a ∈ l) ∧ l.foldl min a ≤ a ∧ ∀ x ∈ l, l.foldl min a ≤ x := by
  induction l generalizing a with
  | nil => simp
  | cons b l ih =>
    rw [List.foldl_cons]
    obtain ⟨h1, h2, h3⟩ := ih (a := min a b)
    refine ⟨?_, by omega, fun x hx => ?_⟩
    · rcases h1 with h1 | h1
      · rw [h1]
        by_cases hab : a ≤ b
        · exact Or.inl (by omega)
        · exact Or.inr (by rw [show min a b = b by omega]; simp)
      · exact Or.inr (List.mem_cons_of_mem _ h1)
    · rcases List.mem_cons.1 hx with rfl | hx
      · omega
      · exact h3 x hx
theorem mn_spec {l : List Int} (h : 0 < l.length) : mn l ∈ l ∧ ∀ x ∈ l, mn l ≤ x := by
  cases l with
  | nil => simp at h
  | cons a l =>
    have := foldmin (l := l) (a := a)
    show l.foldl min a ∈ a :: l ∧ ∀ x ∈ a :: l, l.foldl min a ≤ x
    refine ⟨?_, fun x hx => ?_⟩
    · rcases this.1 with h | h
      · rw [h]; simp
      · exact List.mem_cons_of_mem _ h
    · rcases List.mem_cons.1 hx with rfl | hx
      · exact this.2.1
      · exact this.2.2 x hx
theorem idx_first {l : List Int} {x : Int} (h : x ∈ l) : ∃ i : Nat, idx l x = i ∧ i < l.length ∧ l.getD i 0 = x ∧ ∀ j, j < i → l.getD j 0 ≠ x := by
  unfold idx
  rcases e : l.idxOf? x with _ | i
  · rw [List.idxOf?_eq_none_iff] at e
    exact absurd h e
  · have e' : l.findIdx? (· == x) = some i := e
    rw [List.findIdx?_eq_some_iff_getElem] at e'
    obtain ⟨hi, h1, h2⟩ := e'
    refine ⟨i, rfl, hi, ?_, fun j hj => ?_⟩
    · simp only [List.getD_eq_getElem?_getD, List.getElem?_eq_getElem hi, Option.getD_some]
      simpa using h1
    · have := h2 j hj
      simp only [List.getD_eq_getElem?_getD, List.getElem?_eq_getElem (show j < l.length by omega), Option.getD_some]
      simpa using this
theorem idle_spec {l : List Int} (h : 0 < l.length) : ∃ i : Nat, idx l (mn l) = i ∧ idle l = i ∧ i < l.length ∧ firstMin l i l.length := by
  obtain ⟨hm, hle⟩ := mn_spec h
  obtain ⟨i, e, hi, hg, hf⟩ := idx_first hm
  refine ⟨i, e, by unfold idle; rw [e]; simp, hi, by omega, Or.inl (by omega), fun j hj => ?_, fun j hj => ?_⟩
  · have h1 := hf j (by omega)
    have h2 := hle _ (gmem (show j < l.length by omega))
    rw [Int.toNat_natCast, hg]; omega
  · rw [Int.toNat_natCast, hg]
    exact hle _ (gmem (show j < l.length by omega))
theorem firstMin_uniq {l : List Int} {a b k : Int} (hk : 0 < k) (ha : firstMin l a k) (hb : firstMin l b k) : a = b := by
  obtain ⟨a0, a1, a2, a3⟩ := ha
  obtain ⟨b0, b1, b2, b3⟩ := hb
  by_cases h : a < b
  · have h1 := b2 a.toNat (by omega)
    have h2 := a3 b.toNat (by omega)
    omega
  · by_cases h' : b < a
    · have h1 := a2 b.toNat (by omega)
      have h2 := b3 a.toNat (by omega)
      omega
    · omega
theorem firstMin_idle {l : List Int} {c k : Int} (h : 0 < l.length) (hk : k = l.length) (hc : firstMin l c k) : c = idle l := by
  subst hk
  obtain ⟨i, _, e, hi, hf⟩ := idle_spec h
  rw [e]
  exact firstMin_uniq (by omega) hc hf
theorem firstMin_zero {l : List Int} : firstMin l 0 0 := ⟨by omega, Or.inr rfl, fun j hj => by omega, fun j hj => by omega⟩
theorem firstMin_take {l : List Int} {c k : Int} (hk : 0 ≤ k) (h : firstMin l c k) (hg : l.getD k.toNat 0 < l.getD c.toNat 0) : firstMin l k (k + 1) := by
  obtain ⟨a0, a1, a2, a3⟩ := h
  refine ⟨by omega, Or.inl (by omega), fun j hj => ?_, fun j hj => ?_⟩
  · have := a3 j (by omega); omega
  · by_cases e : (j : Int) = k
    · rw [show j = k.toNat by omega]; omega
    · have := a3 j (by omega); omega
theorem firstMin_skip {l : List Int} {c k : Int} (hk : 0 ≤ k) (h : firstMin l c k) (hg : ¬ l.getD k.toNat 0 < l.getD c.toNat 0) : firstMin l c (k + 1) := by
  obtain ⟨a0, a1, a2, a3⟩ := h
  refine ⟨by omega, by omega, a2, fun j hj => ?_⟩
  by_cases e : (j : Int) = k
  · rw [show j = k.toNat by omega]; omega
  · exact a3 j (by omega)
theorem plRun_nil {w : List Int} {c : Int} : plRun w c [] = (List.replicate w.length 0, List.replicate c.toNat 0, 0) := rfl
theorem plRun_next {w o : List Int} {c k : Int} (h0 : 0 ≤ k) (h1 : k < o.length) : plRun w c (o.take (k + 1).toNat) = plStep w (plRun w c (o.take k.toNat)) (o.getD k.toNat 0) := by
  rw [takeI_succ 0 h0 h1]
  unfold plRun
  rw [List.foldl_append]
  rfl
theorem max_fold {l : List Int} {a b : Int} : l.foldl max (max a b) = max (l.foldl max a) b := by
  induction l generalizing a with
  | nil => rfl
  | cons x l ih =>
    rw [List.foldl_cons, List.foldl_cons, ← ih]
    congr 1
    omega
theorem max_mem {l : List Int} {a x : Int} (h : x ∈ l) : x ≤ l.foldl max a := by
  induction l generalizing a with
  | nil => simp at h
  | cons b l ih =>
    rw [List.foldl_cons]
    rcases List.mem_cons.1 h with rfl | h
    · rw [max_fold]; omega
    · exact ih h
theorem max_set {l : List Int} {i : Nat} {a v : Int} (h : i < l.length) (hv : l.getD i 0 ≤ v) : (l.set i v).foldl max a = max (l.foldl max a) v := by
  induction l generalizing a i with
  | nil => simp at h
  | cons b l ih =>
    cases i with
    | zero =>
      have hv' : b ≤ v := hv
      simp only [List.set_cons_zero, List.foldl_cons]
      rw [max_fold, max_fold]; omega
    | succ i =>
      simp only [List.set_cons_succ, List.foldl_cons]
      exact ih (by simpa using h) (by simpa using hv)
theorem max_rep {n : Nat} : (List.replicate n (0 : Int)).foldl max 0 = 0 := by
  induction n with
  | zero => rfl
  | succ n ih => simpa [List.replicate_succ] using ih
theorem plRun_len {w o : List Int} {c : Int} : (plRun w c o).2.1.length = c.toNat := by
  unfold plRun
  suffices h : ∀ s : List Int × List Int × Int, s.2.1.length = c.toNat → (o.foldl (plStep w) s).2.1.length = c.toNat from h _ (by simp)
  induction o with
  | nil => intro s h; exact h
  | cons k o ih => intro s h; rw [List.foldl_cons]; exact ih _ (by simp [plStep, h])
theorem plRun_max {w o : List Int} {c : Int} (hc : 1 ≤ c) (hw : ∀ x ∈ o, 0 ≤ wt w x) : (plRun w c o).2.2 = (plRun w c o).2.1.foldl max 0 := by
  unfold plRun
  suffices h : ∀ s : List Int × List Int × Int, s.2.1.length = c.toNat → s.2.2 = s.2.1.foldl max 0 → (o.foldl (plStep w) s).2.2 = (o.foldl (plStep w) s).2.1.foldl max 0 from h _ (by simp) max_rep.symm
  induction o with
  | nil => intro s _ h; exact h
  | cons k o ih =>
    intro s hs h
    rw [List.foldl_cons]
    refine ih (fun x hx => hw x (List.mem_cons_of_mem _ hx)) _ (by simp [plStep, hs]) ?_
    obtain ⟨i, _, e, hi, _⟩ := idle_spec (l := s.2.1) (by omega)
    have := hw k (by simp)
    unfold plStep
    simp only []
    rw [e, max_set hi (by omega), h]
theorem set_all {l : List Int} {i : Nat} {v B C : Int} (h : ∀ x ∈ l, 0 ≤ x ∧ x ≤ B) (hv : 0 ≤ v ∧ v ≤ C) (hB : B ≤ C) : ∀ x ∈ l.set i v, 0 ≤ x ∧ x ≤ C := by
  intro x hx
  rcases List.mem_or_eq_of_mem_set hx with hx | rfl
  · have := h x hx; omega
  · exact hv
theorem idx_mem {l : List Int} {x : Int} : 0 ≤ idx l x ↔ x ∈ l := by
  constructor
  · intro h
    by_cases hx : x ∈ l
    · exact hx
    · rw [idx_none (List.idxOf?_eq_none_iff.2 hx)] at h
      omega
  · intro h
    obtain ⟨i, e, _⟩ := idx_first h
    omega
theorem bestOf_start {w out : List Int} {g : Bool} : bestOf w out g (-1) 0 := Or.inl ⟨rfl, fun j hj => by omega⟩
theorem bestOf_take {w out : List Int} {g : Bool} {b k : Int} (h0 : 0 ≤ k) (h : bestOf w out g b k) (hk : ¬ 0 ≤ idx out k) (hb : b < 0 ∨ (g = true ∧ wt w b < wt w k)) : bestOf w out g k (k + 1) := by
  rw [idx_mem] at hk
  refine Or.inr ⟨h0, by omega, hk, fun j hj hjo => ?_⟩
  by_cases e : (j : Int) = k
  · rw [e]
    cases g
    · simp
    · simp [leT_iff]
  · rcases h with ⟨-, h⟩ | ⟨b0, b1, b2, h⟩
    · exact absurd (h j (by omega)) hjo
    · have := h j (by omega) hjo
      rcases hb with hb | ⟨rfl, hb⟩
      · omega
      · simp only [if_true, leT_iff] at this ⊢
        omega
theorem bestOf_skip {w out : List Int} {g : Bool} {b k : Int} (h0 : 0 ≤ k) (h : bestOf w out g b k) (hb : 0 ≤ idx out k ∨ (0 ≤ b ∧ ¬ (g = true ∧ wt w b < wt w k))) : bestOf w out g b (k + 1) := by
  rw [idx_mem] at hb
  rcases h with ⟨rfl, h⟩ | ⟨b0, b1, b2, h⟩
  · refine Or.inl ⟨rfl, fun j hj => ?_⟩
    by_cases e : (j : Int) = k
    · rcases hb with hb | hb
      · rw [e]; exact hb
      · omega
    · exact h j (by omega)
  · refine Or.inr ⟨b0, by omega, b2, fun j hj hjo => ?_⟩
    by_cases e : (j : Int) = k
    · rw [e] at hjo ⊢
      rcases hb with hb | ⟨_, hb⟩
      · exact absurd hb hjo
      · cases g
        · simp; omega
        · simp only [if_true, leT_iff]
          simp only [true_and] at hb
          omega
    · exact h j (by omega) hjo
theorem bestOf_at {w out : List Int} {g : Bool} {b k : Int} (h : bestOf w out g b k) : b = -1 ∨ (0 ≤ b ∧ b < k) := by
  rcases h with ⟨h, _⟩ | ⟨h, h', _⟩
  · exact Or.inl h
  · exact Or.inr ⟨h, h'⟩
theorem e_order (x : List Int × Bool × Unit) (hp : x.1.length ≤ 400) (hl : LensL cOrder.as x) : E_order x := by
  obtain ⟨w, g, u⟩ := x
  simp only [] at hp
  have hol := order_len (w := w) (b := g)
  unfold E_order
  simp only [Bool.not_eq_true', Bool.not_eq_false', Bool.not_eq_true, Bool.not_eq_false, beq_self_eq_true, decide_eq_true_eq, decide_eq_false_iff_not, Bool.not_false, Bool.not_true, beq_iff_eq, beq_eq_false_iff_ne, bne_iff_ne, ne_eq, bne_eq_false_iff_eq, holds_iff, true_and, and_true, and_self, eq_self, List.length_cons, List.length_nil, List.length_append, List.length_set, List.length_replicate, List.set_cons_zero, cond_true, cond_false, Bool.false_eq_true, Bool.true_eq_false, forall_const, false_imp_iff, imp_self, implies_true, and_imp, Decidable.not_not, Bool.and_eq_true, Bool.or_eq_true, Bool.and_eq_false_iff, Bool.or_eq_false_iff, ← List.length_eq_zero_iff, or_self, or_false, false_or, Prod.forall, Int.reduceEq, Int.reduceLT, Int.reduceLE, List.nil_append, Nat.zero_add, Int.toNat_zero, List.drop_zero, List.length_drop, List.length_take, not_true_eq_false, not_false_eq_true]
  try simp only [flip_f, flip_t, decide_eq_true_eq, decide_eq_false_iff_not]
  refine ⟨?_, ?_⟩
  · simp
  · intro out h1 h2 _ _
    refine ⟨fun hm => ⟨⟨by omega, bestOf_start⟩, ?_⟩, fun hm => ?_⟩
    · intro b k k0 k1 hb _ _ _ _
      have hba := bestOf_at hb
      have ht := bestOf_take k0 hb
      have hs := bestOf_skip k0 hb
      unfold wt at ht hs
      refine ⟨fun hk => ?_, fun hk => ?_⟩
      · clear h2 hb
        repeat' (first | with_reducible apply And.intro | with_reducible intro _)
        all_goals first | assumption | omega | (exact ht (by assumption) (by assumption)) | (exact hs (by grind))
      · obtain ⟨q1, q2, q3⟩ := order_next h2 (by omega) hb (by omega)
        rw [List.length_append] at q3
        simp only [List.length_cons, List.length_nil] at q3
        refine ⟨by omega, ⟨by omega, q3⟩, by omega⟩
    · rw [h2, List.take_of_length_le (by omega)]

end Go.Proofs.Ytpmfgdedkmddlaa.Plans
