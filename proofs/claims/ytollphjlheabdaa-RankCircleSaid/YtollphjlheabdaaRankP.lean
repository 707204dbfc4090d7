/-
  RankCircle: the conditions hold.
-/
import Derived.Test.YtollphjlheabdaaRankE
namespace Go.Proofs.Ytollphjlheabdaa.Rank
open Go.Sx
set_option maxRecDepth 100000
set_option maxHeartbeats 1000000
set_option linter.unusedSimpArgs false
set_option linter.unusedVariables false

theorem e_equal (x : List Int × List Int × Unit) (_ : True) (hl : LensL cEqual.as x) : E_equal x := by
  obtain ⟨xs, ys, u⟩ := x
  have hlx : xs.length ≤ 9223372036854775807 := hl.1.1
  unfold E_equal
  simp only [Bool.not_eq_true', Bool.not_eq_false', Bool.not_eq_true, Bool.not_eq_false, beq_self_eq_true, decide_eq_true_eq, decide_eq_false_iff_not, Bool.not_false, Bool.not_true, beq_iff_eq, beq_eq_false_iff_ne, bne_iff_ne, ne_eq, bne_eq_false_iff_eq, holds_iff, true_and, and_true, and_self, eq_self, List.length_cons, List.length_nil, List.length_append, List.length_set, List.length_replicate, List.set_cons_zero, cond_true, cond_false, Bool.false_eq_true, Bool.true_eq_false, forall_const, false_imp_iff, imp_self, implies_true, and_imp, Decidable.not_not, Bool.and_eq_true, Bool.or_eq_true, Bool.and_eq_false_iff, Bool.or_eq_false_iff, ← List.length_eq_zero_iff, or_self, or_false, false_or, Prod.forall, Int.reduceEq, Int.reduceLT, Int.reduceLE, List.nil_append, Nat.zero_add, Int.toNat_zero, List.drop_zero, List.length_drop, List.length_take, not_true_eq_false, not_false_eq_true]
  try simp only [flip_f, flip_t, decide_eq_true_eq, decide_eq_false_iff_not]
  repeat' (first | with_reducible apply And.intro | with_reducible intro _)
  all_goals try omega
  all_goals grind [takeI_succ, takeI_all]
theorem pigeon : ∀ (n : Nat) (g : Nat → Int), (∀ i, i ≤ n → 0 ≤ g i ∧ g i < n) → (∀ a b, a < b → b ≤ n → g a ≠ g b) → False
  | 0, g, h0, _ => by have := h0 0 (Nat.le_refl _); omega
  | n + 1, g, h0, hi => by
    by_cases hx : ∃ i, i ≤ n + 1 ∧ g i = n
    · obtain ⟨i0, hi0, e0⟩ := hx
      have hne : ∀ j, j ≤ n + 1 → j ≠ i0 → g j ≠ n := fun j hj hji e => by
        rcases Nat.lt_or_ge j i0 with h | h
        · exact hi j i0 h hi0 (by rw [e, e0])
        · exact hi i0 j (by omega) hj (by rw [e, e0])
      refine pigeon n (fun i => if i < i0 then g i else g (i + 1)) (fun i hin => ?_) (fun a b hab hb => ?_)
      · split
        · have h1 := h0 i (by omega); have h2 := hne i (by omega) (by omega); omega
        · have h1 := h0 (i + 1) (by omega); have h2 := hne (i + 1) (by omega) (by omega); omega
      · split <;> split
        · exact hi _ _ (by omega) (by omega)
        · exact hi _ _ (by omega) (by omega)
        · omega
        · exact hi _ _ (by omega) (by omega)
    · refine pigeon n g (fun i hin => ?_) (fun a b hab hb => hi a b hab (by omega))
      have h1 := h0 i (by omega)
      have h2 : g i ≠ n := fun e => hx ⟨i, by omega, e⟩
      omega
theorem nx_range (h w : List Int) (t : Int) : -1 ≤ nx h w t ∧ nx h w t < w.length := by
  unfold nx; split
  · omega
  · omega
theorem nx_neg {h w : List Int} {t : Int} (ht : t < 0) : nx h w t = -1 := if_neg (by omega)
def it (h w : List Int) (f : Int) : Nat → Int
  | 0 => f
  | i + 1 => nx h w (it h w f i)
theorem it_shift {h w : List Int} {f : Int} {a b : Nat} (e : it h w f a = it h w f b) : ∀ c, it h w f (a + c) = it h w f (b + c)
  | 0 => e
  | c + 1 => by
    show nx h w (it h w f (a + c)) = nx h w (it h w f (b + c))
    rw [it_shift e c]
theorem it_neg {h w : List Int} {f : Int} {i : Nat} (hn : it h w f i < 0) : ∀ c, it h w f (i + c) < 0
  | 0 => hn
  | c + 1 => by
    show nx h w (it h w f (i + c)) < 0
    rw [nx_neg (it_neg hn c)]; omega
theorem it_range {h w : List Int} {f : Int} (hf : f < w.length) : ∀ i, it h w f i < w.length
  | 0 => hf
  | i + 1 => (nx_range h w _).2
theorem go_more {h w : List Int} {f : Int} {q : List Int} : ∀ (m : Nat) (t : Int) (p : List Int), go h w f m t p = some q → go h w f (m + 1) t p = some q
  | 0, t, p, e => by cases e
  | m + 1, t, p, e => by
    unfold go at e ⊢
    by_cases h1 : t < 0
    · rw [if_pos h1] at e; cases e
    · rw [if_neg h1] at e ⊢
      by_cases h2 : t = f
      · rw [if_pos h2] at e ⊢; exact e
      · rw [if_neg h2] at e ⊢; exact go_more m _ _ e
theorem go_some {h w : List Int} {f : Int} {q : List Int} : ∀ (m j : Nat) (p : List Int), go h w f m (it h w f j) p = some q →
    ∃ i, j ≤ i ∧ i < j + m ∧ it h w f i = f ∧ ∀ i', j ≤ i' → i' < i → it h w f i' ≠ f
  | 0, j, p, e => by cases e
  | m + 1, j, p, e => by
    unfold go at e
    by_cases h1 : it h w f j < 0
    · rw [if_pos h1] at e; cases e
    · rw [if_neg h1] at e
      by_cases h2 : it h w f j = f
      · exact ⟨j, Nat.le_refl _, by omega, h2, fun i' _ _ => by omega⟩
      · rw [if_neg h2] at e
        obtain ⟨i, hi1, hi2, hi3, hi4⟩ := go_some m (j + 1) _ e
        refine ⟨i, by omega, by omega, hi3, fun i' h3 h4 => ?_⟩
        by_cases e2 : i' = j
        · rw [e2]; exact h2
        · exact hi4 i' (by omega) h4
theorem go_is {h w : List Int} {f : Int} (hf : 0 ≤ f) : ∀ (m j : Nat) (p : List Int), (∃ i, j ≤ i ∧ i < j + m ∧ it h w f i = f) → go h w f m (it h w f j) p ≠ none
  | 0, j, p, ⟨i, h1, h2, _⟩ => by omega
  | m + 1, j, p, ⟨i, h1, h2, h3⟩ => by
    unfold go
    by_cases hn : it h w f j < 0
    · have := it_neg hn (i - j)
      rw [show j + (i - j) = i by omega, h3] at this
      omega
    · rw [if_neg hn]
      by_cases h4 : it h w f j = f
      · rw [if_pos h4]; simp
      · rw [if_neg h4]
        refine go_is hf m (j + 1) _ ⟨i, ?_, by omega, h3⟩
        have : i ≠ j := fun e => h4 (by rw [← e, h3])
        omega
theorem G2_eq {h w : List Int} {f : Int} (hf : 0 ≤ f) (hfn : f < w.length) : G2 h w f = G h w f := by
  unfold G2 G
  cases e : go h w f w.length (nx h w f) [f] with
  | some q => exact go_more _ _ _ e
  | none =>
    cases e2 : go h w f (w.length + 1) (nx h w f) [f] with
    | none => rfl
    | some q =>
      exfalso
      obtain ⟨i, h1, h2, h3, h4⟩ := go_some (w.length + 1) 1 [f] e2
      have hi : i = w.length + 1 := by
        rcases Nat.lt_or_ge i (w.length + 1) with h | h
        · exact absurd e (go_is hf w.length 1 [f] ⟨i, h1, by omega, h3⟩)
        · omega
      have hpos : ∀ k, k ≤ i → 0 ≤ it h w f k := fun k hk => by
        rcases Int.lt_or_le (it h w f k) 0 with hn | hn
        · have := it_neg hn (i - k)
          rw [show k + (i - k) = i by omega, h3] at this
          omega
        · exact hn
      refine pigeon w.length (it h w f) (fun k hk => ⟨hpos k (by omega), it_range hfn k⟩) (fun a b hab hb eab => ?_)
      have hsh := it_shift eab (i - b)
      rw [show b + (i - b) = i by omega, h3] at hsh
      rcases Nat.eq_zero_or_pos (a + (i - b)) with h | h
      · omega
      · exact h4 (a + (i - b)) h (by omega) hsh
theorem oc_some {h w : List Int} {k : Int} {c p : List Int} (h0 : 0 ≤ k) (hk : k < w.length) (hc : c = oc h w (w.length - k : Int).toNat k) (hg : G h w k = some p) : p = c := by
  rw [hc, show ((w.length : Int) - k).toNat = ((w.length : Int) - (k + 1)).toNat + 1 by omega]
  unfold oc; rw [hg]
theorem oc_none {h w : List Int} {k : Int} {c : List Int} (h0 : 0 ≤ k) (hk : k < w.length) (hc : c = oc h w (w.length - k : Int).toNat k) (hg : G h w k = none) : c = oc h w (w.length - (k + 1) : Int).toNat (k + 1) := by
  rw [hc, show ((w.length : Int) - k).toNat = ((w.length : Int) - (k + 1)).toNat + 1 by omega]
  conv => lhs; unfold oc
  rw [hg]
theorem nx_yes {h w : List Int} {t : Int} (t0 : 0 ≤ t) (t1 : t < w.length) (h1 : 0 ≤ w.getD t.toNat 0) (h2 : w.getD t.toNat 0 < h.length) (h3 : 0 ≤ h.getD (w.getD t.toNat 0).toNat 0) (h4 : h.getD (w.getD t.toNat 0).toNat 0 < w.length) :
    nx h w t = h.getD (w.getD t.toNat 0).toNat 0 := if_pos ⟨⟨t0, t1⟩, h1, h2, h3, h4⟩
theorem nx_no {h w : List Int} {t : Int} (hh : ¬ (0 ≤ w.getD t.toNat 0 ∧ w.getD t.toNat 0 < h.length ∧ 0 ≤ h.getD (w.getD t.toNat 0).toNat 0 ∧ h.getD (w.getD t.toNat 0).toNat 0 < w.length)) : nx h w t = -1 :=
  if_neg (fun q => hh q.2)
theorem go_next {h w : List Int} {f t : Int} {p : List Int} {g : Option (List Int)} {a b : Nat} (e : g = go h w f a t p) (hab : a = b + 1) (ht : 0 ≤ t) (hf : ¬ t = f) : g = go h w f b (nx h w t) (p ++ [t]) := by
  rw [e, hab]; conv => lhs; unfold go
  rw [if_neg (by omega), if_neg hf]
theorem go_hit {h w : List Int} {f t : Int} {p : List Int} {g : Option (List Int)} {a : Nat} (e : g = go h w f a t p) (hab : 0 < a) (ht : 0 ≤ t) (hf : t = f) : g = some p := by
  obtain ⟨b, rfl⟩ : ∃ b, a = b + 1 := ⟨a - 1, by omega⟩
  rw [e]; unfold go
  rw [if_neg (by omega), if_pos hf]
theorem go_end {h w : List Int} {f t : Int} {p : List Int} {g : Option (List Int)} {a : Nat} (e : g = go h w f a t p) (hh : t < 0 ∨ a = 0) : g = none := by
  rw [e]
  cases a with
  | zero => rfl
  | succ b => unfold go; rw [if_pos (by omega)]
theorem e_circ (x : List Int × List Int × Unit) (hp : x.2.1.length * 8 ≤ 140737488355328) (_ : LensL cCirc.as x) : E_circ x := by
  obtain ⟨h, w, u⟩ := x
  dsimp only at hp
  unfold E_circ
  simp only [Bool.not_eq_true', Bool.not_eq_false', Bool.not_eq_true, Bool.not_eq_false, beq_self_eq_true, decide_eq_true_eq, decide_eq_false_iff_not, Bool.not_false, Bool.not_true, beq_iff_eq, beq_eq_false_iff_ne, bne_iff_ne, ne_eq, bne_eq_false_iff_eq, holds_iff, true_and, and_true, and_self, eq_self, List.length_cons, List.length_nil, List.length_append, List.length_set, List.length_replicate, List.set_cons_zero, cond_true, cond_false, Bool.false_eq_true, Bool.true_eq_false, forall_const, false_imp_iff, imp_self, implies_true, and_imp, Decidable.not_not, Bool.and_eq_true, Bool.or_eq_true, Bool.and_eq_false_iff, Bool.or_eq_false_iff, ← List.length_eq_zero_iff, or_self, or_false, false_or, Prod.forall, Int.reduceEq, Int.reduceLT, Int.reduceLE, List.nil_append, Nat.zero_add, Int.toNat_zero, List.drop_zero, List.length_drop, List.length_take, not_true_eq_false, not_false_eq_true]
  try simp only [flip_f, flip_t, decide_eq_true_eq, decide_eq_false_iff_not]
  refine ⟨⟨by omega, ?_⟩, fun k h0 h1 hc _ _ => ⟨fun hk => ⟨?_, ?_⟩, fun hk => ?_⟩⟩
  · show oc h w w.length 0 = _
    rw [show ((w.length : Int) - 0).toNat = w.length by omega]
  · repeat' (first | with_reducible apply And.intro | with_reducible intro _)
    all_goals first
      | omega
      | exact (nx_yes (by omega) (by omega) (by omega) (by omega) (by omega) (by omega)).symm
      | exact (nx_no (by omega)).symm
  · intro t0 ht0 _ _
    have hr0 := nx_range h w k
    refine ⟨⟨by omega, by omega, by omega, by omega, ?_⟩, ?_⟩
    · rw [ht0, show ((w.length : Int) + 1 - ((1 : Nat) : Int)).toNat = w.length by omega]; rfl
    intro p t p1 p2 t1 t2 hG _ _ _ _
    refine ⟨fun ht hl => ⟨fun e => ?_, fun e => ?_⟩, fun hend => ?_⟩
    · exact oc_some h0 hk hc (go_hit hG (by omega) ht e)
    · have hn := go_next (b := ((w.length : Int) + 1 - ((p.length + 1 : Nat) : Int)).toNat) hG (by omega) ht e
      repeat' (first | with_reducible apply And.intro | with_reducible intro _)
      all_goals first
        | omega
        | (rw [nx_yes (by omega) (by omega) (by omega) (by omega) (by omega) (by omega)] at hn; exact hn)
        | (rw [nx_no (by omega)] at hn; exact hn)
    · have hg := go_end hG (by omega)
      exact ⟨by omega, ⟨by omega, by omega, oc_none h0 hk hc hg⟩, by omega⟩
  · rw [hc, show ((w.length : Int) - k).toNat = 0 by omega]; rfl
theorem e_hcirc (x : List Int × List Int × Unit) (hp : x.2.1.length * 8 ≤ 140737488355328) (_ : LensL cCirc.as x) : E_hcirc x := by
  obtain ⟨h, w, u⟩ := x
  dsimp only at hp
  unfold E_hcirc
  simp only [Bool.not_eq_true', Bool.not_eq_false', Bool.not_eq_true, Bool.not_eq_false, beq_self_eq_true, decide_eq_true_eq, decide_eq_false_iff_not, Bool.not_false, Bool.not_true, beq_iff_eq, beq_eq_false_iff_ne, bne_iff_ne, ne_eq, bne_eq_false_iff_eq, holds_iff, true_and, and_true, and_self, eq_self, List.length_cons, List.length_nil, List.length_append, List.length_set, List.length_replicate, List.set_cons_zero, cond_true, cond_false, Bool.false_eq_true, Bool.true_eq_false, forall_const, false_imp_iff, imp_self, implies_true, and_imp, Decidable.not_not, Bool.and_eq_true, Bool.or_eq_true, Bool.and_eq_false_iff, Bool.or_eq_false_iff, ← List.length_eq_zero_iff, or_self, or_false, false_or, Prod.forall, Int.reduceEq, Int.reduceLT, Int.reduceLE, List.nil_append, Nat.zero_add, Int.toNat_zero, List.drop_zero, List.length_drop, List.length_take, not_true_eq_false, not_false_eq_true]
  try simp only [flip_f, flip_t, decide_eq_true_eq, decide_eq_false_iff_not]
  refine ⟨⟨by omega, ?_⟩, fun k h0 h1 hc _ _ => ⟨fun hk => ?_, fun hk => ?_⟩⟩
  · show oc h w w.length 0 = _
    rw [show ((w.length : Int) - 0).toNat = w.length by omega]
  · have hg2 := G2_eq (h := h) (w := w) h0 hk
    refine ⟨by omega, ⟨by omega, by omega, by omega, by omega, ?_⟩, ?_⟩
    · rw [show ((w.length : Int) + 1 - 0).toNat = w.length + 1 by omega]; rfl
    intro p t j j0 j1 hpj t0 t1 hG _ _ _ _ _ _
    refine ⟨fun hj => ?_, fun hj => ?_⟩
    · have hno := fun q => nx_no (h := h) (w := w) (t := t) q
      refine ⟨by omega, by omega, fun _ _ => by omega, fun _ _ _ => by omega, fun hbad => ?_, fun c1 c2 c3 c4 => ⟨by omega, fun e => ?_, fun e => ?_⟩⟩
      · have hg := go_end hG (.inl (by rw [hno (by omega)]; decide))
        exact ⟨by omega, ⟨by omega, by omega, oc_none h0 hk hc (hg2 ▸ hg)⟩, by omega⟩
      · have hy := nx_yes (h := h) (w := w) (t := t) t0 t1 (by omega) (by omega) (by omega) (by omega)
        have hg := go_hit hG (by omega) (by rw [hy]; omega) (by rw [hy]; exact e)
        exact oc_some h0 hk hc (hg2 ▸ hg)
      · have hy := nx_yes (h := h) (w := w) (t := t) t0 t1 (by omega) (by omega) (by omega) (by omega)
        have hn := go_next (b := ((w.length : Int) + 1 - (j + 1)).toNat) hG (by omega) (by rw [hy]; omega) (by rw [hy]; exact e)
        rw [hy] at hn
        exact ⟨by omega, ⟨by omega, by omega, by omega, by omega, by omega, hn⟩, by omega⟩
    · have hg := go_end hG (.inr (by omega))
      exact ⟨by omega, ⟨by omega, by omega, oc_none h0 hk hc (hg2 ▸ hg)⟩, by omega⟩
  · rw [hc, show ((w.length : Int) - k).toNat = 0 by omega]; rfl
theorem e_law (x : List Int × List Int × Unit) (h : x.2.1.length * 8 ≤ 140737488355328) (_ : LensL cLaw.as x) : E_law x := by
  unfold E_law
  simp only [Bool.not_eq_true', Bool.not_eq_false', Bool.not_eq_true, Bool.not_eq_false, beq_self_eq_true, decide_eq_true_eq, decide_eq_false_iff_not, Bool.not_false, Bool.not_true, beq_iff_eq, beq_eq_false_iff_ne, bne_iff_ne, ne_eq, bne_eq_false_iff_eq, holds_iff, true_and, and_true, and_self, eq_self, List.length_cons, List.length_nil, List.length_append, List.length_set, List.length_replicate, List.set_cons_zero, cond_true, cond_false, Bool.false_eq_true, Bool.true_eq_false, forall_const, false_imp_iff, imp_self, implies_true, and_imp, Decidable.not_not, Bool.and_eq_true, Bool.or_eq_true, Bool.and_eq_false_iff, Bool.or_eq_false_iff, ← List.length_eq_zero_iff, or_self, or_false, false_or, Prod.forall, Int.reduceEq, Int.reduceLT, Int.reduceLE, List.nil_append, Nat.zero_add, Int.toNat_zero, List.drop_zero, List.length_drop, List.length_take, not_true_eq_false, not_false_eq_true]
  try simp only [flip_f, flip_t, decide_eq_true_eq, decide_eq_false_iff_not]
  first | exact h | exact ⟨h, h⟩ | skip
theorem pre_law (x : HL cLaw.as) (_ : GoodL cLaw.as x) (h : FitL cLaw.as x) : x.2.1.length * 8 ≤ 140737488355328 := by
  have h : x.2.1.length * 8 ≤ 140737488351232 := h.2.1.1
  omega

end Go.Proofs.Ytollphjlheabdaa.Rank
