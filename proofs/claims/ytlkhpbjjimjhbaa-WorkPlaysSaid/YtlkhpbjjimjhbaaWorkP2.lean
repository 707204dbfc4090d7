/-
  WorkPlays: the conditions of corebellref.LPlay and of the law.
-/
import Derived.Test.YtlkhpbjjimjhbaaWorkP1
namespace Go.Proofs.Ytlkhpbjjimjhbaa.Work
open Go.Sx
set_option maxRecDepth 100000
set_option maxHeartbeats 1000000
set_option linter.unusedSimpArgs false
set_option linter.unusedVariables false

theorem la_init (x : Int) (l : List Int) : lastAt x l (-1) 0 := ⟨by omega, by simp [cutL]⟩
theorem la_hit {x : Int} {l : List Int} {m j : Int} (h : lastAt x l m j) (h0 : 0 ≤ j) (h1 : j < l.length) (hx : l.getD j.toNat 0 = x) : lastAt x l j (j + 1) := by
  refine ⟨by omega, ?_⟩
  rw [takeI_succ 0 h0 h1, cutL_snoc, if_pos hx, ← takeI_succ 0 h0 h1]
  congr 1
  rw [List.drop_eq_nil_of_le (by rw [List.length_take]; omega)]
theorem la_miss {x : Int} {l : List Int} {m j : Int} (h : lastAt x l m j) (h0 : 0 ≤ j) (h1 : j < l.length) (hx : ¬ l.getD j.toNat 0 = x) : lastAt x l m (j + 1) := by
  obtain ⟨h2, h3⟩ := h
  refine ⟨by omega, ?_⟩
  rw [takeI_succ 0 h0 h1, cutL_snoc, if_neg hx, h3]
  simp only []
  rw [List.drop_append_of_le_length (by rw [List.length_take]; omega)]
theorem la_end {x : Int} {s : WS} {m j : Int} (h : lastAt x (lst s) m j) (h1 : ((lst s).length : Int) ≤ j) (h2 : m < (lst s).length) :
    flush x s = if 0 ≤ m then ((lst s).drop (m + 1).toNat, -1, s.2.2 ++ (lst s).take (m + 1).toNat) else s := by
  obtain ⟨h3, h4⟩ := h
  rw [takeI_all h1] at h4
  by_cases hm : 0 ≤ m
  · rw [if_pos hm]
    have hx : x ∈ lst s := by
      refine Decidable.byContradiction fun hx => ?_
      rw [cutL_none hx] at h4
      have h5 := congrArg (fun p : List Int × List Int => p.1.length) h4
      simp only [List.length_nil, List.length_take] at h5
      omega
    unfold flush
    rw [if_pos hx, h4]
  · rw [if_neg hm]
    refine flush_id fun hx => cutL_mem hx ?_
    rw [h4]
    rw [show (m + 1).toNat = 0 from by omega]
    rfl
theorem la_lt {x : Int} {l : List Int} {m j : Int} (h : lastAt x l m j) (h1 : j ≤ l.length) : -1 ≤ m ∧ m < j ∧ m < l.length := ⟨h.1.1, h.1.2, by have := h.1.2; omega⟩
theorem l_fin {ops : List (Int × Int)} {k c n' : Int} {s : WS} {e l' d' : List Int} {o : Int × Int} (h0 : 0 ≤ k) (h1 : k < ops.length) (hp : pl (ops.take k.toNat) = (s, e)) (hg : good s k) (he : (e.length : Int) = k)
    (ho : ops.getD k.toNat (0, 0) = o) (hs : (lst (step s o).1, (step s o).1.2.2, onOf (step s o).1, (step s o).2) = (l', d', n', c)) :
    0 ≤ k + 1 ∧ k + 1 ≤ ops.length ∧ ((pl (ops.take (k + 1).toNat)).2 = e ++ [c] ∧ good (pl (ops.take (k + 1).toNat)).1 (k + 1)) ∧ ((e.length + 1 : Nat) : Int) = k + 1 ∧ l' = lst (pl (ops.take (k + 1).toNat)).1 ∧
      d' = (pl (ops.take (k + 1).toNat)).1.2.2 ∧ n' = onOf (pl (ops.take (k + 1).toNat)).1 := by
  simp only [Prod.mk.injEq] at hs
  obtain ⟨hl, hd, hn, hc⟩ := hs
  have := st_fin (s' := (step s o).1) (c := (step s o).2) h0 h1 hp hg he ho rfl
  obtain ⟨g1, g2, g3, g4, g5⟩ := this
  rw [g3]
  exact ⟨g1, g2, ⟨by rw [hc], g4⟩, g5, hl.symm, hd.symm, hn.symm⟩
theorem canc {b i : Int} {w : List Int} (hi : 0 ≤ i) : (b :: w).take (i + 1).toNat ++ (b :: w).drop (i + 1 + 1).toNat = b :: (w.take i.toNat ++ w.drop (i.toNat + 1)) := by
  rw [show (i + 1).toNat = i.toNat + 1 from by omega, show (i + 1 + 1).toNat = i.toNat + 1 + 1 from by omega]
  rfl
theorem minus : ¬ (0 : Int) ≤ -1 := by omega
theorem neg_begin {w d : List Int} (h : ¬ w.length = 0) (hw : ∀ a, a ∈ w → 0 ≤ a ∧ a ≤ 99) :
    (lst (w.drop 1, w.getD 0 0, d), d, onOf (w.drop 1, w.getD 0 0, d), (0 : Int)) = (w, d, 1, 0) := by
  cases w with
  | nil => exact absurd rfl h
  | cons a w =>
    have h0 : (0 : Int) ≤ a := (hw a (List.mem_cons_self)).1
    show (lst (w, a, d), d, onOf (w, a, d), (0 : Int)) = _
    simp only [lst, onOf, if_pos h0]
theorem e_lplay (x : List (Int × Int) × Unit) (hpre : True) (hlens : LensL cPlay.as x) : E_lplay x := by
  obtain ⟨x, u⟩ := x
  unfold E_lplay
  simp only [Bool.not_eq_true', Bool.not_eq_false', Bool.not_eq_true, Bool.not_eq_false, beq_self_eq_true, decide_eq_true_eq, decide_eq_false_iff_not, Bool.not_false, Bool.not_true, beq_iff_eq, beq_eq_false_iff_ne, bne_iff_ne, ne_eq, bne_eq_false_iff_eq, holds_iff, true_and, and_true, and_self, eq_self, List.length_cons, List.length_nil, List.length_append, List.length_set, List.length_replicate, List.set_cons_zero, cond_true, cond_false, Bool.false_eq_true, Bool.true_eq_false, forall_const, false_imp_iff, imp_self, implies_true, and_imp, Decidable.not_not, Bool.and_eq_true, Bool.or_eq_true, Bool.and_eq_false_iff, Bool.or_eq_false_iff, ← List.length_eq_zero_iff, or_self, or_false, false_or, Prod.forall, Int.reduceEq, Int.reduceLT, Int.reduceLE, List.nil_append, Nat.zero_add, Int.toNat_zero, List.drop_zero, List.length_drop, List.length_take, not_true_eq_false, not_false_eq_true,  pair_eta, take_all, toNat1, Int.toNat_natCast, Nat.min_self, List.take_length]
  refine ⟨fun h => by rw [play_gt h]; exact ⟨rfl, rfl, rfl, rfl, rfl⟩, fun h => ⟨⟨by omega, ⟨rfl, ⟨by simp [pl], by simp [pl], by simp [pl, lst]⟩⟩, rfl, rfl, rfl, rfl⟩, ?_⟩⟩
  intro l d n e k hk0 hk1 he hg hel hl hd hn _ _ _ _ _ _ _ _ _ _
  have hst := fun (s : WS) (hp : pl (x.take k.toNat) = (s, e)) (hg : good s k) (l' d' : List Int) (n' c : Int) (hlt : k < x.length) hs => l_fin (l' := l') (d' := d') (n' := n') (c := c) hk0 hlt hp hg hel rfl hs
  have hpe : pl (x.take k.toNat) = ((pl (x.take k.toNat)).1, e) := by rw [← he]
  have hpx : ¬ k < x.length → pl x = ((pl (x.take k.toNat)).1, e) := fun hge => by rw [takeI_all (l := x) (k := k) (by omega)] at hpe ⊢; exact hpe
  generalize (pl (x.take k.toNat)).1 = s at *
  have hst := hst s hpe hg
  obtain ⟨w, b, d2⟩ := s
  have hd : d = d2 := hd
  subst hd
  subst hl
  subst hn
  have hgl : ((lst (w, b, d)).length : Int) + d.length ≤ k := hg.2.2
  have hgw : ∀ a, a ∈ w → 0 ≤ a ∧ a ≤ 99 := hg.1
  have hgb : -1 ≤ b ∧ b ≤ 99 := hg.2.1
  have hpl := fun (hge : ¬ k < x.length) => show play x = (e, d, w, b, 0, ()) by rw [play_le h, hpx hge]
  clear hpx hpe hg
  generalize ho : x.getD k.toNat (0, 0) = o at *
  obtain ⟨kd, it⟩ := o
  simp only []
  by_cases hb : 0 ≤ b
  · have e1 : lst (w, b, d) = b :: w := if_pos hb
    have e2 : onOf (w, b, d) = 1 := if_pos hb
    have hi := idx_range w it
    have hae := fun m j (h : lastAt it (b :: w) m j) => la_end (s := (w, b, d)) (x := it) (m := m) (j := j) (by rw [e1]; exact h)
    rw [e1] at hae hgl
    rw [e1, e2]
    simp (decide := true) only [eq_self, not_true_eq_false, not_false_eq_true, or_false, or_true, true_or, false_or, forall_const, false_imp_iff, implies_true, true_and, and_true, toNat1, List.drop_succ_cons, List.drop_zero, List.length_cons] at hgl hae ⊢
    repeat' (first
      | refine hst _ _ _ _ (by assumption) ?_
      | (exact la_init _ _)
      | with_reducible apply And.intro
      | with_reducible intro _)
    all_goals try omega
    all_goals try first
      | (exact la_hit (by assumption) (by assumption) (by assumption) (by assumption))
      | (exact la_miss (by assumption) (by assumption) (by assumption) (by assumption))
      | (rw [hpl (by assumption)]; done)
      | (rw [hpl (by assumption)]; rfl)
      | (have hq := la_lt (by assumption) (by assumption); (try simp only [List.length_cons] at hq); omega)
    all_goals try (
      unfold step
      simp only []
      (repeat' split) <;> first | (exfalso; omega) | skip)
    all_goals try first
      | (simp only [lst, onOf, if_pos hb]; done)
      | (simp only [lst, onOf, if_pos hb, if_neg minus]; done)
      | (simp only [lst, onOf, if_neg minus]; done)
      | (simp only [lst, onOf, if_pos hb]; rw [canc (by omega)]; done)
      | (simp only [lst, onOf, if_pos hb]; rfl)
      | (simp only [lst, onOf, if_neg minus]; rfl)
      | (have hq := la_lt (by assumption) (by assumption); (try simp only [List.length_cons] at hq); rw [hae _ _ (by assumption) (by omega) (by omega), if_pos (by assumption)]; simp only [lst, onOf, if_neg minus]; done)
      | (have hq := la_lt (by assumption) (by assumption); (try simp only [List.length_cons] at hq); rw [hae _ _ (by assumption) (by omega) (by omega), if_neg (by assumption)]; simp only [lst, onOf, if_pos hb]; done)
  · have e1 : lst (w, b, d) = w := if_neg hb
    have e2 : onOf (w, b, d) = 0 := if_neg hb
    have hb1 : b = -1 := by omega
    subst hb1
    have hi := idx_range w it
    have hae := fun m j (h : lastAt it w m j) => la_end (s := (w, -1, d)) (x := it) (m := m) (j := j) (by rw [e1]; exact h)
    rw [e1] at hae hgl
    rw [e1, e2]
    simp (decide := true) only [eq_self, not_true_eq_false, not_false_eq_true, or_false, or_true, true_or, false_or, forall_const, false_imp_iff, implies_true, true_and, and_true, Int.toNat_zero, Int.add_zero, List.drop_zero] at hgl hae ⊢
    repeat' (first
      | refine hst _ _ _ _ (by assumption) ?_
      | (exact la_init _ _)
      | with_reducible apply And.intro
      | with_reducible intro _)
    all_goals try omega
    all_goals try first
      | (exact la_hit (by assumption) (by assumption) (by assumption) (by assumption))
      | (exact la_miss (by assumption) (by assumption) (by assumption) (by assumption))
      | (rw [hpl (by assumption)]; done)
      | (rw [hpl (by assumption)]; rfl)
      | (have hq := la_lt (by assumption) (by assumption); (try simp only [List.length_cons] at hq); omega)
    all_goals try (
      unfold step
      simp only []
      (repeat' split) <;> first | (exfalso; omega) | skip)
    all_goals try first
      | (simp only [lst, onOf, if_pos hb]; done)
      | (simp only [lst, onOf, if_pos hb, if_neg minus]; done)
      | (simp only [lst, onOf, if_neg minus]; done)
      | (simp only [lst, onOf, if_pos hb]; rw [canc (by omega)]; done)
      | (rw [if_pos rfl]; done)
      | (rw [show (idx w it + 1).toNat = (idx w it).toNat + 1 by omega]; simp only [lst, onOf, if_neg minus]; done)
      | (have hq := la_lt (by assumption) (by assumption); rw [hae _ _ (by assumption) (by omega) (by omega), if_pos (by assumption)]; simp only [lst, onOf, if_neg minus]; done)
      | (have hq := la_lt (by assumption) (by assumption); rw [hae _ _ (by assumption) (by omega) (by omega), if_neg (by assumption)]; simp only [lst, onOf, if_neg minus]; done)
      | (exact neg_begin (by omega) hgw)


theorem e_plays (x : List (Int × Int) × Unit) (hpre : True) (hlens : LensL cLaw.as x) : E_plays x := by
  obtain ⟨x, u⟩ := x
  unfold E_plays
  simp only [Bool.not_eq_true', Bool.not_eq_false', Bool.not_eq_true, Bool.not_eq_false, beq_self_eq_true, decide_eq_true_eq, decide_eq_false_iff_not, Bool.not_false, Bool.not_true, beq_iff_eq, beq_eq_false_iff_ne, bne_iff_ne, ne_eq, bne_eq_false_iff_eq, holds_iff, true_and, and_true, and_self, eq_self, List.length_cons, List.length_nil, List.length_append, List.length_set, List.length_replicate, List.set_cons_zero, cond_true, cond_false, Bool.false_eq_true, Bool.true_eq_false, forall_const, false_imp_iff, imp_self, implies_true, and_imp, Decidable.not_not, Bool.and_eq_true, Bool.or_eq_true, Bool.and_eq_false_iff, Bool.or_eq_false_iff, ← List.length_eq_zero_iff, or_self, or_false, false_or, Prod.forall, Int.reduceEq, Int.reduceLT, Int.reduceLE, List.nil_append, Nat.zero_add, Int.toNat_zero, List.drop_zero, List.length_drop, List.length_take, not_true_eq_false, not_false_eq_true,  deq_iff, deq_false, pair_eta]
theorem pre_plays (x : HL cLaw.as) (_ : GoodL cLaw.as x) (h : FitL cLaw.as x) : True := trivial

end Go.Proofs.Ytlkhpbjjimjhbaa.Work
