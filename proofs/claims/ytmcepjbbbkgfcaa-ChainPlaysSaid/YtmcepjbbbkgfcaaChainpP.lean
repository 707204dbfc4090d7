/-
  ChainPlays: the conditions hold.
-/
import Derived.Test.YtmcepjbbbkgfcaaChainpChainP
namespace Go.Proofs.Ytmcepjbbbkgfcaa.Chainp
open Go.Sx
set_option maxRecDepth 100000
set_option maxHeartbeats 1000000
set_option linter.unusedSimpArgs false
set_option linter.unusedVariables false

theorem mx_fold (l : List HA) (a k : Int) : k < l.foldl mx1 a ↔ k < a ∨ ∃ h ∈ l, k < min h.2 1000 := by
  induction l generalizing a with
  | nil => simp
  | cons h r ih =>
    rw [List.foldl_cons, ih]
    simp only [mx1, List.mem_cons, exists_eq_or_imp]
    constructor
    · rintro (h1 | h1)
      · by_cases h2 : k < a
        · exact .inl h2
        · exact .inr (.inl (by omega))
      · exact .inr (.inr h1)
    · rintro (h1 | h1 | h1)
      · exact .inl (by omega)
      · exact .inl (by omega)
      · exact .inr h1
theorem mx_lt {l : List HA} {k : Int} (h0 : 0 ≤ k) : k < mx l ↔ ∃ h ∈ l, k < min h.2 1000 := by
  unfold mx
  rw [mx_fold]
  exact ⟨fun h => h.resolve_left (by omega), .inr⟩
theorem mx_nn (l : List HA) : 0 ≤ mx l := by
  have := (mx_fold l 0 (-1)).2 (.inl (by omega))
  unfold mx; omega
theorem mx_le (l : List HA) : mx l ≤ 1000 := by
  have : ¬ 1000 < mx l := fun h => by
    obtain ⟨q, _, h2⟩ := (mx_lt (by omega)).1 h
    omega
  omega
theorem left_nn {l : List HA} (hr : right l = true) : ∀ h ∈ l, 0 ≤ h.2 := fun h hh => by
  have := (List.all_eq_true.1 (right_all hr).2) h hh
  simp [okH] at this; omega
theorem decN_zero {l : List HA} (hr : right l = true) : decN 0 l = l := by
  unfold decN
  conv => rhs; rw [← List.map_id l]
  apply List.map_congr_left
  intro h hh
  have := left_nn hr h hh
  simp only [down, id]
  rw [show h.2 - min h.2 0 = h.2 by omega]
theorem decN_step {l : List HA} {k : Int} (hr : right l = true) (h0 : 0 ≤ k) : (decN k l).map dec = decN (k + 1) l := by
  unfold decN
  rw [List.map_map]
  apply List.map_congr_left
  intro h hh
  have := left_nn hr h hh
  obtain ⟨a, b⟩ := h
  have this : 0 ≤ b := this
  show (if b - min b k = 0 then (a, b - min b k) else (a, b - min b k - 1)) = (a, b - min b (k + 1))
  split <;> congr 1 <;> omega
theorem decN_right {l : List HA} {k : Int} (hr : right l = true) (h0 : 0 ≤ k) : right (decN k l) = true := by
  obtain ⟨h1, h2⟩ := right_all hr
  simp only [right, Bool.and_eq_true, decide_eq_true_eq]
  refine ⟨by simp only [decN, List.length_map]; exact h1, ?_⟩
  rw [List.all_eq_true] at h2 ⊢
  intro q hq
  simp only [decN, List.mem_map] at hq
  obtain ⟨h, hh, rfl⟩ := hq
  have := h2 h hh
  obtain ⟨a, b⟩ := h
  show okH (a, b - min b k) = true
  simp only [okH, Bool.and_eq_true, decide_eq_true_eq] at this ⊢
  omega
theorem wk_decN {l : List HA} {k : Int} (hr : right l = true) (h0 : 0 ≤ k) : wk (decN k l) = (wj k l).2 := by
  unfold wk decN wj
  rw [List.foldl_map]
  have key : ∀ (r : List HA) (s : Int × List Int), (∀ h ∈ r, 0 ≤ h.2) → r.foldl (fun s h => wk1 s (down k h)) s = r.foldl (wj1 k) s := by
    intro r
    induction r with
    | nil => intro s _; rfl
    | cons h r ih =>
      intro s hn
      rw [List.foldl_cons, List.foldl_cons]
      have e : wk1 s (down k h) = wj1 k s h := by
        have := hn h (by simp)
        obtain ⟨a, b⟩ := h
        have this : 0 ≤ b := this
        show (s.1 + 1, if b - min b k ≠ 0 ∧ a = 2 then s.2 ++ [s.1] else s.2) = (s.1 + 1, if k < b ∧ a = 2 then s.2 ++ [s.1] else s.2)
        by_cases h1 : k < b
        · by_cases h2 : a = 2
          · rw [if_pos ⟨by omega, h2⟩, if_pos ⟨h1, h2⟩]
          · rw [if_neg (fun q => h2 q.2), if_neg (fun q => h2 q.2)]
        · rw [if_neg (fun q => q.1 (by omega)), if_neg (fun q => h1 q.1)]
      rw [e]
      exact ih _ (fun q hq => hn q (by simp [hq]))
  rw [key l _ (left_nn hr)]
theorem wj_len (k : Int) (l : List HA) (s : Int × List Int) : (l.foldl (wj1 k) s).2.length ≤ s.2.length + l.length := by
  induction l generalizing s with
  | nil => simp
  | cons h r ih =>
    rw [List.foldl_cons]
    have := ih (wj1 k s h)
    have h2 : (wj1 k s h).2.length ≤ s.2.length + 1 := by
      simp only [wj1]; split <;> simp
    simp only [List.length_cons]; omega
theorem act_decN {l : List HA} {k : Int} (hr : right l = true) (h0 : 0 ≤ k) (h1 : k ≤ 400) : (decN k l).any act = decide (k < mx l) := by
  rw [Bool.eq_iff_iff, decide_eq_true_eq, mx_lt h0, List.any_eq_true]
  constructor
  · rintro ⟨q, hq, ha⟩
    simp only [decN, List.mem_map] at hq
    obtain ⟨h, hh, rfl⟩ := hq
    have := left_nn hr h hh
    obtain ⟨a, b⟩ := h
    have this : 0 ≤ b := this
    have ha : b - min b k ≠ 0 := of_decide_eq_true ha
    exact ⟨(a, b), hh, by show k < min b 1000; omega⟩
  · rintro ⟨⟨a, b⟩, hh, hk⟩
    have hk : k < min b 1000 := hk
    exact ⟨down k (a, b), List.mem_map.2 ⟨(a, b), hh, rfl⟩, decide_eq_true (by show b - min b k ≠ 0; omega)⟩
theorem tal_step {l : List HA} {k : Int} (hr : right l = true) (h0 : 0 ≤ k) (h1 : k ≤ 400) : nob (decN k l) (max (k - mx l) 0) = max (k + 1 - mx l) 0 := by
  simp only [nob, act_decN hr h0 h1, decide_eq_true_eq]
  split <;> omega
theorem wkN_succ {l : List HA} {k : Int} (h0 : 0 ≤ k) : wkN l (k + 1).toNat = wkN l k.toNat ++ (wj k l).2 := by
  rw [show (k + 1).toNat = k.toNat + 1 by omega]
  simp only [wkN]
  rw [show ((k.toNat : Nat) : Int) = k by omega]
theorem e_play (x : List HA × Int × Unit) (_ : True) (_ : LensL cPlay.as x) : E_play x := by
  obtain ⟨l, times, u⟩ := x
  unfold E_play
  simp only [Bool.not_eq_true', Bool.not_eq_false', Bool.not_eq_true, Bool.not_eq_false, beq_self_eq_true, decide_eq_true_eq, decide_eq_false_iff_not, Bool.not_false, Bool.not_true, beq_iff_eq, beq_eq_false_iff_ne, bne_iff_ne, ne_eq, bne_eq_false_iff_eq, holds_iff, true_and, and_true, and_self, eq_self, List.length_cons, List.length_nil, List.length_append, List.length_set, List.length_replicate, List.set_cons_zero, cond_true, cond_false, Bool.false_eq_true, Bool.true_eq_false, forall_const, false_imp_iff, imp_self, implies_true, and_imp, Decidable.not_not, Bool.and_eq_true, Bool.or_eq_true, Bool.and_eq_false_iff, Bool.or_eq_false_iff, ← List.length_eq_zero_iff, or_self, or_false, false_or, Prod.forall, Int.reduceEq, Int.reduceLT, Int.reduceLE, List.nil_append, Nat.zero_add, Int.toNat_zero, List.drop_zero, List.length_drop, List.length_take, not_true_eq_false, not_false_eq_true,  pair_eta]
  refine ⟨fun hr => by simp [play, hr], fun hr => ⟨fun ht => by simp [play, hr, ht], fun t0 t1 => ?_⟩⟩
  have hl := (right_all hr).1
  have hm := mx_nn l
  have hpl : play l times = ((iplay l times).1, (iplay l times).2.1, (iplay l times).2.2.1, 0, ()) := by
    simp only [play]; rw [if_neg (by simp [hr]), if_neg (by omega)]
  refine ⟨by omega, ⟨by omega, (decN_zero hr).symm, rfl, ?_, by omega, by omega⟩, ?_⟩
  · simp only [tal]; rw [show max (0 - mx l) 0 = 0 by omega]; rfl
  intro o w c n f k h0 h1 ho hw ht hk hwl _ _ _ _ _ _ _ _ _ _
  have hfin : k = came l times → o = (play l times).1 ∧ w = (play l times).2.1 ∧ (c, n, f) = (play l times).2.2.1 ∧ (0 : Int) = (play l times).2.2.2.1 := fun e => by
    rw [hpl]
    simp only [iplay, ← e]
    exact ⟨ho, hw, ht, trivial⟩
  have ht' := ht
  simp only [tal, Prod.mk.injEq] at ht'
  obtain ⟨rfl, hn, hf⟩ := ht'
  refine ⟨fun hlt => ?_, fun hge => hfin (by simp only [came]; omega)⟩
  have hro : right o = true := by rw [ho]; exact decN_right hr h0
  have hok : okT (c, n, f) := by
    refine ⟨by dsimp only; omega, by dsimp only; omega, by dsimp only; omega, by dsimp only; omega, ?_⟩
    rw [hf, hn]; simp
  by_cases hf5 : n = 5
  · have hft : f = true := by rw [hf, ← hn]; simp [hf5]
    have hs : serve o (c, n, f) = bad 7 := by
      unfold serve; rw [if_pos ⟨hro, hok⟩, if_pos hft]
    rw [hs]
    refine ⟨fun _ => hfin (by simp only [came]; omega), fun q => ?_⟩
    simp [bad] at q
  · have hff : f = false := by rw [hf, ← hn]; simp [hf5]
    rw [serve_ok hro hok hff (by omega)]
    have e1 : nob o n = max (c + 1 - mx l) 0 := by rw [ho, hn]; exact tal_step hr h0 (by omega)
    have hwl2 : (wj c l).2.length ≤ l.length := by
      have := wj_len c l (0, [])
      simpa [wj] using this
    rw [e1, wkN_succ h0, show wk o = (wj c l).2 by rw [ho]; exact wk_decN hr h0, hw]
    refine ⟨fun q => absurd rfl q, fun _ => ?_⟩
    rw [hw] at hwl
    refine ⟨by dsimp only; omega, by omega, ⟨by omega, by omega, by dsimp only; rw [ho]; exact decN_step hr h0, rfl, rfl, by omega, by simp only [List.length_append] at *; omega⟩, by omega⟩
theorem getD_nn {l : List HA} (hr : right l = true) {k : Int} (h0 : 0 ≤ k) (hk : k < l.length) : 0 ≤ (l.getD k.toNat (0, 0)).2 ∧ (l.getD k.toNat (0, 0)).2 ≤ 1099511627776 := by
  have := okH_of hr h0 hk
  exact this.2.2
theorem e_iplay (x : List HA × Int × Unit) (hp : right x.1 = true ∧ 0 ≤ x.2.1 ∧ x.2.1 ≤ 400) (_ : LensL cIPlay.as x) : E_iplay x := by
  obtain ⟨l, times, u⟩ := x
  obtain ⟨hr, t0, t1⟩ := hp
  dsimp only at hr t0 t1
  unfold E_iplay
  simp only [Bool.not_eq_true', Bool.not_eq_false', Bool.not_eq_true, Bool.not_eq_false, beq_self_eq_true, decide_eq_true_eq, decide_eq_false_iff_not, Bool.not_false, Bool.not_true, beq_iff_eq, beq_eq_false_iff_ne, bne_iff_ne, ne_eq, bne_eq_false_iff_eq, holds_iff, true_and, and_true, and_self, eq_self, List.length_cons, List.length_nil, List.length_append, List.length_set, List.length_replicate, List.set_cons_zero, cond_true, cond_false, Bool.false_eq_true, Bool.true_eq_false, forall_const, false_imp_iff, imp_self, implies_true, and_imp, Decidable.not_not, Bool.and_eq_true, Bool.or_eq_true, Bool.and_eq_false_iff, Bool.or_eq_false_iff, ← List.length_eq_zero_iff, or_self, or_false, false_or, Prod.forall, Int.reduceEq, Int.reduceLT, Int.reduceLE, List.nil_append, Nat.zero_add, Int.toNat_zero, List.drop_zero, List.length_drop, List.length_take, not_true_eq_false, not_false_eq_true,  pair_eta]
  have hl := (right_all hr).1
  have hm := mx_nn l
  have hm2 := mx_le l
  have hc : came l times = min times (mx l + 5) := rfl
  refine ⟨⟨by omega, rfl⟩, ?_⟩
  intro m k h0 h1 hmk _ _ _ _
  refine ⟨fun hk => ⟨⟨h0, hk⟩, by omega, ⟨by omega, by omega, ?_⟩, by omega⟩, fun hk => ?_⟩
  · have := foldl_takeI (f := mx1) (b := 0) (0, 0) h0 hk
    unfold mx at hmk ⊢
    rw [this, ← hmk]; rfl
  rw [takeI_all (by omega)] at hmk
  subst hmk
  refine ⟨by omega, by omega, ⟨by omega, rfl⟩, ?_⟩
  intro o k2 i0 i1 ho _ _ _ _
  refine ⟨fun hk2 => ?_, fun hk2 => ?_⟩
  · have hn := getD_nn hr i0 hk2
    have hm := map_takeI (f := down (came l times)) (0, 0) i0 hk2
    have hol : (o.length : Int) = k2 := by rw [ho]; simp only [decN, List.length_map, List.length_take]; omega
    refine ⟨⟨i0, hk2⟩, by omega, by omega, by omega, ⟨by omega, by omega, ?_⟩, by omega⟩
    unfold decN at ho ⊢
    rw [hm, ← ho]; rfl
  rw [takeI_all (by omega)] at ho
  refine ⟨⟨by omega, rfl, by omega⟩, ?_⟩
  intro w n n0 n1 hw hwl _ _ _ _
  refine ⟨fun hn => ?_, fun hn => ?_⟩
  · refine ⟨⟨by omega, by rw [hw]; simp [wj], by omega⟩, ?_⟩
    intro w2 k3 j0 j1 hw2 hwl2 _ _ _ _
    refine ⟨fun hk3 => ?_, fun hk3 => ?_⟩
    · have hf := foldl_takeI (f := wj1 n) (b := (0, [])) (0, 0) j0 hk3
      have hfst : ∀ (r : List HA) (s : Int × List Int), (r.foldl (wj1 n) s).1 = s.1 + r.length := fun r => by
        induction r with
        | nil => intro s; simp
        | cons h r ih => intro s; rw [List.foldl_cons, ih]; simp only [wj1, List.length_cons]; omega
      have hk3f : (wj n (l.take k3.toNat)).1 = k3 := by
        unfold wj; rw [hfst]; simp only [List.length_take]; omega
      have hstep : (wj n (l.take (k3 + 1).toNat)).2 = if n < (l.getD k3.toNat (0, 0)).2 ∧ (l.getD k3.toNat (0, 0)).1 = 2 then (wj n (l.take k3.toNat)).2 ++ [k3] else (wj n (l.take k3.toNat)).2 := by
        have hf2 : wj n (l.take (k3 + 1).toNat) = wj1 n (wj n (l.take k3.toNat)) (l.getD k3.toNat (0, 0)) := hf
        rw [hf2]
        show (if n < (l.getD k3.toNat (0, 0)).2 ∧ (l.getD k3.toNat (0, 0)).1 = 2 then (wj n (l.take k3.toNat)).2 ++ [(wj n (l.take k3.toNat)).1] else (wj n (l.take k3.toNat)).2) = _
        rw [hk3f]
      rw [hstep]
      generalize l.getD k3.toNat (0, 0) = q at *
      repeat' (first | with_reducible apply And.intro | with_reducible intro _)
      all_goals first
        | omega
        | (rw [hw2, if_pos ⟨by assumption, by assumption⟩, List.append_assoc]; done)
        | (rw [hw2, if_neg (by omega)]; done)
    · rw [takeI_all (by omega)] at hw2
      exact ⟨by omega, ⟨by omega, by omega, by rw [hw2, wkN_succ n0], by omega⟩, by omega⟩
  · have e : n = came l times := by omega
    have hbe : ∀ m : Int, (m == 5) = decide (m = 5) := fun m => by rw [Bool.eq_iff_iff]; simp
    refine ⟨by rw [ho]; rfl, by rw [hw, e]; rfl, ?_⟩
    rw [hbe]
    rfl
theorem e_cloned (x : List HA × Unit) (hp : cCloneD.pre x) (_ : LensL cCloneD.as x) : E_cloned x := by
  obtain ⟨xs, u⟩ := x
  have hp : xs.length * 16 ≤ 140737488355328 := hp
  unfold E_cloned
  intro b hb
  refine ⟨fun h => (hb h).symm, fun h => ?_⟩
  simp only [List.length_nil, List.nil_append, and_true]
  omega
theorem e_plays (x : List HA × Int × Unit) (_ : True) (_ : LensL cLawP.as x) : E_plays x := by
  obtain ⟨l, times, u'⟩ := x
  unfold E_plays
  simp only [Bool.not_eq_true', Bool.not_eq_false', Bool.not_eq_true, Bool.not_eq_false, beq_self_eq_true, decide_eq_true_eq, decide_eq_false_iff_not, Bool.not_false, Bool.not_true, beq_iff_eq, beq_eq_false_iff_ne, bne_iff_ne, ne_eq, bne_eq_false_iff_eq, holds_iff, true_and, and_true, and_self, eq_self, List.length_cons, List.length_nil, List.length_append, List.length_set, List.length_replicate, List.set_cons_zero, cond_true, cond_false, Bool.false_eq_true, Bool.true_eq_false, forall_const, false_imp_iff, imp_self, implies_true, and_imp, Decidable.not_not, Bool.and_eq_true, Bool.or_eq_true, Bool.and_eq_false_iff, Bool.or_eq_false_iff, ← List.length_eq_zero_iff, or_self, or_false, false_or, Prod.forall, Int.reduceEq, Int.reduceLT, Int.reduceLE, List.nil_append, Nat.zero_add, Int.toNat_zero, List.drop_zero, List.length_drop, List.length_take, not_true_eq_false, not_false_eq_true,  deq_iff, deq_false, pair_eta]
  refine ⟨fun hr => ?_, fun hr => ⟨fun ht => ?_, fun t0 t1 => ?_⟩⟩
  · rw [show play l times = ([], [], (0, 0, false), 1, ()) by simp [play, hr]]; simp
  · rw [show play l times = ([], [], (0, 0, false), 2, ()) by simp [play, hr, ht]]; simp
  · rw [show play l times = ((iplay l times).1, (iplay l times).2.1, (iplay l times).2.2.1, 0, ()) by simp only [play]; rw [if_neg (by simp [hr]), if_neg (by omega)]]
    refine ⟨⟨hr, by omega, by omega⟩, fun _ _ _ => rfl, fun q => ?_⟩
    rcases q with (q | q) | q <;> exact q rfl
theorem pre_plays (x : HL cLawP.as) (_ : GoodL cLawP.as x) (h : FitL cLawP.as x) : True := trivial

end Go.Proofs.Ytmcepjbbbkgfcaa.Chainp
