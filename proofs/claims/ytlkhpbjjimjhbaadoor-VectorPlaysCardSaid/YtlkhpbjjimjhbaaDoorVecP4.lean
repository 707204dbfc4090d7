/-
  VectorPlays: the document's answer; the statement.
-/
import Derived.Test.YtlkhpbjjimjhbaaDoorVecP3
namespace Go.Proofs.YtlkhpbjjimjhbaaDoor.Vec
open Go.Sx
set_option maxRecDepth 100000
set_option maxHeartbeats 1000000
set_option linter.unusedSimpArgs false
set_option linter.unusedVariables false

theorem wrapU (x : Int) : IntKind.u64.wrap x = (U x : Int) := by
  unfold IntKind.wrap
  show (if (false && decide (x % 2 ^ 64 ≥ 2 ^ (64 - 1))) = true then _ else x % 2 ^ 64) = _
  rw [Bool.false_and, if_neg (by simp)]
  unfold U
  omega
theorem mb_u {m j : Int} (h0 : 0 ≤ j) (h8 : j < 64) : IntKind.u64.wrap m / 2 ^ min j.toNat IntKind.u64.bits % 2 = 1 ↔ mbit m j.toNat = true := by
  rw [show min j.toNat IntKind.u64.bits = j.toNat from Nat.min_eq_left (show j.toNat ≤ 64 by omega), wrapU]
  unfold mbit
  rw [U_div m j.toNat (by omega)]
  simp only [decide_eq_true_eq]
  have e : ((U m / 2 ^ j.toNat % 2 : Nat) : Int) = (U m : Int) / 2 ^ j.toNat % 2 := by simp
  rw [e]
theorem cnt_snoc (l : VS) (s : Int × Int) (c : Int) : cntS (l ++ [s]) c = cntS l c + (if isAt c s = true then 1 else 0) := by
  unfold cntS
  rw [List.filter_append, List.length_append, List.filter_cons]
  have : (decide (0 < s.2) && decide (s.1 = c)) = isAt c s := rfl
  rw [this]
  split <;> simp
theorem cnt_le (l : VS) (c : Int) : 0 ≤ cntS l c ∧ cntS l c ≤ l.length := by
  unfold cntS
  have := List.length_filter_le (fun s => decide (0 < s.2) && decide (s.1 = c)) l
  omega
theorem used_snoc (l : VS) (s : Int × Int) (c v : Int) : usedS (l ++ [s]) c v = (usedS l c v || (isAt c s && decide (s.2 = v))) := by
  unfold usedS isAt
  simp [List.any_append]
theorem had_len (l : VS) (c : Int) : (hadT l c).length = 256 := by simp [hadT]
theorem had_get (l : VS) (c : Int) {v : Nat} (h : v < 256) : (hadT l c).getD v false = usedS l c v := by
  simp [hadT, List.getD, h]
theorem had_snoc_t {l : VS} {s : Int × Int} {c : Int} (h : isAt c s = true) (h0 : 0 ≤ s.2) : hadT (l ++ [s]) c = (hadT l c).set s.2.toNat true := by
  apply List.ext_getElem
  · simp [hadT]
  · intro i h1 h2
    rw [List.getElem_set]
    simp only [hadT, List.getElem_map, List.getElem_range, used_snoc, h, Bool.true_and]
    by_cases e : s.2.toNat = i
    · rw [if_pos e, decide_eq_true (by omega), Bool.or_true]
    · rw [if_neg e, decide_eq_false (by omega), Bool.or_false]
theorem had_snoc_f {l : VS} {s : Int × Int} {c : Int} (h : isAt c s = false) : hadT (l ++ [s]) c = hadT l c := by
  unfold hadT
  simp only [used_snoc, h, Bool.false_and, Bool.or_false]
theorem nB_le1 {f g : Nat → Bool} {n : Nat} : ∀ m, (∀ j, j < m → j ≠ n → g j = f j) → nB g m ≤ nB f m + (if n < m then 1 else 0)
  | 0, _ => by simp [nB]
  | m + 1, h => by
    have ih := nB_le1 m (fun j hj => h j (by omega))
    show (if g m = true then 1 else 0) + nB g m ≤ (if f m = true then 1 else 0) + nB f m + _
    by_cases e : m = n
    · subst e
      rw [if_neg (by omega : ¬ m < m)] at ih
      rw [if_pos (by omega : m < m + 1)]
      have : (if g m = true then 1 else 0) ≤ 1 := by split <;> omega
      omega
    · rw [h m (by omega) e]
      by_cases e2 : n < m
      · rw [if_pos e2] at ih; rw [if_pos (by omega : n < m + 1)]; omega
      · rw [if_neg e2] at ih; rw [if_neg (by omega : ¬ n < m + 1)]; omega
theorem nB_used (c : Int) : ∀ l : VS, (nB (fun v => usedS l c v) 256 : Int) ≤ cntS l c
  | [] => by
    have : nB (fun (v : Nat) => usedS [] c v) 256 = 0 := by
      show nB (fun _ => false) 256 = 0
      decide
    rw [this]; exact Int.le_refl _
  | s :: l => by
    have ih := nB_used c l
    have e1 : cntS (s :: l) c = (if isAt c s = true then 1 else 0) + cntS l c := by
      unfold cntS
      rw [List.filter_cons]
      have : (decide (0 < s.2) && decide (s.1 = c)) = isAt c s := rfl
      rw [this]
      split <;> simp; omega
    have e2 : ∀ v : Int, usedS (s :: l) c v = ((isAt c s && decide (s.2 = v)) || usedS l c v) := fun v => rfl
    rw [e1]
    cases h : isAt c s with
    | false =>
      rw [nB_congr (g := fun v => usedS l c v) 256 (fun j hj => by rw [e2, h, Bool.false_and, Bool.false_or])]
      simpa using ih
    | true =>
      have := nB_le1 (f := fun v => usedS l c v) (g := fun v => usedS (s :: l) c v) (n := s.2.toNat) 256 (fun j hj hne => by
        rw [e2, h, Bool.true_and]
        by_cases q : s.2 = (j : Int)
        · exfalso; omega
        · rw [decide_eq_false q, Bool.false_or])
      have h1 : (if s.2.toNat < 256 then 1 else 0) ≤ 1 := by split <;> omega
      simp only [if_true]
      omega
theorem find_ok {C m b : Int} {l : VS} {s : Int × Int} (h : findS C l m b = some s) : (0 ≤ s.1 ∧ s.1 < C) ∧ 32 ≤ s.2 ∧ s.2 < 256 := by
  unfold findS at h
  split at h
  · cases h
  · rename_i hn
    have hs := bst_spec (okc m b) (fun c => cntS l c) C.toNat
    generalize bst (okc m b) (fun c => cntS l c) C.toNat = r at *
    have hs' := hs.resolve_left (fun e => by rw [e] at hn; simp at hn)
    have hb := nB_used r.1 l
    have hc : cntS l r.1 < 224 := by
      have := hs'.2.2.1
      rw [Int.toNat_of_nonneg hs'.1] at this
      rw [← this]; exact hs'.2.2.2.1
    have hf := lst_free (f := fun v => usedS l r.1 v) (by omega)
    have h32 := (lst_spec (fun v => usedS l r.1 v) 224 32).1
    injection h with h
    subst h
    exact ⟨⟨hs'.1, by have := hs'.2.1; omega⟩, by simp only []; omega, by simp only []; omega⟩
theorem step_ok {C : Int} {l : VS} {o : Int × Int × Int} (h : ∀ s ∈ l, okSlot C s) : ∀ s ∈ (stepV C l o).1, okSlot C s := by
  have hset : ∀ (i : Nat) (s' : Int × Int), okSlot C s' → ∀ s ∈ l.set i s', okSlot C s := fun i s' hs' s hs => by
    rcases List.mem_or_eq_of_mem_set hs with hs | hs
    · exact h s hs
    · rw [hs]; exact hs'
  unfold stepV
  split
  · exact h
  split
  · exact h
  split
  · exact h
  split
  · exact h
  split
  · exact hset _ _ (Or.inl rfl)
  · cases hf : findS C l o.2.2 (if o.1 = 3 then (l.getD o.2.1.toNat (0, 0)).1 else -1) with
    | none => exact h
    | some s => exact hset _ _ (Or.inr (find_ok hf))
set_option maxHeartbeats 4000000 in
theorem e_dplay (x : Int × Int × List (Int × Int × Int) × Unit) (hpre : x.2.2.1.length * 24 ≤ 140737488355328) (hlens : LensL cPlayV.as x) : E_dplay x := by
  obtain ⟨C, L, ops, u⟩ := x
  simp only [] at hpre
  unfold E_dplay
  simp only [Bool.not_eq_true', Bool.not_eq_false', Bool.not_eq_true, Bool.not_eq_false, beq_self_eq_true, decide_eq_true_eq, decide_eq_false_iff_not, Bool.not_false, Bool.not_true, beq_iff_eq, beq_eq_false_iff_ne, bne_iff_ne, ne_eq, bne_eq_false_iff_eq, holds_iff, true_and, and_true, and_self, eq_self, List.length_cons, List.length_nil, List.length_append, List.length_set, List.length_replicate, List.set_cons_zero, cond_true, cond_false, Bool.false_eq_true, Bool.true_eq_false, forall_const, false_imp_iff, imp_self, implies_true, and_imp, Decidable.not_not, Bool.and_eq_true, Bool.or_eq_true, Bool.and_eq_false_iff, Bool.or_eq_false_iff, ← List.length_eq_zero_iff, or_self, or_false, false_or, Prod.forall, Int.reduceEq, Int.reduceLT, Int.reduceLE, List.nil_append, Nat.zero_add, Int.toNat_zero, List.drop_zero, List.length_drop, List.length_take, not_true_eq_false, not_false_eq_true,  pair_eta, List.set_cons_zero, show Int.negSucc 0 = (-1 : Int) from rfl]
  refine ⟨fun h => ?_, fun h1 h2 h3 h4 => ⟨by omega, ⟨by omega, rfl, rfl, ?_⟩, ?_⟩⟩
  · have : badV C L = true := by unfold badV; simpa [or_assoc] using h
    unfold playV
    rw [if_pos this]
    exact ⟨rfl, rfl, rfl⟩
  · intro a b hm
    exact Or.inl (List.eq_of_mem_replicate hm)
  intro l e k hk0 hk1 hpl hel hok hll hlr hel' her hk2 hk3
  have hst := fun (l' : VS) (c : Int) (hlt : k < ops.length) hs => pl_fin (l' := l') (c := c) hk0 hlt hpl hs
  have hllen : l.length = L.toNat := by have := pl_len C L (ops.take k.toNat); rw [hpl] at this; exact this
  have hbad : badV C L = false := by unfold badV; simp; omega
  have hend : ¬ k < ops.length → e = (playV (C, L, ops, u)).1 ∧ l = (playV (C, L, ops, u)).2.1 ∧ 0 = (playV (C, L, ops, u)).2.2.1 := fun hge => by
    rw [takeI_all (by omega)] at hpl
    unfold playV
    rw [hbad, if_neg (by decide), hpl]
    exact ⟨rfl, rfl, rfl⟩
  have hokl : ∀ s ∈ l, okSlot C s := fun s hs => hok s.1 s.2 hs
  clear hlens her hlr
  generalize ops.getD k.toNat (0, 0, 0) = o at *
  obtain ⟨kd, ln, mk⟩ := o
  dsimp only
  refine ⟨fun hlt => ⟨⟨hk0, hlt⟩, ⟨fun q1 q2 q3 => ?_, fun q1 => ⟨fun q2 => ?_, fun q2 q3 => ⟨fun q4 => ⟨q4, by omega, by omega⟩, fun q4 q5 => ?_, fun q4 => ⟨fun q5 => ⟨q5, by omega, by omega⟩, fun q5 q6 => ?_,
    fun q5 => ⟨fun q6 => ⟨⟨by omega, by omega⟩, ?_⟩, fun q6 => ⟨⟨fun q7 => ⟨⟨by omega, by omega⟩, by rw [if_pos q7]⟩, fun q7 => by rw [if_neg q7]⟩, fun b hb _ _ => ⟨⟨by omega, rfl⟩, fun c w j hj0 hj1 hcw _ _ _ _ _ _ => ?_⟩⟩⟩⟩⟩⟩⟩,
    fun l' c hs hl' _ _ _ => ⟨by omega, by omega, ⟨by omega, by omega, hst _ _ hlt hs.symm, by omega, fun a b hm => ?_⟩, by omega⟩⟩, fun hge => hend hge⟩
  · unfold stepV; rw [if_pos (by simp; omega)]
  · unfold stepV; rw [if_neg (by simp; omega), if_pos (by simp; omega)]
  · unfold stepV; rw [if_neg (by simp; omega), if_neg (by simp; omega), if_pos ⟨q4, q5⟩]
  · unfold stepV; rw [if_neg (by simp; omega), if_neg (by simp; omega), if_neg (fun h => q5 h.1), if_pos ⟨q5, by simp only []; omega⟩]
  · unfold stepV
    have hv : 0 < (l.getD ln.toNat (0, 0)).2 := by
      have := hokl _ (mem_getD (l := l) (i := ln.toNat) (d := (0, 0)) (by omega))
      rcases this with h | h
      · rw [h] at q5; simp at q5; omega
      · omega
    rw [if_neg (by simp; omega), if_neg (by simp; omega), if_neg (by intro h; have := h.1; simp only [] at this; omega), if_neg (fun h => h.2 hv), if_pos q6]
  · have hi : ln.toNat < l.length := by omega
    have hstep : stepV C l (kd, ln, mk) = (match findS C l mk b with | none => (l, 4) | some s => (l.set ln.toNat s, 0)) := by
      have hv : kd ≠ 1 → 0 < (l.getD ln.toNat (0, 0)).2 := fun hne => by
        have := hokl _ (mem_getD (l := l) (i := ln.toNat) (d := (0, 0)) (by omega))
        rcases this with h | h
        · rw [h] at q5; simp at q5; omega
        · omega
      unfold stepV
      rw [hb, if_neg (by simp; omega), if_neg (by simp; omega), if_neg (by rintro ⟨h, h'⟩; rcases q4 with h2 | h2; exact h2 h; exact h2 h'), if_neg (fun h => h.2 (hv h.1)), if_neg (by simpa using q6)]
      rfl
    have hs := bst_spec (okc mk b) (fun c => cntS l c) j.toNat
    rw [← hcw] at hs
    simp only [Prod.mk.injEq] at hs
    refine ⟨fun hjl => ⟨⟨by omega, rfl⟩, fun n i hi0 hi1 hn _ _ _ _ => have hnle : n ≤ l.length := (by have := (cnt_le (l.take i.toNat) j).2; rw [← hn, List.length_take] at this; omega); have hn00 : 0 ≤ n := (by rw [hn]; exact (cnt_le _ _).1); ⟨fun hil => ⟨⟨hi0, hil⟩, fun p1 p2 => ⟨by omega, by omega, ⟨by omega, by omega, ?_⟩, by omega⟩, fun p1 => ⟨by omega, ⟨by omega, by omega, ?_⟩, by omega⟩⟩, fun hil => ?_⟩⟩, fun hjl => ⟨fun hneg => ?_, fun hpos => ?_⟩⟩
    · rw [takeI_succ (0, 0) hi0 hil, cnt_snoc, ← hn, if_pos (by unfold isAt; rw [decide_eq_true p1, decide_eq_true p2]; rfl)]
    · rw [takeI_succ (0, 0) hi0 hil, cnt_snoc, ← hn, if_neg]
      · omega
      · unfold isAt
        simp only [Bool.and_eq_true, decide_eq_true_eq]
        rintro ⟨h, h'⟩
        rcases p1 with p | p
        · exact p h
        · exact p h'
    · rw [takeI_all (by omega)] at hn
      have e1 : (j + 1).toNat = j.toNat + 1 := by omega
      have ej : (j.toNat : Int) = j := Int.toNat_of_nonneg hj0
      have e2 : bst (okc mk b) (fun c => cntS l c) (j.toNat + 1) = if okc mk b j.toNat = true ∧ cntS l (j.toNat : Int) < 224 ∧ cntS l (j.toNat : Int) < (bst (okc mk b) (fun c => cntS l c) j.toNat).2 then ((j.toNat : Int), cntS l (j.toNat : Int)) else bst (okc mk b) (fun c => cntS l c) j.toNat := rfl
      rw [e1, e2, ← hcw, ej, ← hn]
      refine ⟨fun p => ⟨p, hj0⟩, fun p => ⟨p, ?_⟩, fun p1 p2 p3 p4 => ⟨by omega, ⟨by omega, by omega, ?_⟩, by omega⟩, fun p => ⟨by omega, ⟨by omega, by omega, ?_⟩, by omega⟩⟩
      · rw [wrapU]
        exact Int.ediv_nonneg (Int.natCast_nonneg _) (Int.pow_nonneg (by omega))
      · rw [if_pos ⟨(okc_iff hj0).2 ⟨(mb_u hj0 (by omega)).1 p2, p1⟩, p3, p4⟩]
      · rw [if_neg]
        rintro ⟨h1, h3, h4⟩
        obtain ⟨h1, h2⟩ := (okc_iff hj0).1 h1
        rcases p with ((p | p) | p) | p
        · exact h2 p
        · exact p ((mb_u hj0 (by omega)).2 h1)
        · exact p h3
        · exact p h4
    · have ejC : j = C := by omega
      subst ejC
      rw [hstep]
      unfold findS
      rw [← hcw, if_pos (by simpa using hneg)]
    · have ejC : j = C := by omega
      subst ejC
      have hs' := hs.resolve_left (fun h => by omega)
      have hcc : cntS l c < 224 := by
        have := hs'.2.2.1
        simp only [Int.toNat_of_nonneg hs'.1] at this
        rw [← this]; exact hs'.2.2.2.1
      refine ⟨⟨by omega, ?_⟩, fun h i hi0 hi1 hh hhl _ _ => ⟨fun hil => ⟨⟨hi0, hil⟩, fun p1 p2 => ⟨⟨by omega, ?_⟩, by omega, ⟨by omega, by omega, ?_⟩, by omega⟩, fun p1 => ⟨by omega, ⟨by omega, by omega, ?_⟩, by omega⟩⟩, fun hil => ⟨rfl, fun n hn0 hn1 hn _ _ => ?_⟩⟩⟩
      · apply List.ext_getElem
        · rw [had_len]; simp
        · intro i h1 h2
          rw [List.getElem_replicate]
          simp only [hadT, List.getElem_map]
          rfl
      · have := hokl _ (mem_getD (l := l) (i := i.toNat) (d := (0, 0)) (by omega))
        rcases this with q | q
        · rw [q]; simp
        · have := q.2.2; omega
      · rw [takeI_succ (0, 0) hi0 hil, had_snoc_t (by unfold isAt; rw [decide_eq_true p1, decide_eq_true p2]; rfl) (by omega), hh]
      · rw [takeI_succ (0, 0) hi0 hil, had_snoc_f, hh]
        rw [← Bool.not_eq_true]
        unfold isAt
        simp only [Bool.and_eq_true, decide_eq_true_eq]
        rintro ⟨q, q'⟩
        rcases p1 with p | p
        · exact p q
        · exact p q'
      · rw [takeI_all (by omega)] at hh
        have hb2 : nB (fun i => h.getD i false) 256 < 224 := by
          rw [nB_congr (g := fun v => usedS l c v) 256 (fun v hv => by rw [hh, had_get l c hv])]
          have := nB_used c l
          omega
        have hlt2 : n < 256 := by
          have hf := lst_free hb2
          apply Decidable.byContradiction
          intro hge
          have e2 : n = 256 := by omega
          rw [e2] at hn
          have h3 : lstN (fun i => h.getD i false) 256 0 = lstN (fun i => h.getD i false) 32 224 := hn
          have h4 : lstN (fun i => h.getD i false) 256 0 = 256 := rfl
          omega
        refine ⟨⟨by omega, by omega⟩, fun hh1 => ⟨by omega, ⟨by omega, by omega, ?_⟩, by omega⟩, fun hh1 => ⟨⟨by omega, by omega⟩, ?_⟩⟩
        · rw [lst_next (f := fun i => h.getD i false) hn0 hlt2 hh1]; exact hn
        · obtain ⟨w1, w2⟩ := lst_at (f := fun i => h.getD i false) hn0 hn1 hn hb2 (fun _ => hh1)
          rw [hstep]
          unfold findS
          rw [← hcw, if_neg (by simpa using hpos), ← w2]
          simp only []
          rw [lst_congr (f := fun v => usedS l c v) (g := fun i => h.getD i false) 224 32 (fun v _ hv => by rw [hh, had_get l c (by omega)])]
  · have := step_ok (C := C) (l := l) (o := (kd, ln, mk)) hokl (a, b) (by rw [← hs]; exact hm)
    exact this
theorem e_vplays (x : Int × Int × List (Int × Int × Int) × Unit) (hpre : x.2.2.1.length * 24 ≤ 140737488355328) (hlens : LensL cVec.as x) : E_vplays x := by
  obtain ⟨C, L, ops, u⟩ := x
  simp only [] at hpre
  unfold E_vplays
  simp only [Bool.not_eq_true', Bool.not_eq_false', Bool.not_eq_true, Bool.not_eq_false, beq_self_eq_true, decide_eq_true_eq, decide_eq_false_iff_not, Bool.not_false, Bool.not_true, beq_iff_eq, beq_eq_false_iff_ne, bne_iff_ne, ne_eq, bne_eq_false_iff_eq, holds_iff, true_and, and_true, and_self, eq_self, List.length_cons, List.length_nil, List.length_append, List.length_set, List.length_replicate, List.set_cons_zero, cond_true, cond_false, Bool.false_eq_true, Bool.true_eq_false, forall_const, false_imp_iff, imp_self, implies_true, and_imp, Decidable.not_not, Bool.and_eq_true, Bool.or_eq_true, Bool.and_eq_false_iff, Bool.or_eq_false_iff, ← List.length_eq_zero_iff, or_self, or_false, false_or, Prod.forall, Int.reduceEq, Int.reduceLT, Int.reduceLE, List.nil_append, Nat.zero_add, Int.toNat_zero, List.drop_zero, List.length_drop, List.length_take, not_true_eq_false, not_false_eq_true,  pair_eta]
  repeat' (first | with_reducible apply And.intro | with_reducible intro _)
  all_goals first | omega | trivial | simp_all
theorem pre_vplays (x : HL cVec.as) (_ : GoodL cVec.as x) (h : FitL cVec.as x) : x.2.2.1.length * 24 ≤ 140737488355328 := by
  have h1 : x.2.2.1.length * 24 ≤ 140737488351232 := h.2.2.1.1
  omega

end Go.Proofs.YtlkhpbjjimjhbaaDoor.Vec
