/-
  VectorPlays: vector.Play.
-/
import Derived.Test.YtlkhpbjjimjhbaaDoorVecP2
namespace Go.Proofs.YtlkhpbjjimjhbaaDoor.Vec
open Go.Sx
set_option maxRecDepth 100000
set_option maxHeartbeats 1000000
set_option linter.unusedSimpArgs false
set_option linter.unusedVariables false

set_option maxHeartbeats 4000000 in
theorem e_vplay (x : Int × Int × List (Int × Int × Int) × Unit) (hpre : x.2.2.1.length * 24 ≤ 140737488355328) (hlens : LensL cPlayV.as x) : E_vplay x := by
  obtain ⟨C, L, ops, u⟩ := x
  simp only [] at hpre
  unfold E_vplay
  simp only [Bool.not_eq_true', Bool.not_eq_false', Bool.not_eq_true, Bool.not_eq_false, beq_self_eq_true, decide_eq_true_eq, decide_eq_false_iff_not, Bool.not_false, Bool.not_true, beq_iff_eq, beq_eq_false_iff_ne, bne_iff_ne, ne_eq, bne_eq_false_iff_eq, holds_iff, true_and, and_true, and_self, eq_self, List.length_cons, List.length_nil, List.length_append, List.length_set, List.length_replicate, List.set_cons_zero, cond_true, cond_false, Bool.false_eq_true, Bool.true_eq_false, forall_const, false_imp_iff, imp_self, implies_true, and_imp, Decidable.not_not, Bool.and_eq_true, Bool.or_eq_true, Bool.and_eq_false_iff, Bool.or_eq_false_iff, ← List.length_eq_zero_iff, or_self, or_false, false_or, Prod.forall, Int.reduceEq, Int.reduceLT, Int.reduceLE, List.nil_append, Nat.zero_add, Int.toNat_zero, List.drop_zero, List.length_drop, List.length_take, not_true_eq_false, not_false_eq_true,  pair_eta, List.set_cons_zero, show Int.negSucc 0 = (-1 : Int) from rfl]
  refine ⟨fun h => ?_, fun h1 h2 h3 h4 => ⟨by omega, by omega, ⟨by omega, rfl, rfl, rel_start (by omega)⟩, ?_⟩⟩
  · have : badV C L = true := by unfold badV; simpa [or_assoc] using h
    unfold playV
    rw [if_pos this]
    exact ⟨rfl, rfl, rfl⟩
  intro _ l t e k _ hk0 hk1 hpl hel hrel hll hlr htl htr hel' her hk2 hk3
  have hst := fun (l' : VS) (c : Int) (hlt : k < ops.length) hs => pl_fin (l' := l') (c := c) hk0 hlt hpl hs
  have hllen : l.length = L.toNat := by have := pl_len C L (ops.take k.toNat); rw [hpl] at this; exact this
  have hbad : badV C L = false := by unfold badV; simp; omega
  have hend : ¬ k < ops.length → e = (playV (C, L, ops, u)).1 ∧ l = (playV (C, L, ops, u)).2.1 ∧ 0 = (playV (C, L, ops, u)).2.2.1 := fun hge => by
    rw [takeI_all (by omega)] at hpl
    unfold playV
    rw [hbad, if_neg (by decide), hpl]
    exact ⟨rfl, rfl, rfl⟩
  clear hlens htr her hlr
  generalize ops.getD k.toNat (0, 0, 0) = o at *
  obtain ⟨kd, ln, mk⟩ := o
  dsimp only
  have fin : ∀ (l' : VS) (t' : List (List Int)) (c : Int), k < ops.length → stepV C l (kd, ln, mk) = (l', c) → RelV C l' t' →
      (e.length + 1 ≤ 9223372036854775807 ∧ (e.length + 1 + (e.length + 1) / 4 + 192) * 8 ≤ 281474976710656) ∧ (-9223372036854775808 ≤ k + 1 ∧ k + 1 ≤ 9223372036854775807) ∧
        (0 ≤ k + 1 ∧ k + 1 ≤ (ops.length : Int) ∧ plV C L (ops.take (k + 1).toNat) = (l', e ++ [c]) ∧ ((e.length + 1 : Nat) : Int) = k + 1 ∧ RelV C l' t') ∧ ((ops.length : Int) - (k + 1)).toNat < ((ops.length : Int) - k).toNat :=
    fun l' t' c hlt hs hr => ⟨by omega, by omega, ⟨by omega, by omega, hst _ _ hlt hs, by omega, hr⟩, by omega⟩
  have htC := rel_len hrel
  refine ⟨fun hlt => ⟨⟨hk0, hlt⟩, fun q => fin _ _ _ hlt ?_ hrel, fun q1 q2 => ⟨fun q3 => ⟨fun q4 => fin _ _ _ hlt ?_ hrel, fun q4 => ⟨⟨by omega, by omega⟩, fun q5 => ⟨fun q6 => fin _ _ _ hlt ?_ hrel, fun q6 => fin _ _ _ hlt ?_ hrel⟩,
    fun q5 => ⟨fun q6 => ?_, fun q6 => ⟨fun q7 => ?_, fun q7 => ⟨fun q8 => ?_, fun q8 => ?_⟩⟩⟩⟩⟩, fun q3 => fin _ _ _ hlt ?_ hrel⟩⟩, fun hge => ⟨by omega, hend hge⟩⟩
  · unfold stepV; rw [if_pos (by simpa using q)]
  · unfold stepV; rw [if_neg (by simp; omega), if_pos (by simp; omega)]
  · unfold stepV
    have hv : 0 < (l.getD ln.toNat (0, 0)).2 := by rw [q6] at q5; simpa using q5.symm
    rw [if_neg (by simp; omega), if_neg (by simp; omega), if_pos ⟨q6, hv⟩]
  · unfold stepV
    have hv : ¬ 0 < (l.getD ln.toNat (0, 0)).2 := by
      have : (kd == 1) = false := by simpa using q6
      rw [this] at q5
      simpa using q5.symm
    rw [if_neg (by simp; omega), if_neg (by simp; omega), if_neg (fun h => q6 h.1), if_pos ⟨q6, hv⟩]
  · -- take
    subst q6
    have hi : ln.toNat < l.length := by omega
    have hv : ¬ 0 < (l.getD ln.toNat (0, 0)).2 := by
      intro h; exact q5 (by rw [decide_eq_true h]; rfl)
    have hstep : stepV C l (1, ln, mk) = (match findS C l mk (-1) with | none => (l, 4) | some s => (l.set ln.toNat s, 0)) := by
      unfold stepV
      rw [if_neg (by simp), if_neg (by simp; omega), if_neg (fun h => hv h.2), if_neg (fun h => h.1 rfl), if_neg (by simp), if_neg (by simp)]
      rfl
    rw [find_eq hrel] at hstep
    refine ⟨⟨by omega, rfl⟩, fun a j hj0 hj1 ha _ _ _ _ => ⟨fun hjl => best_body ⟨by omega, by omega⟩ htC hj0 hjl ha, fun hjl => ?_⟩⟩
    have ejC : j = C := by omega
    subst ejC
    rw [← ha] at hstep
    have hs := bst_spec (okc mk (-1)) (ldT t) j.toNat
    rw [← ha] at hs
    refine ⟨fun hneg => fin _ _ _ hlt ?_ hrel, fun hpos => ⟨rfl, fun n hn0 hn1 hn _ _ => ?_⟩⟩
    · rw [hstep, if_pos hneg]
    · have hs' := hs.resolve_left (fun h => by rw [h] at ha; simp at ha; omega)
      have hload : nB (bitN (t.getD a.toNat [0, 0, 0, 0])) 256 < 224 := by
        have h2 : ldT t a.toNat < 224 := by rw [← hs'.2.2.1]; exact hs'.2.2.2.1
        unfold ldT allOf at h2
        rw [allB_len] at h2
        omega
      refine ⟨⟨by omega, by omega⟩, fun hh => have w0 := ((has_iff (by omega)).1 hh).1; ⟨by omega, ⟨by omega, by omega, ?_⟩, by omega⟩, fun hh => ⟨⟨by omega, by omega⟩, ⟨by omega, by omega⟩, ⟨by omega, by omega⟩, fin _ _ _ hlt ?_ ?_⟩⟩
      · obtain ⟨w1, w2⟩ := (has_iff (by omega)).1 hh
        rw [lst_next hn0 w1 w2]; exact hn
      · obtain ⟨w1, w2⟩ := lst_at hn0 hn1 hn hload (has_no (by omega) hh)
        rw [hstep, if_neg hpos, w2]
      · obtain ⟨w1, w2⟩ := lst_at hn0 hn1 hn hload (has_no (by omega) hh)
        exact rel_take hrel hi hv ⟨by omega, by omega⟩ ⟨hn0, w1⟩ (has_no (by omega) hh w1)
  · -- give
    subst q7
    have hi : ln.toNat < l.length := by omega
    have hv : 0 < (l.getD ln.toNat (0, 0)).2 := by
      apply Decidable.byContradiction
      intro h; exact q5 (by rw [decide_eq_false h]; rfl)
    have hh := rel_held hrel hi hv
    refine ⟨⟨by omega, by omega⟩, ⟨by omega, by omega⟩, ⟨by omega, by omega⟩, ⟨by omega, by omega⟩, fin _ _ _ hlt ?_ (rel_give hrel hi hv)⟩
    unfold stepV
    rw [if_neg (by simp), if_neg (by simp; omega), if_neg (fun h => q6 h.1), if_neg (fun h => h.2 hv), if_pos rfl]
  · -- move
    subst q8
    have hi : ln.toNat < l.length := by omega
    have hv : 0 < (l.getD ln.toNat (0, 0)).2 := by
      apply Decidable.byContradiction
      intro h; exact q5 (by rw [decide_eq_false h]; rfl)
    have hh := rel_held hrel hi hv
    have hstep : stepV C l (3, ln, mk) = (match findS C l mk (l.getD ln.toNat (0, 0)).1 with | none => (l, 4) | some s => (l.set ln.toNat s, 0)) := by
      unfold stepV
      rw [if_neg (by simp), if_neg (by simp; omega), if_neg (fun h => q6 h.1), if_neg (fun h => h.2 hv), if_neg (by simp), if_pos rfl]
      rfl
    have hgive := rel_give hrel hi hv
    rw [find_eq hrel] at hstep
    generalize hs0 : l.getD ln.toNat (0, 0) = s0 at *
    obtain ⟨c0, v0⟩ := s0
    dsimp only at hh hstep hgive hv ⊢
    refine ⟨⟨by omega, by omega⟩, ⟨by omega, rfl⟩, fun a j hj0 hj1 ha _ _ _ _ => ⟨fun hjl => best_body ⟨by omega, by omega⟩ htC hj0 hjl ha, fun hjl => ?_⟩⟩
    have ejC : j = C := by omega
    subst ejC
    rw [← ha] at hstep
    have hs := bst_spec (okc mk c0) (ldT t) j.toNat
    rw [← ha] at hs
    refine ⟨fun hneg => fin _ _ _ hlt ?_ hrel, fun hpos => ?_⟩
    · rw [hstep, if_pos hneg]
    have hs' := hs.resolve_left (fun h => by rw [h] at ha; simp at ha; omega)
    have hne : ¬ a.toNat = c0.toNat := by
      have := ((okc_iff hs'.1).1 hs'.2.2.2.2).2
      omega
    have hget : (t.set c0.toNat (putB (t.getD c0.toNat [0, 0, 0, 0]) v0 false)).getD a.toNat [0, 0, 0, 0] = t.getD a.toNat [0, 0, 0, 0] := by
      rw [getD_set' (by omega), if_neg hne]
    simp only [hget]
    have hload : nB (bitN (t.getD a.toNat [0, 0, 0, 0])) 256 < 224 := by
      have h2 : ldT t a.toNat < 224 := by rw [← hs'.2.2.1]; exact hs'.2.2.2.1
      unfold ldT allOf at h2
      rw [allB_len] at h2
      omega
    refine ⟨⟨by omega, by omega⟩, ⟨by omega, by omega⟩, ⟨by omega, by omega⟩, ⟨by omega, by omega⟩, rfl, fun n hn0 hn1 hn _ _ => ⟨⟨by omega, by omega⟩, fun hh2 => have w0 := ((has_iff (by omega)).1 hh2).1; ⟨by omega, ⟨by omega, by omega, ?_⟩, by omega⟩, fun hh2 => ⟨⟨by omega, by omega⟩, ⟨by omega, by omega⟩, ⟨by omega, by omega⟩, ?_⟩⟩⟩
    · obtain ⟨w1, w2⟩ := (has_iff (by omega)).1 hh2
      rw [lst_next hn0 w1 w2]; exact hn
    · obtain ⟨w1, w2⟩ := lst_at hn0 hn1 hn hload (has_no (by omega) hh2)
      have hl0 : ln.toNat < (l.set ln.toNat (0, 0)).length := by simpa using hi
      have hr2 := rel_take (c := a) (v := n) hgive hl0 (by rw [getD_set' hi, if_pos rfl]; simp) ⟨by omega, by omega⟩ ⟨hn0, w1⟩ (by rw [hget]; exact has_no (by omega) hh2 w1)
      rw [hget] at hr2
      refine fin _ _ _ hlt ?_ hr2
      rw [hstep, if_neg hpos, w2, List.set_set]
  · omega
  · unfold stepV; rw [if_neg (by simp; omega), if_pos (Or.inl q3)]

end Go.Proofs.YtlkhpbjjimjhbaaDoor.Vec
