/-
  SpreadBest: the condition of the one who tries.
-/
import Derived.Test.YtpmfgdedkmddlaaBestP1
namespace Go.Proofs.Ytpmfgdedkmddlaa.Best
open Go.Sx
set_option maxRecDepth 100000
set_option maxHeartbeats 1000000
set_option linter.unusedSimpArgs false
set_option linter.unusedVariables false

theorem within_set {k w : Int} {has : List Int} {j : Nat} (h : within k has) (hj : j < has.length) (hw : 0 ≤ w ∧ w ≤ 1073741824) (hk : 0 ≤ k) : within (k + 1) (has.set j (has.getD j 0 + w)) := by
  intro y hy
  rcases List.mem_or_eq_of_mem_set hy with hy | rfl
  · have := h y hy
    omega
  · have := h (has.getD j 0) (by rw [List.getD, List.getElem?_eq_getElem hj]; exact List.getElem_mem hj)
    omega
theorem within_get {k : Int} {has : List Int} {j : Nat} (h : within k has) (hj : j < has.length) : 0 ≤ has.getD j 0 ∧ has.getD j 0 ≤ k * 1073741824 :=
  h (has.getD j 0) (by rw [List.getD, List.getElem?_eq_getElem hj]; exact List.getElem_mem hj)
theorem back_set {has : List Int} {j : Nat} {w : Int} (hj : j < has.length) : ((has.set j (has.getD j 0 + w)).set j ((has.set j (has.getD j 0 + w)).getD j 0 - w)) = has := by
  refine get_ext (by simp) fun i hi => ?_
  simp only [List.length_set] at hi
  by_cases e : i = j
  · subst e
    simp [List.getD, hj]
  · simp only [List.getD, List.getElem?_set_ne (Ne.symm e)]
theorem range_drop {n j : Nat} (h : j < n) : (List.range n).drop j = j :: (List.range n).drop (j + 1) := by
  rw [List.drop_eq_getElem_cons (by simpa using h)]
  simp
theorem put_drop {ws : List Int} {k : Int} (h0 : 0 ≤ k) (h1 : k < ws.length) : ws.drop k.toNat = ws.getD k.toNat 0 :: ws.drop (k + 1).toNat := by
  have e : (k + 1).toNat = k.toNat + 1 := by omega
  rw [List.drop_eq_getElem_cons (show k.toNat < ws.length by omega), List.getD, List.getElem?_eq_getElem (show k.toNat < ws.length by omega), e]
  rfl
theorem e_put (x : Int × List Int × Int × List Int × Unit) (hp : (0 ≤ x.1 ∧ x.1 ≤ x.2.2.2.1.length ∧ x.2.2.2.1.length ≤ 9 ∧ x.2.2.2.1.all inS = true) ∧ 0 < x.2.1.length ∧ x.2.1.length ≤ 8 ∧ within x.1 x.2.1) (hl : pPut.lens x) : E_put x := by
  obtain ⟨k, has, b, ws, u⟩ := x
  obtain ⟨⟨h0, h1, h2, h3⟩, h4, h5, h6⟩ := hp
  simp only [] at h0 h1 h2 h3 h4 h5 h6
  unfold E_put
  simp only [Bool.not_eq_true', Bool.not_eq_false', Bool.not_eq_true, Bool.not_eq_false, beq_self_eq_true, decide_eq_true_eq, decide_eq_false_iff_not, Bool.not_false, Bool.not_true, beq_iff_eq, beq_eq_false_iff_ne, bne_iff_ne, ne_eq, bne_eq_false_iff_eq, holds_iff, true_and, and_true, and_self, eq_self, List.length_cons, List.length_nil, List.length_append, List.length_set, List.length_replicate, List.set_cons_zero, cond_true, cond_false, Bool.false_eq_true, Bool.true_eq_false, forall_const, false_imp_iff, imp_self, implies_true, and_imp, Decidable.not_not, Bool.and_eq_true, Bool.or_eq_true, Bool.and_eq_false_iff, Bool.or_eq_false_iff, ← List.length_eq_zero_iff, or_self, or_false, false_or, Prod.forall, Int.reduceEq, Int.reduceLT, Int.reduceLE, List.nil_append, Nat.zero_add, Int.toNat_zero, List.drop_zero, List.length_drop, List.length_take, not_true_eq_false, not_false_eq_true]
  try simp only [flip_f, flip_t, decide_eq_true_eq, decide_eq_false_iff_not]
  have hput1 : b ≤ mx has → putL (ws.drop k.toNat) has b = b := fun h => by
    cases ws.drop k.toNat <;> (unfold putL; rw [if_pos h])
  have hput2 : k = ws.length → ¬ b ≤ mx has → putL (ws.drop k.toNat) has b = mx has := fun e h => by
    rw [e, show (ws.length : Int).toNat = ws.length by omega, List.drop_length]
    unfold putL; rw [if_neg h]
  have hput3 : k < ws.length → ¬ b ≤ mx has → putL (ws.drop k.toNat) has b = loopL (fun h v => putL (ws.drop (k + 1).toNat) h v) has (ws.getD k.toNat 0) (List.range has.length) b := fun e h => by
    rw [put_drop h0 e]
    conv => lhs; unfold putL
    rw [if_neg h]
  refine ⟨h4, fun hb => (hput1 hb).symm, fun hb => ⟨fun e => (hput2 e hb).symm, fun e => ?_⟩⟩
  have hk : k < ws.length := by omega
  have hw := all_get (l := ws) (k := k.toNat) (by omega) h3
  refine ⟨⟨by omega, (hput3 hk hb).symm⟩, ?_⟩
  rintro g c j j0 j1 rfl hloop _ _ _ _ _ _
  have hstep : j < g.length → loopL (fun h v => putL (ws.drop (k + 1).toNat) h v) g (ws.getD k.toNat 0) ((List.range g.length).drop j.toNat) c =
      (if g.getD j.toNat 0 = 0 then putL (ws.drop (k + 1).toNat) (g.set j.toNat (g.getD j.toNat 0 + ws.getD k.toNat 0)) c else
        loopL (fun h v => putL (ws.drop (k + 1).toNat) h v) g (ws.getD k.toNat 0) ((List.range g.length).drop (j + 1).toNat) (putL (ws.drop (k + 1).toNat) (g.set j.toNat (g.getD j.toNat 0 + ws.getD k.toNat 0)) c)) := fun hj => by
    rw [range_drop (show j.toNat < g.length by omega), show (j + 1).toNat = j.toNat + 1 by omega]
    rfl
  refine ⟨fun hj => ?_, fun hj => ?_⟩
  · have hg := within_get h6 (show j.toNat < g.length by omega)
    have hs := within_set h6 (show j.toNat < g.length by omega) hw h0
    have hbk := back_set (has := g) (j := j.toNat) (w := ws.getD k.toNat 0) (by omega)
    have hget : (g.set j.toNat (g.getD j.toNat 0 + ws.getD k.toNat 0)).getD j.toNat 0 = g.getD j.toNat 0 + ws.getD k.toNat 0 := by simp [List.getD, show j.toNat < g.length by omega]
    rw [hbk, hget]
    have hst := hstep hj
    rw [hloop] at hst
    generalize hq : putL (ws.drop (k + 1).toNat) (g.set j.toNat (g.getD j.toNat 0 + ws.getD k.toNat 0)) c = q at *
    have hk9 : k * 1073741824 ≤ 9663676416 := by omega
    refine ⟨⟨j0, hj⟩, ⟨h0, hk⟩, by omega, ⟨j0, hj⟩, by omega, ⟨⟨⟨by omega, by omega, h2, h3⟩, h4, h5, hs⟩, by omega⟩, ⟨j0, hj⟩, ⟨h0, hk⟩, by omega, ⟨j0, hj⟩, ⟨j0, hj⟩, fun e => ?_, fun e => ?_⟩
    · rw [if_pos e] at hst
      exact ⟨rfl, hst.symm⟩
    · rw [if_neg e] at hst
      exact ⟨by omega, ⟨by omega, by omega, rfl, hst.symm⟩, by omega⟩
  · rw [show (List.range g.length).drop j.toNat = [] from List.drop_eq_nil_of_le (by simp; omega)] at hloop
    exact ⟨rfl, hloop⟩

end Go.Proofs.Ytpmfgdedkmddlaa.Best
