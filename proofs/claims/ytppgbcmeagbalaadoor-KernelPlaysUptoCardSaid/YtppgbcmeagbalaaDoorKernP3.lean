/-
 KernelPlays: the condition of the machine's own run holds.
-/
import Derived.Test.YtppgbcmeagbalaaDoorKernP2
namespace Go.Proofs.YtppgbcmeagbalaaDoor.Kern
open Go.Sx
set_option maxRecDepth 100000
set_option maxHeartbeats 1000000
set_option linter.unusedSimpArgs false
set_option linter.unusedVariables false

theorem ydo_at {w : YW} {o : KOp} {W : YW} {A : KAns} (h : ybody w o = (W, A)) : ydo w o = (yask W, A) := by unfold ydo; rw [h]
theorem boot_step {j : Int} (h0 : 0 ≤ j) (h : j < 2) : (bootAt j).set j.toNat ((crAt (bootAt j) j).1, (true, (crAt (bootAt j) j).2.1.2), (crAt (bootAt j) j).2.2) = bootAt (j + 1) := by
 have : j = 0 ∨ j = 1 := by omega
 rcases this with rfl | rfl <;> rfl
theorem ask_same {d f : By} {t : TT} {lo tk a s p : Int} {sv : List Int} (h : 0 < d.length → 0 ≤ a ∨ 0 ≤ s) : yask (d, f, t, lo, tk, a, s, p, sv) = (d, f, t, lo, tk, a, s, p, sv) := by
 unfold yask
 dsimp only
 rw [if_neg (by omega)]
theorem whole_up {d f : By} {t : TT} {lo tk a s p : Int} {sv : List Int} (hd : 0 < d.length) (hp : 0 ≤ p ∧ p ≤ 1) (h : a < 0 ∨ s < 0) :
  wholeOf (yask (d, f, t, lo, tk, a, s, p, sv)) = ((d, [], lo, true), [(p, 64, true, false, true, false, true)], if a < 0 ∧ s < 0 then ask1 (coresOf a s sv) (0, p, 64) else coresOf a s sv, f, t, tk) := by
 unfold yask
 dsimp only
 by_cases q : a < 0 ∧ s < 0
 ·rw [if_pos (by omega), if_pos q, ask_cores hp q.1 q.2]
  unfold wholeOf pinOf
  dsimp only
  rw [decide_eq_true hd, decide_eq_true hp.1]
  rfl
 ·rw [if_neg (by omega), if_neg q]
  unfold wholeOf pinOf
  dsimp only
  have e : (decide (0 ≤ a) || decide (0 ≤ s)) = true := by simp; omega
  rw [decide_eq_true hd, e]
theorem nest_set {a s co v : Int} {sv : List Int} (hl : sv.length = 2) (hco : 0 ≤ co ∧ co ≤ 1) (hs : s ≠ co) :
  (coresOf a s sv).set co.toNat ((coreOf a s (sv.getD co.toNat 0) co).1, nestOf false v, (coreOf a s (sv.getD co.toNat 0) co).2.2) = coresOf a s (sv.set co.toNat v) := by
 refine cores_set hco.1 hco.2 ?_ fun j h0 h1 hj => ?_
 ·rw [sv_set hl hco hco, if_pos rfl]
  unfold coreOf
  rw [decide_eq_false hs]
 ·rw [sv_set hl hco ⟨h0, h1⟩, if_neg hj]
theorem core_nest {a s v i : Int} (h : s ≠ i) : (coreOf a s v i).2.1 = nestOf false v := by
 unfold coreOf
 rw [decide_eq_false h]
theorem crAt_set {cs : List CR} {co : Int} {c : CR} (hl : cs.length = 2) (hco : 0 ≤ co ∧ co ≤ 1) : crAt (cs.set co.toNat c) co = c := by
 unfold crAt
 have : co.toNat < cs.length := by omega
 simp [List.getD, this]
theorem nestF_cut {cs : List CR} {co k : Int} (hl : cs.length = 2) (hco : 0 ≤ co ∧ co ≤ 1) :
  ((Nest.step (crAt cs co).2.1 k).2.1 = 0 → cs.set co.toNat ((crAt cs co).1, (Nest.step (crAt cs co).2.1 k).1, (crAt cs co).2.2) = cs.set co.toNat (nestF (crAt cs co) k)) ∧
  (¬ (Nest.step (crAt cs co).2.1 k).2.1 = 0 → cs = cs.set co.toNat (nestF (crAt cs co) k)) := by
 unfold nestF
 refine ⟨fun h => by rw [if_pos h], fun h => ?_⟩
 rw [if_neg h]
 unfold crAt
 have : co.toNat < cs.length := by omega
 simp [List.getD, this]
theorem cores_len (a s : Int) (sv : List Int) : (coresOf a s sv).length = 2 := rfl
theorem end_cores {a s co : Int} {sv : List Int} {c1 c2 c3 : List CR} (hco : 0 ≤ co ∧ co ≤ 1) (hs : s = co) (hv : sv.getD co.toNat 0 = 0)
  (h1 : c1 = (coresOf a s sv).set co.toNat ((coreOf a s (sv.getD co.toNat 0) co).1, (coreOf a s (sv.getD co.toNat 0) co).2.1, false))
  (h2 : c2 = c1.set co.toNat ((Apic.stepL (crAt c1 co).1 (3, 0)).1, (crAt c1 co).2)) (h3 : c3 = c2.set co.toNat (nestF (crAt c2 co) 4)) : c3 = coresOf a (-1) sv := by
 subst h1
 rw [crAt_set (cores_len _ _ _) hco, List.set_set] at h2
 subst h2
 rw [crAt_set (cores_len _ _ _) hco, List.set_set] at h3
 subst h3
 refine cores_set hco.1 hco.2 ?_ fun j h0 h1 hj => core_other hj (Or.inl rfl) (Or.inr ⟨by omega, by omega⟩)
 rw [hv]
 unfold coreOf nestF
 dsimp only
 rw [decide_eq_true hs, decide_eq_false (by omega : ¬ (-1 : Int) = co), local_end, nest_leave, if_pos rfl]
theorem take_cores {a s co : Int} {sv : List Int} {c1 c2 c3 : List CR} (hco : 0 ≤ co ∧ co ≤ 1) (ha : a = co) (hs : s < 0) (hv : sv.getD co.toNat 0 = 0)
  (h1 : c1 = (coresOf a s sv).set co.toNat (nestF (coreOf a s (sv.getD co.toNat 0) co) 3))
  (h2 : c2 = c1.set co.toNat ((Apic.stepL (crAt c1 co).1 (2, 0)).1, (crAt c1 co).2)) (h3 : c3 = c2.set co.toNat ((crAt c2 co).1, (crAt c2 co).2.1, true)) : c3 = coresOf (-1) co sv := by
 subst h1
 rw [crAt_set (cores_len _ _ _) hco, List.set_set] at h2
 subst h2
 rw [crAt_set (cores_len _ _ _) hco, List.set_set] at h3
 subst h3
 refine cores_set hco.1 hco.2 ?_ fun j h0 h1 hj => core_other hj (Or.inr ⟨by omega, by omega⟩) (Or.inr ⟨by omega, by omega⟩)
 rw [hv]
 unfold coreOf nestF
 dsimp only
 rw [decide_eq_true ha, decide_eq_false (by omega : ¬ s = co), decide_eq_false (by omega : ¬ (-1 : Int) = co), decide_eq_true rfl, nest_enter 0, if_pos rfl]
 dsimp only
 rw [local_take]
theorem core_on {a s v i : Int} (h : s ≠ i) : (coreOf a s v i).2.1.1 = decide (v = 0) := by
 rw [core_nest h]; rfl
theorem core_would {a s v i : Int} (h : s ≠ i) : Apic.wouldL (coreOf a s v i).1 = if a = i then 64 else -1 := by
 unfold coreOf
 dsimp only
 rw [decide_eq_false h, local_would]
 by_cases q : a = i <;> simp [q]
set_option maxHeartbeats 16000000 in
theorem e_kplay (x : List KOp × Unit) (hpre : x.1.length ≤ 1048576) (hlens : LensL cYPlay.as x) : E_kplay x := by
 obtain ⟨ops, u⟩ := x
 simp only [] at hpre
 unfold E_kplay
 simp (maxSteps := 10000000) only [Bool.not_eq_true', Bool.not_eq_false', Bool.not_eq_true, Bool.not_eq_false, beq_self_eq_true, decide_eq_true_eq, decide_eq_false_iff_not, Bool.not_false, Bool.not_true, beq_iff_eq, beq_eq_false_iff_ne, bne_iff_ne, ne_eq, bne_eq_false_iff_eq, holds_iff, true_and, and_true, and_self, eq_self, List.length_cons, List.length_nil, List.length_append, List.length_set, List.length_replicate, List.set_cons_zero, cond_true, cond_false, Bool.false_eq_true, Bool.true_eq_false, forall_const, false_imp_iff, imp_self, implies_true, and_imp, Decidable.not_not, Bool.and_eq_true, Bool.or_eq_true, Bool.and_eq_false_iff, Bool.or_eq_false_iff, ← List.length_eq_zero_iff, or_self, or_false, false_or, Prod.forall, Int.reduceEq, Int.reduceLT, Int.reduceLE, List.nil_append, Nat.zero_add, Int.toNat_zero, List.drop_zero, List.length_drop, List.length_take, not_true_eq_false, not_false_eq_true,  RR_eq, R8_eq, R32_eq, pair_eta, List.set_cons_zero, show Int.negSucc 0 = (-1 : Int) from rfl, show Int.toNat 1 = 1 from rfl]
 refine ⟨rfl, fun bt j hj0 hj1 hb _ _ _ _ => ⟨fun hjl => ⟨⟨hj0, by omega⟩, by omega, ⟨by omega, by omega, by rw [hb]; exact boot_step hj0 hjl⟩, by omega⟩, fun hjl => ⟨⟨by omega, ?_⟩, ?_⟩⟩⟩
 ·have : j = 2 := by omega
  subst this; subst hb; rfl
 intro dd oo lo as_ ps cs f tl te tk e k _ hk0 hk1 hq
 clear hlens hb
 simp only [Prod.mk.injEq] at hq
 obtain ⟨hq1, hq2⟩ := hq
 have hgd := ypl_good (ops.take k.toNat)
 have hlen : (ops.take k.toNat).length = k.toNat := by rw [List.length_take]; omega
 rw [hlen, Int.toNat_of_nonneg hk0, ← hq2] at hgd
 obtain ⟨hg, he⟩ := hgd
 have hnx : k < ops.length → ypl (ops.take (k + 1).toNat) = ((ydo (ypl (ops.take k.toNat)).1 (opAt ops k)).1, e ++ [(ydo (ypl (ops.take k.toNat)).1 (opAt ops k)).2]) := fun h => by
  rw [ypl_next hk0 h]
  unfold yone
  rw [← hq2]; rfl
 have hend : ¬ k < ops.length → (ypl ops).2 = e ∧ (ypl ops).1 = (ypl (ops.take k.toNat)).1 := fun h => by
  have : ops.take k.toNat = ops := takeI_all (by omega)
  rw [this] at hq2 ⊢
  exact ⟨hq2.symm, rfl⟩
 generalize (ypl (ops.take k.toNat)).1 = w at *
 obtain ⟨d, f0, t, lo0, tk0, a, s, p, sv⟩ := w
 unfold wholeOf at hq1
 simp only [Prod.mk.injEq] at hq1
 obtain ⟨⟨rfl, rfl, rfl, rfl⟩, rfl, rfl, rfl, rfl, rfl⟩ := hq1
 generalize opAt ops k = o at *
 obtain ⟨kd, co, n, by_⟩ := o
 dsimp only
 intro hdl hdb _ _ _ _ _ _ _ _ hfl hfb _ _ _ _ _ _ _ _ _ _
 have hfin : ∀ {X : WH} {A : KAns}, k < ops.length → X = wholeOf (ydo (dd, f, (tl, te), lo, tk, a, s, p, sv) (kd, co, n, by_)).1 → A = (ydo (dd, f, (tl, te), lo, tk, a, s, p, sv) (kd, co, n, by_)).2 →
   (-9223372036854775808 ≤ k + 1 ∧ k + 1 ≤ 9223372036854775807) ∧ (0 ≤ k + 1 ∧ k + 1 ≤ (ops.length : Int) ∧ (X, e ++ [A]) = (wholeOf (ypl (ops.take (k + 1).toNat)).1, (ypl (ops.take (k + 1).toNat)).2)) ∧ ((ops.length : Int) - (k + 1)).toNat < ((ops.length : Int) - k).toNat := fun hlt hX hA => by
  rw [hnx hlt]
  exact ⟨by omega, ⟨by omega, by omega, by rw [hX, hA]⟩, by omega⟩
 obtain ⟨g1, g2, g3, g4, g5, g6, g7, g8, g9, g10, g11⟩ := id hg
 have herr : ∀ q : Int, 1 ≤ q → q ≤ 5 → Line.err [pinOf dd a s p] q 0 = 0 := fun q h1 h5 => line_err (ok_pin g9 g8) h1 h5
 have hroom : (e.length + 1 ≤ 9223372036854775807 ∧ (e.length + 1 + (e.length + 1) / 4 + 192) * 32 ≤ 281474976710656) := by omega
 have hgo : ∀ {W : YW} {A : KAns} {X : WH}, k < ops.length → ybody (dd, f, (tl, te), lo, tk, a, s, p, sv) (kd, co, n, by_) = (W, A) → X = wholeOf (yask W) →
   (-9223372036854775808 ≤ k + 1 ∧ k + 1 ≤ 9223372036854775807) ∧ (0 ≤ k + 1 ∧ k + 1 ≤ (ops.length : Int) ∧ (X, e ++ [A]) = (wholeOf (ypl (ops.take (k + 1).toNat)).1, (ypl (ops.take (k + 1).toNat)).2)) ∧ ((ops.length : Int) - (k + 1)).toNat < ((ops.length : Int) - k).toNat := fun hlt hb hX => by
  refine hfin hlt ?_ ?_
  ·rw [ydo_at hb]; exact hX
  ·rw [ydo_at hb]
 have hsm : wholeOf (dd, f, (tl, te), lo, tk, a, s, p, sv) = wholeOf (yask (dd, f, (tl, te), lo, tk, a, s, p, sv)) := by rw [ask_same g8]
 refine ⟨fun hlt => ⟨⟨hk0, hlt⟩, fun c1 => ⟨hroom, hfin hlt ?_ ?_⟩, fun c1 c2 => ⟨fun c3 c4 => ⟨⟨c3, c4⟩, fun c5 => ⟨⟨c3, c4⟩, c5⟩⟩, fun c3 c4 c5 => ⟨hroom, hfin hlt ?_ ?_⟩, fun c3 kd' hkd _ _ => ?_⟩⟩, fun hge => ?_⟩
 ·rw [ydo_at (by rw [ybody_eq, if_pos c1])]; exact hsm
 ·rw [ydo_at (by rw [ybody_eq, if_pos c1])]
 ·rw [ydo_at (by rw [ybody_eq, if_neg (by omega), if_pos (by omega)])]; exact hsm
 ·rw [ydo_at (by rw [ybody_eq, if_neg (by omega), if_pos (by omega)])]
 ·subst hkd
  refine ⟨fun k1 => ?_, fun k1 => ⟨fun k2 => ?_, fun k2 => ⟨fun k3 => ⟨fun r0 => ?_, fun r0 => ?_⟩, fun k3 => ⟨fun k4 => ?_, fun k4 => ⟨fun k5 => ?_, fun k5 => ?_⟩⟩⟩⟩⟩
  ·subst k1
   obtain ⟨d', lo', hd', hU, hb⟩ : ∃ d' lo', 0 < d'.length ∧ Uart.step (dd, [], lo, decide (0 < dd.length)) 1 by_ = ((d', [], lo', true), 0, 0, ()) ∧ ybody (dd, f, (tl, te), lo, tk, a, s, p, sv) (1, co, n, by_) = ((d', f, (tl, te), lo', tk, a, s, p, sv), 0, []) := by
    rw [ybody_eq, if_neg (by omega), if_neg (by omega), if_pos rfl, uart_in g1 g3.1 (by omega)]
    by_cases hd : dd.length = 16
    ·rw [if_pos hd, if_pos hd]; exact ⟨dd, lo + 1, by omega, rfl, rfl⟩
    ·rw [if_neg hd, if_neg hd]; exact ⟨dd ++ [by_], lo, by simp, rfl, rfl⟩
   rw [hU]
   dsimp only
   rw [if_pos rfl, if_pos rfl]
   refine ⟨⟨fun _ => ?_, fun q => absurd rfl q⟩, ?_⟩
   ·intro d2 b2 lo2 fl heq _ _ _ _ _ _
    simp only [Prod.mk.injEq] at heq
    obtain ⟨rfl, rfl, rfl, rfl⟩ := heq
    refine ⟨fun _ => ?_, fun q => by cases q⟩
    have hx := line_step (herr 1 (by omega) (by omega))
    refine ⟨fun q => absurd (congrArg (fun t => t.2.2.1) hx) q, fun _ => ?_⟩
    intro sent ps' hsent hps hsl _ _ _
    rw [hx] at hsent hps
    dsimp only at hsent hps
    refine ⟨⟨by omega, rfl⟩, fun cs' j j0 j1 hcs _ _ _ _ => ⟨fun hjl => pin_loop (by rw [hsent]; exact ask_range g9) hsl j0 j1 hcs hjl, fun hjl => ?_⟩⟩
    rw [pin_fin (herr 1 (by omega) (by omega)) hsent (by omega) hcs, hps]
   ·intro d2 b2 lo2 fl ps' cs' heq _ _ _ _ _ _ _ _ _ _
    rw [pin_up g9 g8] at heq
    simp only [Prod.mk.injEq] at heq
    obtain ⟨⟨rfl, rfl, rfl, rfl⟩, rfl, rfl⟩ := heq
    refine ⟨hroom, hgo hlt hb ?_⟩
    rw [whole_up hd' g9 g7]
  ·subst k2
   have hco : 0 ≤ co ∧ co ≤ 1 := by omega
   have hcr : crAt (coresOf a s sv) co = coreOf a s (sv.getD co.toNat 0) co := cores_get hco.1 hco.2
   have hv := g11 co hco.1 hco.2
   have hb0 : ∀ {R : YW × KAns}, (if s = co then (if 0 < dd.length then ((dd.drop 1, f ++ [dd.getD 0 0], (tl, te), lo, tk, a, s, p, sv), 0, []) else ((dd, f, (tl, te), lo, tk, a, -1, p, sv), 0, []))
     else if a = co ∧ sv.getD co.toNat 0 = 0 then ((dd, f, (tl, te), lo, tk + 1, -1, co, p, sv), 0, [])
     else if 0 < f.length then ((dd, f.drop 1, (if (Tty.keyT (tl, te) (f.getD 0 0)).2 = 0 then (Tty.keyT (tl, te) (f.getD 0 0)).1 else (tl, te)), lo, tk, a, s, p, sv), 0, [])
     else ((dd, f, (tl, te), lo, tk, a, s, p, sv), 7, [])) = R → ybody (dd, f, (tl, te), lo, tk, a, s, p, sv) (2, co, n, by_) = R := fun h => by
    rw [ybody_eq, if_neg (by omega), if_neg (by omega), if_neg (by omega), if_neg (by omega), if_neg (by omega), if_neg (by omega), if_neg (by omega), if_neg (by omega)]
    exact h
   rw [hcr]
   refine ⟨⟨hco.1, by omega⟩, fun hs hd => ?_, fun c => ⟨fun hs => ?_, fun hs => ?_⟩⟩
   ·have hs : s = co := of_decide_eq_true hs
    have hd' : 0 < dd.length := of_decide_eq_true hd
    rw [hd, uart_read g1 g3.1 (by omega) hd' 0]
    dsimp only
    rw [if_pos rfl]
    refine ⟨⟨fun _ => ?_, fun q => absurd rfl q⟩, ?_⟩
    ·intro d2 b2 lo2 fl heq _ _ _ _ _ _
     simp only [Prod.mk.injEq] at heq
     obtain ⟨rfl, rfl, rfl, rfl⟩ := heq
     refine ⟨fun hq => ?_, fun hq => ?_⟩
     ·rw [if_pos hq]
      have hx := line_step (herr 1 (by omega) (by omega))
      refine ⟨fun q => absurd (congrArg (fun t => t.2.2.1) hx) q, fun _ => ?_⟩
      intro sent ps' hsent hps hsl _ _ _
      rw [hx] at hsent hps
      dsimp only at hsent hps
      refine ⟨⟨by omega, rfl⟩, fun cs' j j0 j1 hcs _ _ _ _ => ⟨fun hjl => pin_loop (by rw [hsent]; exact ask_range g9) hsl j0 j1 hcs hjl, fun hjl => ?_⟩⟩
      rw [pin_fin (herr 1 (by omega) (by omega)) hsent (by omega) hcs, hps]
     ·rw [if_neg (by rw [hq]; decide)]
      have hx := line_step (herr 2 (by omega) (by omega))
      refine ⟨fun q => absurd (congrArg (fun t => t.2.2.1) hx) q, fun _ => ?_⟩
      intro sent ps' hsent hps hsl _ _ _
      rw [hx] at hsent hps
      dsimp only at hsent hps
      refine ⟨⟨by omega, rfl⟩, fun cs' j j0 j1 hcs _ _ _ _ => ⟨fun hjl => pin_loop (by rw [hsent]; exact ask_range g9) hsl j0 j1 hcs hjl, fun hjl => ?_⟩⟩
      rw [pin_fin (herr 2 (by omega) (by omega)) hsent (by omega) hcs, hps]
    ·intro d2 b2 lo2 fl ps' cs' heq _ _ _ _ _ _ _ _ _ _
     by_cases hd2 : 0 < (dd.drop 1).length
     ·rw [if_pos (decide_eq_true hd2), pin_up g9 g8] at heq
      simp only [Prod.mk.injEq] at heq
      obtain ⟨⟨rfl, rfl, rfl, rfl⟩, rfl, rfl⟩ := heq
      refine ⟨by omega, by omega, hroom, hgo hlt (hb0 (by rw [if_pos hs, if_pos hd'])) ?_⟩
      rw [whole_up hd2 g9 g7, decide_eq_true hd2]
     ·rw [if_neg (by simp only [decide_eq_true_eq]; exact hd2), pin_down g9 g8] at heq
      simp only [Prod.mk.injEq] at heq
      obtain ⟨⟨rfl, rfl, rfl, rfl⟩, rfl, rfl⟩ := heq
      refine ⟨by omega, by omega, hroom, hgo hlt (hb0 (by rw [if_pos hs, if_pos hd'])) ?_⟩
      rw [ask_same (fun h => absurd h hd2)]
      have e : dd.drop 1 = [] := List.eq_nil_of_length_eq_zero (by omega)
      rw [e]; rfl
   ·have hs' : s = co := of_decide_eq_true hs
    have hd : ¬ 0 < dd.length := by
     rcases c with c | c
     ·rw [hs] at c; cases c
     ·exact of_decide_eq_false c
    intro cs1 h1 l1 _ cs2 h2 l2 _
    refine ⟨nestF_cut l2 hco, ?_⟩
    intro cs3 h3 _ _
    have hcs3 := end_cores hco hs' (hv.2.2 hs') h1 h2 h3
    clear h1 h2 h3
    subst hcs3
    have hx := line_step (herr 5 (by omega) (by omega))
    refine ⟨fun q => absurd (congrArg (fun t => t.2.2.1) hx) q, fun _ => ?_⟩
    intro sent ps' hsent hps hsl _ _ _
    rw [hx] at hsent hps
    dsimp only at hsent hps
    refine ⟨⟨by omega, rfl⟩, fun cs' j j0 j1 hcs _ _ _ _ => ⟨fun hjl => pin_loop (by rw [hsent]; exact ask_range g9) hsl j0 j1 hcs hjl, fun hjl => ⟨hroom, hgo hlt (hb0 (by rw [if_pos hs', if_neg hd])) ?_⟩⟩⟩
    have hp := pin_fin (herr 5 (by omega) (by omega)) hsent (by omega) hcs
    have hd0 : dd = [] := List.eq_nil_of_length_eq_zero (by omega)
    rw [hd0, pin_end g9] at hp
    simp only [Prod.mk.injEq] at hp
    rw [hd0] at hps
    rw [hps, ← hp.1, ← hp.2, hd0, ask_same (by simp)]
    have e : (decide (0 ≤ a) || decide ((0 : Int) ≤ -1)) = false := by simp; omega
    unfold wholeOf pinOf
    dsimp only
    rw [e]; rfl
   ·have hs' : s ≠ co := of_decide_eq_false hs
    rw [core_on hs', core_would hs']
    refine ⟨fun hon => ⟨hon, fun hw => ⟨?_, ?_⟩, fun hw => ?_⟩, fun hon => ?_⟩
    ·rw [← hcr]
     exact nestF_cut (cores_len _ _ _) hco
    ·intro cs1 h1 l1 _ cs2 h2 l2 _ cs3 h3 _ _
     have hv0 : sv.getD co.toNat 0 = 0 := of_decide_eq_true hon
     have ha : a = co := by
      by_cases q : a = co
      ·exact q
      ·rw [if_neg q] at hw; omega
     have hcs3 := take_cores hco ha (by omega) hv0 h1 h2 h3
     clear h1 h2 h3
     subst hcs3
     refine ⟨by omega, hroom, hgo hlt (hb0 (by rw [if_neg hs', if_pos ⟨ha, hv0⟩])) ?_⟩
     rw [ask_same (by omega)]
     have e1 : (decide (0 ≤ a) || decide (0 ≤ s)) = true := by simp; omega
     have e2 : (decide ((0 : Int) ≤ -1) || decide (0 ≤ co)) = true := by simp; omega
     unfold wholeOf pinOf
     dsimp only
     rw [e1, e2]
    ·have hne : ¬ (a = co ∧ sv.getD co.toNat 0 = 0) := fun q => by rw [if_pos q.1] at hw; omega
     rw [Int.toNat_natCast, List.take_length]
     refine ⟨fun hf => ⟨hf, fun q => ⟨by omega, hroom, hgo hlt (hb0 (by rw [if_neg hs', if_neg hne, if_pos (by omega), if_pos (by exact q)])) ?_⟩, fun q => ⟨by omega, hroom, hgo hlt (hb0 (by rw [if_neg hs', if_neg hne, if_pos (by omega), if_neg (by exact q)])) ?_⟩⟩, fun hf => ⟨hroom, hgo hlt (hb0 (by rw [if_neg hs', if_neg hne, if_neg (by omega)])) hsm⟩⟩
     ·rw [ask_same g8]; rfl
     ·rw [ask_same g8]; rfl
    ·have hne : ¬ (a = co ∧ sv.getD co.toNat 0 = 0) := fun q => of_decide_eq_false hon q.2
     rw [Int.toNat_natCast, List.take_length]
     refine ⟨fun hf => ⟨hf, fun q => ⟨by omega, hroom, hgo hlt (hb0 (by rw [if_neg hs', if_neg hne, if_pos (by omega), if_pos (by exact q)])) ?_⟩, fun q => ⟨by omega, hroom, hgo hlt (hb0 (by rw [if_neg hs', if_neg hne, if_pos (by omega), if_neg (by exact q)])) ?_⟩⟩, fun hf => ⟨hroom, hgo hlt (hb0 (by rw [if_neg hs', if_neg hne, if_neg (by omega)])) hsm⟩⟩
     ·rw [ask_same g8]; rfl
     ·rw [ask_same g8]; rfl
  ·refine ⟨hroom, hgo hlt (by rw [ybody_eq, if_neg (by omega), if_neg (by omega), if_neg (by omega), if_pos k3, if_pos r0]) ?_⟩
   rw [ask_same g8]; rfl
  ·refine ⟨hroom, hgo hlt (by rw [ybody_eq, if_neg (by omega), if_neg (by omega), if_neg (by omega), if_pos k3, if_neg r0]) ?_⟩
   rw [ask_same g8]; rfl
  ·have hco : 0 ≤ co ∧ co ≤ 1 := by omega
   have hcr : crAt (coresOf a s sv) co = coreOf a s (sv.getD co.toNat 0) co := cores_get hco.1 hco.2
   have hm : mval (Ty.int IntKind.i64) (mput (Ty.int IntKind.i64) (mput (Ty.int IntKind.i64) [] 4 1) 5 2) kd' = 1 := by subst k4; rfl
   have hv := g11 co hco.1 hco.2
   rw [hcr, hm]
   refine ⟨⟨hco.1, by omega⟩, fun hs => ⟨hroom, ?_⟩, fun hs => ?_⟩
   ·have hs : s = co := of_decide_eq_true hs
    exact hgo hlt (by rw [ybody_eq, if_neg (by omega), if_neg (by omega), if_neg (by omega), if_neg (by omega), if_neg (by omega), if_pos (by omega)]) hsm
   have hs : s ≠ co := of_decide_eq_false hs
   have hset := fun v => nest_set (v := v) (a := a) g10 hco hs
   rw [core_nest hs]
   by_cases h4 : sv.getD co.toNat 0 = 400
   ·have hn : Nest.step (nestOf false (sv.getD co.toNat 0)) 1 = Nest.bad 4 := by rw [h4]; exact nest_full
    rw [hn]
    refine ⟨fun q => absurd q (by decide), fun _ => ⟨hroom, ?_⟩⟩
    exact hgo hlt (by rw [ybody_eq, if_neg (by omega), if_neg (by omega), if_neg (by omega), if_neg (by omega), if_neg (by omega), if_neg (by omega), if_pos (by omega), if_pos h4]; rfl) hsm
   ·rw [nest_save hv.1 (by omega)]
    refine ⟨fun _ => ⟨hroom, ?_⟩, fun q => absurd rfl q⟩
    refine hgo hlt (by rw [ybody_eq, if_neg (by omega), if_neg (by omega), if_neg (by omega), if_neg (by omega), if_neg (by omega), if_neg (by omega), if_pos (by omega), if_neg h4]) ?_
    rw [ask_same g8]
    dsimp only
    rw [hset]
    rfl
  ·have hco : 0 ≤ co ∧ co ≤ 1 := by omega
   have hcr : crAt (coresOf a s sv) co = coreOf a s (sv.getD co.toNat 0) co := cores_get hco.1 hco.2
   have hm : mval (Ty.int IntKind.i64) (mput (Ty.int IntKind.i64) (mput (Ty.int IntKind.i64) [] 4 1) 5 2) kd' = 2 := by subst k5; rfl
   have hv := g11 co hco.1 hco.2
   rw [hcr, hm]
   refine ⟨⟨hco.1, by omega⟩, fun hs => ⟨hroom, ?_⟩, fun hs => ?_⟩
   ·have hs : s = co := of_decide_eq_true hs
    exact hgo hlt (by rw [ybody_eq, if_neg (by omega), if_neg (by omega), if_neg (by omega), if_neg (by omega), if_neg (by omega), if_pos (by omega)]) hsm
   have hs : s ≠ co := of_decide_eq_false hs
   have hset := fun v => nest_set (v := v) (a := a) g10 hco hs
   rw [core_nest hs]
   by_cases h4 : sv.getD co.toNat 0 = 0
   ·have hn : Nest.step (nestOf false (sv.getD co.toNat 0)) 2 = Nest.bad 3 := by rw [h4]; exact nest_none
    rw [hn]
    refine ⟨fun q => absurd q (by decide), fun _ => ⟨hroom, ?_⟩⟩
    exact hgo hlt (by rw [ybody_eq, if_neg (by omega), if_neg (by omega), if_neg (by omega), if_neg (by omega), if_neg (by omega), if_neg (by omega), if_neg (by omega), if_pos (by omega), if_pos h4]; rfl) hsm
   ·rw [nest_restore (by omega) hv.2.1]
    refine ⟨fun _ => ⟨hroom, ?_⟩, fun q => absurd rfl q⟩
    refine hgo hlt (by rw [ybody_eq, if_neg (by omega), if_neg (by omega), if_neg (by omega), if_neg (by omega), if_neg (by omega), if_neg (by omega), if_neg (by omega), if_pos (by omega), if_neg h4]) ?_
    rw [ask_same g8]
    dsimp only
    rw [hset]
    rfl
  ·have hco : 0 ≤ co ∧ co ≤ 1 := by omega
   refine ⟨by show (0 : Int) < 1; omega, hroom, hgo hlt (by rw [ybody_eq, if_neg (by omega), if_neg (by omega), if_neg (by omega), if_neg (by omega), if_pos (by omega)]) ?_⟩
   rw [ask_same g8]; rfl
 ·obtain ⟨he1, he2⟩ := hend hge
  rw [he2, ← he1]
  exact ⟨by omega, by omega, rfl, rfl⟩

end Go.Proofs.YtppgbcmeagbalaaDoor.Kern
