/-
 KernelPlays: the conditions hold: the document's answer, and the comparisons.
-/
import Derived.Test.YtppgbcmeagbalaaDoorKernP1
namespace Go.Proofs.YtppgbcmeagbalaaDoor.Kern
open Go.Sx
set_option maxRecDepth 100000
set_option maxHeartbeats 1000000
set_option linter.unusedSimpArgs false
set_option linter.unusedVariables false

theorem ydo_pair {w : YW} {o : KOp} {d f : By} {t : TT} {lo tk a s p : Int} {sv : List Int} {A : KAns} (h : ybody w o = ((d, f, t, lo, tk, a, s, p, sv), A)) :
  (0 < (d.length : Int) → a < 0 → s < 0 → (d, f, t, lo, tk, p, s, p, sv) = (ydo w o).1 ∧ A = (ydo w o).2) ∧
  ((¬ 0 < (d.length : Int) ∨ ¬ a < 0) ∨ ¬ s < 0 → (d, f, t, lo, tk, a, s, p, sv) = (ydo w o).1 ∧ A = (ydo w o).2) := by
 unfold ydo
 rw [h]
 unfold yask
 dsimp only
 refine ⟨fun h1 h2 h3 => ?_, fun h1 => ?_⟩
 ·rw [if_pos ⟨by omega, h2, h3⟩]; exact ⟨rfl, rfl⟩
 ·rw [if_neg (by omega)]; exact ⟨rfl, rfl⟩
set_option maxHeartbeats 8000000 in
theorem e_ydo (x : YW × KOp × Unit) (hpre : ∃ k : Int, 0 ≤ k ∧ k ≤ 1048576 ∧ goodY x.1 k) (hlens : LensL cYDo.as x) : E_ydo x := by
 obtain ⟨⟨d, f, ⟨tl, te⟩, lo, tk, a, s, p, sv⟩, ⟨kd, co, n, by_⟩, u⟩ := x
 obtain ⟨k, hk0, hk1, hg⟩ := hpre
 obtain ⟨g1, g2, g3, g4, g5, g6, g7, _, g8, g9, g10⟩ := hg
 have hsv : 0 ≤ co → co ≤ 1 → 0 ≤ sv.getD co.toNat 0 ∧ sv.getD co.toNat 0 ≤ 400 := fun q q' => ⟨(g10 co q q').1, (g10 co q q').2.1⟩
 unfold E_ydo
 simp (maxSteps := 10000000) only [Bool.not_eq_true', Bool.not_eq_false', Bool.not_eq_true, Bool.not_eq_false, beq_self_eq_true, decide_eq_true_eq, decide_eq_false_iff_not, Bool.not_false, Bool.not_true, beq_iff_eq, beq_eq_false_iff_ne, bne_iff_ne, ne_eq, bne_eq_false_iff_eq, holds_iff, true_and, and_true, and_self, eq_self, List.length_cons, List.length_nil, List.length_append, List.length_set, List.length_replicate, List.set_cons_zero, cond_true, cond_false, Bool.false_eq_true, Bool.true_eq_false, forall_const, false_imp_iff, imp_self, implies_true, and_imp, Decidable.not_not, Bool.and_eq_true, Bool.or_eq_true, Bool.and_eq_false_iff, Bool.or_eq_false_iff, ← List.length_eq_zero_iff, or_self, or_false, false_or, Prod.forall, Int.reduceEq, Int.reduceLT, Int.reduceLE, List.nil_append, Nat.zero_add, Int.toNat_zero, List.drop_zero, List.length_drop, List.length_take, not_true_eq_false, not_false_eq_true,  RR_eq, R8_eq, R32_eq, pair_eta, List.set_cons_zero, show Int.negSucc 0 = (-1 : Int) from rfl, Int.toNat_natCast, List.take_length, show Int.toNat 1 = 1 from rfl]
 clear hlens g10
 refine ⟨fun c1 => ydo_pair ?_, fun c1 c2 => ⟨fun e1 e2 e3 => ydo_pair ?_, fun e1 => ⟨fun c3 c4 => ⟨by omega, ydo_pair ?_⟩, fun c3 => ⟨fun c4 => ⟨by omega, by omega, ?_⟩, fun c4 => ⟨fun c5 => ⟨fun c6 => ydo_pair ?_, fun c6 => ydo_pair ?_⟩, fun c5 =>
  ⟨fun c6 => ydo_pair ?_, fun c6 => ⟨fun c7 c8 => ydo_pair ?_, fun c7 => ⟨fun c8 => ⟨c8, by omega, by omega⟩, fun c8 c9 => ydo_pair ?_, fun c8 => ⟨fun c9 => ⟨c9, by omega, by omega⟩, fun c9 c10 => ydo_pair ?_, fun c9 =>
   ⟨fun c10 => ⟨by omega, by have := hsv; omega, by omega, ydo_pair ?_⟩, fun c10 => ⟨fun c11 => ⟨by omega, by have := hsv; omega, by omega, ydo_pair ?_⟩, fun c11 => ⟨fun c12 c13 => ⟨by omega, by omega, by omega, by omega, ?_⟩, fun c12 => ⟨fun c13 => ?_, fun c13 =>
    ⟨fun c14 => ⟨c14, by omega, by omega⟩, fun c14 c15 => ⟨by omega, ?_⟩, fun c14 => ⟨fun c15 => ⟨c15, fun c16 => ⟨by omega, ydo_pair ?_⟩, fun c16 => ⟨by omega, ydo_pair ?_⟩⟩, fun c15 => ydo_pair ?_⟩⟩⟩⟩⟩⟩⟩⟩⟩⟩⟩⟩⟩⟩⟩
 ·rw [ybody_eq, if_pos c1]
 ·rw [ybody_eq, if_neg (by omega), if_pos (by omega)]
 ·rw [ybody_eq, if_neg (by omega), if_neg (by omega), if_pos c3, if_pos (by omega)]
 ·have hb : ybody (d, f, (tl, te), lo, tk, a, s, p, sv) (kd, co, n, by_) = ((d ++ [by_], f, (tl, te), lo, tk, a, s, p, sv), 0, []) := by
   rw [ybody_eq, if_neg (by omega), if_neg (by omega), if_pos c4, if_neg (by omega)]
  have := ydo_pair hb
  simpa using this
 ·rw [ybody_eq, if_neg (by omega), if_neg (by omega), if_neg c4, if_pos c5, if_pos c6]
 ·rw [ybody_eq, if_neg (by omega), if_neg (by omega), if_neg c4, if_pos c5, if_neg c6]
 ·rw [ybody_eq, if_neg (by omega), if_neg (by omega), if_neg c4, if_neg c5, if_pos c6]
 ·rw [ybody_eq, if_neg (by omega), if_neg (by omega), if_neg c4, if_neg c5, if_neg c6, if_pos ⟨c7, c8⟩]
 ·rw [ybody_eq, if_neg (by omega), if_neg (by omega), if_neg c4, if_neg c5, if_neg c6, if_neg (by omega), if_pos c8, if_pos c9]
 ·rw [ybody_eq, if_neg (by omega), if_neg (by omega), if_neg c4, if_neg c5, if_neg c6, if_neg (by omega), if_neg (by omega), if_pos c9, if_pos c10]
 ·rw [ybody_eq, if_neg (by omega), if_neg (by omega), if_neg c4, if_neg c5, if_neg c6, if_neg (by omega), if_pos c10, if_neg (by omega)]
 ·rw [ybody_eq, if_neg (by omega), if_neg (by omega), if_neg c4, if_neg c5, if_neg c6, if_neg (by omega), if_neg c10, if_pos c11, if_neg (by omega)]
 ·have hb : ybody (d, f, (tl, te), lo, tk, a, s, p, sv) (kd, co, n, by_) = ((d.drop 1, f ++ [d.getD 0 0], (tl, te), lo, tk, a, s, p, sv), 0, []) := by
   rw [ybody_eq, if_neg (by omega), if_neg (by omega), if_neg c4, if_neg c5, if_neg c6, if_neg (by omega), if_neg c10, if_neg c11, if_pos c12, if_pos (by omega)]
  have := ydo_pair hb
  rw [List.length_drop] at this
  exact this
 ·have hb : ybody (d, f, (tl, te), lo, tk, a, s, p, sv) (kd, co, n, by_) = ((d, f, (tl, te), lo, tk, a, -1, p, sv), 0, []) := by
   rw [ybody_eq, if_neg (by omega), if_neg (by omega), if_neg c4, if_neg c5, if_neg c6, if_neg (by omega), if_neg c10, if_neg c11, if_pos c13, if_neg (by omega)]
  have := ydo_pair hb
  exact ⟨fun q1 q2 => this.1 q1 q2 (by omega), fun q => this.2 (Or.inl q)⟩
 ·have hb : ybody (d, f, (tl, te), lo, tk, a, s, p, sv) (kd, co, n, by_) = ((d, f, (tl, te), lo, tk + 1, -1, co, p, sv), 0, []) := by
   rw [ybody_eq, if_neg (by omega), if_neg (by omega), if_neg c4, if_neg c5, if_neg c6, if_neg (by omega), if_neg c10, if_neg c11, if_neg c13, if_pos ⟨c14, c15⟩]
  have := ydo_pair hb
  exact ⟨fun q1 q2 => this.1 q1 (by omega) q2, fun q => this.2 (by omega)⟩
 ·rw [ybody_eq, if_neg (by omega), if_neg (by omega), if_neg c4, if_neg c5, if_neg c6, if_neg (by omega), if_neg c10, if_neg c11, if_neg c13, if_neg (by omega), if_pos (by omega), if_pos (by exact c16)]; rfl
 ·rw [ybody_eq, if_neg (by omega), if_neg (by omega), if_neg c4, if_neg c5, if_neg c6, if_neg (by omega), if_neg c10, if_neg c11, if_neg c13, if_neg (by omega), if_pos (by omega), if_neg (by exact c16)]
 ·rw [ybody_eq, if_neg (by omega), if_neg (by omega), if_neg c4, if_neg c5, if_neg c6, if_neg (by omega), if_neg c10, if_neg c11, if_neg c13, if_neg (by omega), if_neg (by omega)]
theorem e_yplay (x : List KOp × Unit) (hpre : x.1.length ≤ 1048576) (hlens : LensL cYPlay.as x) : E_yplay x := by
 obtain ⟨ops, u⟩ := x
 simp only [] at hpre
 unfold E_yplay
 simp (maxSteps := 10000000) only [Bool.not_eq_true', Bool.not_eq_false', Bool.not_eq_true, Bool.not_eq_false, beq_self_eq_true, decide_eq_true_eq, decide_eq_false_iff_not, Bool.not_false, Bool.not_true, beq_iff_eq, beq_eq_false_iff_ne, bne_iff_ne, ne_eq, bne_eq_false_iff_eq, holds_iff, true_and, and_true, and_self, eq_self, List.length_cons, List.length_nil, List.length_append, List.length_set, List.length_replicate, List.set_cons_zero, cond_true, cond_false, Bool.false_eq_true, Bool.true_eq_false, forall_const, false_imp_iff, imp_self, implies_true, and_imp, Decidable.not_not, Bool.and_eq_true, Bool.or_eq_true, Bool.and_eq_false_iff, Bool.or_eq_false_iff, ← List.length_eq_zero_iff, or_self, or_false, false_or, Prod.forall, Int.reduceEq, Int.reduceLT, Int.reduceLE, List.nil_append, Nat.zero_add, Int.toNat_zero, List.drop_zero, List.length_drop, List.length_take, not_true_eq_false, not_false_eq_true,  RR_eq, R8_eq, R32_eq, pair_eta, List.set_cons_zero, show Int.negSucc 0 = (-1 : Int) from rfl]
 refine ⟨⟨by omega, rfl⟩, ?_⟩
 intro d f tl te lo tk a s p sv e k hk0 hk1 hpl _ _ _ _ _ _ _ _ _ _ _ _ _ _ _ _ _ _ _ _ _ _ _ _
 have hgd := ypl_good (ops.take k.toNat)
 rw [← hpl] at hgd
 have hlen : (ops.take k.toNat).length = k.toNat := by rw [List.length_take]; omega
 rw [hlen, Int.toNat_of_nonneg hk0] at hgd
 refine ⟨fun hlt => ⟨⟨hk0, hlt⟩, ⟨k, hk0, by omega, hgd.1⟩, by have he : e.length = k.toNat := hgd.2; omega, by omega, ⟨by omega, by omega, ?_⟩, by omega⟩, fun hge => ?_⟩
 ·rw [ypl_next hk0 hlt, ← hpl]; rfl
 ·rw [takeI_all (by omega)] at hpl
  rw [← hpl]; exact ⟨rfl, rfl⟩
theorem e_samew (x : (By × By × TT × Int × Int) × (By × By × TT × Int × Int) × Unit) (hpre : True) (hlens : LensL cSameW.as x) : E_samew x := by
 obtain ⟨⟨d, f, ⟨tl, te⟩, lo, tk⟩, ⟨d', f', ⟨tl', te'⟩, lo', tk'⟩, u⟩ := x
 unfold E_samew
 simp only [Bool.not_eq_true', Bool.not_eq_false', Bool.not_eq_true, Bool.not_eq_false, beq_self_eq_true, decide_eq_true_eq, decide_eq_false_iff_not, Bool.not_false, Bool.not_true, beq_iff_eq, beq_eq_false_iff_ne, bne_iff_ne, ne_eq, bne_eq_false_iff_eq, holds_iff, true_and, and_true, and_self, eq_self, List.length_cons, List.length_nil, List.length_append, List.length_set, List.length_replicate, List.set_cons_zero, cond_true, cond_false, Bool.false_eq_true, Bool.true_eq_false, forall_const, false_imp_iff, imp_self, implies_true, and_imp, Decidable.not_not, Bool.and_eq_true, Bool.or_eq_true, Bool.and_eq_false_iff, Bool.or_eq_false_iff, ← List.length_eq_zero_iff, or_self, or_false, false_or, Prod.forall, Int.reduceEq, Int.reduceLT, Int.reduceLE, List.nil_append, Nat.zero_add, Int.toNat_zero, List.drop_zero, List.length_drop, List.length_take, not_true_eq_false, not_false_eq_true,  pair_eta]
 refine ⟨fun h1 h2 => ⟨⟨h1, h2⟩, ?_⟩, fun h => ?_⟩
 ·subst h1 h2
  rw [Bool.eq_iff_iff]
  simp only [Bool.and_eq_true, decide_eq_true_eq, beq_iff_eq, Prod.mk.injEq, true_and]
  exact ⟨fun q => ⟨q.1.1, q.1.2, q.2⟩, fun q => ⟨⟨q.1, q.2.1⟩, q.2.2⟩⟩
 ·refine (decide_eq_false fun e => ?_).symm
  cases e
  rcases h with h | h <;> exact h rfl
theorem e_samek (x : List KAns × List KAns × Unit) (hpre : True) (hlens : LensL cSameK.as x) : E_samek x := by
 obtain ⟨xs, ys, u⟩ := x
 have hlx : xs.length ≤ 9223372036854775807 := hlens.1.1
 unfold E_samek
 simp only [Bool.not_eq_true', Bool.not_eq_false', Bool.not_eq_true, Bool.not_eq_false, beq_self_eq_true, decide_eq_true_eq, decide_eq_false_iff_not, Bool.not_false, Bool.not_true, beq_iff_eq, beq_eq_false_iff_ne, bne_iff_ne, ne_eq, bne_eq_false_iff_eq, holds_iff, true_and, and_true, and_self, eq_self, List.length_cons, List.length_nil, List.length_append, List.length_set, List.length_replicate, List.set_cons_zero, cond_true, cond_false, Bool.false_eq_true, Bool.true_eq_false, forall_const, false_imp_iff, imp_self, implies_true, and_imp, Decidable.not_not, Bool.and_eq_true, Bool.or_eq_true, Bool.and_eq_false_iff, Bool.or_eq_false_iff, ← List.length_eq_zero_iff, or_self, or_false, false_or, Prod.forall, Int.reduceEq, Int.reduceLT, Int.reduceLE, List.nil_append, Nat.zero_add, Int.toNat_zero, List.drop_zero, List.length_drop, List.length_take, not_true_eq_false, not_false_eq_true,  pair_eta]
 refine ⟨fun h => ?_, fun h => ⟨⟨by omega, rfl⟩, fun k hk0 hk1 hk _ _ => ⟨fun hlt => ⟨⟨hk0, hlt⟩, ⟨hk0, by omega⟩, fun e1 => ⟨⟨hk0, hlt⟩, ⟨hk0, by omega⟩, fun e2 => ?_, fun e2 => ⟨by omega, ⟨by omega, by omega, ?_⟩, by omega⟩⟩, fun e1 => ?_⟩, fun hge => ?_⟩⟩⟩
 ·exact (decide_eq_false (ne_of_length h)).symm
 ·refine (decide_eq_false fun e => ?_).symm
  subst e; exact e2 rfl
 ·rw [takeI_succ (0, []) hk0 hlt, takeI_succ (0, []) hk0 (by omega), hk]
  rw [Prod.ext e1 e2]
 ·refine (decide_eq_false fun e => ?_).symm
  subst e; exact e1 rfl
 ·rw [eq_of_take h (by omega) hk]; simp
theorem e_kern (x : List KOp × Unit) (hpre : x.1.length ≤ 1048576) (hlens : LensL cKern.as x) : E_kern x := by
 obtain ⟨ops, u⟩ := x
 simp only [] at hpre
 unfold E_kern
 simp only [Bool.not_eq_true', Bool.not_eq_false', Bool.not_eq_true, Bool.not_eq_false, beq_self_eq_true, decide_eq_true_eq, decide_eq_false_iff_not, Bool.not_false, Bool.not_true, beq_iff_eq, beq_eq_false_iff_ne, bne_iff_ne, ne_eq, bne_eq_false_iff_eq, holds_iff, true_and, and_true, and_self, eq_self, List.length_cons, List.length_nil, List.length_append, List.length_set, List.length_replicate, List.set_cons_zero, cond_true, cond_false, Bool.false_eq_true, Bool.true_eq_false, forall_const, false_imp_iff, imp_self, implies_true, and_imp, Decidable.not_not, Bool.and_eq_true, Bool.or_eq_true, Bool.and_eq_false_iff, Bool.or_eq_false_iff, ← List.length_eq_zero_iff, or_self, or_false, false_or, Prod.forall, Int.reduceEq, Int.reduceLT, Int.reduceLE, List.nil_append, Nat.zero_add, Int.toNat_zero, List.drop_zero, List.length_drop, List.length_take, not_true_eq_false, not_false_eq_true,  pair_eta]
 exact hpre
section
open Line
theorem e_lstep (x : List PN × (Int × Int) × Unit) (_ : True) (_ : LensL cStepO.as x) : E_lstep x := by
 obtain ⟨l, ⟨k, i⟩, u'⟩ := x
 unfold E_lstep
 simp only [Bool.not_eq_true', Bool.not_eq_false', Bool.not_eq_true, Bool.not_eq_false, beq_self_eq_true, decide_eq_true_eq, decide_eq_false_iff_not, Bool.not_false, Bool.not_true, beq_iff_eq, beq_eq_false_iff_ne, bne_iff_ne, ne_eq, bne_eq_false_iff_eq, holds_iff, true_and, and_true, and_self, eq_self, List.length_cons, List.length_nil, List.length_append, List.length_set, List.length_replicate, List.set_cons_zero, cond_true, cond_false, Bool.false_eq_true, Bool.true_eq_false, forall_const, false_imp_iff, imp_self, implies_true, and_imp, Decidable.not_not, Bool.and_eq_true, Bool.or_eq_true, Bool.and_eq_false_iff, Bool.or_eq_false_iff, ← List.length_eq_zero_iff, or_self, or_false, false_or, Prod.forall, Int.reduceEq, Int.reduceLT, Int.reduceLE, List.nil_append, Nat.zero_add, Int.toNat_zero, List.drop_zero, List.length_drop, List.length_take, not_true_eq_false, not_false_eq_true]
 try simp only [flip_f, flip_t, decide_eq_true_eq, decide_eq_false_iff_not]
 refine ⟨fun hr => ?_, fun hr => ⟨fun hk => ?_, fun k1 k5 => ⟨fun hi => ?_, fun i0 i1 => ?_⟩⟩⟩
 ·rw [step_bad (e := 1) (by simp [err, hr]) (by decide)]; simp [bad]
 ·rw [step_bad (e := 5) (by simp [err, hr, hk]) (by decide)]; simp [bad]
 ·rw [step_bad (e := 3) (by simp only [err, hr]; grind) (by decide)]; simp [bad]
 have hl := right_len hr
 have hlen : i.toNat < l.length := by omega
 have hst := step_ok (l := l) (k := k) (i := i) (by simp only [err, hr]; grind)
 have hz : (0, 0, false, false, false, false, false) = zero := rfl
 refine ⟨by omega, ⟨by omega, by omega⟩, ?_, ?_⟩
 ·simp only [Line.at_, hz]
  generalize l.getD i.toNat zero = p
  obtain ⟨c, v, lv, m, u, kp, s⟩ := p
  simp only [Line.note]
  repeat' (first | with_reducible apply And.intro | with_reducible intro _)
  all_goals first
   | omega
   | (subst_vars; rfl)
   | grind
 ·intro a ha _ _
  have hg : a.getD i.toNat zero = note (at_ l i) k := by rw [ha]; exact set_getD hlen
  have hs : ∀ y, a.set i.toNat y = l.set i.toNat y := fun y => by rw [ha, List.set_set]
  have hgs : ∀ y, (l.set i.toNat y).getD i.toNat zero = y := fun y => set_getD hlen
  rw [hst]
  simp only [hz, hs, hg, hgs, Line.out, Line.ask, Line.cstep, Line.at_]
  clear hg hs hgs hst
  rw [ha]
  clear ha
  simp only [Line.at_]
  obtain ⟨c, v, lv, m, u, kp, s, hpe⟩ : ∃ c v lv m u kp s, l.getD i.toNat zero = (c, v, lv, m, u, kp, s) := ⟨_, _, _, _, _, _, _, rfl⟩
  simp only [hpe]
  clear hpe
  cases lv <;> simp only [Line.note, Line.fire]
  all_goals (repeat' (first | with_reducible apply And.intro | with_reducible intro _))
  all_goals first
   | omega
   | contradiction
   | (cases m <;> cases u <;> cases kp <;> cases s <;> grind)
end
theorem ask1_eq (cs : List CR) (s : Int × Int × Int) : ask1 cs s = if (Apic.stepL (crAt cs s.2.1).1 (1, s.2.2)).2.2.1 = 0 then cs.set s.2.1.toNat ((Apic.stepL (crAt cs s.2.1).1 (1, s.2.2)).1, (crAt cs s.2.1).2) else cs := rfl
theorem pin_loop {sent : List (Int × Int × Int)} {cs cs' : List CR} {j : Int} (hs : ∀ e ∈ sent, 0 ≤ e.2.1 ∧ e.2.1 < 2) (hl : sent.length ≤ 9223372036854775807) (h0 : 0 ≤ j) (h1 : j ≤ (sent.length : Int)) (h : cs' = (sent.take j.toNat).foldl ask1 cs) (hjl : j < (sent.length : Int)) :
  (0 ≤ j ∧ j < (sent.length : Int)) ∧ (0 ≤ (seAt sent j).2.1 ∧ (seAt sent j).2.1 < ((2 : Nat) : Int)) ∧
   ((Apic.stepL (crAt cs' (seAt sent j).2.1).1 (1, (seAt sent j).2.2)).2.2.1 = 0 →
    (-9223372036854775808 ≤ j + 1 ∧ j + 1 ≤ 9223372036854775807) ∧
    (0 ≤ j + 1 ∧ j + 1 ≤ (sent.length : Int) ∧ cs'.set (seAt sent j).2.1.toNat ((Apic.stepL (crAt cs' (seAt sent j).2.1).1 (1, (seAt sent j).2.2)).1, (crAt cs' (seAt sent j).2.1).2) = (sent.take (j + 1).toNat).foldl ask1 cs) ∧
    ((sent.length : Int) - (j + 1)).toNat < ((sent.length : Int) - j).toNat) ∧
   (¬ (Apic.stepL (crAt cs' (seAt sent j).2.1).1 (1, (seAt sent j).2.2)).2.2.1 = 0 →
    (-9223372036854775808 ≤ j + 1 ∧ j + 1 ≤ 9223372036854775807) ∧
    (0 ≤ j + 1 ∧ j + 1 ≤ (sent.length : Int) ∧ cs' = (sent.take (j + 1).toNat).foldl ask1 cs) ∧
    ((sent.length : Int) - (j + 1)).toNat < ((sent.length : Int) - j).toNat) := by
 have hm : seAt sent j ∈ sent := getD_mem (by omega)
 have hb := hs _ hm
 have hf : (sent.take (j + 1).toNat).foldl ask1 cs = ask1 cs' (seAt sent j) := by rw [foldl_takeI (0, 0, 0) h0 hjl, ← h]; rfl
 refine ⟨⟨h0, hjl⟩, ⟨hb.1, hb.2⟩, fun q => ⟨by omega, ⟨by omega, by omega, ?_⟩, by omega⟩, fun q => ⟨by omega, ⟨by omega, by omega, ?_⟩, by omega⟩⟩
 ·rw [hf, ask1_eq, if_pos q]
 ·rw [hf, ask1_eq, if_neg q]
theorem line_step {ps : List (Int × Int × Bool × Bool × Bool × Bool × Bool)} {k : Int} (h : Line.err ps k 0 = 0) : Line.step ps k 0 = (Line.out ps k 0, Line.ask ps k 0, 0, ()) := if_pos h
theorem ask_range {d : By} {a s p k : Int} (hp : 0 ≤ p ∧ p ≤ 1) : ∀ e ∈ Line.ask [pinOf d a s p] k 0, 0 ≤ e.2.1 ∧ e.2.1 < 2 := by
 intro e he
 unfold Line.ask at he
 split at he
 ·rw [List.mem_singleton] at he
  subst he
  exact ⟨hp.1, by show p < 2; omega⟩
 ·cases he
theorem pin_fin {ps : List (Int × Int × Bool × Bool × Bool × Bool × Bool)} {cs cs' : List CR} {k : Int} {sent : List (Int × Int × Int)} {j : Int} (h : Line.err ps k 0 = 0) (hs : sent = Line.ask ps k 0) (hj : (sent.length : Int) ≤ j) (hc : cs' = (sent.take j.toNat).foldl ask1 cs) :
  pinF ps cs k = (Line.out ps k 0, cs') := by
 unfold pinF
 rw [if_pos h, hc, takeI_all hj, hs]

end Go.Proofs.YtppgbcmeagbalaaDoor.Kern
