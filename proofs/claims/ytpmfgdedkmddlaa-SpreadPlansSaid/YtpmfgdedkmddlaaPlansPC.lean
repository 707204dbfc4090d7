/-
  SpreadPlans: the stable sort.
-/
import Derived.Test.YtpmfgdedkmddlaaPlansPB
namespace Go.Proofs.Ytpmfgdedkmddlaa.Plans
open Go.Sx
set_option maxRecDepth 100000
set_option maxHeartbeats 1000000
set_option linter.unusedSimpArgs false
set_option linter.unusedVariables false

theorem two_mul' {q n : Int} : q * (2 * n) = 2 * q * n := by rw [Int.mul_comm 2 q, Int.mul_assoc]
theorem e_stable (x : List Int × Int × List Int × Unit) (hp : (x.2.1 = x.1.length ∧ x.1.length ≤ 400) ∧ okW x.2.2.1 x.1 ∧ up x.1) (hl : pStable.lens x) : E_stable x := by
  obtain ⟨x, n, w, u⟩ := x
  simp only [] at hp
  obtain ⟨⟨hn, l4⟩, hw, hu⟩ := hp
  subst hn
  clear hl
  unfold E_stable
  simp only [Bool.not_eq_true', Bool.not_eq_false', Bool.not_eq_true, Bool.not_eq_false, beq_self_eq_true, decide_eq_true_eq, decide_eq_false_iff_not, Bool.not_false, Bool.not_true, beq_iff_eq, beq_eq_false_iff_ne, bne_iff_ne, ne_eq, bne_eq_false_iff_eq, holds_iff, true_and, and_true, and_self, eq_self, List.length_cons, List.length_nil, List.length_append, List.length_set, List.length_replicate, List.set_cons_zero, cond_true, cond_false, Bool.false_eq_true, Bool.true_eq_false, forall_const, false_imp_iff, imp_self, implies_true, and_imp, Decidable.not_not, Bool.and_eq_true, Bool.or_eq_true, Bool.and_eq_false_iff, Bool.or_eq_false_iff, ← List.length_eq_zero_iff, or_self, or_false, false_or, Prod.forall, Int.reduceEq, Int.reduceLT, Int.reduceLE, List.nil_append, Nat.zero_add, Int.toNat_zero, List.drop_zero, List.length_drop, List.length_take, not_true_eq_false, not_false_eq_true]
  try simp only [flip_f, flip_t, decide_eq_true_eq, decide_eq_false_iff_not]
  refine ⟨⟨by omega, by omega, by omega, fun q q0 q1 => by omega⟩, ?_⟩
  rintro d a e a0 al ea am hl hb hd - - - - - -
  have hok := ok1 hw (show (0 : Int) < 20 by omega) hl am hb al a0 hd
  refine ⟨fun h => ?_, fun h => ?_⟩
  · have h' : e ≤ x.length := h
    have hle := srt_len (w := w) (d := d) (a := a) (b := e) a0 (by omega) (by omega)
    have hf := sd_fresh (w := w) (x := x) (d := d) (p := a) (q := e) a0 (by omega) h' hl hd
    refine ⟨⟨⟨by omega, by omega, by omega, by omega⟩, hok, up_drop hu a0 hd⟩, by omega, ⟨by omega, h', by omega, by omega, fun q q0 q1 => ?_, ?_⟩, by omega⟩
    · exact next1 (by omega) hl am hb a0 hf (by omega) al q0 (by omega)
    · rw [(srt_parts (w := w) (d := d) (a := a) (b := e) a0 (by omega) (by omega)).2.2]
      exact drop_drop1 hd (by omega)
  · have h' : ¬ e ≤ x.length := h
    have hle := srt_len (w := w) (d := d) (a := a) (b := x.length) a0 al (by omega)
    have hf := sd_fresh (w := w) (x := x) (d := d) (p := a) (q := x.length) a0 al (by omega) hl hd
    refine ⟨⟨⟨by omega, by omega, by omega, by omega⟩, hok, up_drop hu a0 hd⟩, ⟨by omega, fun q q0 q1 => ?_⟩, ?_⟩
    · exact next1 (by omega) hl am hb a0 hf (by omega) al q0 (by omega)
    · clear hb hd hok hle hf hl
      rintro d n n0 n1 hl hb - - - -
      refine ⟨fun hn => ?_, fun hn => ?_⟩
      · have hn' : n < x.length := hn
        refine ⟨by omega, ⟨by omega, by omega, by simp, hl, fun q q0 q1 => ?_, fun q q0 q1 => ?_⟩, ?_⟩
        · have := Int.mul_nonneg q0 (show 0 ≤ 2 * n by omega)
          have := mul1 (q := q) (n := 2 * n)
          omega
        · refine hb q ?_ q1
          have : 0 * n ≤ q * n := by omega
          exact Int.le_of_mul_le_mul_right this (by omega)
        · clear hb hl
          rintro d a e a0 al ea am hl hb hc - - - - - -
          have hok := ok2 hw (show 0 < n by omega) hl am hb hc al a0
          have ha := blk_div am
          rw [two_mul'] at ha
          have hm := mul1 (q := 2 * (a / (2 * n))) (n := n)
          have hm2 := mul1 (q := 2 * (a / (2 * n)) + 1) (n := n)
          refine ⟨fun h => ?_, fun h => ?_⟩
          · have h' : e ≤ x.length := h
            have s1 := blk_sd (hc (2 * (a / (2 * n))) (by omega) (by omega))
            have s2 := blk_sd (hc (2 * (a / (2 * n)) + 1) (by omega) (by omega))
            rw [show min ((2 * (a / (2 * n)) + 1) * n) (x.length : Int) = a + n by omega, ← ha] at s1
            rw [show min ((2 * (a / (2 * n)) + 1 + 1) * n) (x.length : Int) = e by omega, show (2 * (a / (2 * n)) + 1) * n = a + n by omega] at s2
            have hle := srt_len (w := w) (d := d) (a := a) (b := e) a0 (by omega) (by omega)
            have hf := sd_merge s1 s2 a0 (by omega) (by omega) h' hl
            refine ⟨by omega, ⟨⟨by omega, by omega, by omega, by omega, by omega⟩, hok, sd_down s1 hu, sd_down s2 hu, sd_apart s1 s2 hu a0 (by omega) (by omega) h'⟩, by omega, by omega,
              ⟨by omega, h', ?_, by omega, fun q q0 q1 => ?_, fun q q0 q1 => ?_⟩, by omega⟩
            · rw [ea, Int.add_emod_right]; exact am
            · have := mul1 (q := q) (n := 2 * n)
              exact next1 (by omega) hl am hb a0 hf (by omega) al q0 (by omega)
            · exact sd_above (blk_sd (hc q (by omega) q1)) (by omega) a0 (by omega) (by omega)
          · have h' : ¬ e ≤ x.length := h
            refine ⟨by omega, fun h2 => ?_, fun h2 => ?_⟩
            · have h2' : a + n < x.length := h2
              have s1 := blk_sd (hc (2 * (a / (2 * n))) (by omega) (by omega))
              have s2 := blk_sd (hc (2 * (a / (2 * n)) + 1) (by omega) (by omega))
              rw [show min ((2 * (a / (2 * n)) + 1) * n) (x.length : Int) = a + n by omega, ← ha] at s1
              rw [show min ((2 * (a / (2 * n)) + 1 + 1) * n) (x.length : Int) = x.length by omega, show (2 * (a / (2 * n)) + 1) * n = a + n by omega] at s2
              have hle := srt_len (w := w) (d := d) (a := a) (b := x.length) a0 al (by omega)
              have hf := sd_merge s1 s2 a0 (by omega) (by omega) (Int.le_refl _) hl
              refine ⟨⟨⟨by omega, by omega, by omega, by omega, by omega⟩, hok, sd_down s1 hu, sd_down s2 hu, sd_apart s1 s2 hu a0 (by omega) (by omega) (Int.le_refl _)⟩, by omega, ⟨by omega, by omega, by omega, fun q q0 q1 => ?_⟩, by omega⟩
              rw [Int.mul_comm n 2] at *
              exact next1 (by omega) hl am hb a0 hf (by omega) al q0 (by
                have hq := blk_le (q := q) (r := a / (2 * n)) (n := 2 * n) (by omega) (by rw [← blk_div am]; omega)
                have := blk_mono (n := 2 * n) (by omega) hq
                rw [← blk_div am] at this
                exact this)
            · have h2' : ¬ a + n < x.length := h2
              have s1 := blk_sd (hc (2 * (a / (2 * n))) (by omega) (by omega))
              rw [show min ((2 * (a / (2 * n)) + 1) * n) (x.length : Int) = x.length by omega, ← ha] at s1
              have hf : sd w x (srt w d a x.length) a x.length := by
                rw [srt_id a0 al (sd_down s1 hu)]; exact s1
              refine ⟨by omega, ⟨by omega, by omega, hl, fun q q0 q1 => ?_⟩, by omega⟩
              rw [Int.mul_comm n 2] at *
              have hq := blk_le (q := q) (r := a / (2 * n)) (n := 2 * n) (by omega) (by rw [← blk_div am]; omega)
              have hle := blk_mono (n := 2 * n) (by omega) hq
              rw [← blk_div am] at hle
              have key := next1 (e := x.length) (by omega) hl am hb a0 hf (by omega) al q0 hle
              rw [srt_id a0 al (sd_down s1 hu)] at key
              exact key
      · have hn' : ¬ n < x.length := hn
        have h0 := blk_sd (hb 0 (by omega) (by omega))
        refine sd_all ?_ hl
        rw [show min ((0 + 1) * n) (x.length : Int) = x.length by omega, Int.zero_mul] at h0
        exact h0

end Go.Proofs.Ytpmfgdedkmddlaa.Plans
