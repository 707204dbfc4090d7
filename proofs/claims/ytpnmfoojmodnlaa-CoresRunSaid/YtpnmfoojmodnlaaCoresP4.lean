/-
  CoresRun: the reference keeps its contract.
-/
import Derived.Test.YtpnmfoojmodnlaaCoresP3
namespace Go.Proofs.Ytpnmfoojmodnlaa.Cores
open Go.Sx
set_option maxRecDepth 100000
set_option maxHeartbeats 1000000
set_option linter.unusedSimpArgs false
set_option linter.unusedVariables false

theorem e_nrun (x : Int × Int × List Th × Int × Unit) (hp : wr x.1 x.2.1 x.2.2.1 = 0 ∧ 0 ≤ x.2.2.2.1 ∧ x.2.2.2.1 ≤ 2000) (hl : LensL cNrun.as x) : E_nrun x := by
  obtain ⟨n, sl, l, tk, u⟩ := x
  obtain ⟨hw, ht0, ht1⟩ := hp
  simp only [] at hw ht0 ht1
  obtain ⟨⟨n1, n8, s1, s2, l64⟩, hall⟩ := wr_zero hw
  have l64' : l.length ≤ 64 := l64
  clear hl hw
  unfold E_nrun
  simp only [Bool.not_eq_true', Bool.not_eq_false', Bool.not_eq_true, Bool.not_eq_false, beq_self_eq_true, decide_eq_true_eq, decide_eq_false_iff_not, Bool.not_false, Bool.not_true, beq_iff_eq, beq_eq_false_iff_ne, bne_iff_ne, ne_eq, bne_eq_false_iff_eq, holds_iff, true_and, and_true, and_self, eq_self, List.length_cons, List.length_nil, List.length_append, List.length_set, List.length_replicate, List.set_cons_zero, cond_true, cond_false, Bool.false_eq_true, Bool.true_eq_false, forall_const, false_imp_iff, imp_self, implies_true, and_imp, Decidable.not_not, Bool.and_eq_true, Bool.or_eq_true, Bool.and_eq_false_iff, Bool.or_eq_false_iff, ← List.length_eq_zero_iff, or_self, or_false, false_or, Prod.forall, Int.reduceEq, Int.reduceLT, Int.reduceLE, List.nil_append, Nat.zero_add, Int.toNat_zero, List.drop_zero, List.length_drop, List.length_take, not_true_eq_false, not_false_eq_true]
  try simp only [flip_f, flip_t, decide_eq_true_eq, decide_eq_false_iff_not]
  refine ⟨by omega, by omega, ⟨ht0, ?_⟩, ?_⟩
  · simp [nst]
  intro line left ran out t h0 h1 hst _ _ _ _ _ _ _ _ _ _
  have htt : ((t.toNat : Nat) : Int) = t := by omega
  have hW := nst_WF (n := n) (sl := sl) hall t.toNat
  have hB := nst_BD (n := n) (sl := sl) hall n8 t.toNat
  rw [hst, htt] at hW hB
  refine ⟨fun ht => ?_, fun ht => ?_⟩
  rotate_left
  · have : t = tk := by omega
    subst this
    unfold nrun
    rw [hst]
  refine ⟨⟨by omega, rfl⟩, ?_⟩
  intro line1 left1 k k0 k1 hcm _ _ _ _ _ _
  have hW1 := cq_WF hW (k := k.toNat) (by omega)
  have hB1 := cq_BD (now := t) hall hB (by omega) (k := k.toNat) (by omega)
  have hq1 : cq l t k.toNat (line, left, ran) = (line1, left1, ran) := by unfold cq; rw [← hcm]
  have hlen1 : line1.length ≤ l.length := len_le (by have := hW1.2.2.1; rw [hq1] at this; exact this) (by have := hW1.2.1; rw [hq1] at this; exact this)
  refine ⟨fun hk => ⟨⟨k0, hk⟩, fun hc => ?_, fun hc => ?_⟩, fun hk => ?_⟩
  · have hcs := cq_succ (l := l) (now := t) (k := k.toNat) (q := (line, left, ran))
    have e : ((k.toNat : Nat) : Int) = k := by omega
    rw [e, hq1, if_pos (show (th l k).1 = t from hc)] at hcs
    refine ⟨by omega, ⟨by omega, ?_⟩, by omega, ⟨by omega, by omega, ?_⟩, by omega⟩
    · have := hW1.1.1
      rw [hq1] at this
      have : left1.length = l.length := this
      omega
    · have e2 : (k + 1).toNat = k.toNat + 1 := by omega
      rw [e2]
      unfold cq at hcs
      simp only [Prod.mk.injEq] at hcs
      exact (Prod.ext hcs.1 hcs.2.1).symm
  · have hcs := cq_succ (l := l) (now := t) (k := k.toNat) (q := (line, left, ran))
    have e : ((k.toNat : Nat) : Int) = k := by omega
    rw [e, hq1, if_neg (show ¬ (th l k).1 = t from hc)] at hcs
    refine ⟨by omega, ⟨by omega, by omega, ?_⟩, by omega⟩
    have e2 : (k + 1).toNat = k.toNat + 1 := by omega
    rw [e2]
    unfold cq at hcs
    simp only [Prod.mk.injEq] at hcs
    exact (Prod.ext hcs.1 hcs.2.1).symm
  have hkl : k.toNat = l.length := by omega
  rw [hkl] at hq1 hW1 hB1
  clear hcm hk k0 k1 hkl
  have hm1 : ∀ y ∈ line1, 0 ≤ y ∧ y < l.length := by have := hW1.2.1; rw [hq1] at this; exact this
  have hll : left1.length = l.length := by have := hW1.1.1; rw [hq1] at this; exact this
  refine ⟨by rw [show (31 - 31 : Int).toNat = 0 from rfl]; simp [pk], ?_⟩
  intro run lev _ v0 v1 hrun _ _ _ _
  refine ⟨fun hv => ⟨⟨by omega, ?_⟩, ?_⟩, fun hv => ?_⟩
  · rw [hrun]
    unfold selL
    simp
  · intro run2 j j0 j1 hrun2 _ _ _ _
    have hlen2 : run2.length ≤ n.toNat := by rw [hrun2, List.length_take]; omega
    refine ⟨fun hj => ?_, fun hj => ?_⟩
    · have hy := hm1 _ (getD_mem (l := line1) (i := j.toNat) (d := 0) (by omega))
      have hsn := sel_snoc (l := l) (left := left1) (lev := lev) j0 hj
      refine ⟨⟨j0, hj⟩, hy, fun hc => ⟨hc, by omega⟩, fun hc hd hn => ⟨⟨by omega, by omega⟩, by omega, ⟨by omega, by omega, ?_⟩, by omega⟩, fun hc => ⟨by omega, ⟨by omega, by omega, ?_⟩, by omega⟩⟩
      · rw [hsn, if_pos ⟨hc, hd⟩, ← List.append_assoc]
        exact take_put hrun2 (by omega)
      · rw [hsn, ← List.append_assoc]
        by_cases hn : (run2.length : Int) < n
        · rw [if_neg (by rintro ⟨e1, e2⟩; rcases hc with (hc | hc) | hc <;> first | exact hc e1 | exact hc e2 | exact hc hn), List.append_nil]
          exact hrun2
        · exact take_full hrun2 (by omega)
    · refine ⟨by omega, ⟨by omega, by omega, ?_⟩, by omega⟩
      rw [takeI_all (by omega : (line1.length : Int) ≤ j)] at hrun2
      have e : (31 - (lev - 1)).toNat = (31 - lev).toNat + 1 := by omega
      rw [hrun2, e]
      show _ = List.take n.toNat (pk l left1 line1 (31 - lev).toNat ++ selL l left1 line1 (31 - ((31 - lev).toNat : Int)))
      rw [show 31 - ((31 - lev).toNat : Int) = lev by omega]
  have e31 : (31 - lev).toNat = 32 := by omega
  rw [e31] at hrun
  have hcm : cm l t (line, left, ran) = (line1, left1) := by
    unfold cq at hq1
    unfold cm
    simp only [Prod.mk.injEq] at hq1
    exact Prod.ext hq1.1 hq1.2.1
  have hruns : runs n l t (line, left, ran) = run := by unfold runs; rw [hcm, hrun]
  have hmid : mid l t (line, left, ran) = (line1, left1, ran) := by unfold mid; rw [hcm]
  clear hcm
  have hrm : ∀ y ∈ run, y ∈ line1 := fun y hy => by
    rw [hrun] at hy
    exact pk_mem (List.mem_of_mem_take hy)
  have hrl : run.length ≤ 8 := by rw [hrun, List.length_take]; omega
  clear hrun e31
  refine ⟨by omega, ⟨by omega, rfl⟩, ?_⟩
  intro line2 left2 ran2 j _ j0 j1 hf _ _ _ _ _ _ _ _
  have hW1' : WF l t l.length (line1, left1, ran) := by rw [← hq1]; exact hW1
  have hB1' : BD (line1, left1, ran) (8 * t) := by rw [← hq1]; exact hB1
  obtain ⟨hW2, hmem2⟩ := foldA_WF (sl := sl) (ys := run.take j.toNat) hW1' (fun y hy => hrm y (List.mem_of_mem_take hy))
  have hB2 := foldA_BD (sl := sl) (ys := run.take j.toNat) hB1' (by omega)
  rw [← hf] at hW2 hmem2 hB2
  have hBL : (8 * t + ((run.take j.toNat).length : Int)) ≤ 17000 := by rw [List.length_take]; omega
  refine ⟨fun hj => ?_, fun hj => ?_⟩
  rotate_left
  · rw [takeI_all (by omega), ← hmid] at hf
    have ho := nst_out (n := n) (sl := sl) (l := l) t.toNat
    rw [hst] at ho
    have ho : out.length = t.toNat := ho
    refine ⟨by show run.length ≤ 400; omega, ⟨by omega, by omega⟩, by omega, ⟨by omega, by omega, ?_⟩, by omega⟩
    rw [show (t + 1).toNat = t.toNat + 1 by omega, nst_succ, hst, htt]
    simp only []
    rw [hruns, ← hf]
  have hyr := getD_mem (l := run) (i := j.toNat) (d := 0) (by omega)
  have hy2 := (hmem2 _).2 (hrm _ hyr)
  have hsn := foldA_snoc (sl := sl) j0 hj (line1, left1, ran)
  rw [← hf] at hsn
  generalize run.getD j.toNat 0 = y at *
  obtain ⟨⟨g1, g2⟩, g3, g4, g5⟩ := hW2
  have g1 : left2.length = l.length := g1
  have g2 : ran2.length = l.length := g2
  have hyl := g3 y hy2
  have hb := hB2 y.toNat
  have hb1 : -(8 * t + ((run.take j.toNat).length : Int)) ≤ left2.getD y.toNat 0 ∧ left2.getD y.toNat 0 ≤ 10000 ∧ 0 ≤ ran2.getD y.toNat 0 ∧ ran2.getD y.toNat 0 ≤ 8 * t + ((run.take j.toNat).length : Int) := hb
  have hl2 : line2.length ≤ l.length := len_le g4 g3
  have hset : (ran2.set y.toNat (ran2.getD y.toNat 0 + 1)).getD y.toNat 0 = ran2.getD y.toNat 0 + 1 := by rw [getD_set' (by omega), if_pos rfl]
  rw [hset]
  have hstA : stA sl (line2, left2, ran2) y = (if (ran2.getD y.toNat 0 + 1) % sl = 0 then line2.filter (fun z => !decide (z = y)) ++ [y] else line2, left2.set y.toNat (left2.getD y.toNat 0 - 1), ran2.set y.toNat (ran2.getD y.toNat 0 + 1)) := rfl
  rw [hstA] at hsn
  refine ⟨⟨j0, hj⟩, by omega, by omega, by omega, by omega, by omega, by omega, by omega, by omega, ?_⟩
  refine ⟨fun hr => ⟨by omega, fun hi => ⟨⟨by omega, by omega⟩, by omega, ⟨by omega, by omega, ?_⟩, by omega⟩, fun hi => ?_⟩, fun hr => ⟨by omega, ⟨by omega, by omega, ?_⟩, by omega⟩⟩
  · rw [hsn, if_pos hr]
    rcases idx_iff (l := line2) (x := y) with ⟨_, h⟩ | ⟨h, _⟩
    · rw [fil_id h]
    · omega
  · rcases idx_iff (l := line2) (x := y) with ⟨h, _⟩ | ⟨i0, i1, i2, i3⟩
    · exact absurd h hi
    have hcap : (fun z => !decide (z = capK (some y))) = (fun z : Int => !(fun z => decide (z = y)) z) := rfl
    rw [hcap]
    refine ⟨by omega, ⟨⟨i0, by omega, by omega⟩, ?_⟩, ?_⟩
    · exact df_init (P := fun z => decide (z = y)) i0 i1 (any_none i3) (by rw [i2]; simp)
    intro w a b a0 a1 b1 hwl htk hdr _ _ _ _ _ _
    refine ⟨fun hb => ⟨⟨by omega, hb⟩, fun hne => ⟨by omega, by omega, by omega, ⟨⟨by omega, by omega, by omega⟩, hwl, ?_⟩, by omega⟩, fun he => ⟨by omega, ⟨⟨by omega, by omega, by omega⟩, hwl, ?_⟩, by omega⟩⟩, fun hb => ?_⟩
    · exact df_keep (P := fun z => decide (z = y)) a0 a1 hb hwl htk hdr (decide_eq_false hne)
    · exact df_skip (P := fun z => decide (z = y)) (by omega) hb hwl htk hdr (decide_eq_true he)
    · refine ⟨by omega, by omega, ⟨by omega, by omega⟩, by omega, ⟨by omega, by omega, ?_⟩, by omega⟩
      rw [df_end (P := fun z => decide (z = y)) (by omega) hb hwl htk, hsn, if_pos hr]
  · rw [hsn, if_neg hr]

end Go.Proofs.Ytpnmfoojmodnlaa.Cores
