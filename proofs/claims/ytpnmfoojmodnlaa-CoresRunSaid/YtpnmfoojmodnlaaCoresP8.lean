/-
  CoresRun: the program keeps its contract.
-/
import Derived.Test.YtpnmfoojmodnlaaCoresP7
namespace Go.Proofs.Ytpnmfoojmodnlaa.Cores
open Go.Sx
set_option maxRecDepth 100000
set_option maxHeartbeats 1000000
set_option linter.unusedSimpArgs false
set_option linter.unusedVariables false

theorem K_at {al : List Int} {m : PM} (hk : keys m = al) (hn : al.Nodup) {i : Nat} (hi : i < al.length) :
    thOf m (al.getD i 0) = rec m i ∧ mhas tythread m (al.getD i 0) = true ∧ ∀ v, mput tythread m (al.getD i 0) v = mset m i v := by
  subst hk
  have : i < m.length := by rw [← keys_len]; exact hi
  exact ⟨th_key hn this, has_key this, fun v => put_key hn this⟩
theorem map_getD {f : Int → Int} {xs : List Int} {j : Nat} (h : j < xs.length) : (xs.map f).getD j (-1) = f (xs.getD j 0) := by
  rw [List.getD_eq_getElem?_getD, List.getElem?_map, List.getElem?_eq_getElem h, List.getD_eq_getElem?_getD, List.getElem?_eq_getElem h]; rfl
theorem take_min' {α : Type} {xs : List α} {n : Int} (h : 0 ≤ n) : xs.take (min n (xs.length : Int)).toNat = xs.take n.toNat := by
  by_cases e : n ≤ xs.length
  · rw [Int.min_eq_left e]
  · rw [Int.min_eq_right (by omega), List.take_of_length_le (by omega), List.take_of_length_le (by omega)]
theorem e_run (x : Int × Int × List Th × Int × Unit) (hp : True) (hl : LensL cRun.as x) : E_run x := by
  obtain ⟨n, sl, l, tk, u⟩ := x
  have hlen : l.length ≤ 9223372036854775807 := hl.2.2.1.1
  clear hl hp
  unfold E_run
  simp only [Bool.not_eq_true', Bool.not_eq_false', Bool.not_eq_true, Bool.not_eq_false, beq_self_eq_true, decide_eq_true_eq, decide_eq_false_iff_not, Bool.not_false, Bool.not_true, beq_iff_eq, beq_eq_false_iff_ne, bne_iff_ne, ne_eq, bne_eq_false_iff_eq, holds_iff, true_and, and_true, and_self, eq_self, List.length_cons, List.length_nil, List.length_append, List.length_set, List.length_replicate, List.set_cons_zero, cond_true, cond_false, Bool.false_eq_true, Bool.true_eq_false, forall_const, false_imp_iff, imp_self, implies_true, and_imp, Decidable.not_not, Bool.and_eq_true, Bool.or_eq_true, Bool.and_eq_false_iff, Bool.or_eq_false_iff, ← List.length_eq_zero_iff, or_self, or_false, false_or, Prod.forall, Int.reduceEq, Int.reduceLT, Int.reduceLE, List.nil_append, Nat.zero_add, Int.toNat_zero, List.drop_zero, List.length_drop, List.length_take, not_true_eq_false, not_false_eq_true]
  try simp only [flip_f, flip_t, decide_eq_true_eq, decide_eq_false_iff_not]
  refine ⟨fun h => ?_, fun h => ⟨fun h1 => ?_, fun h1 h2 => ?_⟩⟩
  · unfold crun
    rw [if_pos (.inl h)]
    rcases wr_cases n sl l with e | e
    · exact absurd e h
    · exact ⟨rfl, e⟩
  · unfold crun
    rw [if_pos (.inr h1)]
    exact ⟨rfl, rfl⟩
  have hcr : crun n sl l tk = (nrun n sl l tk, 0) := by
    unfold crun
    rw [if_neg]
    rintro (e | e | e)
    · exact e h
    · exact h1 e
    · exact h2 e
  obtain ⟨⟨n1, n8, s1, s2, l64⟩, hall⟩ := wr_zero h
  have l64' : l.length ≤ 64 := l64
  rw [hcr]
  clear hcr h
  refine ⟨by omega, ⟨by omega, by omega, rfl, fun i hi => by omega⟩, ?_⟩
  intro al k m k0 k1 hal hk hr _ _ _ _ hnd hpos
  refine ⟨fun hkk => ⟨⟨k0, hkk⟩, fun g g0 hg => ⟨⟨k0, by omega⟩, by omega, ⟨by omega, by omega, hal, lay_next k0 (by omega) hk hr hg rfl⟩, by omega⟩⟩, fun hkk => ?_⟩
  have hkl : k.toNat = l.length := by omega
  rw [hkl] at hk
  have hka : keys m = al := by rw [hk, ← hal, List.take_length]
  have hn : al.Nodup := by rw [← hka]; exact hnd
  have hap : ∀ i : Nat, i < al.length → 0 ≤ al.getD i 0 := fun i hi => by
    have hm := getD_mem (l := al) (d := 0) hi
    rw [← hka] at hm
    obtain ⟨⟨e, ⟨e1, e2, e3⟩, e4, e5, e6⟩, he, hee⟩ := List.mem_map.1 hm
    rw [hka] at hee
    rw [← hee]
    exact (hpos _ _ _ _ _ _ _ he).1
  have hRT0 : RT l sl 0 al m (nst n sl l 0).1 := RT_start hk hal (fun i hi => hr i (by omega))
  refine ⟨⟨by omega, by omega, rfl, (nst_WF (n := n) (sl := sl) hall 0).2.2.2, hRT0⟩, ?_⟩
  clear hRT0 hr hk hnd hpos hkk k0 k1 hkl hka
  intro turn out t m t0 t1 u0 u1 hout hIN hRT _ _ _ _ _ _ _ _
  have htt : ((t.toNat : Nat) : Int) = t := by omega
  refine ⟨fun ht => ⟨⟨by omega, ⟨u0, by omega⟩, rfl, ⟨_, rfl, hRT⟩⟩, ?_⟩, fun ht => ?_⟩
  rotate_left
  · have : t = tk := by omega
    subst this
    exact ⟨hout.symm, rfl⟩
  have hWq := nst_WF (n := n) (sl := sl) hall t.toNat
  have hBq := nst_BD (n := n) (sl := sl) hall n8 t.toNat
  rw [htt] at hWq hBq
  have hns := nst_succ (n := n) (sl := sl) (l := l) (t := t.toNat)
  have hout2 := nst_out (n := n) (sl := sl) (l := l) t.toNat
  rw [hout] at hout2
  rw [hout, htt] at hns
  clear hIN hRT hout u0 u1
  generalize (nst n sl l t.toNat).fst = q at *
  intro turn rd k m k0 k1 u0 u1 hrd hR _ _ _ _ _ _ _ _
  obtain ⟨q', hq', hR⟩ := hR
  rw [hq'] at hR
  clear hq' q'
  have hWk := cq_WF hWq (k := k.toNat) (by omega)
  have hR : RT l sl turn al m (cq l t k.toNat q) := hR
  refine ⟨fun hkk => ?_, fun hkk => ?_⟩
  · have hi : k.toNat < l.length := by omega
    have ekk : ((k.toNat : Nat) : Int) = k := by omega
    rw [getD_any (l := al) (by omega) (-1) 0]
    obtain ⟨e1, e2, e3⟩ := RT_at hR hn hi
    have hage := hap k.toNat (by omega)
    refine ⟨⟨k0, hkk⟩, ⟨hage, e2, fun hc => ⟨by omega, hage, e2, (if_pos (show (thOf m (al.getD k.toNat 0)).1.1 = t from hc)).symm⟩, fun hc => (if_neg (show ¬ (thOf m (al.getD k.toNat 0)).1.1 = t from hc)).symm⟩, ?_⟩
    intro turn2 m2 hcm _ _ _ _
    obtain ⟨R1, ⟨v1, v2⟩, K1, F1⟩ := RT_come hR hWk hn hi hcm
    obtain ⟨f1, f2, f3⟩ := RT_at R1 hn hi
    have e1k : (k + 1).toNat = k.toNat + 1 := by omega
    have hth : mval tythread m2 (al.getD k.toNat 0) = rec m2 k := by rw [← ekk]; exact f1
    have hco : (th l k).1 = (rec m2 k).1.1 := by
      have := (R1.2.2.2.1 _ hi).1.1
      rw [ekk] at this
      exact this.symm
    have hsucc := rdy_succ (l := l) (now := t) (m := m2) (k := k.toNat)
    rw [rdy_congr (k := k.toNat) K1 F1, ← hrd, ekk, hco, R1.1.1] at hsucc
    have hrl : rd.length ≤ 64 := by
      have := rdy_len (l := l) (now := t) (m := m) (k := k.toNat)
      rw [hrd]
      omega
    rw [hth, e1k]
    refine ⟨hage, f2, fun hc => ⟨hc, hage⟩, fun hc => ⟨hc, f2⟩, fun hc hw => ⟨by omega, by omega, ⟨by omega, by omega, by omega, ?_, ⟨q, rfl, R1⟩⟩, by omega⟩, fun hc => ⟨by omega, ⟨by omega, by omega, by omega, ?_, ⟨q, rfl, R1⟩⟩, by omega⟩⟩
    · rw [hsucc, if_pos ⟨hc, hw⟩]
    · rw [hsucc, if_neg (by rintro ⟨a, b⟩; exact hc.elim (fun h => h a) (fun h => h b)), List.append_nil]
  have hkl : k.toNat = l.length := by omega
  rw [hkl] at hR hWk
  have hR : RT l sl turn al m (mid l t q) := hR
  have hW : WF l t l.length (mid l t q) := hWk
  have hrd : rd = rdy l t m l.length := by rw [hrd, hkl]
  obtain ⟨S1, S2, S3⟩ := sort_runs hall hR hn hW
  rw [← hrd] at S1 S2 S3
  have hrl : rd.length ≤ 64 := by
    have := rdy_len (l := l) (now := t) (m := m) (k := l.length)
    rw [hrd]
    omega
  have hLs : List.take (min n (sortT m rd).length).toNat (sortT m rd) = (runs n l t q).map (fun y => al.getD y.toNat 0) := by
    rw [take_min' (by omega), S1, ← List.map_take]
    rfl
  have hmin : min (min n (sortT m rd).length).toNat (sortT m rd).length = (runs n l t q).length := by
    have := congrArg List.length hLs
    rw [List.length_take, List.length_map] at this
    exact this
  have hrn := runs_len (n := n) (now := t) (l := l) (q := q)
  rw [hLs, hmin]
  refine ⟨⟨hrl, S2, S3⟩, ⟨by omega, Int.min_le_right _ _⟩, ⟨by omega, ⟨by omega, by omega⟩, ⟨q, rfl, rfl, hR⟩⟩, ?_⟩
  clear S1 S2 S3 hLs hmin hrd hrl hkl hkk hWk hR u0 u1 k0 k1
  intro turn ids j m j0 j1 u0 u1 hR _ _ _ _ _ _ _ _
  obtain ⟨q', hq', hids, hR⟩ := hR
  rw [hq'] at hR hids
  clear hq' q'
  have hrm : ∀ y ∈ runs n l t q, y ∈ (mid l t q).1 := fun y hy => runs_mem hy
  have hB : BD (mid l t q) (8 * t) := cq_BD hall hBq (by omega) (Nat.le_refl _)
  refine ⟨fun hj => ?_, fun hj => ?_⟩
  rotate_left
  · have hjl : (runs n l t q).take j.toNat = runs n l t q := takeI_all (by omega)
    rw [hjl] at hR hids
    have e1 : (t + 1).toNat = t.toNat + 1 := by omega
    have hWn := nst_WF (n := n) (sl := sl) hall (t.toNat + 1)
    have e2 : ((t.toNat + 1 : Nat) : Int) = t + 1 := by omega
    rw [e2] at hWn
    rw [e1]
    have hil : ids.length ≤ 8 := by rw [hids]; omega
    refine ⟨by show ids.length ≤ 400; omega, ⟨by omega, by omega⟩, by omega, ⟨by omega, by omega, ⟨by omega, by omega⟩, ?_, hWn.2.2.2, ?_⟩, by omega⟩
    · rw [hns, hids]
    · rw [hns]
      exact hR
  obtain ⟨hW2, hmem2⟩ := foldA_WF (sl := sl) (ys := (runs n l t q).take j.toNat) hW (fun y hy => hrm y (List.mem_of_mem_take hy))
  have hB2 := foldA_BD (sl := sl) (ys := (runs n l t q).take j.toNat) hB (by omega)
  have hBL : (8 * t + (((runs n l t q).take j.toNat).length : Int)) ≤ 17000 := by rw [List.length_take]; omega
  have hyr := getD_mem (l := runs n l t q) (i := j.toNat) (d := 0) (by omega)
  have hy2 := (hmem2 _).2 (hrm _ hyr)
  have hsn := foldA_snoc (sl := sl) j0 hj (mid l t q)
  have hts := takeI_succ 0 j0 hj
  rw [map_getD (by omega)]
  generalize (runs n l t q).getD j.toNat 0 = y at *
  generalize ((runs n l t q).take j.toNat).foldl (stA sl) (mid l t q) = q2 at *
  have hyl := hW2.2.1 y hy2
  have hi : y.toNat < l.length := by omega
  have ey : ((y.toNat : Nat) : Int) = y := by omega
  have hia : y.toNat < al.length := by omega
  have hage := hap y.toNat hia
  obtain ⟨e1, e2, e3⟩ := RT_at hR hn hi
  have hbd := hB2 y.toNat
  have hyq : ((y.toNat : Nat) : Int) ∈ q2.1 := by rw [ey]; exact hy2
  have hold := (hR.2.2.2.1 _ hi).2.1 hyq
  have hid := (hR.2.2.2.1 _ hi).1.2.2
  obtain ⟨RA, RB⟩ := RT_run hR hi hyq s1 hbd.2.2.1
  have hil : ids.length ≤ 64 := by rw [hids, List.length_take]; omega
  have hml := RT_len hR
  have hmk := hR.1.1
  have e1' : mval tythread m (al.getD y.toNat 0) = rec m y.toNat := e1
  rw [e1']
  have hused := Int.emod_lt_of_pos (q2.2.2.getD y.toNat 0) (show 0 < sl by omega)
  have hused0 := Int.emod_nonneg (q2.2.2.getD y.toNat 0) (show sl ≠ 0 by omega)
  have hdec : decW m (al.getD y.toNat 0) = mset m y.toNat (((rec m y.toNat).1.1, (rec m y.toNat).1.2.1, (rec m y.toNat).1.2.2 - 1), (rec m y.toNat).2) := by
    unfold decW
    rw [e1]
    exact e3 _
  have hold1 : (rec m (y.toNat : Int)).1.2.2 = q2.2.1.getD y.toNat 0 := hold.1
  have hold2 : (rec m (y.toNat : Int)).2.2.2 = q2.2.2.getD y.toNat 0 % sl := hold.2.1
  have hfit : (-9223372036854775808 : Int) ≤ (rec m (y.toNat : Int)).1.2.2 - 1 ∧ (rec m (y.toNat : Int)).1.2.2 - 1 ≤ (9223372036854775807 : Int) := by
    rw [hold1]
    omega
  have hfit2 : (-9223372036854775808 : Int) ≤ (rec m (y.toNat : Int)).2.2.2 + 1 ∧ (rec m (y.toNat : Int)).2.2.2 + 1 ≤ (9223372036854775807 : Int) := by
    rw [hold2]
    omega
  refine ⟨⟨j0, hj⟩, hage, e2, ⟨by omega, by omega⟩, ⟨hage, e2, hfit, hage, e2, ?_⟩, ?_⟩
  · rw [hdec]
    exact e3 _
  intro m3 hm3 _ _
  rw [hdec] at hm3
  have hm3k : keys m3 = al := by rw [hm3, mset_keys, hmk]
  obtain ⟨f1, f2, f3⟩ := K_at hm3k hn hia
  have hm3r : rec m3 y.toNat = (((rec m y.toNat).1.1, (rec m y.toNat).1.2.1, (rec m y.toNat).1.2.2 - 1), (rec m y.toNat).2) := by rw [hm3, mset_rec (by omega), if_pos rfl]
  have f1' : mval tythread m3 (al.getD y.toNat 0) = rec m3 y.toNat := f1
  have hinc : incU m3 (al.getD y.toNat 0) = mset m y.toNat (((rec m y.toNat).1.1, (rec m y.toNat).1.2.1, (rec m y.toNat).1.2.2 - 1), (rec m y.toNat).2.1, (rec m y.toNat).2.2.1, (rec m y.toNat).2.2.2 + 1) := by
    unfold incU
    rw [f1, f3, hm3r, hm3, mset_mset]
  rw [f1', hm3r]
  refine ⟨⟨hage, f2, hfit2, hage, f2, ?_⟩, ?_⟩
  · rw [hinc, f3, hm3, mset_mset]
  intro m4 hm4 _ _
  rw [hinc] at hm4
  have hm4k : keys m4 = al := by rw [hm4, mset_keys, hmk]
  obtain ⟨g1, g2, g3⟩ := K_at hm4k hn hia
  have hm4r : rec m4 y.toNat = (((rec m y.toNat).1.1, (rec m y.toNat).1.2.1, (rec m y.toNat).1.2.2 - 1), (rec m y.toNat).2.1, (rec m y.toNat).2.2.1, (rec m y.toNat).2.2.2 + 1) := by rw [hm4, mset_rec (by omega), if_pos rfl]
  have g1' : mval tythread m4 (al.getD y.toNat 0) = rec m4 y.toNat := g1
  rw [g1', hm4r]
  simp only []
  rw [g3]
  have hm5k : keys (mset m4 y.toNat (((rec m y.toNat).1.1, (rec m y.toNat).1.2.1, (rec m y.toNat).1.2.2 - 1), (rec m y.toNat).2.1, (rec m y.toNat).2.2.1, 0)) = al := by rw [mset_keys, hm4k]
  obtain ⟨p1, p2, p3⟩ := K_at hm5k hn hia
  have hml4 : m4.length = m.length := by rw [hm4, mset_len]
  have p1' : mval tythread (mset m4 y.toNat (((rec m y.toNat).1.1, (rec m y.toNat).1.2.1, (rec m y.toNat).1.2.2 - 1), (rec m y.toNat).2.1, (rec m y.toNat).2.2.1, 0)) (al.getD y.toNat 0) = (((rec m y.toNat).1.1, (rec m y.toNat).1.2.1, (rec m y.toNat).1.2.2 - 1), (rec m y.toNat).2.1, (rec m y.toNat).2.2.1, 0) := by
    refine Eq.trans p1 ?_
    rw [mset_rec (by omega), if_pos rfl]
  rw [p1', p3, mset_mset]
  have hids' : ids ++ [(rec m (y.toNat : Int)).2.1] = (runs n l t q).take (j + 1).toNat := by rw [hts, hids, hid, ey]
  rw [hids']
  refine ⟨hage, g2, fun hu => ⟨by omega, hage, g2, hage, p2, by omega, ⟨by omega, by omega, ⟨by omega, by omega⟩, ⟨q, rfl, rfl, ?_⟩⟩, by omega⟩, fun hu => ⟨by omega, ⟨by omega, by omega, ⟨by omega, by omega⟩, ⟨q, rfl, rfl, ?_⟩⟩, by omega⟩⟩
  · rw [hsn, hm4, mset_mset, ← ey]
    exact RA hu
  · rw [hsn, hm4, ← ey]
    exact RB hu

end Go.Proofs.Ytpnmfoojmodnlaa.Cores
