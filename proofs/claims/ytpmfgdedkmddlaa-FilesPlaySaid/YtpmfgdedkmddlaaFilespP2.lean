/-
  FilesPlay: the conditions of the small functions.
-/
import Derived.Test.YtpmfgdedkmddlaaFilespP1
namespace Go.Proofs.Ytpmfgdedkmddlaa.Filesp
open Go.Sx
set_option maxRecDepth 100000
set_option maxHeartbeats 1000000
set_option linter.unusedSimpArgs false
set_option linter.unusedVariables false

theorem getD_def {l : List Int} {j : Nat} (h : j < l.length) (a b : Int) : l.getD j a = l.getD j b := by simp [List.getD, h]
theorem mhas_nn {t : Ty} {m : List (Int × t.D)} {a : Int} (hk : ∀ e ∈ m, 0 ≤ e.1) (h : mhas t m a = true) : 0 ≤ a := by
  obtain ⟨e, he, rfl⟩ := List.mem_map.1 (has_mem.1 h)
  exact hk e he
theorem e_least (x : Int × TM × Unit) (hp : mhas TB x.2.1 x.1 = true ∧ (tbOf x.2.1 x.1).length = 16) (hl : pLeast.lens x) : E_least x := by
  obtain ⟨t, m0, u⟩ := x
  obtain ⟨h1, h2⟩ := hp
  simp only [] at h1 h2
  have hk : ∀ e ∈ m0, 0 ≤ e.1 := fun e he => (hl.2.1.2 e he).1
  have ht := mhas_nn (t := TB) hk h1
  have hal : ∀ y ∈ tbOf m0 t, 0 ≤ y + 1 := fun y hy => by
    have hm := has_mem.1 h1
    obtain ⟨e, he, e1⟩ := List.mem_map.1 hm
    obtain ⟨i, hi, e2⟩ := List.mem_iff_getElem.1 he
    have := mget_at hi hl.2.1.1
    have e3 : tbOf m0 t = m0[i].2 := by
      unfold tbOf mval
      rw [← e1, ← e2, this]
    rw [e3, e2] at hy
    have := (hl.2.1.2 e he).2.2 y hy
    exact this.1
  unfold E_least lea
  simp only [Bool.not_eq_true', Bool.not_eq_false', Bool.not_eq_true, Bool.not_eq_false, beq_self_eq_true, decide_eq_true_eq, decide_eq_false_iff_not, Bool.not_false, Bool.not_true, beq_iff_eq, beq_eq_false_iff_ne, bne_iff_ne, ne_eq, bne_eq_false_iff_eq, holds_iff, true_and, and_true, and_self, eq_self, List.length_cons, List.length_nil, List.length_append, List.length_set, List.length_replicate, List.set_cons_zero, cond_true, cond_false, Bool.false_eq_true, Bool.true_eq_false, forall_const, false_imp_iff, imp_self, implies_true, and_imp, Decidable.not_not, Bool.and_eq_true, Bool.or_eq_true, Bool.and_eq_false_iff, Bool.or_eq_false_iff, ← List.length_eq_zero_iff, or_self, or_false, false_or, Prod.forall, Int.reduceEq, Int.reduceLT, Int.reduceLE, List.nil_append, Nat.zero_add, Int.toNat_zero, List.drop_zero, List.length_drop, List.length_take, not_true_eq_false, not_false_eq_true]
  try simp only [flip_f, flip_t, decide_eq_true_eq, decide_eq_false_iff_not]
  refine ⟨rfl, ?_⟩
  rintro k m k0 k1 rfl hn _ _ _ _
  have hm : mval TB m t = tbOf m t := rfl
  refine ⟨fun hk => ⟨ht, ⟨k0, hk⟩, h1, fun hneg => ?_, fun hneg => ?_⟩, fun hk => ?_⟩
  · rw [hm, getD_def (by omega) (-1) 0] at hneg
    have hneg : (tbOf m t).getD k.toNat 0 < (0 : Int) := hneg
    have hmem : (tbOf m t).getD k.toNat 0 ∈ tbOf m t := by
      rw [List.getD, List.getElem?_eq_getElem (by omega)]; exact List.getElem_mem _
    have h3 := hal _ hmem
    rw [idx_at (by omega) hn (show (tbOf m t).getD k.toNat 0 = -1 by omega)]
    rw [if_neg (by omega)]
    exact ⟨⟨by omega, by omega⟩, rfl⟩
  · rw [hm, getD_def (by omega) (-1) 0] at hneg
    have hneg : ¬ (tbOf m t).getD k.toNat 0 < (0 : Int) := hneg
    exact ⟨by omega, ⟨by omega, by omega, rfl, take_none k0 (by omega) hn (by omega)⟩, by omega⟩
  · rw [takeI_all (by omega)] at hn
    rw [idx_none hn]
    exact ⟨⟨rfl, by omega⟩, rfl⟩
theorem e_set (x : Int × Int × Int × TM × OM × Unit) (hp : (mhas TB x.2.2.2.1 x.1 = true ∧ (0 ≤ x.2.1 ∧ x.2.1 < 16)) ∧ (0 ≤ x.2.2.1 ∧ mhas tyopen x.2.2.2.2.1 x.2.2.1 = true) ∧ 0 ≤ (opOf x.2.2.2.2.1 x.2.2.1).2.2.2 ∧ (opOf x.2.2.2.2.1 x.2.2.1).2.2.2 ≤ 1000) (hl : pSet.lens x) : E_set x := by
  obtain ⟨t, fd, o, m0, m1, u⟩ := x
  obtain ⟨⟨h1, h2⟩, ⟨h3, h4⟩, h5, h6⟩ := hp
  simp only [] at h1 h2 h3 h4 h5 h6
  have ht := mhas_nn (t := TB) (fun e he => (hl.2.2.2.1.2 e he).1) h1
  have e1 : (mval tyopen m1 o).2.2.2 = (opOf m1 o).2.2.2 := rfl
  unfold E_set
  simp only [Bool.not_eq_true', Bool.not_eq_false', Bool.not_eq_true, Bool.not_eq_false, beq_self_eq_true, decide_eq_true_eq, decide_eq_false_iff_not, Bool.not_false, Bool.not_true, beq_iff_eq, beq_eq_false_iff_ne, bne_iff_ne, ne_eq, bne_eq_false_iff_eq, holds_iff, true_and, and_true, and_self, eq_self, List.length_cons, List.length_nil, List.length_append, List.length_set, List.length_replicate, List.set_cons_zero, cond_true, cond_false, Bool.false_eq_true, Bool.true_eq_false, forall_const, false_imp_iff, imp_self, implies_true, and_imp, Decidable.not_not, Bool.and_eq_true, Bool.or_eq_true, Bool.and_eq_false_iff, Bool.or_eq_false_iff, ← List.length_eq_zero_iff, or_self, or_false, false_or, Prod.forall, Int.reduceEq, Int.reduceLT, Int.reduceLE, List.nil_append, Nat.zero_add, Int.toNat_zero, List.drop_zero, List.length_drop, List.length_take, not_true_eq_false, not_false_eq_true]
  try simp only [flip_f, flip_t, decide_eq_true_eq, decide_eq_false_iff_not]
  have q : -9223372036854775808 ≤ (opOf m1 o).2.2.2 + 1 ∧ (opOf m1 o).2.2.2 + 1 ≤ 9223372036854775807 := by omega
  refine ⟨h3, h4, q, h3, h4, ht, ⟨by omega, by omega⟩, h1, rfl, ?_⟩
  unfold inc
  rw [if_neg (by omega)]
  rfl
theorem e_drop (x : Int × Int × TM × OM × Unit) (hp : ((mhas TB x.2.2.1 x.1 = true ∧ (0 ≤ x.2.1 ∧ x.2.1 < 16)) ∧ (tbOf x.2.2.1 x.1).length = 16) ∧ (0 ≤ (tbOf x.2.2.1 x.1).getD x.2.1.toNat 0 → mhas tyopen x.2.2.2.1 ((tbOf x.2.2.1 x.1).getD x.2.1.toNat 0) = true ∧ 0 ≤ (opOf x.2.2.2.1 ((tbOf x.2.2.1 x.1).getD x.2.1.toNat 0)).2.2.2 ∧ (opOf x.2.2.2.1 ((tbOf x.2.2.1 x.1).getD x.2.1.toNat 0)).2.2.2 ≤ 1000)) (hl : pDrop.lens x) : E_drop x := by
  obtain ⟨t, fd, m0, m1, u⟩ := x
  obtain ⟨⟨⟨h1, h2⟩, h3⟩, h4⟩ := hp
  simp only [] at h1 h2 h3 h4
  have ht := mhas_nn (t := TB) (fun e he => (hl.2.2.1.2 e he).1) h1
  have e0 : (mval TB m0 t).getD fd.toNat (-1) = (tbOf m0 t).getD fd.toNat 0 := getD_def (l := tbOf m0 t) (by omega) (-1) 0
  unfold E_drop
  simp only [Bool.not_eq_true', Bool.not_eq_false', Bool.not_eq_true, Bool.not_eq_false, beq_self_eq_true, decide_eq_true_eq, decide_eq_false_iff_not, Bool.not_false, Bool.not_true, beq_iff_eq, beq_eq_false_iff_ne, bne_iff_ne, ne_eq, bne_eq_false_iff_eq, holds_iff, true_and, and_true, and_self, eq_self, List.length_cons, List.length_nil, List.length_append, List.length_set, List.length_replicate, List.set_cons_zero, cond_true, cond_false, Bool.false_eq_true, Bool.true_eq_false, forall_const, false_imp_iff, imp_self, implies_true, and_imp, Decidable.not_not, Bool.and_eq_true, Bool.or_eq_true, Bool.and_eq_false_iff, Bool.or_eq_false_iff, ← List.length_eq_zero_iff, or_self, or_false, false_or, Prod.forall, Int.reduceEq, Int.reduceLT, Int.reduceLE, List.nil_append, Nat.zero_add, Int.toNat_zero, List.drop_zero, List.length_drop, List.length_take, not_true_eq_false, not_false_eq_true,  e0]
  refine ⟨ht, ⟨by omega, by omega⟩, h1, fun hc => ?_, fun hc => ?_⟩
  · have hc' : ¬ (tbOf m0 t).getD fd.toNat 0 < (0 : Int) := hc
    obtain ⟨g1, g2, g3⟩ := h4 (by omega)
    have e1 : (mval tyopen m1 ((tbOf m0 t).getD fd.toNat 0)).2.2.2 = (opOf m1 ((tbOf m0 t).getD fd.toNat 0)).2.2.2 := rfl
    have q : -9223372036854775808 ≤ (opOf m1 ((tbOf m0 t).getD fd.toNat 0)).2.2.2 - 1 ∧ (opOf m1 ((tbOf m0 t).getD fd.toNat 0)).2.2.2 - 1 ≤ 9223372036854775807 := by omega
    have q0 : 0 ≤ (tbOf m0 t).getD fd.toNat 0 := by omega
    refine ⟨q0, g1, q, q0, g1, ht, ⟨by omega, by omega⟩, h1, ?_, ?_⟩
    · unfold tdrop; rw [if_neg hc]; rfl
    · unfold dec; rw [if_neg hc]; rfl
  · unfold tdrop dec
    rw [if_pos hc, if_pos hc]
    exact ⟨rfl, rfl⟩
theorem e_free (x : Int × List (List Int) × Unit) (hp : 0 ≤ x.1 ∧ x.1 < 4) (hl : pFree.lens x) : E_free x := by
  obtain ⟨p, m, u⟩ := x
  simp only [] at hp
  have hlen : m.length = 4 := hl.2.1.1
  have hrow : (m.getD p.toNat (List.replicate 16 0)).length = 16 := by
    rw [List.getD, List.getElem?_eq_getElem (by omega)]
    exact (hl.2.1.2 _ (List.getElem_mem _)).1
  have e0 : m.getD p.toNat (List.replicate 16 0) = row m p := by
    unfold row
    simp only [List.getD, List.getElem?_eq_getElem (show p.toNat < m.length by omega)]
    rfl
  have ez : (0 :: 0 :: 0 :: 0 :: 0 :: 0 :: 0 :: 0 :: 0 :: 0 :: 0 :: 0 :: 0 :: 0 :: 0 :: 0 :: [] : List Int) = List.replicate 16 0 := rfl
  unfold E_free
  simp only [ez, e0]
  rw [e0] at hrow
  simp only [Bool.not_eq_true', Bool.not_eq_false', Bool.not_eq_true, Bool.not_eq_false, beq_self_eq_true, decide_eq_true_eq, decide_eq_false_iff_not, Bool.not_false, Bool.not_true, beq_iff_eq, beq_eq_false_iff_ne, bne_iff_ne, ne_eq, bne_eq_false_iff_eq, holds_iff, true_and, and_true, and_self, eq_self, List.length_cons, List.length_nil, List.length_append, List.length_set, List.length_replicate, List.set_cons_zero, cond_true, cond_false, Bool.false_eq_true, Bool.true_eq_false, forall_const, false_imp_iff, imp_self, implies_true, and_imp, Decidable.not_not, Bool.and_eq_true, Bool.or_eq_true, Bool.and_eq_false_iff, Bool.or_eq_false_iff, ← List.length_eq_zero_iff, or_self, or_false, false_or, Prod.forall, Int.reduceEq, Int.reduceLT, Int.reduceLE, List.nil_append, Nat.zero_add, Int.toNat_zero, List.drop_zero, List.length_drop, List.length_take, not_true_eq_false, not_false_eq_true]
  try simp only [flip_f, flip_t, decide_eq_true_eq, decide_eq_false_iff_not]
  refine ⟨⟨hp.1, by omega⟩, rfl, ?_⟩
  rintro k k0 k1 hn _ _
  refine ⟨fun hk => ⟨⟨k0, by omega⟩, fun h => ?_, fun h => ?_⟩, fun hk => ?_⟩
  · rw [idx_at (by omega) hn h]; omega
  · exact ⟨by omega, ⟨by omega, by omega, take_none k0 (by omega) hn h⟩, by omega⟩
  · rw [takeI_all (by omega)] at hn
    exact (idx_none hn).symm

end Go.Proofs.Ytpmfgdedkmddlaa.Filesp
