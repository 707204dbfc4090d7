/-
  VectorPlays: the conditions hold.
-/
import Derived.Test.YtlkhpbjjimjhbaaDoorVecP1
namespace Go.Proofs.YtlkhpbjjimjhbaaDoor.Vec
open Go.Sx
set_option maxRecDepth 100000
set_option maxHeartbeats 1000000
set_option linter.unusedSimpArgs false
set_option linter.unusedVariables false

theorem e_cloneS (x : List (Int × Int) × Unit) (hpre : x.1.length * 16 ≤ 140737488355328) (hlens : LensL cCloneS.as x) : E_cloneS x := by
  obtain ⟨xs, u⟩ := x
  unfold E_cloneS
  simp only [Bool.not_eq_true', Bool.not_eq_false', Bool.not_eq_true, Bool.not_eq_false, beq_self_eq_true, decide_eq_true_eq, decide_eq_false_iff_not, Bool.not_false, Bool.not_true, beq_iff_eq, beq_eq_false_iff_ne, bne_iff_ne, ne_eq, bne_eq_false_iff_eq, holds_iff, true_and, and_true, and_self, eq_self, List.length_cons, List.length_nil, List.length_append, List.length_set, List.length_replicate, List.set_cons_zero, cond_true, cond_false, Bool.false_eq_true, Bool.true_eq_false, forall_const, false_imp_iff, imp_self, implies_true, and_imp, Decidable.not_not, Bool.and_eq_true, Bool.or_eq_true, Bool.and_eq_false_iff, Bool.or_eq_false_iff, ← List.length_eq_zero_iff, or_self, or_false, false_or, Prod.forall, Int.reduceEq, Int.reduceLT, Int.reduceLE, List.nil_append, Nat.zero_add, Int.toNat_zero, List.drop_zero, List.length_drop, List.length_take, not_true_eq_false, not_false_eq_true]
  try simp only [flip_f, flip_t, decide_eq_true_eq, decide_eq_false_iff_not]
  repeat' (first | with_reducible apply And.intro | with_reducible intro _)
  all_goals first | omega | grind
theorem e_eqS (x : List (Int × Int) × List (Int × Int) × Unit) (_ : True) (hl : LensL cEqS.as x) : E_eqS x := by
  obtain ⟨xs, ys, u⟩ := x
  have hlx : xs.length ≤ 9223372036854775807 := hl.1.1
  unfold E_eqS
  simp only [Bool.not_eq_true', Bool.not_eq_false', Bool.not_eq_true, Bool.not_eq_false, beq_self_eq_true, decide_eq_true_eq, decide_eq_false_iff_not, Bool.not_false, Bool.not_true, beq_iff_eq, beq_eq_false_iff_ne, bne_iff_ne, ne_eq, bne_eq_false_iff_eq, holds_iff, true_and, and_true, and_self, eq_self, List.length_cons, List.length_nil, List.length_append, List.length_set, List.length_replicate, List.set_cons_zero, cond_true, cond_false, Bool.false_eq_true, Bool.true_eq_false, forall_const, false_imp_iff, imp_self, implies_true, and_imp, Decidable.not_not, Bool.and_eq_true, Bool.or_eq_true, Bool.and_eq_false_iff, Bool.or_eq_false_iff, ← List.length_eq_zero_iff, or_self, or_false, false_or, Prod.forall, Int.reduceEq, Int.reduceLT, Int.reduceLE, List.nil_append, Nat.zero_add, Int.toNat_zero, List.drop_zero, List.length_drop, List.length_take, not_true_eq_false, not_false_eq_true,  deq_iff, deq_false, pair_eta]
  repeat' (first | with_reducible apply And.intro | with_reducible intro _)
  all_goals try omega
  all_goals grind [takeI_succ, takeI_all]
theorem e_eqE (x : List Int × List Int × Unit) (_ : True) (hl : LensL cEqI.as x) : E_eqE x := by
  obtain ⟨xs, ys, u⟩ := x
  have hlx : xs.length ≤ 9223372036854775807 := hl.1.1
  unfold E_eqE
  simp only [Bool.not_eq_true', Bool.not_eq_false', Bool.not_eq_true, Bool.not_eq_false, beq_self_eq_true, decide_eq_true_eq, decide_eq_false_iff_not, Bool.not_false, Bool.not_true, beq_iff_eq, beq_eq_false_iff_ne, bne_iff_ne, ne_eq, bne_eq_false_iff_eq, holds_iff, true_and, and_true, and_self, eq_self, List.length_cons, List.length_nil, List.length_append, List.length_set, List.length_replicate, List.set_cons_zero, cond_true, cond_false, Bool.false_eq_true, Bool.true_eq_false, forall_const, false_imp_iff, imp_self, implies_true, and_imp, Decidable.not_not, Bool.and_eq_true, Bool.or_eq_true, Bool.and_eq_false_iff, Bool.or_eq_false_iff, ← List.length_eq_zero_iff, or_self, or_false, false_or, Prod.forall, Int.reduceEq, Int.reduceLT, Int.reduceLE, List.nil_append, Nat.zero_add, Int.toNat_zero, List.drop_zero, List.length_drop, List.length_take, not_true_eq_false, not_false_eq_true]
  try simp only [flip_f, flip_t, decide_eq_true_eq, decide_eq_false_iff_not]
  repeat' (first | with_reducible apply And.intro | with_reducible intro _)
  all_goals try omega
  all_goals grind [takeI_succ, takeI_all]
theorem pl_fin {C L k : Int} {ops : List (Int × Int × Int)} {l l' : VS} {e : List Int} {c : Int} (h0 : 0 ≤ k) (h1 : k < ops.length) (h : plV C L (ops.take k.toNat) = (l, e)) (hs : stepV C l (ops.getD k.toNat (0, 0, 0)) = (l', c)) :
    plV C L (ops.take (k + 1).toNat) = (l', e ++ [c]) := by
  unfold plV at h ⊢
  rw [foldl_takeI (0, 0, 0) h0 h1, h]
  unfold oneV
  simp only [hs]
theorem step_len (C : Int) (l : VS) (o : Int × Int × Int) : (stepV C l o).1.length = l.length := by
  unfold stepV
  repeat' split
  all_goals simp
theorem pl_len (C L : Int) (ops : List (Int × Int × Int)) : (plV C L ops).1.length = L.toNat := by
  have : ∀ (ops : List (Int × Int × Int)) (s : VS × List Int), (ops.foldl (oneV C) s).1.length = s.1.length := fun ops => by
    induction ops with
    | nil => intro s; rfl
    | cons o r ih => intro s; rw [List.foldl_cons, ih]; exact step_len _ _ _
  unfold plV
  rw [this]; simp
theorem and_one (y : Int) : Go.bits .and .i64 y 1 = y % 2 := by
  show Go.IntKind.wrap .i64 (((BitVec.ofInt 64 y &&& BitVec.ofInt 64 1).toNat : Nat) : Int) = _
  have h2 : (BitVec.ofInt 64 y &&& BitVec.ofInt 64 1).toNat = (y % 2).toNat := by
    rw [BitVec.toNat_and]
    show (BitVec.ofInt 64 y).toNat &&& 1 = _
    rw [Nat.and_one_is_mod, BitVec.toNat_ofInt]
    simp only [Nat.reducePow]
    omega
  rw [h2]
  have hm : y % 2 = 0 ∨ y % 2 = 1 := by omega
  rcases hm with h | h <;> rw [h] <;> rfl
theorem mb_iff {m j : Int} (h0 : 0 ≤ j) (h8 : j < 64) : Go.bits .and .i64 (m / 2 ^ min j.toNat IntKind.i64.bits) 1 = 1 ↔ mbit m j.toNat = true := by
  rw [and_one, show min j.toNat IntKind.i64.bits = j.toNat from Nat.min_eq_left (show j.toNat ≤ 64 by omega)]
  unfold mbit
  simp
theorem okc_iff {m b j : Int} (h0 : 0 ≤ j) : okc m b j.toNat = true ↔ mbit m j.toNat = true ∧ ¬ j = b := by
  unfold okc
  simp only [Bool.and_eq_true, Bool.not_eq_true', decide_eq_false_iff_not, Int.toNat_of_nonneg h0]
theorem best_body {C m b a j : Int} {t : List (List Int)} (hC : 1 ≤ C ∧ C ≤ 8) (htl : (t.length : Int) = C) (hj0 : 0 ≤ j) (hjl : j < C) (ha : a = (bst (okc m b) (ldT t) j.toNat).fst) :
    0 ≤ j ∧ (Go.bits .and .i64 (m / 2 ^ min j.toNat IntKind.i64.bits) 1 = 1 → ¬ j = b → (Go.bits .and .i64 (m / 2 ^ min j.toNat IntKind.i64.bits) 1 = 1 ∧ ¬ j = b) ∧ (0 ≤ j ∧ j < (t.length : Int)) ∧
      (((allOf (t.getD j.toNat [0, 0, 0, 0])).length : Int) < 224 →
        (¬ a < 0 → ¬ a < 0 ∧ (0 ≤ j ∧ j < (t.length : Int)) ∧ (0 ≤ a ∧ a < (t.length : Int)) ∧
          (((allOf (t.getD j.toNat [0, 0, 0, 0])).length : Int) < ((allOf (t.getD a.toNat [0, 0, 0, 0])).length : Int) →
            (-9223372036854775808 ≤ j + 1 ∧ j + 1 ≤ 9223372036854775807) ∧ (0 ≤ j + 1 ∧ j + 1 ≤ C ∧ j = (bst (okc m b) (ldT t) (j + 1).toNat).fst) ∧ (C - (j + 1)).toNat < (C - j).toNat) ∧
          (¬ ((allOf (t.getD j.toNat [0, 0, 0, 0])).length : Int) < ((allOf (t.getD a.toNat [0, 0, 0, 0])).length : Int) →
            (-9223372036854775808 ≤ j + 1 ∧ j + 1 ≤ 9223372036854775807) ∧ (0 ≤ j + 1 ∧ j + 1 ≤ C ∧ a = (bst (okc m b) (ldT t) (j + 1).toNat).fst) ∧ (C - (j + 1)).toNat < (C - j).toNat)) ∧
        (a < 0 → (-9223372036854775808 ≤ j + 1 ∧ j + 1 ≤ 9223372036854775807) ∧ (0 ≤ j + 1 ∧ j + 1 ≤ C ∧ j = (bst (okc m b) (ldT t) (j + 1).toNat).fst) ∧ (C - (j + 1)).toNat < (C - j).toNat)) ∧
      (¬ ((allOf (t.getD j.toNat [0, 0, 0, 0])).length : Int) < 224 →
        (-9223372036854775808 ≤ j + 1 ∧ j + 1 ≤ 9223372036854775807) ∧ (0 ≤ j + 1 ∧ j + 1 ≤ C ∧ a = (bst (okc m b) (ldT t) (j + 1).toNat).fst) ∧ (C - (j + 1)).toNat < (C - j).toNat)) ∧
    (¬ Go.bits .and .i64 (m / 2 ^ min j.toNat IntKind.i64.bits) 1 = 1 ∨ j = b →
      (-9223372036854775808 ≤ j + 1 ∧ j + 1 ≤ 9223372036854775807) ∧ (0 ≤ j + 1 ∧ j + 1 ≤ C ∧ a = (bst (okc m b) (ldT t) (j + 1).toNat).fst) ∧ (C - (j + 1)).toNat < (C - j).toNat) := by
  have hj64 : j < 64 := by omega
  have e1 : (j + 1).toNat = j.toNat + 1 := by omega
  have hld : ∀ i : Int, ((allOf (t.getD i.toNat [0, 0, 0, 0])).length : Int) = ldT t i.toNat := fun _ => rfl
  have hR : (-9223372036854775808 ≤ j + 1 ∧ j + 1 ≤ 9223372036854775807) := by omega
  have hM : (C - (j + 1)).toNat < (C - j).toNat := by omega
  rw [mb_iff hj0 hj64, e1]
  simp only [hld]
  have hspec := bst_spec (okc m b) (ldT t) j.toNat
  rw [← ha] at hspec
  have hab : ¬ a < 0 → 0 ≤ a ∧ a < (t.length : Int) := fun h => by
    rcases hspec with h' | ⟨h1, h2, _⟩
    · rw [h'] at ha; simp at ha; omega
    · omega
  refine ⟨hj0, fun q1 q2 => ⟨⟨q1, q2⟩, ⟨hj0, by omega⟩, fun q3 => ⟨fun q4 => ⟨q4, ⟨hj0, by omega⟩, hab q4, fun q5 => ⟨hR, ⟨by omega, by omega, ?_⟩, hM⟩, fun q5 => ⟨hR, ⟨by omega, by omega, ?_⟩, hM⟩⟩, fun q4 => ⟨hR, ⟨by omega, by omega, ?_⟩, hM⟩⟩, fun q3 => ⟨hR, ⟨by omega, by omega, ?_⟩, hM⟩⟩, fun q1 => ⟨hR, ⟨by omega, by omega, ?_⟩, hM⟩⟩
  · rw [bst_step ((okc_iff hj0).2 ⟨q1, q2⟩) q3 (Or.inr (by rw [← ha]; exact q5))]; omega
  · rw [bst_skip (Or.inr (Or.inr ⟨by rw [← ha]; omega, by rw [← ha]; exact q5⟩))]; exact ha
  · rw [bst_step ((okc_iff hj0).2 ⟨q1, q2⟩) q3 (Or.inl (by rw [← ha]; exact q4))]; omega
  · rw [bst_skip (Or.inr (Or.inl q3))]; exact ha
  · rw [bst_skip (Or.inl ?_)]
    · exact ha
    · rw [← Bool.not_eq_true, okc_iff hj0]
      rintro ⟨h1, h2⟩
      rcases q1 with h | h
      · exact h h1
      · exact h2 h
theorem find_eq {C m b : Int} {l : VS} {t : List (List Int)} (h : RelV C l t) : findS C l m b = if (bst (okc m b) (ldT t) C.toNat).1 < 0 then none else
    some ((bst (okc m b) (ldT t) C.toNat).1, ((lstN (bitN (t.getD (bst (okc m b) (ldT t) C.toNat).1.toNat [0, 0, 0, 0])) 32 224 : Nat) : Int)) := by
  have e : bst (okc m b) (fun c => cntS l c) C.toNat = bst (okc m b) (ldT t) C.toNat := bst_congr _ fun k hk => (h.2.2.2.1 k (by omega)).symm
  unfold findS
  rw [e]
  split
  · rfl
  · rename_i hn
    have hs := bst_spec (okc m b) (ldT t) C.toNat
    generalize bst (okc m b) (ldT t) C.toNat = r at *
    have hr : 0 ≤ r.1 ∧ r.1 < C := by
      rcases hs with h' | ⟨h1, h2, _⟩
      · rw [h'] at hn; simp at hn
      · omega
    congr 3
    refine lst_congr 224 32 fun j _ hj => ?_
    have := h.2.2.1 r.1.toNat (by omega) j (by omega)
    rw [this, Int.toNat_of_nonneg hr.1]
theorem lst_at {f : Nat → Bool} {n : Int} (h0 : 32 ≤ n) (h1 : n ≤ 256) (hl : lstN f n.toNat (256 - n).toNat = lstN f 32 224) (hb : nB f 256 < 224) (hn : n < 256 → f n.toNat = false) :
    n < 256 ∧ ((lstN f 32 224 : Nat) : Int) = n := by
  have hf := lst_free hb
  have hlt : n < 256 := by
    by_cases e : n < 256
    · exact e
    · have e2 : n = 256 := by omega
      subst e2
      have : lstN f 256 0 = lstN f 32 224 := hl
      have h3 : lstN f 256 0 = 256 := rfl
      omega
  refine ⟨hlt, ?_⟩
  rw [← hl]
  obtain ⟨d, hd⟩ : ∃ d, (256 - n).toNat = d + 1 := ⟨(256 - n).toNat - 1, by omega⟩
  rw [hd]
  unfold lstN
  rw [if_neg (by rw [hn hlt]; decide)]
  omega
theorem lst_next {f : Nat → Bool} {n : Int} (h0 : 32 ≤ n) (h1 : n < 256) (hn : f n.toNat = true) : lstN f (n + 1).toNat (256 - (n + 1)).toNat = lstN f n.toNat (256 - n).toNat := by
  rw [show (256 - n).toNat = (256 - (n + 1)).toNat + 1 by omega, show (n + 1).toNat = n.toNat + 1 by omega]
  conv => rhs; unfold lstN
  rw [if_pos hn]
theorem has_iff {b : List Int} {n : Int} (h : 0 ≤ n) : hasB b n = true ↔ n < 256 ∧ bitN b n.toNat = true := by
  unfold hasB fits
  simp; omega
theorem has_no {b : List Int} {n : Int} (h : 0 ≤ n) (hb : hasB b n = false) : n < 256 → bitN b n.toNat = false := fun hlt => by
  rw [← Bool.not_eq_true]
  intro h2
  rw [(has_iff h).2 ⟨hlt, h2⟩] at hb
  cases hb

end Go.Proofs.YtlkhpbjjimjhbaaDoor.Vec
