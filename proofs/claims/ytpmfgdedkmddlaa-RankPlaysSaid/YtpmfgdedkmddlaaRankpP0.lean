/-
  RankPlays: the plain law of the small functions.
-/
import Derived.Test.YtpmfgdedkmddlaaRankpE
namespace Go.Proofs.Ytpmfgdedkmddlaa.Rankp
open Go.Sx
set_option maxRecDepth 100000
set_option maxHeartbeats 1000000
set_option linter.unusedSimpArgs false
set_option linter.unusedVariables false

theorem take_all {α : Type} {l : List α} : l.take (l.length : Int).toNat = l := by simp
theorem toNat1 : Int.toNat 1 = 1 := rfl
theorem takeI_succ {α : Type} (d : α) {l : List α} {k : Int} (h0 : 0 ≤ k) (h1 : k < l.length) : l.take (k + 1).toNat = l.take k.toNat ++ [l.getD k.toNat d] := by
  have e : (k + 1).toNat = k.toNat + 1 := by omega
  have hlt : k.toNat < l.length := by omega
  rw [e, List.take_add_one, List.getElem?_eq_getElem hlt]
  simp [hlt]
theorem takeI_all {α : Type} {l : List α} {k : Int} (h : (l.length : Int) ≤ k) : l.take k.toNat = l := List.take_of_length_le (by omega)
theorem idx_at {l : List Int} {x : Int} {k : Nat} (hk : k < l.length) (hn : (l.take k).idxOf? x = none) (hg : l.getD k 0 = x) : idx l x = k := by
  have e : l.idxOf? x = some k := by
    show l.findIdx? (· == x) = some k
    rw [List.findIdx?_eq_some_iff_getElem]
    refine ⟨hk, ?_, fun j hj => ?_⟩
    · have : l[k] = x := by rw [← hg]; simp [List.getD, hk]
      simp [this]
    · rw [List.idxOf?_eq_none_iff] at hn
      intro h
      have h : l[j] = x := by simpa using h
      exact hn (by rw [← h]; exact List.mem_take_iff_getElem.2 ⟨j, by omega, rfl⟩)
  unfold idx
  rw [e]
theorem idx_none {l : List Int} {x : Int} (h : l.idxOf? x = none) : idx l x = -1 := by
  unfold idx
  rw [h]
theorem take_none {l : List Int} {x : Int} {k : Int} (h0 : 0 ≤ k) (h1 : k < l.length) (hn : (l.take k.toNat).idxOf? x = none) (hg : ¬ l.getD k.toNat 0 = x) : (l.take (k + 1).toNat).idxOf? x = none := by
  rw [takeI_succ 0 h0 h1, List.idxOf?_eq_none_iff, List.mem_append]
  rw [List.idxOf?_eq_none_iff] at hn
  rintro (h | h)
  · exact hn h
  · exact hg (List.mem_singleton.1 h).symm
theorem e_index (x : List Int × Int × Unit) (hp : True) (hl : LensL cIndex.as x) : E_index x := by
  obtain ⟨l, b, u⟩ := x
  have hlen : l.length ≤ 9223372036854775807 := hl.1.1
  unfold E_index
  simp only [Bool.not_eq_true', Bool.not_eq_false', Bool.not_eq_true, Bool.not_eq_false, beq_self_eq_true, decide_eq_true_eq, decide_eq_false_iff_not, Bool.not_false, Bool.not_true, beq_iff_eq, beq_eq_false_iff_ne, bne_iff_ne, ne_eq, bne_eq_false_iff_eq, holds_iff, true_and, and_true, and_self, eq_self, List.length_cons, List.length_nil, List.length_append, List.length_set, List.length_replicate, List.set_cons_zero, cond_true, cond_false, Bool.false_eq_true, Bool.true_eq_false, forall_const, false_imp_iff, imp_self, implies_true, and_imp, Decidable.not_not, Bool.and_eq_true, Bool.or_eq_true, Bool.and_eq_false_iff, Bool.or_eq_false_iff, ← List.length_eq_zero_iff, or_self, or_false, false_or, Prod.forall, Int.reduceEq, Int.reduceLT, Int.reduceLE, List.nil_append, Nat.zero_add, Int.toNat_zero, List.drop_zero, List.length_drop, List.length_take, not_true_eq_false, not_false_eq_true]
  try simp only [flip_f, flip_t, decide_eq_true_eq, decide_eq_false_iff_not]
  refine ⟨⟨by omega, rfl⟩, ?_⟩
  intro k k0 k1 hn _ _
  refine ⟨fun k2 => ⟨⟨k0, k2⟩, fun h => ?_, fun h => ?_⟩, fun k2 => ?_⟩
  · rw [idx_at (by omega) hn (by first | exact h | exact h.symm)]; omega
  · refine ⟨by omega, ⟨by omega, by omega, ?_⟩, by omega⟩
    exact take_none k0 k2 hn (by first | exact h | exact fun e => h e.symm)
  · rw [takeI_all (by omega)] at hn
    rw [idx_none hn]
theorem e_contains (x : List Int × Int × Unit) (hp : True) (hl : LensL cContains.as x) : E_contains x := by
  unfold E_contains
  simp only [Bool.not_eq_true', Bool.not_eq_false', Bool.not_eq_true, Bool.not_eq_false, beq_self_eq_true, decide_eq_true_eq, decide_eq_false_iff_not, Bool.not_false, Bool.not_true, beq_iff_eq, beq_eq_false_iff_ne, bne_iff_ne, ne_eq, bne_eq_false_iff_eq, holds_iff, true_and, and_true, and_self, eq_self, List.length_cons, List.length_nil, List.length_append, List.length_set, List.length_replicate, List.set_cons_zero, cond_true, cond_false, Bool.false_eq_true, Bool.true_eq_false, forall_const, false_imp_iff, imp_self, implies_true, and_imp, Decidable.not_not, Bool.and_eq_true, Bool.or_eq_true, Bool.and_eq_false_iff, Bool.or_eq_false_iff, ← List.length_eq_zero_iff, or_self, or_false, false_or, Prod.forall, Int.reduceEq, Int.reduceLT, Int.reduceLE, List.nil_append, Nat.zero_add, Int.toNat_zero, List.drop_zero, List.length_drop, List.length_take, not_true_eq_false, not_false_eq_true]
  try simp only [flip_f, flip_t, decide_eq_true_eq, decide_eq_false_iff_not]
  try exact trivial
theorem e_equale (x : List Int × List Int × Unit) (_ : True) (hl : LensL cEqual.as x) : E_equale x := by
  obtain ⟨xs, ys, u⟩ := x
  have hlx : xs.length ≤ 9223372036854775807 := hl.1.1
  unfold E_equale
  simp only [Bool.not_eq_true', Bool.not_eq_false', Bool.not_eq_true, Bool.not_eq_false, beq_self_eq_true, decide_eq_true_eq, decide_eq_false_iff_not, Bool.not_false, Bool.not_true, beq_iff_eq, beq_eq_false_iff_ne, bne_iff_ne, ne_eq, bne_eq_false_iff_eq, holds_iff, true_and, and_true, and_self, eq_self, List.length_cons, List.length_nil, List.length_append, List.length_set, List.length_replicate, List.set_cons_zero, cond_true, cond_false, Bool.false_eq_true, Bool.true_eq_false, forall_const, false_imp_iff, imp_self, implies_true, and_imp, Decidable.not_not, Bool.and_eq_true, Bool.or_eq_true, Bool.and_eq_false_iff, Bool.or_eq_false_iff, ← List.length_eq_zero_iff, or_self, or_false, false_or, Prod.forall, Int.reduceEq, Int.reduceLT, Int.reduceLE, List.nil_append, Nat.zero_add, Int.toNat_zero, List.drop_zero, List.length_drop, List.length_take, not_true_eq_false, not_false_eq_true]
  try simp only [flip_f, flip_t, decide_eq_true_eq, decide_eq_false_iff_not]
  repeat' (first | with_reducible apply And.intro | with_reducible intro _)
  all_goals try omega
  all_goals grind [takeI_succ, takeI_all]
theorem e_equali (x : List Int × List Int × Unit) (_ : True) (hl : LensL cEqual.as x) : E_equali x := by
  obtain ⟨xs, ys, u⟩ := x
  have hlx : xs.length ≤ 9223372036854775807 := hl.1.1
  unfold E_equali
  simp only [Bool.not_eq_true', Bool.not_eq_false', Bool.not_eq_true, Bool.not_eq_false, beq_self_eq_true, decide_eq_true_eq, decide_eq_false_iff_not, Bool.not_false, Bool.not_true, beq_iff_eq, beq_eq_false_iff_ne, bne_iff_ne, ne_eq, bne_eq_false_iff_eq, holds_iff, true_and, and_true, and_self, eq_self, List.length_cons, List.length_nil, List.length_append, List.length_set, List.length_replicate, List.set_cons_zero, cond_true, cond_false, Bool.false_eq_true, Bool.true_eq_false, forall_const, false_imp_iff, imp_self, implies_true, and_imp, Decidable.not_not, Bool.and_eq_true, Bool.or_eq_true, Bool.and_eq_false_iff, Bool.or_eq_false_iff, ← List.length_eq_zero_iff, or_self, or_false, false_or, Prod.forall, Int.reduceEq, Int.reduceLT, Int.reduceLE, List.nil_append, Nat.zero_add, Int.toNat_zero, List.drop_zero, List.length_drop, List.length_take, not_true_eq_false, not_false_eq_true]
  try simp only [flip_f, flip_t, decide_eq_true_eq, decide_eq_false_iff_not]
  repeat' (first | with_reducible apply And.intro | with_reducible intro _)
  all_goals try omega
  all_goals grind [takeI_succ, takeI_all]
theorem mx_one {l : List Int} (h : 0 < l.length) : l.getD 0 0 = mx (l.take 1) := by
  cases l with
  | nil => simp at h
  | cons a l => rfl
theorem mx_succ {l : List Int} {k : Int} (h0 : 1 ≤ k) (h1 : k < l.length) : mx (l.take (k + 1).toNat) = max (mx (l.take k.toNat)) (l.getD k.toNat 0) := by
  rw [takeI_succ 0 (by omega) h1]
  cases l with
  | nil => simp at h1; omega
  | cons a l =>
    have e : k.toNat = (k.toNat - 1) + 1 := by omega
    rw [e]
    simp [mx, List.foldl_append]
theorem e_max (x : List Int × Unit) (hp : 0 < x.1.length) (hl : LensL cMax.as x) : E_max x := by
  obtain ⟨l, u⟩ := x
  have hlen : l.length ≤ 9223372036854775807 := hl.1.1
  simp only [] at hp
  have h1 := mx_one hp
  have h2 := fun (k : Int) h0 h1 => mx_succ (l := l) (k := k) h0 h1
  unfold E_max
  simp only [Bool.not_eq_true', Bool.not_eq_false', Bool.not_eq_true, Bool.not_eq_false, beq_self_eq_true, decide_eq_true_eq, decide_eq_false_iff_not, Bool.not_false, Bool.not_true, beq_iff_eq, beq_eq_false_iff_ne, bne_iff_ne, ne_eq, bne_eq_false_iff_eq, holds_iff, true_and, and_true, and_self, eq_self, List.length_cons, List.length_nil, List.length_append, List.length_set, List.length_replicate, List.set_cons_zero, cond_true, cond_false, Bool.false_eq_true, Bool.true_eq_false, forall_const, false_imp_iff, imp_self, implies_true, and_imp, Decidable.not_not, Bool.and_eq_true, Bool.or_eq_true, Bool.and_eq_false_iff, Bool.or_eq_false_iff, ← List.length_eq_zero_iff, or_self, or_false, false_or, Prod.forall, Int.reduceEq, Int.reduceLT, Int.reduceLE, List.nil_append, Nat.zero_add, Int.toNat_zero, List.drop_zero, List.length_drop, List.length_take, not_true_eq_false, not_false_eq_true]
  try simp only [flip_f, flip_t, decide_eq_true_eq, decide_eq_false_iff_not]
  repeat' (first | with_reducible apply And.intro | with_reducible intro _)
  all_goals try omega
  all_goals grind [takeI_all]
theorem e_mul (x : Int × Int × Unit) (hp : x.1 = 1 ∧ 0 ≤ x.2.1 ∧ x.2.1 ≤ 16) (hl : LensL cMul.as x) : E_mul x := by
  obtain ⟨a, b, u⟩ := x
  obtain ⟨h1, h2, h3⟩ := hp
  simp only [] at h1 h2 h3
  subst h1
  have hb : Go.bits .and .u64 b 4294967295 = b := by
    have : b = 0 ∨ b = 1 ∨ b = 2 ∨ b = 3 ∨ b = 4 ∨ b = 5 ∨ b = 6 ∨ b = 7 ∨ b = 8 ∨ b = 9 ∨ b = 10 ∨ b = 11 ∨ b = 12 ∨ b = 13 ∨ b = 14 ∨ b = 15 ∨ b = 16 := by omega
    rcases this with rfl | rfl | rfl | rfl | rfl | rfl | rfl | rfl | rfl | rfl | rfl | rfl | rfl | rfl | rfl | rfl | rfl <;> decide
  have ha : Go.bits .and .u64 1 4294967295 = 1 := by decide
  have hz : Go.bits .and .u64 0 4294967295 = 0 := by decide
  have hp : (2 : Int) ^ min (Int.toNat 32) IntKind.u64.bits = 4294967296 := by decide
  have hd : b / 4294967296 = 0 := by omega
  have hd1 : (1 : Int) / 4294967296 = 0 := by decide
  have hd0 : (0 : Int) / 4294967296 = 0 := by decide
  unfold E_mul
  simp only [ha, hb, hz, hp, hd, hd1, hd0, Int.zero_mul, Int.mul_zero, Int.one_mul, Int.mul_one, Int.zero_add, Int.add_zero]
  simp only [Bool.not_eq_true', Bool.not_eq_false', Bool.not_eq_true, Bool.not_eq_false, beq_self_eq_true, decide_eq_true_eq, decide_eq_false_iff_not, Bool.not_false, Bool.not_true, beq_iff_eq, beq_eq_false_iff_ne, bne_iff_ne, ne_eq, bne_eq_false_iff_eq, holds_iff, true_and, and_true, and_self, eq_self, List.length_cons, List.length_nil, List.length_append, List.length_set, List.length_replicate, List.set_cons_zero, cond_true, cond_false, Bool.false_eq_true, Bool.true_eq_false, forall_const, false_imp_iff, imp_self, implies_true, and_imp, Decidable.not_not, Bool.and_eq_true, Bool.or_eq_true, Bool.and_eq_false_iff, Bool.or_eq_false_iff, ← List.length_eq_zero_iff, or_self, or_false, false_or, Prod.forall, Int.reduceEq, Int.reduceLT, Int.reduceLE, List.nil_append, Nat.zero_add, Int.toNat_zero, List.drop_zero, List.length_drop, List.length_take, not_true_eq_false, not_false_eq_true]
  try simp only [flip_f, flip_t, decide_eq_true_eq, decide_eq_false_iff_not]
  try omega
theorem lm_succ {m : List (Int × Int)} {k : Int} (h : 0 ≤ k) : lm m (k + 1).toNat = lm m k.toNat ++ [if mhas I64 m k = true then mval I64 m k else -1] := by
  have e : (k + 1).toNat = k.toNat + 1 := by omega
  rw [e]
  unfold lm
  rw [List.range_succ, List.map_append]
  simp only [List.map_cons, List.map_nil]
  rw [show ((k.toNat : Nat) : Int) = k by omega]
theorem lm_len (m : List (Int × Int)) (n : Nat) : (lm m n).length = n := by simp [lm]
theorem e_rows (x : List (Int × Int) × Int × Unit) (hp : 1 ≤ x.2.1 ∧ x.2.1 ≤ 16) (hl : LensL cRows.as x) : E_rows x := by
  obtain ⟨m, n, u⟩ := x
  simp only [] at hp
  have hs := fun (k : Int) (h : 0 ≤ k) => lm_succ (m := m) h
  have hn := lm_len m
  have h0 : lm m 0 = [] := rfl
  unfold E_rows
  simp only [Bool.not_eq_true', Bool.not_eq_false', Bool.not_eq_true, Bool.not_eq_false, beq_self_eq_true, decide_eq_true_eq, decide_eq_false_iff_not, Bool.not_false, Bool.not_true, beq_iff_eq, beq_eq_false_iff_ne, bne_iff_ne, ne_eq, bne_eq_false_iff_eq, holds_iff, true_and, and_true, and_self, eq_self, List.length_cons, List.length_nil, List.length_append, List.length_set, List.length_replicate, List.set_cons_zero, cond_true, cond_false, Bool.false_eq_true, Bool.true_eq_false, forall_const, false_imp_iff, imp_self, implies_true, and_imp, Decidable.not_not, Bool.and_eq_true, Bool.or_eq_true, Bool.and_eq_false_iff, Bool.or_eq_false_iff, ← List.length_eq_zero_iff, or_self, or_false, false_or, Prod.forall, Int.reduceEq, Int.reduceLT, Int.reduceLE, List.nil_append, Nat.zero_add, Int.toNat_zero, List.drop_zero, List.length_drop, List.length_take, not_true_eq_false, not_false_eq_true]
  try simp only [flip_f, flip_t, decide_eq_true_eq, decide_eq_false_iff_not]
  refine ⟨by first | omega | exact ⟨by omega, h0.symm⟩ | exact ⟨by omega, rfl⟩, ?_⟩
  intro out k hk0 hk1 ho hl1 hl2 _ _
  subst ho
  rw [hs k hk0]
  have hk := hn k.toNat
  refine ⟨fun hlt => ⟨fun hm => ?_, fun hm => ?_⟩, fun hge => ?_⟩
  · simp only [hm]
    simp
    omega
  · simp only [hm]
    simp
    omega
  · rw [show k = n by omega]
theorem rep_step {w : List Int} {a : Int} {k m n : Nat} (hw : w.length = n) (h : w.take k = List.replicate k a) (hk : k ≤ n) (hm : m ≤ k) (hmn : k + m ≤ n) :
    (w.take k ++ ((w.take k).take m ++ w.drop (k + m))).length = n ∧ (w.take k ++ ((w.take k).take m ++ w.drop (k + m))).take (k + m) = List.replicate (k + m) a := by
  rw [h]
  have e1 : (List.replicate k a).take m = List.replicate m a := by rw [List.take_replicate, Nat.min_eq_left hm]
  rw [e1]
  refine ⟨by simp [hw]; omega, ?_⟩
  rw [← List.append_assoc, List.replicate_append_replicate, List.take_append_of_le_length (by simp), List.take_of_length_le (by simp)]
theorem e_rep (x : List Int × Int × Unit) (hp : x.1.length = 1 ∧ 1 ≤ x.2.1 ∧ x.2.1 ≤ 16) (hl : LensL cRep.as x) : E_rep x := by
  obtain ⟨l, n, u⟩ := x
  simp only [] at hp
  obtain ⟨a, rfl⟩ : ∃ a, l = [a] := List.length_eq_one_iff.1 hp.1
  obtain ⟨m, rfl⟩ : ∃ m : Nat, n = (m : Int) := ⟨n.toNat, by omega⟩
  obtain ⟨_, h1, h2⟩ := hp
  obtain ⟨m, rfl⟩ : ∃ m', m = m' + 1 := ⟨m - 1, by omega⟩
  unfold E_rep
  simp only [Bool.not_eq_true', Bool.not_eq_false', Bool.not_eq_true, Bool.not_eq_false, beq_self_eq_true, decide_eq_true_eq, decide_eq_false_iff_not, Bool.not_false, Bool.not_true, beq_iff_eq, beq_eq_false_iff_ne, bne_iff_ne, ne_eq, bne_eq_false_iff_eq, holds_iff, true_and, and_true, and_self, eq_self, List.length_cons, List.length_nil, List.length_append, List.length_set, List.length_replicate, List.set_cons_zero, cond_true, cond_false, Bool.false_eq_true, Bool.true_eq_false, forall_const, false_imp_iff, imp_self, implies_true, and_imp, Decidable.not_not, Bool.and_eq_true, Bool.or_eq_true, Bool.and_eq_false_iff, Bool.or_eq_false_iff, ← List.length_eq_zero_iff, or_self, or_false, false_or, Prod.forall, Int.reduceEq, Int.reduceLT, Int.reduceLE, List.nil_append, Nat.zero_add, Int.toNat_zero, List.drop_zero, List.length_drop, List.length_take, not_true_eq_false, not_false_eq_true,  List.length_replicate, List.length_cons, List.length_nil, Int.toNat_natCast, List.take_zero, List.nil_append, List.getD_cons_zero, List.length_take, List.length_append, List.length_drop, List.drop_zero]
  have e1 : min 1 (m + 1) = 1 := by omega
  simp only [e1]
  refine ⟨by omega, fun _ => ⟨by omega, by omega, by omega, by omega, fun _ => ⟨by omega, by omega, ⟨by omega, by omega, by simp⟩, ?_⟩⟩⟩
  intro w k hk1 hk2 hw ht _ _ _ _
  obtain ⟨k, rfl⟩ : ∃ k' : Nat, k = (k' : Int) := ⟨k.toNat, by omega⟩
  simp only [Int.toNat_natCast, hw] at ht ⊢
  refine ⟨fun hlt => ?_, fun hge => ?_⟩
  · have e2 : min k (m + 1) = k := by omega
    simp only [e2]
    obtain ⟨M, hM⟩ : ∃ M, min k (m + 1 - k) = M := ⟨_, rfl⟩
    have e3 : min M k = M := by omega
    simp only [hM, e3]
    have hs := rep_step (m := M) hw ht (by omega) (by omega) (by omega)
    have e4 : ((k : Int) + (M : Int)).toNat = k + M := by omega
    rw [e4]
    refine ⟨by omega, by omega, by omega, ⟨⟨by omega, by omega, hs.2⟩, by omega⟩⟩
  · have e5 : k = m + 1 := by omega
    subst e5
    rw [← ht, List.take_of_length_le (by omega)]

end Go.Proofs.Ytpmfgdedkmddlaa.Rankp
