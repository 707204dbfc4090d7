/-
 The conditions, proved.
-/
import Derived.Test.YtdhldloajddfiaaGreatDoorTtyE
namespace Go.Proofs.YtdhldloajddfiaaGreatDoor.Tty
open Go.Sx
set_option maxRecDepth 100000
set_option maxHeartbeats 1000000
set_option linter.unusedSimpArgs false
set_option linter.unusedVariables false

theorem toNat1 : Int.toNat 1 = 1 := rfl
theorem line_iff {l : By} : lineOk l = true ↔ (l.length : Int) ≤ 65 := by unfold lineOk; exact decide_eq_true_iff
theorem right_iff {ls : List By} {ed : By} : rightT (ls, ed) = true ↔ ((ed.length : Int) ≤ 64 ∧ (ls.length : Int) ≤ 400) ∧ ls.all lineOk = true := by
 unfold rightT
 simp [Bool.and_eq_true]
theorem right_line {ls : List By} {ed : By} {k : Int} (h : rightT (ls, ed) = true) (h0 : 0 ≤ k) (h1 : k < ls.length) : (ls.getD k.toNat []).length ≤ 65 := by
 have hm : ls.getD k.toNat [] ∈ ls := getD_mem (by omega)
 have := List.all_eq_true.1 (right_iff.1 h).2 _ hm
 have := line_iff.1 this
 omega
theorem e_cloneb (x : List Int × Unit) (hpre : x.1.length ≤ 140737488355328) (hlens : LensL cCloneB.as x) : E_cloneb x := by
 obtain ⟨xs, u⟩ := x
 unfold E_cloneb
 simp only [Bool.not_eq_true', Bool.not_eq_false', Bool.not_eq_true, Bool.not_eq_false, beq_self_eq_true, decide_eq_true_eq, decide_eq_false_iff_not, Bool.not_false, Bool.not_true, beq_iff_eq, beq_eq_false_iff_ne, bne_iff_ne, ne_eq, bne_eq_false_iff_eq, holds_iff, true_and, and_true, and_self, eq_self, List.length_cons, List.length_nil, List.length_append, List.length_set, List.length_replicate, List.set_cons_zero, cond_true, cond_false, Bool.false_eq_true, Bool.true_eq_false, forall_const, false_imp_iff, imp_self, implies_true, and_imp, Decidable.not_not, Bool.and_eq_true, Bool.or_eq_true, Bool.and_eq_false_iff, Bool.or_eq_false_iff, ← List.length_eq_zero_iff, or_self, or_false, false_or, Prod.forall, Int.reduceEq, Int.reduceLT, Int.reduceLE, List.nil_append, Nat.zero_add, Int.toNat_zero, List.drop_zero, List.length_drop, List.length_take, not_true_eq_false, not_false_eq_true]
 try simp only [flip_f, flip_t, decide_eq_true_eq, decide_eq_false_iff_not]
 repeat' (first | with_reducible apply And.intro | with_reducible intro _)
 all_goals first | omega | grind
theorem e_any (x : List (List Int) × Unit) (hpre : True) (hlens : LensL cAny.as x) : E_any x := by
 obtain ⟨xs, u⟩ := x
 have hlx : xs.length ≤ 9223372036854775807 := hlens.1.1
 unfold E_any
 simp only [Bool.not_eq_true', Bool.not_eq_false', Bool.not_eq_true, Bool.not_eq_false, beq_self_eq_true, decide_eq_true_eq, decide_eq_false_iff_not, Bool.not_false, Bool.not_true, beq_iff_eq, beq_eq_false_iff_ne, bne_iff_ne, ne_eq, bne_eq_false_iff_eq, holds_iff, true_and, and_true, and_self, eq_self, List.length_cons, List.length_nil, List.length_append, List.length_set, List.length_replicate, List.set_cons_zero, cond_true, cond_false, Bool.false_eq_true, Bool.true_eq_false, forall_const, false_imp_iff, imp_self, implies_true, and_imp, Decidable.not_not, Bool.and_eq_true, Bool.or_eq_true, Bool.and_eq_false_iff, Bool.or_eq_false_iff, ← List.length_eq_zero_iff, or_self, or_false, false_or, Prod.forall, Int.reduceEq, Int.reduceLT, Int.reduceLE, List.nil_append, Nat.zero_add, Int.toNat_zero, List.drop_zero, List.length_drop, List.length_take, not_true_eq_false, not_false_eq_true]
 try simp only [flip_f, flip_t, decide_eq_true_eq, decide_eq_false_iff_not]
 refine ⟨⟨by omega, rfl⟩, fun k _ h0 h1 ha _ _ => ⟨fun hk => ⟨⟨h0, hk⟩, fun hb => ?_, fun hb => ⟨by omega, ⟨by omega, by omega, ?_⟩, by omega⟩⟩, fun hk => ?_⟩⟩
 ·rw [all_false_of (p := lineOk) (k := k.toNat) (d := []) (by omega) (by rw [← Bool.not_eq_true, line_iff]; omega), decide_eq_true h0]
  rfl
 ·rw [all_takeI [] h0 hk, ha, line_iff.2 (by omega)]; rfl
 ·rw [takeI_all (by omega)] at ha
  rw [ha]; simp
theorem e_right (x : (List (List Int) × List Int) × Unit) (hpre : True) (hlens : LensL cRight.as x) : E_right x := by
 obtain ⟨⟨ls, ed⟩, u⟩ := x
 unfold E_right rightT
 simp only [Bool.not_eq_true', Bool.not_eq_false', Bool.not_eq_true, Bool.not_eq_false, beq_self_eq_true, decide_eq_true_eq, decide_eq_false_iff_not, Bool.not_false, Bool.not_true, beq_iff_eq, beq_eq_false_iff_ne, bne_iff_ne, ne_eq, bne_eq_false_iff_eq, holds_iff, true_and, and_true, and_self, eq_self, List.length_cons, List.length_nil, List.length_append, List.length_set, List.length_replicate, List.set_cons_zero, cond_true, cond_false, Bool.false_eq_true, Bool.true_eq_false, forall_const, false_imp_iff, imp_self, implies_true, and_imp, Decidable.not_not, Bool.and_eq_true, Bool.or_eq_true, Bool.and_eq_false_iff, Bool.or_eq_false_iff, ← List.length_eq_zero_iff, or_self, or_false, false_or, Prod.forall, Int.reduceEq, Int.reduceLT, Int.reduceLE, List.nil_append, Nat.zero_add, Int.toNat_zero, List.drop_zero, List.length_drop, List.length_take, not_true_eq_false, not_false_eq_true]
 try simp only [flip_f, flip_t, decide_eq_true_eq, decide_eq_false_iff_not]
 refine ⟨fun h1 h2 => ⟨⟨h1, h2⟩, by simp [h1, h2]⟩, fun h => ?_⟩
 rcases h with h | h <;> simp [h]
theorem e_read (x : (List (List Int) × List Int) × Int × Unit) (hpre : True) (hlens : LensL cRead.as x) : E_read x := by
 obtain ⟨⟨ls, ed⟩, m, u⟩ := x
 have hlx : ls.length ≤ 9223372036854775807 := hlens.1.1.1
 unfold E_read
 delta qread_t1 qread_2 qread_3 qread_4 qread_5 qread_6 qread_7 qread_8 qread_1
 simp only [Bool.not_eq_true', Bool.not_eq_false', Bool.not_eq_true, Bool.not_eq_false, beq_self_eq_true, decide_eq_true_eq, decide_eq_false_iff_not, Bool.not_false, Bool.not_true, beq_iff_eq, beq_eq_false_iff_ne, bne_iff_ne, ne_eq, bne_eq_false_iff_eq, holds_iff, true_and, and_true, and_self, eq_self, List.length_cons, List.length_nil, List.length_append, List.length_set, List.length_replicate, List.set_cons_zero, cond_true, cond_false, Bool.false_eq_true, Bool.true_eq_false, forall_const, false_imp_iff, imp_self, implies_true, and_imp, Decidable.not_not, Bool.and_eq_true, Bool.or_eq_true, Bool.and_eq_false_iff, Bool.or_eq_false_iff, ← List.length_eq_zero_iff, or_self, or_false, false_or, Prod.forall, Int.reduceEq, Int.reduceLT, Int.reduceLE, List.nil_append, Nat.zero_add, Int.toNat_zero, List.drop_zero, List.length_drop, List.length_take, not_true_eq_false, not_false_eq_true,  pair_eta, Int.toNat_natCast, List.take_length, toNat1]
 refine ⟨fun h => ?_, fun h => ⟨fun hm => ?_, fun hm => ⟨fun hl => ?_, fun hl => ⟨?_, ⟨by omega, rfl⟩, fun a k h0 h1 ha _ _ _ _ => ⟨fun hk => ⟨⟨h0, hk⟩, ?_, ?_, by omega, ⟨by omega, by omega, ?_⟩, by omega⟩, fun hk => ?_⟩⟩⟩⟩⟩
 ·unfold readT; rw [if_pos h]; exact ⟨rfl, rfl, rfl⟩
 ·unfold readT; rw [if_neg (by rw [h]; decide), if_pos hm]; exact ⟨rfl, rfl, rfl⟩
 ·have : ls = [] := List.eq_nil_of_length_eq_zero (by omega)
  subst this
  unfold readT; rw [if_neg (by rw [h]; decide), if_neg hm]; exact ⟨rfl, rfl, rfl⟩
 ·have := (right_iff.1 h).1; omega
 ·have := right_line h h0 hk; omega
 ·have := (right_iff.1 h).1
  have e : a.length ≤ ls.length := by rw [ha, List.length_take]; omega
  omega
 ·rw [takeI_succ [] h0 hk, ha]
 ·rw [takeI_all (by omega)] at ha
  subst ha
  match a, hl, h with
  | [], hl, _ => simp at hl
  | l :: r, _, h =>
   have hl65 := right_line h (k := 0) (by omega) (by simp)
   have e0 : (l :: r).getD 0 [] = l := rfl
   have e0' : (l :: r).getD (Int.toNat 0) [] = l := rfl
   rw [e0'] at hl65
   simp only [e0]
   unfold readT
   rw [if_neg (by rw [h]; decide), if_neg hm]
   refine ⟨by simp, ⟨by omega, by omega⟩, by omega, fun hq => ⟨⟨by simp; omega, by omega⟩, ?_⟩, fun hq => ⟨⟨⟨by omega, by omega⟩, by omega⟩, by omega, by simp, ?_⟩⟩
   ·simp only []
    have e1 : (min m (l.length : Int)).toNat = l.length := by omega
    rw [if_pos (by omega), e1, List.take_length]
    exact ⟨by simp, rfl, rfl⟩
   ·simp only []
    have e1 : (min m (l.length : Int)).toNat = m.toNat := by omega
    rw [if_neg (by omega), e1]
    exact ⟨by simp, rfl, rfl⟩
theorem e_own (x : (List (List Int) × List Int) × Unit) (hpre : rightT x.1 = true) (hlens : LensL cOwn.as x) : E_own x := by
 obtain ⟨⟨ls, ed⟩, u⟩ := x
 have hlx : ls.length ≤ 9223372036854775807 := hlens.1.1.1
 have h : rightT (ls, ed) = true := hpre
 have hr := (right_iff.1 h).1
 unfold E_own
 delta qown_1 qown_2 qown_3
 simp only [Bool.not_eq_true', Bool.not_eq_false', Bool.not_eq_true, Bool.not_eq_false, beq_self_eq_true, decide_eq_true_eq, decide_eq_false_iff_not, Bool.not_false, Bool.not_true, beq_iff_eq, beq_eq_false_iff_ne, bne_iff_ne, ne_eq, bne_eq_false_iff_eq, holds_iff, true_and, and_true, and_self, eq_self, List.length_cons, List.length_nil, List.length_append, List.length_set, List.length_replicate, List.set_cons_zero, cond_true, cond_false, Bool.false_eq_true, Bool.true_eq_false, forall_const, false_imp_iff, imp_self, implies_true, and_imp, Decidable.not_not, Bool.and_eq_true, Bool.or_eq_true, Bool.and_eq_false_iff, Bool.or_eq_false_iff, ← List.length_eq_zero_iff, or_self, or_false, false_or, Prod.forall, Int.reduceEq, Int.reduceLT, Int.reduceLE, List.nil_append, Nat.zero_add, Int.toNat_zero, List.drop_zero, List.length_drop, List.length_take, not_true_eq_false, not_false_eq_true,  pair_eta]
 refine ⟨by omega, ⟨by omega, rfl⟩, fun a k h0 h1 ha _ _ _ _ => ⟨fun hk => ⟨⟨h0, hk⟩, ?_, ?_, by omega, ⟨by omega, by omega, ?_⟩, by omega⟩, fun hk => ?_⟩⟩
 ·have := right_line h h0 hk; omega
 ·have e : a.length ≤ ls.length := by rw [ha, List.length_take]; omega
  omega
 ·rw [takeI_succ [] h0 hk, ha]
 ·rw [ha, takeI_all (by omega)]

theorem e_cloneo (x : List Int × Unit) (hpre : x.1.length ≤ 140737488355328) (hlens : LensL cCloneO.as x) : E_cloneo x := by
 obtain ⟨xs, u⟩ := x
 unfold E_cloneo
 simp only [Bool.not_eq_true', Bool.not_eq_false', Bool.not_eq_true, Bool.not_eq_false, beq_self_eq_true, decide_eq_true_eq, decide_eq_false_iff_not, Bool.not_false, Bool.not_true, beq_iff_eq, beq_eq_false_iff_ne, bne_iff_ne, ne_eq, bne_eq_false_iff_eq, holds_iff, true_and, and_true, and_self, eq_self, List.length_cons, List.length_nil, List.length_append, List.length_set, List.length_replicate, List.set_cons_zero, cond_true, cond_false, Bool.false_eq_true, Bool.true_eq_false, forall_const, false_imp_iff, imp_self, implies_true, and_imp, Decidable.not_not, Bool.and_eq_true, Bool.or_eq_true, Bool.and_eq_false_iff, Bool.or_eq_false_iff, ← List.length_eq_zero_iff, or_self, or_false, false_or, Prod.forall, Int.reduceEq, Int.reduceLT, Int.reduceLE, List.nil_append, Nat.zero_add, Int.toNat_zero, List.drop_zero, List.length_drop, List.length_take, not_true_eq_false, not_false_eq_true]
 try simp only [flip_f, flip_t, decide_eq_true_eq, decide_eq_false_iff_not]
 repeat' (first | with_reducible apply And.intro | with_reducible intro _)
 all_goals first | omega | grind
theorem e_clonel (x : List (List Int) × Unit) (hpre : x.1.length * 24 ≤ 140737488355328) (hlens : LensL cCloneL.as x) : E_clonel x := by
 obtain ⟨xs, u⟩ := x
 unfold E_clonel
 simp only [Bool.not_eq_true', Bool.not_eq_false', Bool.not_eq_true, Bool.not_eq_false, beq_self_eq_true, decide_eq_true_eq, decide_eq_false_iff_not, Bool.not_false, Bool.not_true, beq_iff_eq, beq_eq_false_iff_ne, bne_iff_ne, ne_eq, bne_eq_false_iff_eq, holds_iff, true_and, and_true, and_self, eq_self, List.length_cons, List.length_nil, List.length_append, List.length_set, List.length_replicate, List.set_cons_zero, cond_true, cond_false, Bool.false_eq_true, Bool.true_eq_false, forall_const, false_imp_iff, imp_self, implies_true, and_imp, Decidable.not_not, Bool.and_eq_true, Bool.or_eq_true, Bool.and_eq_false_iff, Bool.or_eq_false_iff, ← List.length_eq_zero_iff, or_self, or_false, false_or, Prod.forall, Int.reduceEq, Int.reduceLT, Int.reduceLE, List.nil_append, Nat.zero_add, Int.toNat_zero, List.drop_zero, List.length_drop, List.length_take, not_true_eq_false, not_false_eq_true]
 try simp only [flip_f, flip_t, decide_eq_true_eq, decide_eq_false_iff_not]
 repeat' (first | with_reducible apply And.intro | with_reducible intro _)
 all_goals first | omega | grind
theorem e_cloney (x : List Int × Unit) (hpre : x.1.length ≤ 140737488355328) (hlens : LensL cCloneO.as x) : E_cloney x := by
 obtain ⟨xs, u⟩ := x
 unfold E_cloney
 simp only [Bool.not_eq_true', Bool.not_eq_false', Bool.not_eq_true, Bool.not_eq_false, beq_self_eq_true, decide_eq_true_eq, decide_eq_false_iff_not, Bool.not_false, Bool.not_true, beq_iff_eq, beq_eq_false_iff_ne, bne_iff_ne, ne_eq, bne_eq_false_iff_eq, holds_iff, true_and, and_true, and_self, eq_self, List.length_cons, List.length_nil, List.length_append, List.length_set, List.length_replicate, List.set_cons_zero, cond_true, cond_false, Bool.false_eq_true, Bool.true_eq_false, forall_const, false_imp_iff, imp_self, implies_true, and_imp, Decidable.not_not, Bool.and_eq_true, Bool.or_eq_true, Bool.and_eq_false_iff, Bool.or_eq_false_iff, ← List.length_eq_zero_iff, or_self, or_false, false_or, Prod.forall, Int.reduceEq, Int.reduceLT, Int.reduceLE, List.nil_append, Nat.zero_add, Int.toNat_zero, List.drop_zero, List.length_drop, List.length_take, not_true_eq_false, not_false_eq_true]
 try simp only [flip_f, flip_t, decide_eq_true_eq, decide_eq_false_iff_not]
 repeat' (first | with_reducible apply And.intro | with_reducible intro _)
 all_goals first | omega | grind
theorem sp_le (l : By) : ∀ n, dropSp l n ≤ n
 | 0 => Nat.le_refl _
 | n + 1 => by
  unfold dropSp
  split
  ·have := sp_le l n; omega
  ·exact Nat.le_refl _
theorem wd_le (l : By) : ∀ n, dropWd l n ≤ n
 | 0 => Nat.le_refl _
 | n + 1 => by
  unfold dropWd
  split
  ·exact Nat.le_refl _
  ·have := wd_le l n; omega
theorem word_le (l : By) : wordN l ≤ dropSp l l.length := wd_le _ _
theorem word_len (l : By) : wordN l ≤ l.length := Nat.le_trans (word_le l) (sp_le _ _)
theorem sp_step {l : By} {n : Nat} (h : 0 < n) (hs : l.getD (n - 1) 0 = 32) : dropSp l n = dropSp l (n - 1) := by
 obtain ⟨m, rfl⟩ : ∃ m, n = m + 1 := ⟨n - 1, by omega⟩
 conv => lhs; unfold dropSp
 rw [if_pos (by simpa using hs)]; rfl
theorem sp_stop {l : By} {n : Nat} (h : n = 0 ∨ ¬ l.getD (n - 1) 0 = 32) : dropSp l n = n := by
 cases n with
 | zero => rfl
 | succ m =>
  unfold dropSp
  rw [if_neg]
  rcases h with h | h
  ·omega
  ·simpa using h
theorem wd_step {l : By} {n : Nat} (h : 0 < n) (hs : ¬ l.getD (n - 1) 0 = 32) : dropWd l n = dropWd l (n - 1) := by
 obtain ⟨m, rfl⟩ : ∃ m, n = m + 1 := ⟨n - 1, by omega⟩
 conv => lhs; unfold dropWd
 rw [if_neg (by simpa using hs)]; rfl
theorem wd_stop {l : By} {n : Nat} (h : n = 0 ∨ l.getD (n - 1) 0 = 32) : dropWd l n = n := by
 cases n with
 | zero => rfl
 | succ m =>
  unfold dropWd
  rw [if_pos]
  rcases h with h | h
  ·omega
  ·simpa using h
theorem last_wd (l : By) : ∀ n, lastN l 32 n + 1 = dropWd l n
 | 0 => rfl
 | n + 1 => by
  unfold lastN dropWd
  split
  ·simp
  ·exact last_wd l n
theorem getD_take {l : By} {m i : Nat} (h : i < m) : (l.take m).getD i 0 = l.getD i 0 := by
 simp [List.getD, List.getElem?_take, h]
theorem wd_take {l : By} {m : Nat} : ∀ n, n ≤ m → dropWd (l.take m) n = dropWd l n
 | 0, _ => rfl
 | n + 1, h => by
  unfold dropWd
  rw [getD_take (by omega), wd_take n (by omega)]
theorem e_word (x : List Int × Unit) (hpre : True) (hlens : LensL cWord.as x) : E_word x := by
 obtain ⟨l, u⟩ := x
 have hlx : l.length ≤ 9223372036854775807 := hlens.1.1
 unfold E_word
 delta qword_1 qword_2
 simp only [Bool.not_eq_true', Bool.not_eq_false', Bool.not_eq_true, Bool.not_eq_false, beq_self_eq_true, decide_eq_true_eq, decide_eq_false_iff_not, Bool.not_false, Bool.not_true, beq_iff_eq, beq_eq_false_iff_ne, bne_iff_ne, ne_eq, bne_eq_false_iff_eq, holds_iff, true_and, and_true, and_self, eq_self, List.length_cons, List.length_nil, List.length_append, List.length_set, List.length_replicate, List.set_cons_zero, cond_true, cond_false, Bool.false_eq_true, Bool.true_eq_false, forall_const, false_imp_iff, imp_self, implies_true, and_imp, Decidable.not_not, Bool.and_eq_true, Bool.or_eq_true, Bool.and_eq_false_iff, Bool.or_eq_false_iff, ← List.length_eq_zero_iff, or_self, or_false, false_or, Prod.forall, Int.reduceEq, Int.reduceLT, Int.reduceLE, List.nil_append, Nat.zero_add, Int.toNat_zero, List.drop_zero, List.length_drop, List.length_take, not_true_eq_false, not_false_eq_true,  pair_eta, Int.toNat_natCast]
 refine ⟨⟨by omega, by omega⟩, fun n hn0 hn1 hn _ _ => ⟨fun h => ⟨h, by omega, by omega⟩, fun h => ⟨h, by omega, by omega⟩, fun h hs => ⟨by omega, ⟨by omega, by omega, ?_⟩, by omega⟩, fun h => ⟨⟨hn0, hn1, ?_⟩, fun m hm0 hm1 hm _ _ => ⟨fun h => ⟨h, by omega, by omega⟩, fun h => ⟨h, by omega, by omega⟩, fun h hs => ⟨by omega, ⟨by omega, by omega, ?_⟩, by omega⟩, fun h => ?_⟩⟩⟩⟩
 ·rw [← hn, sp_step (n := n.toNat) (by omega) (by rw [show n.toNat - 1 = (n - 1).toNat by omega]; exact hs), show n.toNat - 1 = (n - 1).toNat by omega]
 ·unfold wordN
  rw [← hn, sp_stop]
  rcases h with h | h
  ·exact Or.inl (by omega)
  ·exact Or.inr (by rw [show n.toNat - 1 = (n - 1).toNat by omega]; exact h)
 ·rw [← hm, wd_step (n := m.toNat) (by omega) (by rw [show m.toNat - 1 = (m - 1).toNat by omega]; exact hs), show m.toNat - 1 = (m - 1).toNat by omega]
 ·rw [← hm, wd_stop]
  ·omega
  ·rcases h with h | h
   ·exact Or.inl (by omega)
   ·exact Or.inr (by rw [show m.toNat - 1 = (m - 1).toNat by omega]; exact h)
theorem right_mk {ls : List By} {ed : By} (h1 : ed.length ≤ 64) (h2 : ls.length ≤ 400) (h3 : ls.all lineOk = true) : rightT (ls, ed) = true := right_iff.2 ⟨⟨by omega, by omega⟩, h3⟩
theorem e_key (x : (List (List Int) × List Int) × Int × Unit) (hpre : True) (hlens : LensL cKey.as x) : E_key x := by
 obtain ⟨⟨ls, ed⟩, b, u⟩ := x
 unfold E_key
 delta qkey_t1 qkey_2 qkey_4 qkey_5 qkey_6 qkey_7 qkey_8 qkey_9 qkey_1 qkey_3
 simp only [Bool.not_eq_true', Bool.not_eq_false', Bool.not_eq_true, Bool.not_eq_false, beq_self_eq_true, decide_eq_true_eq, decide_eq_false_iff_not, Bool.not_false, Bool.not_true, beq_iff_eq, beq_eq_false_iff_ne, bne_iff_ne, ne_eq, bne_eq_false_iff_eq, holds_iff, true_and, and_true, and_self, eq_self, List.length_cons, List.length_nil, List.length_append, List.length_set, List.length_replicate, List.set_cons_zero, cond_true, cond_false, Bool.false_eq_true, Bool.true_eq_false, forall_const, false_imp_iff, imp_self, implies_true, and_imp, Decidable.not_not, Bool.and_eq_true, Bool.or_eq_true, Bool.and_eq_false_iff, Bool.or_eq_false_iff, ← List.length_eq_zero_iff, or_self, or_false, false_or, Prod.forall, Int.reduceEq, Int.reduceLT, Int.reduceLE, List.nil_append, Nat.zero_add, Int.toNat_zero, List.drop_zero, List.length_drop, List.length_take, not_true_eq_false, not_false_eq_true,  pair_eta, Int.toNat_natCast, List.take_length, toNat1, Nat.min_self, List.append_nil, Nat.add_zero]
 refine ⟨fun h => ?_, fun h => ?_⟩
 ·unfold keyR keyT; rw [if_pos h]; exact ⟨rfl, rfl⟩
 have hr := right_iff.1 h
 have hwl := word_len ed
 unfold keyR keyT
 rw [if_neg (by rw [h]; decide)]
 dsimp only
 refine ⟨fun h1 h2 => ?_, fun h1 => ⟨fun h2 => ⟨by omega, by omega, by omega, by omega, ?_, ?_⟩, fun h2 => ⟨fun h3 => ⟨by omega, by omega, by omega, by omega, ?_, ?_⟩, fun h3 => ⟨fun h4 => ⟨by omega, by omega, ?_, ?_⟩, fun h4 =>
  ⟨fun h5 => ⟨?_, ?_⟩, fun h5 => ⟨fun h6 => ⟨by omega, ?_, ?_⟩, fun h6 => ⟨fun h7 => ?_, fun h7 => ⟨by omega, by omega, ?_, ?_⟩⟩⟩⟩⟩⟩⟩⟩
 ·rcases h1 with h1 | h1
  ·rw [if_pos h1, if_pos (by omega)]; exact ⟨rfl, rfl⟩
  ·rw [if_neg (by omega), if_pos h1, if_pos (by omega)]; exact ⟨rfl, rfl⟩
 ·refine right_mk (by simp) (by simp; omega) ?_
  rw [List.all_append, hr.2, List.all_cons, line_iff.2 (by simp; omega)]; rfl
 ·subst h2
  rw [if_pos rfl, if_neg (by omega)]; exact ⟨rfl, rfl⟩
 ·refine right_mk (by simp) (by simp; omega) ?_
  rw [List.all_append, hr.2, List.all_cons, line_iff.2 (by omega)]; rfl
 ·rw [if_neg h2, if_pos h3, if_neg (by omega)]; exact ⟨rfl, rfl⟩
 ·exact right_mk (by rw [List.length_take]; omega) (by omega) hr.2
 ·rw [if_neg h2, if_neg h3, if_pos h4, show (max ((ed.length : Int) - 1) 0).toNat = ed.length - 1 by omega]; exact ⟨rfl, rfl⟩
 ·exact right_mk (by simp) (by omega) hr.2
 ·rw [if_neg h2, if_neg h3, if_neg h4, if_pos h5]; exact ⟨rfl, rfl⟩
 ·exact right_mk (by rw [List.length_take]; omega) (by omega) hr.2
 ·rw [if_neg h2, if_neg h3, if_neg h4, if_neg h5, if_pos h6]; exact ⟨rfl, rfl⟩
 ·rw [if_neg h2, if_neg h3, if_neg h4, if_neg h5, if_neg h6, if_pos (by omega)]; exact ⟨rfl, rfl⟩
 ·exact right_mk (by simp; omega) (by omega) hr.2
 ·rw [if_neg h2, if_neg h3, if_neg h4, if_neg h5, if_neg h6, if_neg (by omega)]; exact ⟨rfl, rfl⟩
theorem drop_last {a : By} (h : 1 ≤ a.length) : a.drop (a.length - 1) = [32] ↔ a.getD (a.length - 1) 0 = 32 := by
 have e : a.drop (a.length - 1) = [a.getD (a.length - 1) 0] := by
  rw [List.drop_eq_getElem_cons (by omega), getD_lt (by omega)]
  rw [List.drop_eq_nil_of_le (by omega)]
 rw [e]; simp
theorem typ_snoc (l : By) (b : Int) : typ (l ++ [b]) = if (keyT (typ l) b).2 = 0 then (keyT (typ l) b).1 else typ l := by
 unfold typ
 rw [List.foldl_append]; rfl
theorem e_type (x : List Int × Unit) (hpre : True) (hlens : LensL cType.as x) : E_type x := by
 obtain ⟨l, u⟩ := x
 have ha : l.length ≤ 9223372036854775807 := hlens.1.1
 unfold E_type
 delta qtype_t1 qtype_1 qtype_2 qtype_3 qtype_4
 simp only [Bool.not_eq_true', Bool.not_eq_false', Bool.not_eq_true, Bool.not_eq_false, beq_self_eq_true, decide_eq_true_eq, decide_eq_false_iff_not, Bool.not_false, Bool.not_true, beq_iff_eq, beq_eq_false_iff_ne, bne_iff_ne, ne_eq, bne_eq_false_iff_eq, holds_iff, true_and, and_true, and_self, eq_self, List.length_cons, List.length_nil, List.length_append, List.length_set, List.length_replicate, List.set_cons_zero, cond_true, cond_false, Bool.false_eq_true, Bool.true_eq_false, forall_const, false_imp_iff, imp_self, implies_true, and_imp, Decidable.not_not, Bool.and_eq_true, Bool.or_eq_true, Bool.and_eq_false_iff, Bool.or_eq_false_iff, ← List.length_eq_zero_iff, or_self, or_false, false_or, Prod.forall, Int.reduceEq, Int.reduceLT, Int.reduceLE, List.nil_append, Nat.zero_add, Int.toNat_zero, List.drop_zero, List.length_drop, List.length_take, not_true_eq_false, not_false_eq_true,  pair_eta, Int.toNat_natCast, List.take_length, toNat1, Nat.min_self]
 refine ⟨⟨by omega, rfl⟩, fun ls ed k hk0 hk1 ht _ _ _ _ _ _ => ⟨fun h => ⟨⟨hk0, h⟩, fun hz => ⟨by omega, ⟨by omega, by omega, ?_⟩, by omega⟩, fun hz => ⟨by omega, ⟨by omega, by omega, ?_⟩, by omega⟩⟩, fun h => ?_⟩⟩
 ·rw [takeI_succ 0 hk0 h, typ_snoc, ← ht]
  have hz : (keyT (ls, ed) (l.getD k.toNat 0)).2 = 0 := hz
  rw [if_pos hz]; rfl
 ·rw [takeI_succ 0 hk0 h, typ_snoc, ← ht]
  have hz : ¬ (keyT (ls, ed) (l.getD k.toNat 0)).2 = 0 := hz
  rw [if_neg hz]
 ·rw [ht, takeI_all (by omega)]

end Go.Proofs.YtdhldloajddfiaaGreatDoor.Tty
