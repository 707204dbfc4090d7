/-
 TtyTells, TtyTypes: the conditions hold: what may be, what is read.
-/
import Derived.Test.YtppgbcmeagbalaaDoorTtyE
namespace Go.Proofs.YtppgbcmeagbalaaDoor.Tty
open Go.Sx
set_option maxRecDepth 100000
set_option maxHeartbeats 1000000
set_option linter.unusedSimpArgs false
set_option linter.unusedVariables false

theorem toNat1 : Int.toNat 1 = 1 := rfl
theorem line_iff {l : By} : lineOk l = true ↔ (l.length : Int) ≤ 65 := by unfold lineOk; exact decide_eq_true_iff
theorem right_iff {ls : List By} {ed : By} : rightT (ls, ed) = true ↔ ((ed.length : Int) ≤ 64 ∧ (ls.length : Int) ≤ 400) ∧ ls.all lineOk = true := by
 unfold rightT
 simp [Bool.and_eq_true]
theorem right_line {ls : List By} {ed : By} {k : Int} (h : rightT (ls, ed) = true) (h0 : 0 ≤ k) (h1 : k < ls.length) : (ls.getD k.toNat []).length ≤ 65 := by
 have hm : ls.getD k.toNat [] ∈ ls := getD_mem (by omega)
 have := List.all_eq_true.1 (right_iff.1 h).2 _ hm
 have := line_iff.1 this
 omega
theorem e_cloneb (x : List Int × Unit) (hpre : x.1.length ≤ 140737488355328) (hlens : LensL cCloneB.as x) : E_cloneb x := by
 obtain ⟨xs, u⟩ := x
 unfold E_cloneb
 simp only [Bool.not_eq_true', Bool.not_eq_false', Bool.not_eq_true, Bool.not_eq_false, beq_self_eq_true, decide_eq_true_eq, decide_eq_false_iff_not, Bool.not_false, Bool.not_true, beq_iff_eq, beq_eq_false_iff_ne, bne_iff_ne, ne_eq, bne_eq_false_iff_eq, holds_iff, true_and, and_true, and_self, eq_self, List.length_cons, List.length_nil, List.length_append, List.length_set, List.length_replicate, List.set_cons_zero, cond_true, cond_false, Bool.false_eq_true, Bool.true_eq_false, forall_const, false_imp_iff, imp_self, implies_true, and_imp, Decidable.not_not, Bool.and_eq_true, Bool.or_eq_true, Bool.and_eq_false_iff, Bool.or_eq_false_iff, ← List.length_eq_zero_iff, or_self, or_false, false_or, Prod.forall, Int.reduceEq, Int.reduceLT, Int.reduceLE, List.nil_append, Nat.zero_add, Int.toNat_zero, List.drop_zero, List.length_drop, List.length_take, not_true_eq_false, not_false_eq_true]
 try simp only [flip_f, flip_t, decide_eq_true_eq, decide_eq_false_iff_not]
 repeat' (first | with_reducible apply And.intro | with_reducible intro _)
 all_goals first | omega | grind
theorem e_any (x : List (List Int) × Unit) (hpre : True) (hlens : LensL cAny.as x) : E_any x := by
 obtain ⟨xs, u⟩ := x
 have hlx : xs.length ≤ 9223372036854775807 := hlens.1.1
 unfold E_any
 simp only [Bool.not_eq_true', Bool.not_eq_false', Bool.not_eq_true, Bool.not_eq_false, beq_self_eq_true, decide_eq_true_eq, decide_eq_false_iff_not, Bool.not_false, Bool.not_true, beq_iff_eq, beq_eq_false_iff_ne, bne_iff_ne, ne_eq, bne_eq_false_iff_eq, holds_iff, true_and, and_true, and_self, eq_self, List.length_cons, List.length_nil, List.length_append, List.length_set, List.length_replicate, List.set_cons_zero, cond_true, cond_false, Bool.false_eq_true, Bool.true_eq_false, forall_const, false_imp_iff, imp_self, implies_true, and_imp, Decidable.not_not, Bool.and_eq_true, Bool.or_eq_true, Bool.and_eq_false_iff, Bool.or_eq_false_iff, ← List.length_eq_zero_iff, or_self, or_false, false_or, Prod.forall, Int.reduceEq, Int.reduceLT, Int.reduceLE, List.nil_append, Nat.zero_add, Int.toNat_zero, List.drop_zero, List.length_drop, List.length_take, not_true_eq_false, not_false_eq_true]
 try simp only [flip_f, flip_t, decide_eq_true_eq, decide_eq_false_iff_not]
 refine ⟨⟨by omega, rfl⟩, fun k _ h0 h1 ha _ _ => ⟨fun hk => ⟨⟨h0, hk⟩, fun hb => ?_, fun hb => ⟨by omega, ⟨by omega, by omega, ?_⟩, by omega⟩⟩, fun hk => ?_⟩⟩
 ·rw [all_false_of (p := lineOk) (k := k.toNat) (d := []) (by omega) (by rw [← Bool.not_eq_true, line_iff]; omega), decide_eq_true h0]
  rfl
 ·rw [all_takeI [] h0 hk, ha, line_iff.2 (by omega)]; rfl
 ·rw [takeI_all (by omega)] at ha
  rw [ha]; simp
theorem e_right (x : (List (List Int) × List Int) × Unit) (hpre : True) (hlens : LensL cRight.as x) : E_right x := by
 obtain ⟨⟨ls, ed⟩, u⟩ := x
 unfold E_right rightT
 simp only [Bool.not_eq_true', Bool.not_eq_false', Bool.not_eq_true, Bool.not_eq_false, beq_self_eq_true, decide_eq_true_eq, decide_eq_false_iff_not, Bool.not_false, Bool.not_true, beq_iff_eq, beq_eq_false_iff_ne, bne_iff_ne, ne_eq, bne_eq_false_iff_eq, holds_iff, true_and, and_true, and_self, eq_self, List.length_cons, List.length_nil, List.length_append, List.length_set, List.length_replicate, List.set_cons_zero, cond_true, cond_false, Bool.false_eq_true, Bool.true_eq_false, forall_const, false_imp_iff, imp_self, implies_true, and_imp, Decidable.not_not, Bool.and_eq_true, Bool.or_eq_true, Bool.and_eq_false_iff, Bool.or_eq_false_iff, ← List.length_eq_zero_iff, or_self, or_false, false_or, Prod.forall, Int.reduceEq, Int.reduceLT, Int.reduceLE, List.nil_append, Nat.zero_add, Int.toNat_zero, List.drop_zero, List.length_drop, List.length_take, not_true_eq_false, not_false_eq_true]
 try simp only [flip_f, flip_t, decide_eq_true_eq, decide_eq_false_iff_not]
 refine ⟨fun h1 h2 => ⟨⟨h1, h2⟩, by simp [h1, h2]⟩, fun h => ?_⟩
 rcases h with h | h <;> simp [h]
theorem e_qright (x : (List (List Int) × List Int) × Unit) (hpre : True) (hlens : LensL cRight.as x) : E_qright x := by
 obtain ⟨⟨ls, ed⟩, u⟩ := x
 have hlx : ls.length ≤ 9223372036854775807 := hlens.1.1.1
 unfold E_qright rightT
 simp only [Bool.not_eq_true', Bool.not_eq_false', Bool.not_eq_true, Bool.not_eq_false, beq_self_eq_true, decide_eq_true_eq, decide_eq_false_iff_not, Bool.not_false, Bool.not_true, beq_iff_eq, beq_eq_false_iff_ne, bne_iff_ne, ne_eq, bne_eq_false_iff_eq, holds_iff, true_and, and_true, and_self, eq_self, List.length_cons, List.length_nil, List.length_append, List.length_set, List.length_replicate, List.set_cons_zero, cond_true, cond_false, Bool.false_eq_true, Bool.true_eq_false, forall_const, false_imp_iff, imp_self, implies_true, and_imp, Decidable.not_not, Bool.and_eq_true, Bool.or_eq_true, Bool.and_eq_false_iff, Bool.or_eq_false_iff, ← List.length_eq_zero_iff, or_self, or_false, false_or, Prod.forall, Int.reduceEq, Int.reduceLT, Int.reduceLE, List.nil_append, Nat.zero_add, Int.toNat_zero, List.drop_zero, List.length_drop, List.length_take, not_true_eq_false, not_false_eq_true]
 try simp only [flip_f, flip_t, decide_eq_true_eq, decide_eq_false_iff_not]
 refine ⟨⟨by omega, ?_⟩, fun b k _ h0 h1 ha _ _ => ⟨fun hk => ⟨⟨h0, hk⟩, by omega, ⟨by omega, by omega, ?_⟩, by omega⟩, fun hk => ?_⟩⟩
 ·have e1 : decide ((ed.length : Int) < 65) = decide ((ed.length : Int) ≤ 64) := decide_eq_decide.2 (by omega)
  have e2 : decide ((ls.length : Int) < 401) = decide ((ls.length : Int) ≤ 400) := decide_eq_decide.2 (by omega)
  rw [e1, e2]
  simp
 ·rw [ha, all_takeI [] h0 hk, Bool.and_assoc, show lineOk (ls.getD k.toNat []) = decide (((ls.getD k.toNat []).length : Int) < 66) from decide_eq_decide.2 (by omega)]
 ·rw [ha, takeI_all (by omega)]
theorem e_read (x : (List (List Int) × List Int) × Int × Unit) (hpre : True) (hlens : LensL cRead.as x) : E_read x := by
 obtain ⟨⟨ls, ed⟩, m, u⟩ := x
 have hlx : ls.length ≤ 9223372036854775807 := hlens.1.1.1
 unfold E_read
 simp only [Bool.not_eq_true', Bool.not_eq_false', Bool.not_eq_true, Bool.not_eq_false, beq_self_eq_true, decide_eq_true_eq, decide_eq_false_iff_not, Bool.not_false, Bool.not_true, beq_iff_eq, beq_eq_false_iff_ne, bne_iff_ne, ne_eq, bne_eq_false_iff_eq, holds_iff, true_and, and_true, and_self, eq_self, List.length_cons, List.length_nil, List.length_append, List.length_set, List.length_replicate, List.set_cons_zero, cond_true, cond_false, Bool.false_eq_true, Bool.true_eq_false, forall_const, false_imp_iff, imp_self, implies_true, and_imp, Decidable.not_not, Bool.and_eq_true, Bool.or_eq_true, Bool.and_eq_false_iff, Bool.or_eq_false_iff, ← List.length_eq_zero_iff, or_self, or_false, false_or, Prod.forall, Int.reduceEq, Int.reduceLT, Int.reduceLE, List.nil_append, Nat.zero_add, Int.toNat_zero, List.drop_zero, List.length_drop, List.length_take, not_true_eq_false, not_false_eq_true,  pair_eta, Int.toNat_natCast, List.take_length, toNat1]
 refine ⟨fun h => ?_, fun h => ⟨fun hm => ?_, fun hm => ⟨fun hl => ?_, fun hl => ⟨?_, ⟨by omega, rfl⟩, fun a k h0 h1 ha _ _ _ _ => ⟨fun hk => ⟨⟨h0, hk⟩, ?_, ?_, by omega, ⟨by omega, by omega, ?_⟩, by omega⟩, fun hk => ?_⟩⟩⟩⟩⟩
 ·unfold readT; rw [if_pos h]; exact ⟨rfl, rfl, rfl⟩
 ·unfold readT; rw [if_neg (by rw [h]; decide), if_pos hm]; exact ⟨rfl, rfl, rfl⟩
 ·have : ls = [] := List.eq_nil_of_length_eq_zero (by omega)
  subst this
  unfold readT; rw [if_neg (by rw [h]; decide), if_neg hm]; exact ⟨rfl, rfl, rfl⟩
 ·have := (right_iff.1 h).1; omega
 ·have := right_line h h0 hk; omega
 ·have := (right_iff.1 h).1
  have e : a.length ≤ ls.length := by rw [ha, List.length_take]; omega
  omega
 ·rw [takeI_succ [] h0 hk, ha]
 ·rw [takeI_all (by omega)] at ha
  subst ha
  match a, hl, h with
  | [], hl, _ => simp at hl
  | l :: r, _, h =>
   have hl65 := right_line h (k := 0) (by omega) (by simp)
   have e0 : (l :: r).getD 0 [] = l := rfl
   have e0' : (l :: r).getD (Int.toNat 0) [] = l := rfl
   rw [e0'] at hl65
   simp only [e0]
   unfold readT
   rw [if_neg (by rw [h]; decide), if_neg hm]
   refine ⟨by simp, ⟨by omega, by omega⟩, by omega, fun hq => ⟨⟨by simp; omega, by omega⟩, ?_⟩, fun hq => ⟨⟨⟨by omega, by omega⟩, by omega⟩, by omega, by simp, ?_⟩⟩
   ·simp only []
    have e1 : (min m (l.length : Int)).toNat = l.length := by omega
    rw [if_pos (by omega), e1, List.take_length]
    exact ⟨by simp, rfl, rfl⟩
   ·simp only []
    have e1 : (min m (l.length : Int)).toNat = m.toNat := by omega
    rw [if_neg (by omega), e1]
    exact ⟨by simp, rfl, rfl⟩
theorem e_own (x : (List (List Int) × List Int) × Unit) (hpre : rightT x.1 = true) (hlens : LensL cOwn.as x) : E_own x := by
 obtain ⟨⟨ls, ed⟩, u⟩ := x
 have hlx : ls.length ≤ 9223372036854775807 := hlens.1.1.1
 have h : rightT (ls, ed) = true := hpre
 have hr := (right_iff.1 h).1
 unfold E_own
 simp only [Bool.not_eq_true', Bool.not_eq_false', Bool.not_eq_true, Bool.not_eq_false, beq_self_eq_true, decide_eq_true_eq, decide_eq_false_iff_not, Bool.not_false, Bool.not_true, beq_iff_eq, beq_eq_false_iff_ne, bne_iff_ne, ne_eq, bne_eq_false_iff_eq, holds_iff, true_and, and_true, and_self, eq_self, List.length_cons, List.length_nil, List.length_append, List.length_set, List.length_replicate, List.set_cons_zero, cond_true, cond_false, Bool.false_eq_true, Bool.true_eq_false, forall_const, false_imp_iff, imp_self, implies_true, and_imp, Decidable.not_not, Bool.and_eq_true, Bool.or_eq_true, Bool.and_eq_false_iff, Bool.or_eq_false_iff, ← List.length_eq_zero_iff, or_self, or_false, false_or, Prod.forall, Int.reduceEq, Int.reduceLT, Int.reduceLE, List.nil_append, Nat.zero_add, Int.toNat_zero, List.drop_zero, List.length_drop, List.length_take, not_true_eq_false, not_false_eq_true,  pair_eta]
 refine ⟨by omega, ⟨by omega, rfl⟩, fun a k h0 h1 ha _ _ _ _ => ⟨fun hk => ⟨⟨h0, hk⟩, ?_, ?_, by omega, ⟨by omega, by omega, ?_⟩, by omega⟩, fun hk => ?_⟩⟩
 ·have := right_line h h0 hk; omega
 ·have e : a.length ≤ ls.length := by rw [ha, List.length_take]; omega
  omega
 ·rw [takeI_succ [] h0 hk, ha]
 ·rw [ha, takeI_all (by omega)]
theorem e_qread (x : (List (List Int) × List Int) × Int × Unit) (hpre : True) (hlens : LensL cRead.as x) : E_qread x := by
 obtain ⟨⟨ls, ed⟩, m, u⟩ := x
 unfold E_qread
 simp only [Bool.not_eq_true', Bool.not_eq_false', Bool.not_eq_true, Bool.not_eq_false, beq_self_eq_true, decide_eq_true_eq, decide_eq_false_iff_not, Bool.not_false, Bool.not_true, beq_iff_eq, beq_eq_false_iff_ne, bne_iff_ne, ne_eq, bne_eq_false_iff_eq, holds_iff, true_and, and_true, and_self, eq_self, List.length_cons, List.length_nil, List.length_append, List.length_set, List.length_replicate, List.set_cons_zero, cond_true, cond_false, Bool.false_eq_true, Bool.true_eq_false, forall_const, false_imp_iff, imp_self, implies_true, and_imp, Decidable.not_not, Bool.and_eq_true, Bool.or_eq_true, Bool.and_eq_false_iff, Bool.or_eq_false_iff, ← List.length_eq_zero_iff, or_self, or_false, false_or, Prod.forall, Int.reduceEq, Int.reduceLT, Int.reduceLE, List.nil_append, Nat.zero_add, Int.toNat_zero, List.drop_zero, List.length_drop, List.length_take, not_true_eq_false, not_false_eq_true,  pair_eta, Int.toNat_natCast, List.take_length, toNat1, Nat.min_self]
 refine ⟨fun h => ?_, fun h => ⟨fun hm => ?_, fun hm => ⟨fun hl => ?_, fun hl => ?_⟩⟩⟩
 ·unfold readT; rw [if_pos h]; exact ⟨rfl, rfl, rfl⟩
 ·unfold readT; rw [if_neg (by rw [h]; decide), if_pos hm]; exact ⟨rfl, rfl, rfl⟩
 ·have : ls = [] := List.eq_nil_of_length_eq_zero (by omega)
  subst this
  unfold readT; rw [if_neg (by rw [h]; decide), if_neg hm]; exact ⟨rfl, rfl, rfl⟩
 ·have hr := (right_iff.1 h).1
  match ls, hl, h, hr with
  | [], hl, _, _ => simp at hl
  | l :: r, _, h, hr =>
   have hl65 := right_line h (k := 0) (by omega) (by simp)
   have e0 : (l :: r).getD 0 [] = l := rfl
   have e0' : (l :: r).getD (Int.toNat 0) [] = l := rfl
   rw [e0'] at hl65
   simp only [List.length_cons] at hr
   simp only [e0]
   unfold readT
   rw [if_neg (by rw [h]; decide), if_neg hm]
   refine ⟨by simp, ⟨by simp; omega, by omega⟩, by simp only [List.length_cons]; omega, fun hq => ⟨⟨by omega, by omega⟩, by simp only [List.length_cons]; omega, by omega, ?_⟩, fun hq => ?_⟩
   ·simp only []
    rw [if_neg (by omega)]
    exact ⟨by simp, rfl, rfl⟩
   ·simp only []
    rw [if_pos (by omega)]
    exact ⟨by simp, rfl, rfl⟩

end Go.Proofs.YtppgbcmeagbalaaDoor.Tty
