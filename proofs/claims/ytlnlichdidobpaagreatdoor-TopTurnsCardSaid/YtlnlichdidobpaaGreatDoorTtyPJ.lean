/-
 The conditions, proved.
-/
import Derived.Test.YtlnlichdidobpaaGreatDoorTtyE
namespace Go.Proofs.YtlnlichdidobpaaGreatDoor.Tty
open Go.Sx
set_option maxRecDepth 100000
set_option maxHeartbeats 1000000
set_option linter.unusedSimpArgs false
set_option linter.unusedVariables false

theorem Hw : Int.toNat 1 = 1 := rfl
theorem nD {l : By} : fF l = true ↔ (l.length : Int) ≤ 65 := by unfold fF; exact decide_eq_true_iff
theorem bu {ls : List By} {ed : By} : aO (ls, ed) = true ↔ ((ed.length : Int) ≤ 64 ∧ (ls.length : Int) ≤ 400) ∧ ls.all fF = true := by
 unfold aO
 simp [Bool.and_eq_true]
theorem pY {ls : List By} {ed : By} {k : Int} (h : aO (ls, ed) = true) (h0 : 0 ≤ k) (h1 : k < ls.length) : (ls.getD k.toNat []).length ≤ 65 := by
 have hm : ls.getD k.toNat [] ∈ ls := j7 (by omega)
 have := List.all_eq_true.1 (bu.1 h).2 _ hm
 have := nD.1 this
 omega
theorem G6 (x : List Int × Unit) (hpre : x.1.length ≤ 140737488355328) (hlens : aD gq.as x) : ux x := by
 obtain ⟨xs, u⟩ := x
 unfold ux
 simp only [Bool.not_eq_true', Bool.not_eq_false', Bool.not_eq_true, Bool.not_eq_false, beq_self_eq_true, decide_eq_true_eq, decide_eq_false_iff_not, Bool.not_false, Bool.not_true, beq_iff_eq, beq_eq_false_iff_ne, bne_iff_ne, ne_eq, bne_eq_false_iff_eq, aE, true_and, and_true, and_self, eq_self, List.length_cons, List.length_nil, List.length_append, List.length_set, List.length_replicate, List.set_cons_zero, cond_true, cond_false, Bool.false_eq_true, Bool.true_eq_false, forall_const, false_imp_iff, imp_self, implies_true, and_imp, Decidable.not_not, Bool.and_eq_true, Bool.or_eq_true, Bool.and_eq_false_iff, Bool.or_eq_false_iff, ← List.length_eq_zero_iff, or_self, or_false, false_or, Prod.forall, Int.reduceEq, Int.reduceLT, Int.reduceLE, List.nil_append, Nat.zero_add, Int.toNat_zero, List.drop_zero, List.length_drop, List.length_take, not_true_eq_false, not_false_eq_true]
 try simp only [eP, eH, decide_eq_true_eq, decide_eq_false_iff_not]
 repeat' (first | with_reducible apply And.intro | with_reducible intro _)
 all_goals first | omega | grind
theorem T1 (x : List (List Int) × Unit) (hpre : True) (hlens : aD tq.as x) : HP x := by
 obtain ⟨xs, u⟩ := x
 have hlx : xs.length ≤ 9223372036854775807 := hlens.1.1
 unfold HP
 simp only [Bool.not_eq_true', Bool.not_eq_false', Bool.not_eq_true, Bool.not_eq_false, beq_self_eq_true, decide_eq_true_eq, decide_eq_false_iff_not, Bool.not_false, Bool.not_true, beq_iff_eq, beq_eq_false_iff_ne, bne_iff_ne, ne_eq, bne_eq_false_iff_eq, aE, true_and, and_true, and_self, eq_self, List.length_cons, List.length_nil, List.length_append, List.length_set, List.length_replicate, List.set_cons_zero, cond_true, cond_false, Bool.false_eq_true, Bool.true_eq_false, forall_const, false_imp_iff, imp_self, implies_true, and_imp, Decidable.not_not, Bool.and_eq_true, Bool.or_eq_true, Bool.and_eq_false_iff, Bool.or_eq_false_iff, ← List.length_eq_zero_iff, or_self, or_false, false_or, Prod.forall, Int.reduceEq, Int.reduceLT, Int.reduceLE, List.nil_append, Nat.zero_add, Int.toNat_zero, List.drop_zero, List.length_drop, List.length_take, not_true_eq_false, not_false_eq_true]
 try simp only [eP, eH, decide_eq_true_eq, decide_eq_false_iff_not]
 refine ⟨⟨by omega, rfl⟩, fun k _ h0 h1 ha _ _ => ⟨fun hk => ⟨⟨h0, hk⟩, fun hb => ?_, fun hb => ⟨by omega, ⟨by omega, by omega, ?_⟩, by omega⟩⟩, fun hk => ?_⟩⟩
 ·rw [qR (p := fF) (k := k.toNat) (d := []) (by omega) (by rw [← Bool.not_eq_true, nD]; omega), decide_eq_true h0]
  rfl
 ·rw [xj [] h0 hk, ha, nD.2 (by omega)]; rfl
 ·rw [ff (by omega)] at ha
  rw [ha]; simp
theorem iW (x : (List (List Int) × List Int) × Unit) (hpre : True) (hlens : aD aJ.as x) : cy x := by
 obtain ⟨⟨ls, ed⟩, u⟩ := x
 unfold cy aO
 simp only [Bool.not_eq_true', Bool.not_eq_false', Bool.not_eq_true, Bool.not_eq_false, beq_self_eq_true, decide_eq_true_eq, decide_eq_false_iff_not, Bool.not_false, Bool.not_true, beq_iff_eq, beq_eq_false_iff_ne, bne_iff_ne, ne_eq, bne_eq_false_iff_eq, aE, true_and, and_true, and_self, eq_self, List.length_cons, List.length_nil, List.length_append, List.length_set, List.length_replicate, List.set_cons_zero, cond_true, cond_false, Bool.false_eq_true, Bool.true_eq_false, forall_const, false_imp_iff, imp_self, implies_true, and_imp, Decidable.not_not, Bool.and_eq_true, Bool.or_eq_true, Bool.and_eq_false_iff, Bool.or_eq_false_iff, ← List.length_eq_zero_iff, or_self, or_false, false_or, Prod.forall, Int.reduceEq, Int.reduceLT, Int.reduceLE, List.nil_append, Nat.zero_add, Int.toNat_zero, List.drop_zero, List.length_drop, List.length_take, not_true_eq_false, not_false_eq_true]
 try simp only [eP, eH, decide_eq_true_eq, decide_eq_false_iff_not]
 refine ⟨fun h1 h2 => ⟨⟨h1, h2⟩, by simp [h1, h2]⟩, fun h => ?_⟩
 rcases h with h | h <;> simp [h]
theorem C3 (x : (List (List Int) × List Int) × Int × Unit) (hpre : True) (hlens : aD dV.as x) : pH x := by
 obtain ⟨⟨ls, ed⟩, m, u⟩ := x
 have hlx : ls.length ≤ 9223372036854775807 := hlens.1.1.1
 unfold pH
 delta qV dq cN cO dM eT dQ ky aM
 simp only [Bool.not_eq_true', Bool.not_eq_false', Bool.not_eq_true, Bool.not_eq_false, beq_self_eq_true, decide_eq_true_eq, decide_eq_false_iff_not, Bool.not_false, Bool.not_true, beq_iff_eq, beq_eq_false_iff_ne, bne_iff_ne, ne_eq, bne_eq_false_iff_eq, aE, true_and, and_true, and_self, eq_self, List.length_cons, List.length_nil, List.length_append, List.length_set, List.length_replicate, List.set_cons_zero, cond_true, cond_false, Bool.false_eq_true, Bool.true_eq_false, forall_const, false_imp_iff, imp_self, implies_true, and_imp, Decidable.not_not, Bool.and_eq_true, Bool.or_eq_true, Bool.and_eq_false_iff, Bool.or_eq_false_iff, ← List.length_eq_zero_iff, or_self, or_false, false_or, Prod.forall, Int.reduceEq, Int.reduceLT, Int.reduceLE, List.nil_append, Nat.zero_add, Int.toNat_zero, List.drop_zero, List.length_drop, List.length_take, not_true_eq_false, not_false_eq_true,  bM, Int.toNat_natCast, List.take_length, Hw]
 refine ⟨fun h => ?_, fun h => ⟨fun hm => ?_, fun hm => ⟨fun hl => ?_, fun hl => ⟨?_, ⟨by omega, rfl⟩, fun a k h0 h1 ha _ _ _ _ => ⟨fun hk => ⟨⟨h0, hk⟩, ?_, ?_, by omega, ⟨by omega, by omega, ?_⟩, by omega⟩, fun hk => ?_⟩⟩⟩⟩⟩
 ·unfold bW; rw [if_pos h]; exact ⟨rfl, rfl, rfl⟩
 ·unfold bW; rw [if_neg (by rw [h]; decide), if_pos hm]; exact ⟨rfl, rfl, rfl⟩
 ·have : ls = [] := List.eq_nil_of_length_eq_zero (by omega)
  subst this
  unfold bW; rw [if_neg (by rw [h]; decide), if_neg hm]; exact ⟨rfl, rfl, rfl⟩
 ·have := (bu.1 h).1; omega
 ·have := pY h h0 hk; omega
 ·have := (bu.1 h).1
  have e : a.length ≤ ls.length := by rw [ha, List.length_take]; omega
  omega
 ·rw [dT [] h0 hk, ha]
 ·rw [ff (by omega)] at ha
  subst ha
  match a, hl, h with
  | [], hl, _ => simp at hl
  | l :: r, _, h =>
   have hl65 := pY h (k := 0) (by omega) (by simp)
   have e0 : (l :: r).getD 0 [] = l := rfl
   have e0' : (l :: r).getD (Int.toNat 0) [] = l := rfl
   rw [e0'] at hl65
   simp only [e0]
   unfold bW
   rw [if_neg (by rw [h]; decide), if_neg hm]
   refine ⟨by simp, ⟨by omega, by omega⟩, by omega, fun hq => ⟨⟨by simp; omega, by omega⟩, ?_⟩, fun hq => ⟨⟨⟨by omega, by omega⟩, by omega⟩, by omega, by simp, ?_⟩⟩
   ·simp only []
    have e1 : (min m (l.length : Int)).toNat = l.length := by omega
    rw [if_pos (by omega), e1, List.take_length]
    exact ⟨by simp, rfl, rfl⟩
   ·simp only []
    have e1 : (min m (l.length : Int)).toNat = m.toNat := by omega
    rw [if_neg (by omega), e1]
    exact ⟨by simp, rfl, rfl⟩
theorem UA (x : (List (List Int) × List Int) × Unit) (hpre : aO x.1 = true) (hlens : aD tr.as x) : Iz x := by
 obtain ⟨⟨ls, ed⟩, u⟩ := x
 have hlx : ls.length ≤ 9223372036854775807 := hlens.1.1.1
 have h : aO (ls, ed) = true := hpre
 have hr := (bu.1 h).1
 unfold Iz
 delta pT B7 nO
 simp only [Bool.not_eq_true', Bool.not_eq_false', Bool.not_eq_true, Bool.not_eq_false, beq_self_eq_true, decide_eq_true_eq, decide_eq_false_iff_not, Bool.not_false, Bool.not_true, beq_iff_eq, beq_eq_false_iff_ne, bne_iff_ne, ne_eq, bne_eq_false_iff_eq, aE, true_and, and_true, and_self, eq_self, List.length_cons, List.length_nil, List.length_append, List.length_set, List.length_replicate, List.set_cons_zero, cond_true, cond_false, Bool.false_eq_true, Bool.true_eq_false, forall_const, false_imp_iff, imp_self, implies_true, and_imp, Decidable.not_not, Bool.and_eq_true, Bool.or_eq_true, Bool.and_eq_false_iff, Bool.or_eq_false_iff, ← List.length_eq_zero_iff, or_self, or_false, false_or, Prod.forall, Int.reduceEq, Int.reduceLT, Int.reduceLE, List.nil_append, Nat.zero_add, Int.toNat_zero, List.drop_zero, List.length_drop, List.length_take, not_true_eq_false, not_false_eq_true,  bM]
 refine ⟨by omega, ⟨by omega, rfl⟩, fun a k h0 h1 ha _ _ _ _ => ⟨fun hk => ⟨⟨h0, hk⟩, ?_, ?_, by omega, ⟨by omega, by omega, ?_⟩, by omega⟩, fun hk => ?_⟩⟩
 ·have := pY h h0 hk; omega
 ·have e : a.length ≤ ls.length := by rw [ha, List.length_take]; omega
  omega
 ·rw [dT [] h0 hk, ha]
 ·rw [ha, ff (by omega)]

theorem GR (x : List Int × Unit) (hpre : x.1.length ≤ 140737488355328) (hlens : aD b7.as x) : vX x := by
 obtain ⟨xs, u⟩ := x
 unfold vX
 simp only [Bool.not_eq_true', Bool.not_eq_false', Bool.not_eq_true, Bool.not_eq_false, beq_self_eq_true, decide_eq_true_eq, decide_eq_false_iff_not, Bool.not_false, Bool.not_true, beq_iff_eq, beq_eq_false_iff_ne, bne_iff_ne, ne_eq, bne_eq_false_iff_eq, aE, true_and, and_true, and_self, eq_self, List.length_cons, List.length_nil, List.length_append, List.length_set, List.length_replicate, List.set_cons_zero, cond_true, cond_false, Bool.false_eq_true, Bool.true_eq_false, forall_const, false_imp_iff, imp_self, implies_true, and_imp, Decidable.not_not, Bool.and_eq_true, Bool.or_eq_true, Bool.and_eq_false_iff, Bool.or_eq_false_iff, ← List.length_eq_zero_iff, or_self, or_false, false_or, Prod.forall, Int.reduceEq, Int.reduceLT, Int.reduceLE, List.nil_append, Nat.zero_add, Int.toNat_zero, List.drop_zero, List.length_drop, List.length_take, not_true_eq_false, not_false_eq_true]
 try simp only [eP, eH, decide_eq_true_eq, decide_eq_false_iff_not]
 repeat' (first | with_reducible apply And.intro | with_reducible intro _)
 all_goals first | omega | grind
theorem Lm (x : List (List Int) × Unit) (hpre : x.1.length * 24 ≤ 140737488355328) (hlens : aD gu.as x) : uJ x := by
 obtain ⟨xs, u⟩ := x
 unfold uJ
 simp only [Bool.not_eq_true', Bool.not_eq_false', Bool.not_eq_true, Bool.not_eq_false, beq_self_eq_true, decide_eq_true_eq, decide_eq_false_iff_not, Bool.not_false, Bool.not_true, beq_iff_eq, beq_eq_false_iff_ne, bne_iff_ne, ne_eq, bne_eq_false_iff_eq, aE, true_and, and_true, and_self, eq_self, List.length_cons, List.length_nil, List.length_append, List.length_set, List.length_replicate, List.set_cons_zero, cond_true, cond_false, Bool.false_eq_true, Bool.true_eq_false, forall_const, false_imp_iff, imp_self, implies_true, and_imp, Decidable.not_not, Bool.and_eq_true, Bool.or_eq_true, Bool.and_eq_false_iff, Bool.or_eq_false_iff, ← List.length_eq_zero_iff, or_self, or_false, false_or, Prod.forall, Int.reduceEq, Int.reduceLT, Int.reduceLE, List.nil_append, Nat.zero_add, Int.toNat_zero, List.drop_zero, List.length_drop, List.length_take, not_true_eq_false, not_false_eq_true]
 try simp only [eP, eH, decide_eq_true_eq, decide_eq_false_iff_not]
 repeat' (first | with_reducible apply And.intro | with_reducible intro _)
 all_goals first | omega | grind
theorem Kg (x : List Int × Unit) (hpre : x.1.length ≤ 140737488355328) (hlens : aD b7.as x) : wu x := by
 obtain ⟨xs, u⟩ := x
 unfold wu
 simp only [Bool.not_eq_true', Bool.not_eq_false', Bool.not_eq_true, Bool.not_eq_false, beq_self_eq_true, decide_eq_true_eq, decide_eq_false_iff_not, Bool.not_false, Bool.not_true, beq_iff_eq, beq_eq_false_iff_ne, bne_iff_ne, ne_eq, bne_eq_false_iff_eq, aE, true_and, and_true, and_self, eq_self, List.length_cons, List.length_nil, List.length_append, List.length_set, List.length_replicate, List.set_cons_zero, cond_true, cond_false, Bool.false_eq_true, Bool.true_eq_false, forall_const, false_imp_iff, imp_self, implies_true, and_imp, Decidable.not_not, Bool.and_eq_true, Bool.or_eq_true, Bool.and_eq_false_iff, Bool.or_eq_false_iff, ← List.length_eq_zero_iff, or_self, or_false, false_or, Prod.forall, Int.reduceEq, Int.reduceLT, Int.reduceLE, List.nil_append, Nat.zero_add, Int.toNat_zero, List.drop_zero, List.length_drop, List.length_take, not_true_eq_false, not_false_eq_true]
 try simp only [eP, eH, decide_eq_true_eq, decide_eq_false_iff_not]
 repeat' (first | with_reducible apply And.intro | with_reducible intro _)
 all_goals first | omega | grind
theorem PK (l : By) : ∀ n, ew l n ≤ n
 | 0 => Nat.le_refl _
 | n + 1 => by
  unfold ew
  split
  ·have := PK l n; omega
  ·exact Nat.le_refl _
theorem Re (l : By) : ∀ n, gJ l n ≤ n
 | 0 => Nat.le_refl _
 | n + 1 => by
  unfold gJ
  split
  ·exact Nat.le_refl _
  ·have := Re l n; omega
theorem Ng (l : By) : lQ l ≤ ew l l.length := Re _ _
theorem qI (l : By) : lQ l ≤ l.length := Nat.le_trans (Ng l) (PK _ _)
theorem Lv {l : By} {n : Nat} (h : 0 < n) (hs : l.getD (n - 1) 0 = 32) : ew l n = ew l (n - 1) := by
 obtain ⟨m, rfl⟩ : ∃ m, n = m + 1 := ⟨n - 1, by omega⟩
 conv => lhs; unfold ew
 rw [if_pos (by simpa using hs)]; rfl
theorem MY {l : By} {n : Nat} (h : n = 0 ∨ ¬ l.getD (n - 1) 0 = 32) : ew l n = n := by
 cases n with
 | zero => rfl
 | succ m =>
  unfold ew
  rw [if_neg]
  rcases h with h | h
  ·omega
  ·simpa using h
theorem Nv {l : By} {n : Nat} (h : 0 < n) (hs : ¬ l.getD (n - 1) 0 = 32) : gJ l n = gJ l (n - 1) := by
 obtain ⟨m, rfl⟩ : ∃ m, n = m + 1 := ⟨n - 1, by omega⟩
 conv => lhs; unfold gJ
 rw [if_neg (by simpa using hs)]; rfl
theorem MO {l : By} {n : Nat} (h : n = 0 ∨ l.getD (n - 1) 0 = 32) : gJ l n = n := by
 cases n with
 | zero => rfl
 | succ m =>
  unfold gJ
  rw [if_pos]
  rcases h with h | h
  ·omega
  ·simpa using h
theorem Rv (x : List Int × Unit) (hpre : True) (hlens : aD na.as x) : DE x := by
 obtain ⟨l, u⟩ := x
 have hlx : l.length ≤ 9223372036854775807 := hlens.1.1
 unfold DE
 delta tV tS
 simp only [Bool.not_eq_true', Bool.not_eq_false', Bool.not_eq_true, Bool.not_eq_false, beq_self_eq_true, decide_eq_true_eq, decide_eq_false_iff_not, Bool.not_false, Bool.not_true, beq_iff_eq, beq_eq_false_iff_ne, bne_iff_ne, ne_eq, bne_eq_false_iff_eq, aE, true_and, and_true, and_self, eq_self, List.length_cons, List.length_nil, List.length_append, List.length_set, List.length_replicate, List.set_cons_zero, cond_true, cond_false, Bool.false_eq_true, Bool.true_eq_false, forall_const, false_imp_iff, imp_self, implies_true, and_imp, Decidable.not_not, Bool.and_eq_true, Bool.or_eq_true, Bool.and_eq_false_iff, Bool.or_eq_false_iff, ← List.length_eq_zero_iff, or_self, or_false, false_or, Prod.forall, Int.reduceEq, Int.reduceLT, Int.reduceLE, List.nil_append, Nat.zero_add, Int.toNat_zero, List.drop_zero, List.length_drop, List.length_take, not_true_eq_false, not_false_eq_true,  bM, Int.toNat_natCast]
 refine ⟨⟨by omega, by omega⟩, fun n hn0 hn1 hn _ _ => ⟨fun h => ⟨h, by omega, by omega⟩, fun h => ⟨h, by omega, by omega⟩, fun h hs => ⟨by omega, ⟨by omega, by omega, ?_⟩, by omega⟩, fun h => ⟨⟨hn0, hn1, ?_⟩, fun m hm0 hm1 hm _ _ => ⟨fun h => ⟨h, by omega, by omega⟩, fun h => ⟨h, by omega, by omega⟩, fun h hs => ⟨by omega, ⟨by omega, by omega, ?_⟩, by omega⟩, fun h => ?_⟩⟩⟩⟩
 ·rw [← hn, Lv (n := n.toNat) (by omega) (by rw [show n.toNat - 1 = (n - 1).toNat by omega]; exact hs), show n.toNat - 1 = (n - 1).toNat by omega]
 ·unfold lQ
  rw [← hn, MY]
  rcases h with h | h
  ·exact Or.inl (by omega)
  ·exact Or.inr (by rw [show n.toNat - 1 = (n - 1).toNat by omega]; exact h)
 ·rw [← hm, Nv (n := m.toNat) (by omega) (by rw [show m.toNat - 1 = (m - 1).toNat by omega]; exact hs), show m.toNat - 1 = (m - 1).toNat by omega]
 ·rw [← hm, MO]
  ·omega
  ·rcases h with h | h
   ·exact Or.inl (by omega)
   ·exact Or.inr (by rw [show m.toNat - 1 = (m - 1).toNat by omega]; exact h)
theorem ly {ls : List By} {ed : By} (h1 : ed.length ≤ 64) (h2 : ls.length ≤ 400) (h3 : ls.all fF = true) : aO (ls, ed) = true := bu.2 ⟨⟨by omega, by omega⟩, h3⟩
theorem UI (x : (List (List Int) × List Int) × Int × Unit) (hpre : True) (hlens : aD wK.as x) : Lq x := by
 obtain ⟨⟨ls, ed⟩, b, u⟩ := x
 unfold Lq
 delta kA ka sc CT ug yS yf Dm CG wM
 simp only [Bool.not_eq_true', Bool.not_eq_false', Bool.not_eq_true, Bool.not_eq_false, beq_self_eq_true, decide_eq_true_eq, decide_eq_false_iff_not, Bool.not_false, Bool.not_true, beq_iff_eq, beq_eq_false_iff_ne, bne_iff_ne, ne_eq, bne_eq_false_iff_eq, aE, true_and, and_true, and_self, eq_self, List.length_cons, List.length_nil, List.length_append, List.length_set, List.length_replicate, List.set_cons_zero, cond_true, cond_false, Bool.false_eq_true, Bool.true_eq_false, forall_const, false_imp_iff, imp_self, implies_true, and_imp, Decidable.not_not, Bool.and_eq_true, Bool.or_eq_true, Bool.and_eq_false_iff, Bool.or_eq_false_iff, ← List.length_eq_zero_iff, or_self, or_false, false_or, Prod.forall, Int.reduceEq, Int.reduceLT, Int.reduceLE, List.nil_append, Nat.zero_add, Int.toNat_zero, List.drop_zero, List.length_drop, List.length_take, not_true_eq_false, not_false_eq_true,  bM, Int.toNat_natCast, List.take_length, Hw, Nat.min_self, List.append_nil, Nat.add_zero]
 refine ⟨fun h => ?_, fun h => ?_⟩
 ·unfold kj ph; rw [if_pos h]; exact ⟨rfl, rfl⟩
 have hr := bu.1 h
 have hwl := qI ed
 unfold kj ph
 rw [if_neg (by rw [h]; decide)]
 dsimp only
 refine ⟨fun h1 h2 => ?_, fun h1 => ⟨fun h2 => ⟨by omega, by omega, by omega, by omega, ?_, ?_⟩, fun h2 => ⟨fun h3 => ⟨by omega, by omega, by omega, by omega, ?_, ?_⟩, fun h3 => ⟨fun h4 => ⟨by omega, by omega, ?_, ?_⟩, fun h4 =>
  ⟨fun h5 => ⟨?_, ?_⟩, fun h5 => ⟨fun h6 => ⟨by omega, ?_, ?_⟩, fun h6 => ⟨fun h7 => ?_, fun h7 => ⟨by omega, by omega, ?_, ?_⟩⟩⟩⟩⟩⟩⟩⟩
 ·rcases h1 with h1 | h1
  ·rw [if_pos h1, if_pos (by omega)]; exact ⟨rfl, rfl⟩
  ·rw [if_neg (by omega), if_pos h1, if_pos (by omega)]; exact ⟨rfl, rfl⟩
 ·refine ly (by simp) (by simp; omega) ?_
  rw [List.all_append, hr.2, List.all_cons, nD.2 (by simp; omega)]; rfl
 ·subst h2
  rw [if_pos rfl, if_neg (by omega)]; exact ⟨rfl, rfl⟩
 ·refine ly (by simp) (by simp; omega) ?_
  rw [List.all_append, hr.2, List.all_cons, nD.2 (by omega)]; rfl
 ·rw [if_neg h2, if_pos h3, if_neg (by omega)]; exact ⟨rfl, rfl⟩
 ·exact ly (by rw [List.length_take]; omega) (by omega) hr.2
 ·rw [if_neg h2, if_neg h3, if_pos h4, show (max ((ed.length : Int) - 1) 0).toNat = ed.length - 1 by omega]; exact ⟨rfl, rfl⟩
 ·exact ly (by simp) (by omega) hr.2
 ·rw [if_neg h2, if_neg h3, if_neg h4, if_pos h5]; exact ⟨rfl, rfl⟩
 ·exact ly (by rw [List.length_take]; omega) (by omega) hr.2
 ·rw [if_neg h2, if_neg h3, if_neg h4, if_neg h5, if_pos h6]; exact ⟨rfl, rfl⟩
 ·rw [if_neg h2, if_neg h3, if_neg h4, if_neg h5, if_neg h6, if_pos (by omega)]; exact ⟨rfl, rfl⟩
 ·exact ly (by simp; omega) (by omega) hr.2
 ·rw [if_neg h2, if_neg h3, if_neg h4, if_neg h5, if_neg h6, if_neg (by omega)]; exact ⟨rfl, rfl⟩
end Go.Proofs.YtlnlichdidobpaaGreatDoor.Tty
