/-
 The conditions, proved.
-/
import Derived.Test.YtlnlichdidobpaaGreatDoorLineE
namespace Go.Proofs.YtlnlichdidobpaaGreatDoor.Line
open Go.Sx
set_option maxRecDepth 100000
set_option maxHeartbeats 1000000
set_option linter.unusedSimpArgs false
set_option linter.unusedVariables false

theorem Ru (x : PN × Unit) (_ : True) (_ : aD wz.as x) : CD x := by
 obtain ⟨⟨c, v, lv, m, u, kp, s⟩, u'⟩ := x
 unfold CD
 delta fx dr eC eF fE mH mQ oE oQ qE
 simp only [Bool.not_eq_true', Bool.not_eq_false', Bool.not_eq_true, Bool.not_eq_false, beq_self_eq_true, decide_eq_true_eq, decide_eq_false_iff_not, Bool.not_false, Bool.not_true, beq_iff_eq, beq_eq_false_iff_ne, bne_iff_ne, ne_eq, bne_eq_false_iff_eq, aE, true_and, and_true, and_self, eq_self, List.length_cons, List.length_nil, List.length_append, List.length_set, List.length_replicate, List.set_cons_zero, cond_true, cond_false, Bool.false_eq_true, Bool.true_eq_false, forall_const, false_imp_iff, imp_self, implies_true, and_imp, Decidable.not_not, Bool.and_eq_true, Bool.or_eq_true, Bool.and_eq_false_iff, Bool.or_eq_false_iff, ← List.length_eq_zero_iff, or_self, or_false, false_or, Prod.forall, Int.reduceEq, Int.reduceLT, Int.reduceLE, List.nil_append, Nat.zero_add, Int.toNat_zero, List.drop_zero, List.length_drop, List.length_take, not_true_eq_false, not_false_eq_true]
 try simp only [eP, eH, decide_eq_true_eq, decide_eq_false_iff_not]
 repeat' (first | with_reducible apply And.intro | with_reducible intro _)
 all_goals first
  | omega
  | assumption
  | (cases lv <;> cases m <;> cases u <;> cases kp <;> cases s <;> ((try rw [Bool.eq_iff_iff]); (try simp only [Gf, eq_self, o7, oU, zD, yb, oA, Bool.and_eq_true, Bool.or_eq_true, Bool.and_eq_false_iff, Bool.or_eq_false_iff, Bool.not_eq_true', Bool.not_eq_false', Bool.not_eq_true, Bool.not_eq_false, decide_eq_true_eq, decide_eq_false_iff_not, beq_iff_eq, beq_eq_false_iff_ne, bne_iff_ne, ne_eq, bne_eq_false_iff_eq, Decidable.not_not, Bool.false_eq_true, Bool.true_eq_false]); (try simp only [eP, eH]); (try simp only [eq_self, o7, oU, zD, yb, oA, Bool.and_eq_true, Bool.or_eq_true, Bool.and_eq_false_iff, Bool.or_eq_false_iff, Bool.not_eq_true', Bool.not_eq_false', Bool.not_eq_true, Bool.not_eq_false, decide_eq_true_eq, decide_eq_false_iff_not, beq_iff_eq, beq_eq_false_iff_ne, bne_iff_ne, ne_eq, bne_eq_false_iff_eq, Decidable.not_not, Bool.false_eq_true, Bool.true_eq_false]); (try first | omega | grind)))
theorem iW (x : List PN × Unit) (_ : True) (_ : aD aJ.as x) : cy x := by
 obtain ⟨l, u⟩ := x
 unfold cy
 delta bJ ay bj
 simp only [Bool.not_eq_true', Bool.not_eq_false', Bool.not_eq_true, Bool.not_eq_false, beq_self_eq_true, decide_eq_true_eq, decide_eq_false_iff_not, Bool.not_false, Bool.not_true, beq_iff_eq, beq_eq_false_iff_ne, bne_iff_ne, ne_eq, bne_eq_false_iff_eq, aE, true_and, and_true, and_self, eq_self, List.length_cons, List.length_nil, List.length_append, List.length_set, List.length_replicate, List.set_cons_zero, cond_true, cond_false, Bool.false_eq_true, Bool.true_eq_false, forall_const, false_imp_iff, imp_self, implies_true, and_imp, Decidable.not_not, Bool.and_eq_true, Bool.or_eq_true, Bool.and_eq_false_iff, Bool.or_eq_false_iff, ← List.length_eq_zero_iff, or_self, or_false, false_or, Prod.forall, Int.reduceEq, Int.reduceLT, Int.reduceLE, List.nil_append, Nat.zero_add, Int.toNat_zero, List.drop_zero, List.length_drop, List.length_take, not_true_eq_false, not_false_eq_true]
 try simp only [eP, eH, decide_eq_true_eq, decide_eq_false_iff_not]
 refine ⟨fun hl => ⟨hl, ⟨by omega, by simp⟩, fun k _ h0 h1 h2 h3 h4 => ⟨fun hk => ⟨⟨h0, hk⟩, fun hb => ?_, fun hb => ?_⟩, fun hk => ?_⟩⟩, fun hl => ?_⟩
 ·simp only [right]
  rw [qR (d := (0, 0, false, false, false, false, false)) (k := k.toNat) (by omega) hb]
  simp [h0]
 ·refine ⟨by omega, ⟨by omega, by omega, ?_⟩, by omega⟩
  rw [xj (0, 0, false, false, false, false, false) h0 hk, h2]; exact hb
 ·rw [ff (by omega)] at h2
  simp [right, h2, hl]
 ·simp [right]; omega
theorem qx {α : Type} {xs : List α} {k : Nat} {y d : α} (h : k < xs.length) : (xs.set k y).getD k d = y := by
 rw [za (by simpa using h)]; simp
theorem lV {l : List PN} {k i e : Int} (h : err l k i = e) (he : e ≠ 0) : step l k i = bad e := by subst h; exact if_neg he
theorem DV {l : List PN} {k i : Int} (h : err l k i = 0) : step l k i = (out l k i, ask l k i, 0, ()) := if_pos h
theorem ow {l : List PN} (h : right l = true) : (l.length : Int) ≤ 24 := by
 simp only [right, Bool.and_eq_true, decide_eq_true_eq] at h; exact h.1
theorem vn (x : List PN × (Int × Int) × Unit) (_ : True) (_ : aD bg.as x) : jK x := by
 obtain ⟨l, ⟨k, i⟩, u'⟩ := x
 unfold jK
 delta aU ij Bd af k7 n4 nQ qk b6 fa iY gh gy tE tF lI lZ uy fy oa nC uT uG wO wT
 simp only [Bool.not_eq_true', Bool.not_eq_false', Bool.not_eq_true, Bool.not_eq_false, beq_self_eq_true, decide_eq_true_eq, decide_eq_false_iff_not, Bool.not_false, Bool.not_true, beq_iff_eq, beq_eq_false_iff_ne, bne_iff_ne, ne_eq, bne_eq_false_iff_eq, aE, true_and, and_true, and_self, eq_self, List.length_cons, List.length_nil, List.length_append, List.length_set, List.length_replicate, List.set_cons_zero, cond_true, cond_false, Bool.false_eq_true, Bool.true_eq_false, forall_const, false_imp_iff, imp_self, implies_true, and_imp, Decidable.not_not, Bool.and_eq_true, Bool.or_eq_true, Bool.and_eq_false_iff, Bool.or_eq_false_iff, ← List.length_eq_zero_iff, or_self, or_false, false_or, Prod.forall, Int.reduceEq, Int.reduceLT, Int.reduceLE, List.nil_append, Nat.zero_add, Int.toNat_zero, List.drop_zero, List.length_drop, List.length_take, not_true_eq_false, not_false_eq_true]
 try simp only [eP, eH, decide_eq_true_eq, decide_eq_false_iff_not]
 refine ⟨fun hr => ?_, fun hr => ⟨fun hk => ?_, fun k1 k5 => ⟨fun hi => ?_, fun i0 i1 => ?_⟩⟩⟩
 ·rw [lV (e := 1) (by simp [err, hr]) (by decide)]; simp [bad]
 ·rw [lV (e := 5) (by simp [err, hr, hk]) (by decide)]; simp [bad]
 ·rw [lV (e := 3) (by simp only [err, hr]; grind) (by decide)]; simp [bad]
 have hl := ow hr
 have hlen : i.toNat < l.length := by omega
 have hst := DV (l := l) (k := k) (i := i) (by simp only [err, hr]; grind)
 have hz : (0, 0, false, false, false, false, false) = zero := rfl
 refine ⟨by omega, ⟨by omega, by omega⟩, ?_, ?_⟩
 ·simp only [at_, hz]
  generalize l.getD i.toNat zero = p
  obtain ⟨c, v, lv, m, u, kp, s⟩ := p
  simp only [note]
  repeat' (first | with_reducible apply And.intro | with_reducible intro _)
  all_goals first
   | omega
   | (subst_vars; rfl)
   | grind
 ·intro a ha _ _
  have hg : a.getD i.toNat zero = note (at_ l i) k := by rw [ha]; exact qx hlen
  have hs : ∀ y, a.set i.toNat y = l.set i.toNat y := fun y => by rw [ha, List.set_set]
  have hgs : ∀ y, (l.set i.toNat y).getD i.toNat zero = y := fun y => qx hlen
  rw [hst]
  simp only [hz, hs, hg, hgs, out, ask, pF, at_]
  clear hg hs hgs hst
  rw [ha]
  clear ha
  simp only [at_]
  obtain ⟨c, v, lv, m, u, kp, s, hpe⟩ : ∃ c v lv m u kp s, l.getD i.toNat zero = (c, v, lv, m, u, kp, s) := ⟨_, _, _, _, _, _, _, rfl⟩
  simp only [hpe]
  clear hpe
  cases lv <;> simp only [note, ES]
  all_goals (repeat' (first | with_reducible apply And.intro | with_reducible intro _))
  all_goals first
   | omega
   | contradiction
   | (cases m <;> cases u <;> cases kp <;> cases s <;> grind)
theorem rb (x : List PN × Unit) (hp : bc.pre x) (_ : aD bc.as x) : gr x := by
 obtain ⟨xs, u⟩ := x
 have hp : xs.length * 24 ≤ 140737488355328 := hp
 unfold gr
 intro b hb
 refine ⟨fun h => (hb h).symm, fun h => ?_⟩
 simp only [List.length_nil, List.nil_append, and_true]
 omega

end Go.Proofs.YtlnlichdidobpaaGreatDoor.Line
