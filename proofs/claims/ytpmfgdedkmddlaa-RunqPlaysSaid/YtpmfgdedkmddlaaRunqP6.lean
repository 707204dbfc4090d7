/-
  RunqPlays: the queue in memory answers as the list does.
-/
import Derived.Test.YtpmfgdedkmddlaaRunqP5
namespace Go.Proofs.Ytpmfgdedkmddlaa.Runq
open Go.Sx
set_option maxRecDepth 100000
set_option maxHeartbeats 1000000
set_option linter.unusedSimpArgs false
set_option linter.unusedVariables false

theorem drop_eq {a a2 id y k : Int} {ls ls2 : List (List Int)} {b : List (Int × Int)} (hy : y = (mval I64 b id : Int)) (hk : k = idx (ls.getD y.toNat []) id) (hls : ls2 = ls.set y.toNat (cutL (ls.getD y.toNat []) k))
    (hlt : y.toNat < ls.length) (ha : a2 = if (ls2.getD y.toNat []).length = 0 then clrB a y else a) : dropQ (a, ls, b) id = (a2, ls2, mdel I64 b id) := by
  have e : ls2.getD y.toNat [] = cutL (ls.getD y.toNat []) k := by rw [hls, getD_setN, if_pos rfl, if_pos hlt]
  rw [e] at ha
  subst ha; subst hls; subst hk
  unfold dropQ lvl
  simp only []
  rw [← hy]
theorem add_eq {a id lev : Int} {h : Bool} {ls ls2 : List (List Int)} {b b2 : List (Int × Int)} (h1 : ls2 = (ls.set lev.toNat []).set lev.toNat (putL (ls.getD lev.toNat []) id h)) (h2 : b2 = mput I64 b id lev) :
    addQ (a, ls, b) id lev h = (setB a lev, ls2, b2) := by
  subst h1; subst h2
  rw [List.set_set]
  rfl
theorem e_play (x : List RO × Unit) (hp : x.1.length * 24 ≤ 140737488355328) (hl : LensL cPlay.as x) : E_play x := by
  obtain ⟨ops, u⟩ := x
  simp only [] at hp
  unfold E_play
  simp only [RR_eq, R8_eq, R32_eq]
  simp only [Bool.not_eq_true', Bool.not_eq_false', Bool.not_eq_true, Bool.not_eq_false, beq_self_eq_true, decide_eq_true_eq, decide_eq_false_iff_not, Bool.not_false, Bool.not_true, beq_iff_eq, beq_eq_false_iff_ne, bne_iff_ne, ne_eq, bne_eq_false_iff_eq, holds_iff, true_and, and_true, and_self, eq_self, List.length_cons, List.length_nil, List.length_append, List.length_set, List.length_replicate, List.set_cons_zero, cond_true, cond_false, Bool.false_eq_true, Bool.true_eq_false, forall_const, false_imp_iff, imp_self, implies_true, and_imp, Decidable.not_not, Bool.and_eq_true, Bool.or_eq_true, Bool.and_eq_false_iff, Bool.or_eq_false_iff, ← List.length_eq_zero_iff, or_self, or_false, false_or, Prod.forall, Int.reduceEq, Int.reduceLT, Int.reduceLE, List.nil_append, Nat.zero_add, Int.toNat_zero, List.drop_zero, List.length_drop, List.length_take, not_true_eq_false, not_false_eq_true,  take_len]
  refine ⟨⟨((0, List.replicate 32 [], []), [], [], 0, ()), ?_, ?_⟩, ?_⟩
  · refine ⟨⟨by decide, by simp, ⟨[], rfl, RQ_nil, by decide⟩, by decide, by decide⟩, ⟨by decide, ⟨by simp, fun xs hx => ?_⟩, fun a b hx => by cases hx⟩, ⟨by decide, fun x hx => by cases hx⟩, ⟨by decide, fun x hx => by cases hx⟩, by decide, by decide⟩
    obtain rfl : xs = [] := (List.mem_replicate.1 hx).2
    exact ⟨by decide, fun x hx => by cases hx⟩
  · exact ⟨rfl, rfl, rfl, rfl, rfl, rfl⟩
  intro a ls b e t k k0 k1 hr he1 ht1 a0 a1 ls0 ls1 b1 _ _ _ _ _ _
  obtain ⟨l, hr, hR, hl1⟩ := hr
  refine ⟨fun k2 => ⟨⟨k0, k2⟩, ?_, ?_⟩, fun k2 => ?_⟩
  · generalize opAt ops k = o
    obtain ⟨p1, p2, p3⟩ := o
    intro o1 o2 o3 th ho hth _ _ _ _ _ _
    simp only [Prod.mk.injEq] at ho
    obtain ⟨rfl, rfl, rfl⟩ := ho
    simp only [Nat.mul_one, Nat.add_zero]
    have hm : ∀ id, mhas I64 b id = true ↔ 0 ≤ posQ l id := fun id => (hR.2.2.2.2.2.1 id).1
    have hlen : ∀ lev : Int, 0 ≤ lev → lev < 32 → (ls.getD lev.toNat []).length ≤ l.length := fun lev g0 g1 => lvl_len hR g0 g1
    have hdr : ∀ id, 0 ≤ posQ l id → ∀ y : Int, y = (mval I64 b id : Int) → (0 ≤ y ∧ y < 32) ∧ 0 ≤ idx (ls.getD y.toNat []) id ∧ idx (ls.getD y.toNat []) id < (ls.getD y.toNat []).length := fun id hp y hy => by
      obtain ⟨⟨v0, v1⟩, v2, _⟩ := RQ_pos hR hp
      have v0 : 0 ≤ y := by rw [hy]; exact v0
      have v1 : y < 32 := by rw [hy]; exact v1
      have v2 : id ∈ ids (atL l y) := by rw [hy]; exact v2
      have hL : ls.getD y.toNat [] = ids (atL l y) := RQ_lvl hR v0 v1
      rw [hL]
      exact ⟨⟨v0, v1⟩, cut_len v2⟩
    have hth : ∀ v : Bool, th = v → (v = true ↔ 0 ≤ posQ l o2) := fun v hv => by
      rw [← hv, hth]; exact hm o2
    have hadd : ¬ o3 < 0 → ¬ 32 ≤ o3 → th = false → (0 ≤ o3 ∧ o3 < 32) ∧ (ls.getD o3.toNat []).length ≤ l.length ∧ ¬ mhas I64 b o2 = true := fun g1 g2 g3 =>
      ⟨⟨by omega, by omega⟩, hlen o3 (by omega) (by omega), fun g => by have := (hth _ g3).2 ((hm o2).1 g); cases this⟩
    have fin : ∀ (R : Int) (id : Int), 0 ≤ posQ l id → doQ (a, ls, b) (o1, o2, o3) = (dropQ (a, ls, b) id, R, 0) → ∀ (x y : Int), x = id → y = (mval I64 b id : Int) → ∀ k : Int, k = idx (ls.getD y.toNat []) x → ∀ ls2 : List (List Int),
        ls2 = ls.set y.toNat (cutL (ls.getD y.toNat []) k) → ∀ a2 : Int, (a2 = if (ls2.getD y.toNat []).length = 0 then clrB a y else a) → ((a2, ls2, mdel I64 b x), R, 0) = doQ (a, ls, b) (o1, o2, o3) := fun R id hp hd x y hx hy k hk ls2 h2 a2 h3 => by
      have hyr := (hdr id hp y hy).1
      rw [hd, drop_eq hy (by rw [hk, hx]) h2 (by omega) h3, hx]
    refine ⟨fun h1 => ⟨fun g => ?_, fun g1 g2 => ⟨fun g3 => ?_, fun g3 => ?_⟩⟩, fun h1 => ⟨fun h2 => ⟨fun g => ?_, fun g1 g2 => ⟨fun g3 => ?_, fun g3 => ?_⟩⟩, fun h2 => ⟨fun h3 => ⟨fun hz => ?_, fun hz => ?_⟩, fun h3 => ⟨fun h4 => ⟨fun g3 => ?_, fun g3 => ?_⟩, fun h4 => ?_⟩⟩⟩⟩
    · exact (doQ_err2 (o := (o1, o2, o3)) (.inl h1) (by show o3 < 0 ∨ 31 < o3; omega)).symm
    · exact (doQ_err6 (q := (a, ls, b)) (o := (o1, o2, o3)) (.inl h1) (by show ¬ (o3 < 0 ∨ 31 < o3); omega) ((hm o2).2 ((hth _ g3).1 rfl))).symm
    · obtain ⟨⟨q0, q1⟩, q2, q3⟩ := hadd g1 g2 g3
      refine ⟨⟨q0, q1⟩, by omega, fun hh => ?_, fun hh => ?_⟩
      · refine ⟨⟨by omega, by omega⟩, ⟨⟨q0, q1⟩, trivial⟩, fun ls2 b2 e1 e2 _ _ _ => ⟨q0, ?_⟩⟩
        rw [doQ_add (q := (a, ls, b)) (o := (o1, o2, o3)) (.inl h1) (by show ¬ (o3 < 0 ∨ 31 < o3); omega) q3]
        show _ = (addQ (a, ls, b) o2 o3 (decide (o1 = 2)), 0, 0)
        rw [add_eq (ls2 := ls2) (b2 := b2) (h := decide (o1 = 2)) (by rw [e1, decide_eq_true hh]; rfl) e2]
        rfl
      · refine ⟨⟨by omega, by omega⟩, ⟨⟨q0, q1⟩, trivial⟩, fun ls2 b2 e1 e2 _ _ _ => ⟨q0, ?_⟩⟩
        rw [doQ_add (q := (a, ls, b)) (o := (o1, o2, o3)) (.inl h1) (by show ¬ (o3 < 0 ∨ 31 < o3); omega) q3]
        show _ = (addQ (a, ls, b) o2 o3 (decide (o1 = 2)), 0, 0)
        rw [add_eq (ls2 := ls2) (b2 := b2) (h := decide (o1 = 2)) (by rw [e1, decide_eq_false hh]; rfl) e2]
        rfl
    · exact (doQ_err2 (o := (o1, o2, o3)) (.inr h2) (by show o3 < 0 ∨ 31 < o3; omega)).symm
    · exact (doQ_err6 (q := (a, ls, b)) (o := (o1, o2, o3)) (.inr h2) (by show ¬ (o3 < 0 ∨ 31 < o3); omega) ((hm o2).2 ((hth _ g3).1 rfl))).symm
    · obtain ⟨⟨q0, q1⟩, q2, q3⟩ := hadd g1 g2 g3
      refine ⟨⟨q0, q1⟩, by omega, fun hh => ?_, fun hh => ?_⟩
      · refine ⟨⟨by omega, by omega⟩, ⟨⟨q0, q1⟩, trivial⟩, fun ls2 b2 e1 e2 _ _ _ => ⟨q0, ?_⟩⟩
        rw [doQ_add (q := (a, ls, b)) (o := (o1, o2, o3)) (.inr h2) (by show ¬ (o3 < 0 ∨ 31 < o3); omega) q3]
        show _ = (addQ (a, ls, b) o2 o3 (decide (o1 = 2)), 0, 0)
        rw [add_eq (ls2 := ls2) (b2 := b2) (h := decide (o1 = 2)) (by rw [e1, decide_eq_true hh]; rfl) e2]
        rfl
      · refine ⟨⟨by omega, by omega⟩, ⟨⟨q0, q1⟩, trivial⟩, fun ls2 b2 e1 e2 _ _ _ => ⟨q0, ?_⟩⟩
        rw [doQ_add (q := (a, ls, b)) (o := (o1, o2, o3)) (.inr h2) (by show ¬ (o3 < 0 ∨ 31 < o3); omega) q3]
        show _ = (addQ (a, ls, b) o2 o3 (decide (o1 = 2)), 0, 0)
        rw [add_eq (ls2 := ls2) (b2 := b2) (h := decide (o1 = 2)) (by rw [e1, decide_eq_false hh]; rfl) e2]
        rfl
    · exact (doQ_err3a (q := (a, ls, b)) (o := (o1, o2, o3)) h3 hz).symm
    · obtain ⟨t, t0, tb, hl, tl, tf, tp⟩ := RQ_top hR hz
      have tb : ((Lib.bitLen a.toNat : Nat) : Int) - 1 = t := tb
      have hd := doQ_take (q := (a, ls, b)) (o := (o1, o2, o3)) h3 hz
      refine ⟨?_, fun id hid _ _ x y hx hy _ _ _ _ => ?_⟩
      · have tn : (((Lib.bitLen a.toNat : Nat) : Int) - 1).toNat = t := by omega
        rw [tb]
        have tl : 0 < (ls.getD t []).length := by simpa [lvl] using tl
        have te : firstQ (a, ls, b) = (ls.getD t []).getD 0 0 := by
          unfold firstQ
          show (lvl (a, ls, b) (((Lib.bitLen a.toNat : Nat) : Int) - 1)).getD 0 0 = _
          rw [tb]
          simp [lvl]
        have hls : ls.length = 32 := ls0
        simp only [Int.toNat_natCast]
        refine ⟨⟨by omega, by omega⟩, ⟨by omega, by omega⟩, by omega, by omega, te.symm, set_back⟩
      subst hid
      obtain ⟨⟨y0, y1⟩, i0, i1⟩ := hdr _ (by omega) y hy
      subst hx
      refine ⟨?_, fun k hk _ _ => ⟨?_, fun ls2 hls _ _ => ⟨?_, fun a2 ha2 _ _ => ?_⟩⟩⟩
      · exact ⟨⟨y0, y1⟩, by omega, trivial, set_back⟩
      · rw [← hk] at i0 i1
        have hLl := hlen y y0 y1
        clear hlen hdr hth hadd fin hm hk
        generalize ls.getD y.toNat [] = L at *
        have ek : (k + 1).toNat = k.toNat + 1 := by omega
        refine ⟨⟨by omega, by omega⟩, ⟨y0, y1⟩, by omega, ⟨⟨⟨i0, by omega⟩, by omega⟩, by omega⟩, fun g => absurd g (by omega), fun _ => ⟨⟨i0, by omega⟩, ⟨⟨by omega, by omega⟩, by omega⟩, by omega, ⟨⟨by omega, by omega⟩, by omega⟩, ⟨y0, y1⟩, ?_⟩⟩
        rw [List.set_set]
        unfold cutL
        rw [ek]
        rw [del_eq rfl (by omega) (by omega) (by omega)]
      · refine ⟨⟨y0, y1⟩, by omega, fun g => ⟨y0, ?_, set_back⟩, fun g => ⟨?_, set_back⟩⟩
        · rw [if_pos (by omega)]; rfl
        · rw [if_neg (by omega)]
      · exact fin _ _ (by omega) hd _ y rfl hy k hk ls2 hls a2 ha2
    · exact (doQ_err3b (q := (a, ls, b)) (o := (o1, o2, o3)) h4 (fun g => by have := (hth _ g3).2 ((hm o2).1 g); cases this)).symm
    · have hp2 := (hth _ g3).1 rfl
      have hd := doQ_drop (q := (a, ls, b)) (o := (o1, o2, o3)) h4 ((hm o2).2 hp2)
      intro x y hx hy _ _ _ _
      obtain ⟨⟨y0, y1⟩, i0, i1⟩ := hdr _ hp2 y hy
      subst hx
      refine ⟨?_, fun k hk _ _ => ⟨?_, fun ls2 hls _ _ => ⟨?_, fun a2 ha2 _ _ => ?_⟩⟩⟩
      · exact ⟨⟨y0, y1⟩, by omega, trivial, set_back⟩
      · rw [← hk] at i0 i1
        have hLl := hlen y y0 y1
        clear hlen hdr hth hadd fin hm hk
        generalize ls.getD y.toNat [] = L at *
        have ek : (k + 1).toNat = k.toNat + 1 := by omega
        refine ⟨⟨by omega, by omega⟩, ⟨y0, y1⟩, by omega, ⟨⟨⟨i0, by omega⟩, by omega⟩, by omega⟩, fun g => absurd g (by omega), fun _ => ⟨⟨i0, by omega⟩, ⟨⟨by omega, by omega⟩, by omega⟩, by omega, ⟨⟨by omega, by omega⟩, by omega⟩, ⟨y0, y1⟩, ?_⟩⟩
        rw [List.set_set]
        unfold cutL
        rw [ek]
        rw [del_eq rfl (by omega) (by omega) (by omega)]
      · refine ⟨⟨y0, y1⟩, by omega, fun g => ⟨y0, ?_, set_back⟩, fun g => ⟨?_, set_back⟩⟩
        · rw [if_pos (by omega)]; rfl
        · rw [if_neg (by omega)]
      · exact fin _ _ hp2 hd _ y rfl hy k hk ls2 hls a2 ha2
    · exact (doQ_err5 (q := (a, ls, b)) (o := (o1, o2, o3)) h1 h2 h3 h4).symm
  · intro a' ls' b' id er hd _ _ _ _ _ _ _ _ _
    have hnx := runQ_next k0 k2 hr
    rw [st_eq hR] at hnx
    have hlaw := doQ_law (o := opAt ops k) hR
    have hnl := next_len (l := l) (o := opAt ops k)
    have hd : ((a', ls', b'), id, er) = doQ (a, ls, b) (opAt ops k) := hd
    rw [← hd] at hnx hlaw
    simp only [] at hnx hlaw
    refine ⟨by omega, fun g1 g2 => ?_, fun g => ?_⟩
    · rw [if_pos ⟨g1, g2⟩] at hnx
      exact ⟨by omega, by omega, ⟨by omega, by omega, ⟨_, hnx, hlaw.2.1, by omega⟩, by omega, by omega⟩, by omega⟩
    · rw [if_neg (by omega)] at hnx
      exact ⟨by omega, ⟨by omega, by omega, ⟨_, hnx, hlaw.2.1, by omega⟩, by omega, by omega⟩, by omega⟩
  · obtain rfl : k = ops.length := by omega
    rw [take_len] at hr
    refine ⟨rfl, ?_⟩
    intro o j j0 j1 ho _ _ _ _
    refine ⟨fun j2 => ?_, fun j2 => ?_⟩
    · have h1 := left_succ (xs := ls) j2 j1
      have h2 := left_len hR (n := (31 - (j - 1)).toNat) (by omega)
      have h1' := congrArg List.length h1
      rw [List.length_append, ← ho] at h1'
      simp only [] at h2
      simp only [Nat.mul_one, Nat.add_zero]
      refine ⟨⟨j2, by omega⟩, by omega, ⟨by omega, by omega⟩, ⟨by omega, by omega⟩, ⟨⟨by omega, by omega, ?_⟩, by omega⟩, set_back⟩
      rw [h1, ho]
    · have h3 : j = -1 := by omega
      rw [h3] at ho
      have h4 := left_all hR
      have h5 : o = ids l := ho.trans h4
      unfold mplay
      rw [hr]
      exact ⟨rfl, rfl, h5⟩

end Go.Proofs.Ytpmfgdedkmddlaa.Runq
