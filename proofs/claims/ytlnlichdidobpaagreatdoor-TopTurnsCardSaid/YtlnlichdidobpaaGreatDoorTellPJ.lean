/-
 The conditions, proved.
-/
import Derived.Test.YtlnlichdidobpaaGreatDoorTellE
namespace Go.Proofs.YtlnlichdidobpaaGreatDoor.Tell
open Go.Sx
set_option maxRecDepth 100000
set_option maxHeartbeats 1000000
set_option linter.unusedSimpArgs false
set_option linter.unusedVariables false

theorem dT {α : Type} (d : α) {l : List α} {k : Int} (h0 : 0 ≤ k) (h1 : k < l.length) : l.take (k + 1).toNat = l.take k.toNat ++ [l.getD k.toNat d] := by
 have e : (k + 1).toNat = k.toNat + 1 := by omega
 have hlt : k.toNat < l.length := by omega
 rw [e, List.take_add_one, List.getElem?_eq_getElem hlt]
 simp [hlt]
theorem ff {α : Type} {l : List α} {k : Int} (h : (l.length : Int) ≤ k) : l.take k.toNat = l := List.take_of_length_le (by omega)
theorem bu {t : List (List Int) × List Int} : Tty.aO t = true ↔ t.2.length ≤ 64 ∧ t.1.length ≤ 400 ∧ ∀ l ∈ t.1, l.length ≤ 65 := by
 unfold Tty.aO Tty.fF
 simp only [Bool.and_eq_true, decide_eq_true_eq, List.all_eq_true, and_assoc]
 constructor
 ·rintro ⟨h1, h2, h3⟩
  exact ⟨by omega, by omega, fun l hl => by have := h3 l hl; omega⟩
 ·rintro ⟨h1, h2, h3⟩
  exact ⟨by omega, by omega, fun l hl => by have := h3 l hl; omega⟩
theorem E7 {t : List (List Int) × List Int} {b : Int} (h : Tty.aO t = true) (he : (Tty.ph t b).2 = 0) : Tty.aO (Tty.ph t b).1 = true := by
 have h' := bu.1 h
 obtain ⟨h1, h2, h3⟩ := h'
 unfold Tty.ph at he ⊢
 rw [if_neg (by rw [h]; decide)] at he ⊢
 by_cases b10 : b = 10
 ·rw [if_pos b10] at he ⊢
  by_cases hl : t.1.length = 400
  ·rw [if_pos hl] at he; exact absurd he (by decide)
  ·rw [if_neg hl]
   refine bu.2 ⟨by simp, by simp only [List.length_append, List.length_singleton]; omega, fun l hm => ?_⟩
   rcases List.mem_append.1 hm with hm | hm
   ·exact h3 l hm
   ·rw [List.mem_singleton.1 hm, List.length_append, List.length_singleton]
    omega
 rw [if_neg b10] at he ⊢
 by_cases b4 : b = 4
 ·rw [if_pos b4] at he ⊢
  by_cases hl : t.1.length = 400
  ·rw [if_pos hl] at he; exact absurd he (by decide)
  ·rw [if_neg hl]
   refine bu.2 ⟨by simp, by simp only [List.length_append, List.length_singleton]; omega, fun l hm => ?_⟩
   rcases List.mem_append.1 hm with hm | hm
   ·exact h3 l hm
   ·rw [List.mem_singleton.1 hm]
    omega
 rw [if_neg b4] at he ⊢
 by_cases b8 : b = 8
 ·rw [if_pos b8]
  exact bu.2 ⟨by simp only [List.length_take]; omega, h2, h3⟩
 rw [if_neg b8] at he ⊢
 by_cases b21 : b = 21
 ·rw [if_pos b21]
  exact bu.2 ⟨by simp, h2, h3⟩
 rw [if_neg b21] at he ⊢
 by_cases b23 : b = 23
 ·rw [if_pos b23]
  exact bu.2 ⟨by simp only [List.length_take]; omega, h2, h3⟩
 rw [if_neg b23] at he ⊢
 by_cases hl : t.2.length = 64
 ·rw [if_pos hl] at he; exact absurd he (by decide)
 ·rw [if_neg hl]
  exact bu.2 ⟨by simp only [List.length_append, List.length_singleton]; omega, h2, h3⟩
theorem CJ {t : List (List Int) × List Int} {m : Int} (h : Tty.aO t = true) :
  ((Tty.bW t m).2.2.1 = 0 → Tty.aO (Tty.bW t m).1 = true) ∧ (0 ≤ (Tty.bW t m).2.2.1 ∧ (Tty.bW t m).2.2.1 ≤ 9) ∧ (Tty.bW t m).2.1.length ≤ 65 := by
 have h' := bu.1 h
 obtain ⟨h1, h2, h3⟩ := h'
 unfold Tty.bW
 rw [if_neg (by rw [h]; decide)]
 by_cases hm : m < 1
 ·rw [if_pos hm]
  exact ⟨fun e => absurd (show (2 : Int) = 0 from e) (by decide), ⟨show (0 : Int) ≤ 2 by decide, show (2 : Int) ≤ 9 by decide⟩, by simp⟩
 rw [if_neg hm]
 obtain ⟨ls, ed⟩ := t
 cases ls with
 | nil => exact ⟨fun e => absurd (show (7 : Int) = 0 from e) (by decide), ⟨show (0 : Int) ≤ 7 by decide, show (7 : Int) ≤ 9 by decide⟩, by simp⟩
 | cons l r =>
  simp only []
  have hl := h3 l (by simp)
  by_cases hlm : (l.length : Int) ≤ m
  ·rw [if_pos hlm]
   refine ⟨fun _ => bu.2 ⟨h1, ?_, fun q hq => h3 q (List.mem_cons_of_mem _ hq)⟩, ⟨show (0 : Int) ≤ 0 by decide, show (0 : Int) ≤ 9 by decide⟩, hl⟩
   simp only [List.length_cons] at h2 ⊢
   omega
  ·rw [if_neg hlm]
   refine ⟨fun _ => bu.2 ⟨h1, by simpa using h2, fun q hq => ?_⟩, ⟨show (0 : Int) ≤ 0 by decide, show (0 : Int) ≤ 9 by decide⟩, by simp only [List.length_take]; omega⟩
   rcases List.mem_cons.1 hq with hq | hq
   ·rw [hq, List.length_drop]
    omega
   ·exact h3 q (List.mem_cons_of_mem _ hq)
def SU (a : KA) : Prop := 0 ≤ a.1 ∧ a.1 ≤ 9 ∧ a.2.length ≤ 65
theorem Mp (w : Kern.YW) : (Kern.sF w).2.2.1 = w.2.2.1 := by
 obtain ⟨d, f, t, lo, tk, a, s, p, sv⟩ := w
 unfold Kern.sF
 simp only []
 split <;> rfl
theorem Mi {w : Kern.YW} (o : KO) (h : Tty.aO w.2.2.1 = true) : Tty.aO (Kern.lx w o).1.2.2.1 = true ∧ SU (Kern.lx w o).2 := by
 obtain ⟨d, f, t, lo, tk, a, s, p, sv⟩ := w
 have h : Tty.aO t = true := h
 have ok0 : ∀ e : Int, 0 ≤ e → e ≤ 9 → SU (e, []) := fun e h0 h1 => ⟨h0, h1, by simp⟩
 have hr := CJ (m := o.2.2.1) h
 have z0 := ok0 0 (by decide) (by decide)
 unfold Kern.lx
 simp only []
 by_cases c1 : o.1 < 1 ∨ 6 < o.1
 ·rw [if_pos c1]; exact ⟨h, ok0 5 (by decide) (by decide)⟩
 rw [if_neg c1]
 by_cases c2 : o.1 ≠ 1 ∧ o.1 ≠ 3 ∧ o.2.1 ≠ 0 ∧ o.2.1 ≠ 1
 ·rw [if_pos c2]; exact ⟨h, ok0 2 (by decide) (by decide)⟩
 rw [if_neg c2]
 by_cases c3 : o.1 = 1
 ·rw [if_pos c3]
  by_cases c4 : d.length = 16
  ·rw [if_pos c4]; exact ⟨h, z0⟩
  ·rw [if_neg c4]; exact ⟨h, z0⟩
 rw [if_neg c3]
 by_cases c5 : o.1 = 3
 ·rw [if_pos c5]
  refine ⟨?_, hr.2.1.1, hr.2.1.2, hr.2.2⟩
  show Tty.aO (if (Tty.bW t o.2.2.1).2.2.1 = 0 then (Tty.bW t o.2.2.1).1 else t) = true
  by_cases c6 : (Tty.bW t o.2.2.1).2.2.1 = 0
  ·rw [if_pos c6]; exact hr.1 c6
  ·rw [if_neg c6]; exact h
 rw [if_neg c5]
 by_cases c7 : o.1 = 6
 ·rw [if_pos c7]; exact ⟨h, z0⟩
 rw [if_neg c7]
 by_cases c8 : o.1 ≠ 2 ∧ s = o.2.1
 ·rw [if_pos c8]; exact ⟨h, ok0 6 (by decide) (by decide)⟩
 rw [if_neg c8]
 by_cases c9 : o.1 = 4
 ·rw [if_pos c9]
  by_cases c10 : sv.getD o.2.1.toNat 0 = 400
  ·rw [if_pos c10]; exact ⟨h, ok0 4 (by decide) (by decide)⟩
  ·rw [if_neg c10]; exact ⟨h, z0⟩
 rw [if_neg c9]
 by_cases c11 : o.1 = 5
 ·rw [if_pos c11]
  by_cases c12 : sv.getD o.2.1.toNat 0 = 0
  ·rw [if_pos c12]; exact ⟨h, ok0 3 (by decide) (by decide)⟩
  ·rw [if_neg c12]; exact ⟨h, z0⟩
 rw [if_neg c11]
 by_cases c13 : s = o.2.1
 ·rw [if_pos c13]
  by_cases c14 : 0 < d.length
  ·rw [if_pos c14]; exact ⟨h, z0⟩
  ·rw [if_neg c14]; exact ⟨h, z0⟩
 rw [if_neg c13]
 by_cases c15 : a = o.2.1 ∧ sv.getD o.2.1.toNat 0 = 0
 ·rw [if_pos c15]; exact ⟨h, z0⟩
 rw [if_neg c15]
 by_cases c16 : 0 < f.length
 ·rw [if_pos c16]
  refine ⟨?_, z0⟩
  show Tty.aO (if (Tty.ph t (f.getD 0 0)).2 = 0 then (Tty.ph t (f.getD 0 0)).1 else t) = true
  by_cases c17 : (Tty.ph t (f.getD 0 0)).2 = 0
  ·rw [if_pos c17]; exact E7 h c17
  ·rw [if_neg c17]; exact h
 ·rw [if_neg c16]; exact ⟨h, ok0 7 (by decide) (by decide)⟩
theorem Ee : ∀ (ops : List KO) (s : Kern.YW × List KA), Tty.aO s.1.2.2.1 = true → (∀ a ∈ s.2, SU a) → Tty.aO (ops.foldl Kern.Ax s).1.2.2.1 = true ∧ ∀ a ∈ (ops.foldl Kern.Ax s).2, SU a
 | [], s, h1, h2 => ⟨h1, h2⟩
 | o :: ops, s, h1, h2 => by
  have hb := Mi o h1
  refine Ee ops (Kern.Ax s o) ?_ ?_
  ·show Tty.aO (Kern.sF (Kern.lx s.1 o).1).2.2.1 = true
   rw [Mp]
   exact hb.1
  ·intro a ha
   rcases List.mem_append.1 (show a ∈ s.2 ++ [(Kern.lx s.1 o).2] from ha) with ha | ha
   ·exact h2 a ha
   ·rw [List.mem_singleton.1 ha]
    exact hb.2
theorem Ik (ops : List KO) : Tty.aO (Kern.iZ ops).1.2.2.1 = true ∧ ∀ a ∈ (Kern.iZ ops).2, SU a := Ee ops (Kern.y0, []) (by decide) (fun a ha => by cases ha)
theorem M9 {ops : List KO} (hp : ops.length ≤ 1048576) : ∀ n ∈ nums (Kern.Bt (Kern.iZ ops).1), 0 ≤ n ∧ n ≤ 1099511627776 := by
 have h1 := (Kern.wm ops).1
 have h2 := bu.1 (Ik ops).1
 generalize (Kern.iZ ops).1 = w at h1 h2
 obtain ⟨d, f, t, lo, tk, a, s, p, sv⟩ := w
 obtain ⟨g1, g2, g3, g4, _⟩ := h1
 obtain ⟨k1, k2, _⟩ := h2
 have k1 : t.2.length ≤ 64 := k1
 have k2 : t.1.length ≤ 400 := k2
 intro n hn
 have hn : n ∈ [(d.length : Int), (f.length : Int), (t.1.length : Int), (t.2.length : Int), lo, tk] := hn
 simp only [List.mem_cons, List.not_mem_nil, or_false] at hn
 rcases hn with e | e | e | e | e | e <;> subst e <;> omega
theorem A9 : ∀ l : List Int, (ry l).length = 2 * l.length
 | [] => rfl
 | b :: l => by
  have := A9 l
  unfold ry at this ⊢
  rw [List.map_cons, List.flatten_cons, List.length_append, this, List.length_cons]
  simp only [List.length_cons, List.length_nil]
  omega
theorem I4 (l : List Int) : (pG l).length ≤ 2 * l.length + 1 := by
 unfold pG
 split
 ·simp
 ·rw [A9]
  omega
theorem u4 (ops : List KO) (an : List KA) (k : Nat) : (dn ops an k).length = k := by simp [dn]
theorem Bw (ops : List KO) (an : List KA) {k : Int} (h : 0 ≤ k) : dn ops an (k + 1).toNat = dn ops an k.toNat ++ [po (ops.getD k.toNat (0, 0, 0, 0)) (an.getD k.toNat (0, []))] := by
 have e : (k + 1).toNat = k.toNat + 1 := by omega
 rw [e, dn, List.range_succ, List.map_append]
 rfl
theorem DC {l : List Int} {k : Int} (h0 : 0 ≤ k) (h1 : k < l.length) : iS l (k + 1).toNat = iS l k.toNat ++ ([32] ++ Bench.dec (l.getD k.toNat 0)) := by
 unfold iS
 rw [dT 0 h0 h1, List.map_append, List.flatten_append, List.append_assoc]
 simp
theorem uc {l : List Int} (h : ∀ n ∈ l, n ≤ 1099511627776) : ((l.map fun n => [32] ++ Bench.dec n).flatten).length ≤ 14 * l.length := by
 induction l with
 | nil => simp
 | cons a l ih =>
  have h1 := Bench.rr (h a (by simp))
  have h2 := ih (fun n hn => h n (List.mem_cons_of_mem _ hn))
  have e : ([32] ++ Bench.dec a).length = 1 + (Bench.dec a).length := by rw [List.length_append, List.length_singleton]
  rw [List.map_cons, List.flatten_cons, List.length_append, e, List.length_cons]
  omega
theorem E8 {l : List Int} {k : Nat} (h : ∀ n ∈ l, n ≤ 1099511627776) : (iS l k).length ≤ 4 + 14 * l.length := by
 unfold iS
 have := uc (l := l.take k) (fun n hn => h n (List.mem_of_mem_take hn))
 rw [List.length_take] at this
 rw [List.length_append]
 simp only [List.length_cons, List.length_nil]
 omega
theorem wJ : ∀ (n f : Nat) (s : List Int) (k : Int) (o : List KO), s.length ≤ n → (∀ b ∈ s, 0 ≤ b ∧ b ≤ 255) → (Bench.dS f s k o).1.length ≤ o.length + s.length
 | n, 0, s, k, o, _, _ => by simp [Bench.dS]
 | n, f + 1, s, k, o, hn, hs => by
  by_cases h0 : s = []
  ·rw [h0, Bench.jZ]
   simp
  ·by_cases h1 : Bench.kJ s [10] = false ∨ (Bench.cW (Bench.iA s [10])).2 = false
   ·rw [Bench.mE h0 h1]
    simp
   ·have h2 : Bench.kJ s [10] = true := by
     cases e : Bench.kJ s [10] with
     | true => rfl
     | false => exact absurd (Or.inl e) h1
    have h3 : (Bench.cW (Bench.iA s [10])).2 = true := by
     cases e : (Bench.cW (Bench.iA s [10])).2 with
     | true => rfl
     | false => exact absurd (Or.inr e) h1
    have hc := Bench.rz hs h2
    rw [Bench.ik h0 h2 h3]
    cases n with
    | zero => omega
    | succ n =>
     have := wJ n f (Bench.kG s [10]) (k + 1) (o ++ [(Bench.cW (Bench.iA s [10])).1]) (by omega) hc.2
     rw [List.length_append, List.length_singleton] at this
     omega
theorem NU {s : List Int} (hs : ∀ b ∈ s, 0 ≤ b ∧ b ≤ 255) : (Bench.bf s).1.length ≤ s.length := by
 have := wJ s.length (s.length + 1) s 0 [] (Nat.le_refl _) hs
 unfold Bench.bf
 simpa using this
theorem AM {α : Type} (d : α) {l : List α} {k : Int} (h0 : 0 ≤ k) (h1 : k < l.length) : l.getD k.toNat d ∈ l := by
 have h2 : k.toNat < l.length := by omega
 have : l.getD k.toNat d = l[k.toNat] := by simp [h2]
 rw [this]
 exact List.getElem_mem h2

theorem yO (s : List Int) : (fh s).length = (iv s).length := (Kern.wm (iv s)).2
theorem zl {s : List Int} (hs : ∀ b ∈ s, 0 ≤ b ∧ b ≤ 255) (hp : s.length ≤ 1048576) : (iv s).length ≤ 1048576 := Nat.le_trans (NU hs) hp
theorem RJ {s : List Int} {k : Int} (h0 : 0 ≤ k) (h1 : k < (fh s).length) : SU ((fh s).getD k.toNat (0, [])) := (Ik (iv s)).2 _ (AM _ h0 h1)
theorem wA {s : List Int} (hs : ∀ b ∈ s, 0 ≤ b ∧ b ≤ 255) (hp : s.length ≤ 1048576) {k : Int} (h0 : 0 ≤ k) (h1 : k < (fh s).length) {t : List Int} (ht : t = po ((iv s).getD k.toNat (0, 0, 0, 0)) ((fh s).getD k.toNat (0, []))) :
  ((dn (iv s) (fh s) k.toNat).length + 1 ≤ 9223372036854775807 ∧ ((dn (iv s) (fh s) k.toNat).length + 1 + ((dn (iv s) (fh s) k.toNat).length + 1) / 4 + 192) * 16 ≤ 281474976710656) ∧
  (-9223372036854775808 ≤ k + 1 ∧ k + 1 ≤ 9223372036854775807) ∧
  (0 ≤ k + 1 ∧ k + 1 ≤ (fh s).length ∧ fh s = fh s ∧ dn (iv s) (fh s) k.toNat ++ [t] = dn (iv s) (fh s) (k + 1).toNat) ∧ (((fh s).length : Int) - (k + 1)).toNat < (((fh s).length : Int) - k).toNat := by
 have h2 := zl hs hp
 have h3 := yO s
 rw [u4]
 refine ⟨⟨by omega, by omega⟩, by omega, ⟨by omega, by omega, rfl, ?_⟩, by omega⟩
 rw [ht, Bw _ _ h0]
theorem Kd {s : List Int} (hs : ∀ b ∈ s, 0 ≤ b ∧ b ≤ 255) (hp : s.length ≤ 1048576) (he : (Bench.bf s).2.2 = 0) {o : List (List Int)} (ho : o = dn (iv s) (fh s) (fh s).length) (L : List Int) (hL : L = nums (Kern.Bt (Kern.iZ (iv s)).1)) :
  [108, 101, 102, 116] = iS L 0 ∧ ∀ (t : List Int) (j : Int), 0 ≤ j → j ≤ 6 → t = iS L j.toNat → t.length ≤ 9223372036854775807 → (∀ b, b ∈ t → 0 ≤ b ∧ b ≤ 255) → -9223372036854775808 ≤ j → j ≤ 9223372036854775807 →
   (j < ((1 + 1 + 1 + 1 + 1 + 1 : Nat) : Int) → (0 ≤ j ∧ j < ((1 + 1 + 1 + 1 + 1 + 1 : Nat) : Int)) ∧ 0 ≤ L.getD j.toNat 0 ∧ 1 + (Bench.dec (L.getD j.toNat 0)).length ≤ 9223372036854775807 ∧ t.length + (1 + (Bench.dec (L.getD j.toNat 0)).length) ≤ 9223372036854775807 ∧
    (-9223372036854775808 ≤ j + 1 ∧ j + 1 ≤ 9223372036854775807) ∧ (0 ≤ j + 1 ∧ j + 1 ≤ 6 ∧ t ++ ([32] ++ Bench.dec (L.getD j.toNat 0)) = iS L (j + 1).toNat) ∧ (6 - (j + 1)).toNat < (6 - j).toNat) ∧
   (¬ j < ((1 + 1 + 1 + 1 + 1 + 1 : Nat) : Int) → (o.length + 1 ≤ 9223372036854775807 ∧ (o.length + 1 + (o.length + 1) / 4 + 192) * 16 ≤ 281474976710656) ∧ o ++ [t] = (fu s).1 ∧ 0 = (fu s).2) := by
 have hn := M9 (zl hs hp)
 rw [← hL] at hn
 have hl6 : L.length = 6 := by rw [hL]; rfl
 have h2 := zl hs hp
 have h3 := yO s
 have c6 : ((1 + 1 + 1 + 1 + 1 + 1 : Nat) : Int) = 6 := rfl
 rw [c6]
 refine ⟨by simp [iS], fun t j j0 j6 ht _ _ _ _ => ⟨fun h => ?_, fun h => ?_⟩⟩
 ·have hm := hn _ (AM 0 j0 (show j < (L.length : Int) by omega))
  have hd := Bench.rr hm.2
  have htl := E8 (l := L) (k := j.toNat) (fun n h => (hn n h).2)
  rw [← ht] at htl
  refine ⟨by omega, hm.1, by omega, by omega, by omega, ⟨by omega, by omega, ?_⟩, by omega⟩
  rw [DC j0 (by omega), ht]
 ·have hj : j = 6 := by omega
  have htell : fu s = (dn (iv s) (fh s) (fh s).length ++ [iS (nums (Kern.Bt (Kern.iZ (iv s)).1)) 6], 0) := by
   unfold fu
   rw [if_neg (by rw [he]; simp)]
  rw [htell, ho, u4]
  refine ⟨⟨by omega, by omega⟩, ?_, rfl⟩
  rw [ht, hj, hL]
  rfl
theorem k6 {o : KO} {a : KA} (h : ¬ a.1 = 0) : po o a = [101, 114, 114, 111, 114, 32] ++ Bench.dec a.1 := by
 unfold po
 rw [if_pos h]
theorem EE {o : KO} {a : KA} (h : a.1 = 0) (h3 : o.1 = 3) : po o a = [111, 107] ++ ([32] ++ pG a.2) := by
 unfold po
 rw [if_neg (by rw [h]; simp), if_pos h3]
 rfl
theorem Mj {o : KO} {a : KA} (h : a.1 = 0) (h3 : ¬ o.1 = 3) : po o a = [111, 107] := by
 unfold po
 rw [if_neg (by rw [h]; simp), if_neg h3]
theorem Si (x : List Int × Unit) (hp : x.1.length ≤ 1048576) (hl : aD nf.as x) : B5 x := by
 obtain ⟨s, u⟩ := x
 have hp : s.length ≤ 1048576 := hp
 have hs : ∀ b ∈ s, (0 : Int) ≤ b ∧ b ≤ 255 := hl.1.2
 have hol := zl hs hp
 have hal := yO s
 unfold B5
 delta cX dR fc bn nT lR ra oc rp tO mz pd rk iy nZ ot qP mn eD jS uD nz
 simp only [bM]
 simp (maxSteps := 10000000) only [Bool.not_eq_true', Bool.not_eq_false', Bool.not_eq_true, Bool.not_eq_false, beq_self_eq_true, decide_eq_true_eq, decide_eq_false_iff_not, Bool.not_false, Bool.not_true, beq_iff_eq, beq_eq_false_iff_ne, bne_iff_ne, ne_eq, bne_eq_false_iff_eq, aE, true_and, and_true, and_self, eq_self, List.length_cons, List.length_nil, List.length_append, List.length_set, List.length_replicate, List.set_cons_zero, cond_true, cond_false, Bool.false_eq_true, Bool.true_eq_false, forall_const, false_imp_iff, imp_self, implies_true, and_imp, Decidable.not_not, Bool.and_eq_true, Bool.or_eq_true, Bool.and_eq_false_iff, Bool.or_eq_false_iff, ← List.length_eq_zero_iff, or_self, or_false, false_or, Prod.forall, Int.reduceEq, Int.reduceLT, Int.reduceLE, List.nil_append, Nat.zero_add, Int.toNat_zero, List.drop_zero, List.length_drop, List.length_take, not_true_eq_false, not_false_eq_true,  vC, bM]
 refine ⟨hp, fun he => ?_, fun he => ⟨hol, ⟨by omega, rfl, rfl⟩, fun o e k h0 h1 h2 h3 _ _ _ _ _ _ => ?_⟩⟩
 ·unfold fu
  rw [if_pos he]
  exact ⟨rfl, rfl⟩
 subst h2
 subst h3
 refine ⟨fun h4 => ?_, fun h4 => ?_⟩
 ·have h4 : k < ((fh s).length : Int) := h4
  have hA := RJ h0 h4
  have hx := I4 ((fh s).getD k.toNat (0, [])).2
  obtain ⟨A0, A1, A2⟩ := hA
  have hd := Bench.rr (n := ((fh s).getD k.toNat (0, [])).1) (by omega)
  have ho : k < ((Bench.bf s).1.length : Int) := by
   have : k < ((iv s).length : Int) := by omega
   exact this
  refine ⟨⟨h0, h4⟩, fun a1 => ⟨A0, by omega, ⟨h0, ho⟩, fun _ b0 => absurd b0 a1, fun _ => wA hs hp h0 h4 (k6 a1).symm⟩, fun a1 => ⟨⟨h0, ho⟩, fun b3 _ => ⟨by omega, by omega, by omega, wA hs hp h0 h4 (EE a1 b3).symm⟩, fun b3 => wA hs hp h0 h4 (Mj a1 (b3.resolve_right (fun h => h a1))).symm⟩⟩
 ·have hk : k = ((fh s).length : Int) := by
   have h4 : ¬ k < ((fh s).length : Int) := h4
   omega
  exact Kd hs hp he (by rw [hk]; rfl) _ rfl

end Go.Proofs.YtlnlichdidobpaaGreatDoor.Tell
