/-
  Sx, part G: parts: taken apart, read as data, replaced.
-/
import Derived.Test.YtpnmfoojmodnlaaSxF
namespace Go.Sx
open Go.RowKit

theorem explode_c {c : Cx} : ∀ {t : Ty} {x : t.D} {l : List Value}, Rd c.S c.w t l x → PsC c (explode t x) l
  | .int _, _, _, h => PsC.single h
  | .bool, _, _, h => PsC.single h
  | .str, _, _, h => PsC.single h
  | .sl _, _, _, h => PsC.single h
  | .arr _ _, _, _, h => PsC.single h
  | .ref p, x, _, h => PsC.single (p := .d (.ref p) x) h
  | .err, x, _, h => PsC.single (p := .d .err x) h
  | .mp kk t, x, _, h => PsC.single (p := .d (.mp kk t) x) h
  | .pair _ _, _, _, h => by
    obtain ⟨l, m, e, h1, h2⟩ := h
    rw [e]
    exact (explode_c h1).append (explode_c h2)
theorem parts_c {c : Cx} {p : PV} {l : List Value} (h : PVc c p l) : PsC c p.parts l := by
  cases p <;> first | exact explode_c h | exact PsC.single h
theorem psParts_c {c : Cx} : ∀ {ps : List PV} {l : List Value}, PsC c ps l → PsC c (psParts ps) l
  | [], _, h => h
  | p :: ps, _, ⟨a, b, e, h1, h2⟩ => by rw [e]; exact (parts_c h1).append (psParts_c h2)

theorem aggC_cells {c : Cx} {g : Bool} {ps : List PV} {v : Value} (h : aggC c g ps v) : PsC c ps v.cells.toList := by
  cases g
  · have h' : PsC c ps [v] := h
    have : v.oneCell' = true := h'.one v (by simp)
    cases v <;> first | exact h' | cases this
  · obtain ⟨cs, e, h⟩ := h; rw [e]; exact h
theorem SVparts_c {c : Cx} {sv : SV} {v : Value} {ps : List PV} (h : SVc c sv v) (e : sv.parts = some ps) : PsC c ps v.cells.toList := by
  cases sv with
  | tup es => cases e
  | cnd b p => cases e
  | agg qs =>
    injection e with e; subst e
    exact psParts_c (aggC_cells (g := true) h)
  | one p =>
    cases p with
    | any => cases e
    | d t x => injection e with e; subst e; exact parts_c (by obtain ⟨a, b, e1, h1, h2⟩ := aggC_cells (g := t.agg) (ps := [.d t x]) h; rw [e1, show b = [] from h2, List.append_nil]; exact h1)
    | lit b => injection e with e; subst e; exact aggC_cells (g := false) (ps := [.lit b]) h
    | con b => injection e with e; subst e; exact aggC_cells (g := false) (ps := [.con b]) h
    | row k => injection e with e; subst e; exact aggC_cells (g := false) (ps := [.row k]) h
    | ptr k q => injection e with e; subst e; exact aggC_cells (g := false) (ps := [.ptr k q]) h
    | pel k q n sz i j => injection e with e; subst e; exact aggC_cells (g := false) (ps := [.pel k q n sz i j]) h
    | rel k sz i j => injection e with e; subst e; exact aggC_cells (g := false) (ps := [.rel k sz i j]) h
    | pea k off n sz i j n' sz' i' j' => injection e with e; subst e; exact aggC_cells (g := false) (ps := [.pea k off n sz i j n' sz' i' j']) h
    | rea k sz i j n' sz' i' j' => injection e with e; subst e; exact aggC_cells (g := false) (ps := [.rea k sz i j n' sz' i' j']) h
    | dpl t x => injection e with e; subst e; exact aggC_cells (g := false) (ps := [.dpl t x]) h
    | clo k => injection e with e; subst e; exact aggC_cells (g := false) (ps := [.clo k]) h
    | sub k k' sz x y => injection e with e; subst e; exact aggC_cells (g := false) (ps := [.sub k k' sz x y]) h
    | bsl k off n sz => injection e with e; subst e; exact aggC_cells (g := false) (ps := [.bsl k off n sz]) h
    | itr k r => injection e with e; subst e; exact aggC_cells (g := false) (ps := [.itr k r]) h
    | opt p a off => injection e with e; subst e; exact aggC_cells (g := false) (ps := [.opt p a off]) h
    | oel p a off n sz i j => injection e with e; subst e; exact aggC_cells (g := false) (ps := [.oel p a off n sz i j]) h
    | orp k n g => injection e with e; subst e; exact aggC_cells (g := true) (ps := [.orp k n g]) h

theorem psSize_append : ∀ (a b : List PV), psSize (a ++ b) = psSize a + psSize b
  | [], b => by simp [psSize]
  | p :: a, b => by simp [psSize, psSize_append a b, Nat.add_assoc]

theorem takeN_eq : ∀ {ps : List PV} {n : Nat} {a b : List PV}, takeN ps n = some (a, b) → ps = a ++ b ∧ psSize a = n
  | ps, 0, a, b, h => by
    have h' : takeN ps 0 = some ([], ps) := by cases ps <;> rfl
    rw [h'] at h
    simp only [Option.some.injEq, Prod.mk.injEq] at h
    obtain ⟨rfl, rfl⟩ := h
    exact ⟨rfl, rfl⟩
  | [], n + 1, a, b, h => by cases h
  | p :: ps, n + 1, a, b, h => by
    have h' : takeN (p :: ps) (n + 1) = (bif Nat.ble p.size (n + 1) && Nat.blt 0 p.size then
      (match takeN ps (n + 1 - p.size) with
       | some (a, b) => some (p :: a, b)
       | none => none) else none) := rfl
    rw [h'] at h
    cases hb : (Nat.ble p.size (n + 1) && Nat.blt 0 p.size) with
    | false => rw [hb] at h; cases h
    | true =>
      rw [hb] at h
      simp only [cond_true] at h
      split at h
      · rename_i a' b' e
        simp only [Option.some.injEq, Prod.mk.injEq] at h
        obtain ⟨rfl, rfl⟩ := h
        obtain ⟨h1, h2⟩ := takeN_eq e
        simp only [Bool.and_eq_true] at hb
        have := Nat.le_of_ble_eq_true hb.1
        exact ⟨by rw [h1]; rfl, by simp only [psSize, h2]; omega⟩
      · cases h

theorem PsC.split {c : Cx} : ∀ {a b : List PV} {l : List Value}, PsC c (a ++ b) l → PsC c a (l.take (psSize a)) ∧ PsC c b (l.drop (psSize a))
  | [], b, l, h => ⟨by simp [psSize]; rfl, by simpa [psSize] using h⟩
  | p :: a, b, l, h => by
    obtain ⟨x, y, e, h1, h2⟩ := h
    obtain ⟨h3, h4⟩ := PsC.split h2
    have hx := h1.len
    rw [e]
    have e1 : (x ++ y).take (psSize (p :: a)) = x ++ y.take (psSize a) := by
      rw [show psSize (p :: a) = x.length + psSize a by rw [hx]; rfl, List.take_length_add_append]
    have e2 : (x ++ y).drop (psSize (p :: a)) = y.drop (psSize a) := by
      rw [show psSize (p :: a) = x.length + psSize a by rw [hx]; rfl, List.drop_length_add_append]
    rw [e1, e2]
    exact ⟨⟨x, _, rfl, h1, h3⟩, h4⟩

theorem cut3_eq {ps : List PV} {off n : Nat} {a m b : List PV} (h : cut3 ps off n = some (a, m, b)) : ps = a ++ (m ++ b) ∧ psSize a = off ∧ psSize m = n := by
  unfold cut3 at h
  split at h
  · rename_i a' r e
    split at h
    · rename_i m' b' e'
      simp only [Option.some.injEq, Prod.mk.injEq] at h
      obtain ⟨rfl, rfl, rfl⟩ := h
      obtain ⟨h1, h2⟩ := takeN_eq e
      obtain ⟨h3, h4⟩ := takeN_eq e'
      exact ⟨by rw [h1, h3], h2, h4⟩
    · cases h
  · cases h
theorem cut3_c {c : Cx} {ps : List PV} {off n : Nat} {a m b : List PV} {l : List Value} (h : cut3 ps off n = some (a, m, b)) (hl : PsC c ps l) :
    PsC c m ((l.drop off).take n) ∧ off + n ≤ l.length := by
  obtain ⟨e, h1, h2⟩ := cut3_eq h
  have hlen := hl.len
  rw [e] at hl hlen
  have h3 := hl.split.2
  rw [h1] at h3
  have h4 := h3.split.1
  rw [h2] at h4
  exact ⟨h4, by rw [hlen, psSize_append, psSize_append, h1, h2]; omega⟩
theorem setPs_c {c : Cx} {ps qs ps' : List PV} {off n : Nat} {l m : List Value} (h : setPs ps off n qs = some ps') (hl : PsC c ps l) (hm : PsC c qs m) :
    PsC c ps' (l.take off ++ (m ++ l.drop (off + n))) ∧ m.length = n ∧ off + n ≤ l.length := by
  unfold setPs at h
  split at h
  · rename_i a m' b e
    cases hn : Nat.beq (psSize qs) n with
    | false => rw [hn] at h; cases h
    | true =>
      rw [hn] at h
      simp only [cond_true, Option.some.injEq] at h
      subst h
      have hs : psSize qs = n := Nat.eq_of_beq_eq_true hn
      obtain ⟨e1, h1, h2⟩ := cut3_eq e
      have hle := (cut3_c e hl).2
      rw [e1] at hl
      obtain ⟨h3, h4⟩ := hl.split
      rw [h1] at h3 h4
      have h5 := h4.split.2
      rw [h2, List.drop_drop] at h5
      exact ⟨h3.append (hm.append h5), by rw [hm.len, hs], hle⟩
  · cases h

theorem castD_eq {t' t : Ty} {x : t'.D} {y : t.D} (h : castD t' t x = some y) : ∃ e : t' = t, e ▸ x = y := by
  unfold castD at h
  split at h
  · rename_i e; exact ⟨e, by simpa using h⟩
  · cases h

theorem rd1_c {c : Cx} {t : Ty} {ps r : List PV} {x : t.D} {l : List Value} (h : rd1 t ps = some (x, r)) (hl : PsC c ps l) :
    Rd c.S c.w t (l.take t.size) x ∧ PsC c r (l.drop t.size) := by
  unfold rd1 at h
  split at h
  · rename_i t' y r'
    split at h
    · rename_i z e
      simp only [Option.some.injEq, Prod.mk.injEq] at h
      obtain ⟨rfl, rfl⟩ := h
      obtain ⟨e2, rfl⟩ := castD_eq e
      subst e2
      obtain ⟨a, b, rfl, h1, h2⟩ := hl
      have := Rd.len h1
      rw [← this]
      simpa using ⟨h1, h2⟩
    · cases h
  · cases h
theorem rdP_c {c : Cx} : ∀ {t : Ty} {ps r : List PV} {x : t.D} {l : List Value}, rdP t ps = some (x, r) → PsC c ps l → Rd c.S c.w t (l.take t.size) x ∧ PsC c r (l.drop t.size)
  | .pair a b, ps, r, x, l, h, hl => by
    unfold rdP at h
    split at h
    · rename_i x1 r1 e1
      split at h
      · rename_i y1 r2 e2
        simp only [Option.some.injEq, Prod.mk.injEq] at h
        obtain ⟨rfl, rfl⟩ := h
        obtain ⟨h1, h2⟩ := rdP_c e1 hl
        obtain ⟨h3, h4⟩ := rdP_c e2 h2
        refine ⟨⟨_, _, ?_, h1, h3⟩, ?_⟩
        · show l.take (a.size + b.size) = _
          rw [List.take_add]
        · rw [List.drop_drop] at h4; exact h4
      · cases h
    · cases h
  | .int k, ps, r, x, l, h, hl => rd1_c h hl
  | .str, ps, r, x, l, h, hl => rd1_c h hl
  | .arr n t, ps, r, x, l, h, hl => rd1_c h hl
  | .mp kk t, ps, r, x, l, h, hl => rd1_c h hl
  | .ref p, ps, r, x, l, h, hl => by
    change rdRef p ps = some (x, r) at h
    unfold rdRef at h
    split at h
    · simp only [Option.some.injEq, Prod.mk.injEq] at h
      obtain ⟨rfl, rfl⟩ := h
      obtain ⟨a, b', rfl, h1, h2⟩ := hl
      have h1' : a = [.pointer none] := h1.1
      subst h1'
      exact ⟨.inl ⟨rfl, rfl⟩, h2⟩
    · rename_i p' a r'
      cases hb : Nat.beq p p' with
      | false => rw [hb] at h; cases h
      | true =>
        rw [hb] at h
        simp only [cond_true, Option.some.injEq, Prod.mk.injEq] at h
        obtain ⟨rfl, rfl⟩ := h
        obtain ⟨a', b', rfl, h1, h2⟩ := hl
        obtain ⟨h3, h1'⟩ := h1
        subst h1'
        exact ⟨.inr ⟨h3, rfl⟩, h2⟩
    · rename_i p' y r'
      cases hb : Nat.beq p p' with
      | false => rw [hb] at h; cases h
      | true =>
        rw [hb] at h
        simp only [cond_true, Option.some.injEq, Prod.mk.injEq] at h
        obtain ⟨rfl, rfl⟩ := h
        obtain ⟨a', b', rfl, h1, h2⟩ := hl
        have hlen : a'.length = 1 := Rd.len (S := c.S) (w := c.w) (t := .ref p') h1
        refine ⟨?_, ?_⟩
        · rw [show (Ty.ref p).size = a'.length from hlen.symm, List.take_left]; exact h1
        · rw [show (Ty.ref p).size = a'.length from hlen.symm, List.drop_left]; exact h2
    · cases h
  | .err, ps, r, x, l, h, hl => by
    change rdErr ps = some (x, r) at h
    unfold rdErr at h
    split at h
    · simp only [Option.some.injEq, Prod.mk.injEq] at h
      obtain ⟨rfl, rfl⟩ := h
      obtain ⟨a, b', rfl, h1, h2⟩ := hl
      have h1' : a = [.nilIface] := h1.1
      subst h1'
      exact ⟨.inl ⟨rfl, rfl⟩, h2⟩
    · rename_i y r'
      simp only [Option.some.injEq, Prod.mk.injEq] at h
      obtain ⟨rfl, rfl⟩ := h
      obtain ⟨a', b', rfl, h1, h2⟩ := hl
      have hlen : a'.length = 1 := Rd.len (S := c.S) (w := c.w) (t := .err) h1
      refine ⟨?_, ?_⟩
      · rw [show Ty.err.size = a'.length from hlen.symm, List.take_left]; exact h1
      · rw [show Ty.err.size = a'.length from hlen.symm, List.drop_left]; exact h2
    · cases h
  | .bool, ps, r, x, l, h, hl => by
    unfold rdP at h
    split at h
    · rename_i b r' e
      simp only [Option.some.injEq, Prod.mk.injEq] at h
      obtain ⟨rfl, rfl⟩ := h
      unfold rdLit at e
      split at e
      · simp only [Option.some.injEq, Prod.mk.injEq] at e
        obtain ⟨rfl, rfl⟩ := e
        obtain ⟨a, b', rfl, h1, h2⟩ := hl
        have h1' : a = [.bool _] := h1
        subst h1'
        exact ⟨rfl, h2⟩
      · cases e
    · exact rd1_c h hl
  | .sl t, ps, r, x, l, h, hl => by
    unfold rdP at h
    split at h
    · rename_i r' e
      simp only [Option.some.injEq, Prod.mk.injEq] at h
      obtain ⟨rfl, rfl⟩ := h
      unfold rdNil at e
      split at e
      · simp only [Option.some.injEq] at e
        subst e
        obtain ⟨a, b', rfl, h1, h2⟩ := hl
        have h1' : a = [.slice none 0 0] := h1.1
        subst h1'
        exact ⟨⟨none, 0, rfl, Nat.le_refl _, by simp [maxLen], fun h => absurd h (by simp)⟩, h2⟩
      · cases e
    · exact rd1_c h hl
theorem rdAll_c {c : Cx} {t : Ty} {ps : List PV} {x : t.D} {l : List Value} (h : rdAll t ps = some x) (hl : PsC c ps l) : Rd c.S c.w t l x := by
  unfold rdAll at h
  split at h
  · rename_i y e
    simp only [Option.some.injEq] at h
    subst h
    obtain ⟨h1, h2⟩ := rdP_c e hl
    have h3 : l.drop t.size = [] := h2
    have : l.take t.size = l := List.take_of_length_le (by simpa using h3)
    rwa [this] at h1
  · cases h
end Go.Sx
