/-
 Sx: a verified executor over the loaded code, part 2 of 4.
-/
import Derived.Test.YtlnlichdidobpaaGreatDoorSxP1
import Derived.Laws.IdiomStrings
import Derived.MapKept
/-
 Sx, part H: each operation does what the executor says: loads and stores.
-/
namespace Go.Sx
open Go.RowKit

def At (w : World) (b o : Nat) (l : List Value) : Prop := ∀ (j : Nat) v, l[j]? = some v → w.cell? ⟨b, o + j, none⟩ = some v

theorem pj {w : World} {b : Nat} {cs : Array Value} {e : TypeId} {fr : Nat × Nat} (h : w.heap[b]? = some (.cells cs e fr)) (o : Nat) : w.cell? ⟨b, o, none⟩ = cs[o]? := by
 simp [World.cell?, h]
theorem At.of_block {w : World} {b : Nat} {cs : Array Value} {e : TypeId} {fr : Nat × Nat} (h : w.heap[b]? = some (.cells cs e fr)) (o n : Nat) : At w b o ((cs.toList.drop o).take n) := by
 intro j v hv
 rw [pj h]
 rw [List.getElem?_take] at hv
 split at hv
 ·rw [List.getElem?_drop] at hv; simpa using hv
 ·cases hv
theorem At.sub {w : World} {b o : Nat} {l : List Value} (h : At w b o l) (i n : Nat) : At w b (o + i) ((l.drop i).take n) := by
 intro j v hv
 rw [List.getElem?_take] at hv
 split at hv
 ·rw [List.getElem?_drop] at hv; rw [Nat.add_assoc]; exact h _ _ hv
 ·cases hv

section
variable {P : Program} {E : Env} {w0 : cz} {w : World} {ρ : Nat → Value} {s s' : St} {a : Act} {o : Oper}

theorem zg {c : Cx} {g : Bool} {ps : List PV} {sv : SV} {l : List Value} (h : E3 g ps = some sv) (hl : b9 c ps l) :
  aK c sv (bif g then .agg l.toArray else l.headD undef) := by
 unfold E3 at h
 cases g
 ·simp only [cond_false] at h
  split at h
  ·rename_i p
   cases hp : p.agg with
   | true => rw [hp] at h; cases h
   | false =>
    rw [hp] at h
    simp only [cond_false, Option.some.injEq] at h
    subst h
    obtain ⟨x, y, e, h1, h2⟩ := hl
    rw [show y = [] from h2, List.append_nil] at e
    subst e
    have hsz : p.size = 1 := by
     cases p with
     | d t x => cases t <;> first | rfl | cases hp
     | _ => rfl
    have hlen := h1.len
    rw [hsz] at hlen
    match l, hlen with
    | [v], _ => exact aK.ki hp h1
  ·cases h
 ·simp only [cond_true, Option.some.injEq] at h
  subst h
  exact ⟨_, rfl, hl⟩

theorem wL {t : TypeId} {ti : TI} (h : aa P t ti) {b q : Nat} {l : List Value} (hl : At w b q l) (hn : l.length = ti.size) :
  (Instr.loadAt t (.pointer (some ⟨b, q, none⟩))).run P w = .ok (bif ti.kind.agg then .agg l.toArray else l.headD undef) w := by
 unfold Instr.loadAt Instr.sureAddr loadVar
 simp only [Sem.run_bind, Sem.run_pure, Result.andThen_ok, h.DY]
 have hadd : ∀ (j : Nat) v, l[j]? = some v → w.cell? ((⟨b, q, none⟩ : Addr).add j) = some v := fun j v hv => by rw [Addr.add_lit]; exact hl j v hv
 cases hg : ti.kind.agg
 ·have h1 : ti.size = 1 := by
   rcases h.one with h1 | h1
   ·rw [hg] at h1; cases h1
   ·exact h1
  rw [h1] at hn
  match l, hn with
  | [v], _ =>
   have := hl 0 v rfl
   simp only [Nat.add_zero] at this
   simp [load, this, Sem.run]
 ·simp only [if_true, Sem.run_bind, h.dA, Result.andThen_ok, cond_true]
  rw [← hn, run_loadCells_list w ⟨b, q, none⟩ l hadd]
  simp only [Result.andThen_ok, Sem.run_pure]

theorem yh {c : Cx} {ps : List PV} {off n sz i : Nat} {u : Ty} {xs : List u.D} {l : List Value} (ha : kB ps off n sz = some ⟨u, xs⟩) (hl : b9 c ps l) (hi : i < n) :
  ∃ _ : Unit, sz = u.size ∧ Rd c.S c.w u ((l.drop (off + i * u.size)).take u.size) (nth u xs i) := by
 unfold kB at ha
 split at ha
 ·rename_i pre m t xs' rest htk
  cases hmn : (Nat.beq m n && Nat.beq t.size sz) with
  | false => rw [hmn] at ha; cases ha
  | true =>
   rw [hmn] at ha
   simp only [cond_true, Option.some.injEq, Sigma.mk.injEq] at ha
   obtain ⟨rfl, ha⟩ := ha
   have ha := eq_of_heq ha
   subst ha
   simp only [Bool.and_eq_true] at hmn
   have e1 := Nat.eq_of_beq_eq_true hmn.1
   have e2 := Nat.eq_of_beq_eq_true hmn.2
   subst e1; subst e2
   obtain ⟨hps, hsz⟩ := il htk
   rw [hps] at hl
   have h2 := hl.split.2
   rw [hsz] at h2
   obtain ⟨x1, x2, e3, h3, _⟩ := h2
   obtain ⟨hxl, hxc, hxr⟩ := h3
   have hr := hxr i (nth t xs' i) (eG (by rw [hxl]; exact hi))
   refine ⟨(), rfl, ?_⟩
   have hile : (i + 1) * t.size ≤ m * t.size := Nat.mul_le_mul_right _ hi
   rw [Nat.add_mul, Nat.one_mul] at hile
   rw [← List.drop_drop, e3, List.drop_append_of_le_length (by omega), List.take_append_of_le_length (by rw [List.length_drop]; omega)]
   exact hr
 ·cases ha

theorem FZ {c : Cx} {ps : List PV} {off n sz : Nat} {u : Ty} {xs : List u.D} {l : List Value} (ha : kB ps off n sz = some ⟨u, xs⟩) (hl : b9 c ps l) : xs.length = n := by
 unfold kB at ha
 split at ha
 ·rename_i pre m t xs' rest htk
  cases hmn : (Nat.beq m n && Nat.beq t.size sz) with
  | false => rw [hmn] at ha; cases ha
  | true =>
   rw [hmn] at ha
   simp only [cond_true, Option.some.injEq, Sigma.mk.injEq] at ha
   obtain ⟨rfl, ha⟩ := ha
   have ha := eq_of_heq ha
   subst ha
   simp only [Bool.and_eq_true] at hmn
   have e1 := Nat.eq_of_beq_eq_true hmn.1
   subst e1
   obtain ⟨hps, hsz⟩ := il htk
   rw [hps] at hl
   have h2 := hl.split.2
   obtain ⟨x1, x2, e3, h3, _⟩ := h2
   exact h3.1
 ·cases ha
theorem Gm {x : SV} {v : Value} {ps : List PV} {j : Nat} (h : Ok w0 ρ s a w) (hv : aK (cx w0 ρ s w) x v) (hx : B6 s x = some (ps, j)) :
  ∃ b q l, v = .pointer (some ⟨b, q + j, none⟩) ∧ b9 (cx w0 ρ s w) ps l ∧ At w b q l := by
 unfold B6 at hx
 split at hx
 ·rename_i k off
  split at hx
  ·rename_i qs hk
   simp only [Option.some.injEq, Prod.mk.injEq] at hx
   obtain ⟨rfl, rfl⟩ := hx
   obtain ⟨_, b, hb, hl⟩ := aK.bb rfl (by simp) hv
   obtain ⟨b', e, cs, hb', hh, hp⟩ := h.heap k _ hk
   have : b' = b := by
    have : (cx w0 ρ s w).ρ k = .pointer (some ⟨b, 0, none⟩) := hb
    rw [hb'] at this; injection this with this; injection this with this; injection this
   subst this
   simp only [List.cons.injEq, and_true] at hl
   refine ⟨b', 0, cs.toList, by rw [hl, Nat.zero_add], hp, ?_⟩
   have := At.of_block hh 0 cs.size
   rw [List.drop_zero, List.take_of_length_le (by simp)] at this
   exact this
  ·cases hx
 ·rename_i k off n sz i j'
  split at hx
  ·rename_i qs hk
   split at hx
   ·rename_i u xs ha
    simp only [Option.some.injEq, Prod.mk.injEq] at hx
    obtain ⟨rfl, rfl⟩ := hx
    obtain ⟨_, hi, b, hb, hl⟩ := aK.bb rfl (by simp) hv
    obtain ⟨b', e, cs, hb', hh, hp⟩ := h.heap k _ hk
    have : b' = b := by
     have : (cx w0 ρ s w).ρ k = .pointer (some ⟨b, 0, none⟩) := hb
     rw [hb'] at this; injection this with this; injection this with this; injection this
    subst this
    simp only [List.cons.injEq, and_true] at hl
    unfold kB at ha
    split at ha
    ·rename_i pre m t xs' rest htk
     cases hmn : (Nat.beq m n && Nat.beq t.size sz) with
     | false => rw [hmn] at ha; cases ha
     | true =>
      rw [hmn] at ha
      simp only [cond_true, Option.some.injEq, Sigma.mk.injEq] at ha
      obtain ⟨rfl, ha⟩ := ha
      have ha := eq_of_heq ha
      subst ha
      simp only [Bool.and_eq_true] at hmn
      have e1 := Nat.eq_of_beq_eq_true hmn.1
      have e2 := Nat.eq_of_beq_eq_true hmn.2
      subst e1; subst e2
      obtain ⟨hps, hsz⟩ := il htk
      rw [hps] at hp
      have h2 := hp.split.2
      rw [hsz] at h2
      obtain ⟨x1, x2, e3, h3, _⟩ := h2
      obtain ⟨hxl, hxc, hxr⟩ := h3
      have hr := hxr i (nth t xs' i) (eG (by rw [hxl]; exact hi))
      refine ⟨b', off + i * t.size, _, by rw [hl, Nat.add_assoc], cC hr, ?_⟩
      have hat := At.of_block hh off x1.length
      have hx1 : (cs.toList.drop off).take x1.length = x1 := by rw [e3]; simp
      rw [hx1] at hat
      exact hat.sub (i * t.size) t.size
    ·cases ha
   ·cases hx
  ·cases hx
 ·rename_i k sz i j'
  split at hx
  ·rename_i u xs hk
   cases hsz : Nat.beq u.size sz with
   | false => rw [hsz] at hx; cases hx
   | true =>
    rw [hsz] at hx
    simp only [cond_true, Option.some.injEq, Prod.mk.injEq] at hx
    obtain ⟨rfl, rfl⟩ := hx
    have e2 := Nat.eq_of_beq_eq_true hsz
    subst e2
    obtain ⟨_, b, q, n, cp, hb, hi, hl⟩ := aK.bb rfl (by simp) hv
    rcases h.heap k _ hk with ⟨hb', _⟩ | ⟨b', q', cp', cur, e, hb', hh, _, _, _, hr⟩
    ·rw [hb'] at hb; cases hb
    ·rw [hb'] at hb
     simp only [Value.slice.injEq, Option.some.injEq, Addr.mk.injEq, and_true] at hb
     obtain ⟨⟨rfl, rfl⟩, rfl, rfl⟩ := hb
     simp only [List.cons.injEq, and_true] at hl
     have hr' := hr i (nth u xs i) (eG hi)
     exact ⟨b', q' + i * u.size, _, by rw [hl, Nat.add_assoc], cC hr', At.of_block hh _ _⟩
  ·cases hx
 ·rename_i k sz i j2 n' sz' i' j'
  split at hx
  ·rename_i u xs hk
   cases hsz : Nat.beq u.size sz with
   | false => rw [hsz] at hx; cases hx
   | true =>
    rw [hsz] at hx
    simp only [cond_true] at hx
    split at hx
    ·rename_i v ys ha
     simp only [Option.some.injEq, Prod.mk.injEq] at hx
     obtain ⟨rfl, rfl⟩ := hx
     have e2 := Nat.eq_of_beq_eq_true hsz
     subst e2
     obtain ⟨_, hi', b, q, n, cp, hb, hi, hl⟩ := aK.bb rfl (by simp) hv
     rcases h.heap k _ hk with ⟨hb', _⟩ | ⟨b', q', cp', cur, e, hb', hh, _, _, _, hr⟩
     ·rw [hb'] at hb; cases hb
     ·rw [hb'] at hb
      simp only [Value.slice.injEq, Option.some.injEq, Addr.mk.injEq, and_true] at hb
      obtain ⟨⟨rfl, rfl⟩, rfl, rfl⟩ := hb
      simp only [List.cons.injEq, and_true] at hl
      have hr' := hr i (nth u xs i) (eG hi)
      obtain ⟨x1, e3, hxr⟩ := yh ha (cC hr') hi'
      refine ⟨b', q' + i * u.size + (j2 + i' * v.size), _, ?_, cC hxr, ?_⟩
      ·rw [hl, e3]; simp [Nat.add_assoc]
      ·have hat := At.of_block hh (q' + i * u.size) u.size
       exact hat.sub (j2 + i' * v.size) v.size
    ·cases hx
  ·cases hx
 ·rename_i u x'
  simp only [Option.some.injEq, Prod.mk.injEq] at hx
  obtain ⟨rfl, rfl⟩ := hx
  obtain ⟨b, q, cs, hl, hS, hr, hc⟩ := aK.bb rfl (by simp) hv
  simp only [List.cons.injEq, and_true] at hl
  exact ⟨b, q, cs, by rw [hl]; rfl, cC hr, hc⟩
 ·cases hx

theorem FU {t : TypeId} {x : Operand} {p : Option Prop} {R : Act → World → Prop} (hE : aY P E) (h : Ok w0 ρ s a w) (ho : o.op = .load t x)
  (hs : xR E s o.dst t (ev s x) = some (p, s')) (hR : Up w0 s' R) : bD P o a w R := by
 unfold xR at hs
 split at hs
 ·rename_i ti ps j hi hx
  split at hs
  ·rename_i pre m post hc
   split at hs
   ·rename_i v hv
    simp only [ok, Option.some.injEq, Prod.mk.injEq] at hs
    obtain ⟨_, rfl⟩ := hs
    obtain ⟨b, q, l, e, hl, hat⟩ := Gm h (h.ev x) hx
    obtain ⟨h1, h2⟩ := zF hc hl
    have hn : ((l.drop j).take ti.size).length = ti.size := by rw [List.length_take, List.length_drop]; omega
    refine ae (m := Instr.loadAt t (a.eval x)) h (by simp [execOp, ho]) ?_ (zg hv h1) hR
    rw [e]
    exact wL (hE t ti hi) (hat.sub j ti.size) hn
   ·cases hs
  ·cases hs
 ·cases hs
end
end Go.Sx
/-
 Sx, part I: stores.
-/
namespace Go.Sx
open Go.RowKit

def aI (l : List Value) (p : Nat) (m : List Value) : List Value := l.take p ++ (m ++ l.drop (p + m.length))
theorem dp {l : List Value} {p : Nat} {m : List Value} (h : p + m.length ≤ l.length) : (aI l p m).length = l.length := by
 simp only [aI, List.length_append, List.length_take, List.length_drop]; omega
theorem cH {l : List Value} {p : Nat} {m : List Value} (h : p + m.length ≤ l.length) (k : Nat) :
  (aI l p m)[k]? = if k < p then l[k]? else if k < p + m.length then m[k - p]? else l[k]? := by
 simp only [aI]
 by_cases h1 : k < p
 ·rw [if_pos h1, List.getElem?_append_left (by simp; omega), List.getElem?_take, if_pos h1]
 ·rw [if_neg h1, List.getElem?_append_right (by simp; omega)]
  have e : (l.take p).length = p := by simp; omega
  rw [e]
  by_cases h2 : k < p + m.length
  ·rw [if_pos h2, List.getElem?_append_left (by omega)]
  ·rw [if_neg h2, List.getElem?_append_right (by omega), List.getElem?_drop]
   congr 1; omega
theorem dy (l : List Value) (q n k : Nat) : ((l.drop q).take n)[k]? = if k < n then l[q + k]? else none := by
 rw [List.getElem?_take, List.getElem?_drop]
theorem cD {l : List Value} {p : Nat} {m : List Value} (h : p + m.length ≤ l.length) {q n : Nat} (hq : q + n ≤ p ∨ p + m.length ≤ q) :
  ((aI l p m).drop q).take n = (l.drop q).take n := by
 apply List.ext_getElem?
 intro k
 rw [dy, dy]
 by_cases hk : k < n
 ·rw [if_pos hk, if_pos hk, cH h]
  by_cases h1 : q + k < p
  ·rw [if_pos h1]
  ·rw [if_neg h1, if_neg (by omega)]
 ·rw [if_neg hk, if_neg hk]
theorem iO {l : List Value} {p : Nat} {m : List Value} (h : p + m.length ≤ l.length) {q n : Nat} (hq : q ≤ p) (hn : p + m.length ≤ q + n) (hl : q + n ≤ l.length) :
  ((aI l p m).drop q).take n = aI ((l.drop q).take n) (p - q) m := by
 have hlen : ((l.drop q).take n).length = n := by simp; omega
 apply List.ext_getElem?
 intro k
 rw [dy, cH h, cH (l := (l.drop q).take n) (p := p - q) (m := m) (by rw [hlen]; omega), dy]
 by_cases hk : k < n
 ·rw [if_pos hk]
  by_cases h1 : q + k < p
  ·rw [if_pos h1, if_pos (by omega), if_pos hk]
  ·rw [if_neg h1]
   by_cases h2 : q + k < p + m.length
   ·rw [if_pos h2, if_neg (by omega), if_pos (by omega)]; congr 1; omega
   ·rw [if_neg h2, if_neg (by omega), if_neg (by omega), if_pos hk]
 ·rw [if_neg hk, if_neg (by omega), if_neg (by omega), if_neg hk]
theorem kE {l : List Value} {q n j : Nat} {m : List Value} (hl : q + n ≤ l.length) (hj : j + m.length ≤ n) :
  aI l q (aI ((l.drop q).take n) j m) = aI l (q + j) m := by
 have hlen : ((l.drop q).take n).length = n := by simp; omega
 have h2 : (aI ((l.drop q).take n) j m).length = n := by rw [dp (by rw [hlen]; exact hj), hlen]
 apply List.ext_getElem?
 intro k
 rw [cH (l := l) (p := q) (m := aI ((l.drop q).take n) j m) (by rw [h2]; exact hl), cH (l := l) (p := q + j) (m := m) (by omega), h2]
 by_cases h1 : k < q
 ·rw [if_pos h1, if_pos (by omega)]
 ·rw [if_neg h1]
  by_cases h3 : k < q + n
  ·rw [if_pos h3, cH (l := (l.drop q).take n) (p := j) (m := m) (by rw [hlen]; exact hj), dy]
   by_cases h4 : k - q < j
   ·rw [if_pos h4, if_pos (by omega), if_pos (by omega)]; congr 1; omega
   ·rw [if_neg h4]
    by_cases h5 : k - q < j + m.length
    ·rw [if_pos h5, if_neg (by omega), if_pos (by omega)]; congr 1; omega
    ·rw [if_neg h5, if_pos (by omega), if_neg (by omega), if_neg (by omega)]; congr 1; omega
  ·rw [if_neg h3, if_neg (by omega), if_neg (by omega)]

section
variable {P : Program} {E : Env} {w0 : cz} {w : World} {ρ : Nat → Value} {s s' : St} {a : Act} {o : Oper}

theorem ml (w : World) (g : Nat) (cs : Array Value) (B : Nat) (h : B ≤ g) : Below B w (w.setRow g cs) :=
 ⟨rfl, rfl, rfl, by simp [World.setRow], fun k hk => setRow_other w g k _ (by omega)⟩

theorem z8 {t : TypeId} {ti : TI} (h : aa P t ti) {b q : Nat} {cur : Array Value} {e : TypeId} {v : Value} (hb : w.heap[b]? = some (.cells cur e (0, 0)))
  (hn : v.cells.toList.length = ti.size) (hq : q + ti.size ≤ cur.size) (h1 : ∀ u ∈ v.cells.toList, u.oneCell' = true) :
  (Instr.storeAt t (.pointer (some ⟨b, q, none⟩)) v).run P w = .ok () (w.setRow b (aI cur.toList q v.cells.toList).toArray) := by
 have hn' : v.cells.size = ti.size := by simpa using hn
 unfold Instr.storeAt Instr.sureAddr storeVar
 simp only [Sem.run_bind, Sem.run_pure, Result.andThen_ok, h.dA]
 rw [if_neg (by simp [hn'])]
 have := run_storeCells_at P b q e v.cells.toList 0 cur w hb (by rw [hn]; simpa using hq) h1
 simp only [Nat.add_zero] at this
 simp only [this, aI, List.append_assoc]

theorem Rd.set {S : Nat → Prop} {w : World} {n i : Nat} {t : Ty} {cs l : List Value} {xs : List t.D} {y : t.D} (h : Rd S w (.arr n t) cs xs) (hi : i < n) (hy : Rd S w t l y) :
  Rd S w (.arr n t) (aI cs (i * t.size) l) (xs.set i y) := by
 obtain ⟨h1, h2, h3⟩ := h
 have hl := hy.len
 have hle : i * t.size + l.length ≤ cs.length := by
  rw [h2, hl]
  calc i * t.size + t.size = (i + 1) * t.size := by rw [Nat.add_mul, Nat.one_mul]
   _ ≤ n * t.size := Nat.mul_le_mul_right _ hi
 refine ⟨by simpa using h1, by rw [dp hle, h2], fun j x hx => ?_⟩
 have hj : j < n := by
  have := (List.getElem?_eq_some_iff.1 hx).1
  rw [List.length_set, h1] at this; exact this
 by_cases e : i = j
 ·subst e
  rw [iO hle (Nat.le_refl _) (by rw [hl]; exact Nat.le_refl _) (by rw [hl] at hle; exact hle)]
  rw [List.getElem?_set_self (by rw [h1]; exact hi)] at hx
  injection hx with hx
  subst hx
  have : aI ((cs.drop (i * t.size)).take t.size) (i * t.size - i * t.size) l = l := by
   apply List.ext_getElem?
   intro k
   have hlen : ((cs.drop (i * t.size)).take t.size).length = t.size := by simp; omega
   rw [Nat.sub_self, cH (by rw [hlen, hl]; omega)]
   rw [if_neg (by omega)]
   by_cases hk : k < 0 + l.length
   ·rw [if_pos hk]; rfl
   ·rw [if_neg hk, List.getElem?_eq_none (by rw [hlen]; omega), List.getElem?_eq_none (by omega)]
  rw [this]; exact hy
 ·rw [cD hle (by
   rcases Nat.lt_or_ge j i with hlt | hge
   ·left
    calc j * t.size + t.size = (j + 1) * t.size := by rw [Nat.add_mul, Nat.one_mul]
     _ ≤ i * t.size := Nat.mul_le_mul_right _ hlt
   ·right
    rw [hl]
    calc i * t.size + t.size = (i + 1) * t.size := by rw [Nat.add_mul, Nat.one_mul]
     _ ≤ j * t.size := Nat.mul_le_mul_right _ (by omega))]
  rw [List.getElem?_set_ne e] at hx
  exact h3 j x hx

theorem BC {c : Cx} {ps ps' : List PV} {off n sz i : Nat} {u : Ty} {xs : List u.D} {y : u.D} {l m : List Value}
  (ha : kB ps off n sz = some ⟨u, xs⟩) (hs : u9 ps off n sz u (xs.set i y) = some ps') (hi : i < n) (hl : b9 c ps l) (hy : Rd c.S c.w u m y) :
  u.size = sz ∧ off + n * u.size ≤ l.length ∧ Rd c.S c.w u ((l.drop (off + i * u.size)).take u.size) (nth u xs i) ∧ b9 c ps' (aI l (off + i * u.size) m) := by
 unfold kB at ha
 unfold u9 at hs
 split at ha
 ·rename_i pre m' t xs' rest htk
  rw [htk] at hs
  cases hmn : (Nat.beq m' n && Nat.beq t.size sz) with
  | false => rw [hmn] at ha; cases ha
  | true =>
   rw [hmn] at ha
   simp only [cond_true, Option.some.injEq, Sigma.mk.injEq] at ha
   obtain ⟨rfl, ha⟩ := ha
   have ha := eq_of_heq ha
   subst ha
   simp only [Bool.and_eq_true] at hmn
   have e1 := Nat.eq_of_beq_eq_true hmn.1
   have e2 := Nat.eq_of_beq_eq_true hmn.2
   subst e1; subst e2
   simp only [and_self, if_true, Option.some.injEq] at hs
   subst hs
   obtain ⟨hps, hsz⟩ := il htk
   rw [hps] at hl
   obtain ⟨h1, h2⟩ := hl.split
   rw [hsz] at h1 h2
   obtain ⟨x1, x2, e3, h3, h4⟩ := h2
   have hx1 : x1.length = m' * t.size := h3.len
   have hml : m.length = t.size := hy.len
   have hle : i * t.size + m.length ≤ x1.length := by
    rw [hx1, hml]
    calc i * t.size + t.size = (i + 1) * t.size := by rw [Nat.add_mul, Nat.one_mul]
     _ ≤ m' * t.size := Nat.mul_le_mul_right _ hi
   have hlen := hl.len
   rw [ic, hsz] at hlen
   have hd : (l.drop off).length = x1.length + x2.length := by rw [e3, List.length_append]
   rw [List.length_drop] at hd
   have hoff : off ≤ l.length := by omega
   have hx1' : (l.drop off).take (m' * t.size) = x1 := by rw [e3, ← hx1]; simp
   have hfit : off + m' * t.size ≤ l.length := by omega
   have fK := Rd.set h3 hi hy
   refine ⟨rfl, hfit, ?_, ?_⟩
   ·have := h3.2.2 i (nth t xs' i) (eG (by rw [h3.1]; exact hi))
    have e4 : (l.drop (off + i * t.size)).take t.size = (x1.drop (i * t.size)).take t.size := by
     rw [← List.drop_drop, e3, List.drop_append_of_le_length (by omega), List.take_append_of_le_length (by rw [List.length_drop]; omega)]
    rw [e4]; exact this
   ·have e5 : aI l (off + i * t.size) m = l.take off ++ (aI x1 (i * t.size) m ++ x2) := by
     have hss := kE (l := l) (q := off) (n := m' * t.size) (j := i * t.size) (m := m) hfit (by rw [← hx1]; exact hle)
     rw [hx1'] at hss
     rw [← hss]
     show l.take off ++ (aI x1 (i * t.size) m ++ l.drop (off + (aI x1 (i * t.size) m).length)) = _
     rw [dp hle, ← List.drop_drop, e3]
     simp
    rw [e5]
    exact h1.append ⟨_, _, rfl, fK, h4⟩
 ·cases ha

theorem BG {c : Cx} {ps ps' qs es : List PV} {off n sz i j sz' : Nat} {u : Ty} {xs : List u.D} {z : u.D} {l m : List Value}
  (ha : kB ps off n sz = some ⟨u, xs⟩) (he : sP (cn u (nth u xs i)) j sz' qs = some es) (hz : kU u es = some z) (hs : u9 ps off n sz u (xs.set i z) = some ps')
  (hi : i < n) (hl : b9 c ps l) (hm : b9 c qs m) : u.size = sz ∧ m.length = sz' ∧ off + (i * sz + j) + sz' ≤ l.length ∧ b9 c ps' (aI l (off + (i * sz + j)) m) := by
 obtain ⟨_, e0, hr⟩ := yh ha hl hi
 subst e0
 obtain ⟨h5, h6, h7⟩ := qn he (cC hr) hm
 have hz' := fA hz h5
 obtain ⟨e2, hfit, _, hfin⟩ := BC (i := i) (y := z) ha hs hi hl hz'
 have hel := hr.len
 rw [hel] at h7
 have hile : (i + 1) * u.size ≤ n * u.size := Nat.mul_le_mul_right _ hi
 rw [Nat.add_mul, Nat.one_mul] at hile
 refine ⟨rfl, h6, by omega, ?_⟩
 have e8 : aI l (off + i * u.size) (((l.drop (off + i * u.size)).take u.size).take j ++ (m ++ ((l.drop (off + i * u.size)).take u.size).drop (j + sz'))) = aI l (off + (i * u.size + j)) m := by
  have := kE (l := l) (q := off + i * u.size) (n := u.size) (j := j) (m := m) (by omega) (by rw [h6]; exact h7)
  rw [← Nat.add_assoc, ← this]
  simp only [aI, h6]
 rw [e8] at hfin
 exact hfin

theorem pc {t : TypeId} {ti : TI} {x y : Operand} {R : Act → World → Prop} {k b q : Nat} {cur : Array Value} {e : TypeId} {h0 he : HE}
  (hT : aa P t ti) (h : Ok w0 ρ s a w) (ho : o.op = .store t x y) (hx : a.eval x = .pointer (some ⟨b, q, none⟩)) (hk : s.hp k = some h0) (hbk : bO (ρ k) = some b)
  (hb : w.heap[b]? = some (.cells cur e (0, 0))) (hn : (a.eval y).cells.toList.length = ti.size) (hq : q + ti.size ≤ cur.size)
  (h1 : ∀ u ∈ (a.eval y).cells.toList, u.oneCell' = true)
  (hhe : ∀ w', w'.heap[b]? = some (.cells (aI cur.toList q (a.eval y).cells.toList).toArray e (0, 0)) → (cx w0 ρ s w).le (cx w0 ρ (s.fY k he) w') → rv (cx w0 ρ (s.fY k he) w') k he)
  (hR : Up w0 ((s.fY k he).put o.dst (.one .any)) R) : bD P o a w R := by
 have hrun := z8 hT (v := a.eval y) hb hn hq h1
 have hold : ∀ b', bO (ρ k) ≠ some b' → (w.setRow b (aI cur.toList q (a.eval y).cells.toList).toArray).heap[b']? = w.heap[b']? := fun b' hne =>
  setRow_other w b b' _ (fun e => hne (by rw [hbk, e]))
 have hle := r5 (w0 := w0) (ρ := ρ) (s := s) (he := he) ⟨h0, hk⟩ (by simp) hold
 have hok : Ok w0 ρ (s.fY k he) a (w.setRow b (aI cur.toList q (a.eval y).cells.toList).toArray) :=
  h.fY hk (ml w b _ _ (h.fresh k h0 b hk hbk).1) hold (hhe _ (setRow_heap w b cur _ e _ hb) hle)
 refine .inr ⟨_, ?_, hR ρ _ _ (hok.put o.dst (kz _))⟩
 simp only [execOp, ho, hx, Sem.run_bind, hrun, Result.andThen_ok, Sem.run_pure]

theorem Cq {t : TypeId} {x y : Operand} {p : Option Prop} {R : Act → World → Prop} (hE : aY P E) (h : Ok w0 ρ s a w) (ho : o.op = .store t x y)
  (hs : rD E s t (ev s x) (ev s y) = some (p, s')) (hR : Up w0 (s'.put o.dst (.one .any)) R) : bD P o a w R := by
 unfold rD at hs
 split at hs
 ·rename_i ti qs hti hqs
  have hT := hE t ti hti
  have hm := dZ (h.ev y) hqs
  have hm1 := hm.one
  split at hs
  ·rename_i k off hx
   split at hs
   ·rename_i ps hk
    split at hs
    ·rename_i ps' hps
     simp only [ok, Option.some.injEq, Prod.mk.injEq] at hs
     obtain ⟨_, rfl⟩ := hs
     have hv := h.ev x
     rw [hx] at hv
     obtain ⟨_, b, hb, hl⟩ := aK.bb rfl (by simp) hv
     obtain ⟨b', e, cs, hb', hh, hp⟩ := h.heap k _ hk
     have : b' = b := by
      have : (cx w0 ρ s w).ρ k = .pointer (some ⟨b, 0, none⟩) := hb
      rw [hb'] at this; injection this with this; injection this with this; injection this
     subst this
     simp only [List.cons.injEq, and_true] at hl
     obtain ⟨h1, h2, h3⟩ := qn hps hp hm
     refine pc hT h ho hl hk (by rw [show ρ k = _ from hb']; rfl) hh h2 (by simpa using h3) hm1 ?_ hR
     intro w' hw' hle
     refine ⟨b', e, _, hb', hw', ?_⟩
     have h4 := h1.mono hle
     simpa [aI, h2] using h4
    ·cases hs
   ·cases hs
  ·rename_i k off n sz i j hx
   split at hs
   ·rename_i ps hk
    split at hs
    ·rename_i u xs hau
     split at hs
     ·rename_i es hes
      split at hs
      ·rename_i z hz
       split at hs
       ·rename_i ps' hps
        simp only [ok, Option.some.injEq, Prod.mk.injEq] at hs
        obtain ⟨_, rfl⟩ := hs
        have hv := h.ev x
        rw [hx] at hv
        obtain ⟨_, hi, b, hb, hl⟩ := aK.bb rfl (by simp) hv
        obtain ⟨b', e, cs, hb', hh, hp⟩ := h.heap k _ hk
        have : b' = b := by
         have : (cx w0 ρ s w).ρ k = .pointer (some ⟨b, 0, none⟩) := hb
         rw [hb'] at this; injection this with this; injection this with this; injection this
        subst this
        simp only [List.cons.injEq, and_true] at hl
        -- the element as it was: by the same law at the data itself
        have hself := fun m => BC (i := i) (y := z) (m := m) hau hps hi hp
        have hau' := hau
        unfold kB at hau'
        split at hau'
        ·rename_i pre m' t' xs' rest htk
         cases hmn : (Nat.beq m' n && Nat.beq t'.size sz) with
         | false => rw [hmn] at hau'; cases hau'
         | true =>
          rw [hmn] at hau'
          simp only [cond_true, Option.some.injEq, Sigma.mk.injEq] at hau'
          obtain ⟨rfl, hau'⟩ := hau'
          have hau' := eq_of_heq hau'
          subst hau'
          obtain ⟨hpe, hsz⟩ := il htk
          rw [hpe] at hp
          have h2 := hp.split.2
          rw [hsz] at h2
          obtain ⟨x1, x2, e3, h3, _⟩ := h2
          simp only [Bool.and_eq_true] at hmn
          have e1 := Nat.eq_of_beq_eq_true hmn.1
          subst e1
          have hr := h3.2.2 i (nth t' xs' i) (eG (by rw [h3.1]; exact hi))
          obtain ⟨h5, h6, h7⟩ := qn hes (cC hr) hm
          have hz' := fA hz h5
          rw [← hpe] at hp
          obtain ⟨e2, hfit, _, hfin⟩ := hself _ hz'
          subst e2
          have hxl : x1.length = m' * t'.size := h3.len
          have hel : ((x1.drop (i * t'.size)).take t'.size).length = t'.size := hr.len
          rw [hel] at h7
          have hile : (i + 1) * t'.size ≤ m' * t'.size := Nat.mul_le_mul_right _ hi
          rw [Nat.add_mul, Nat.one_mul] at hile
          have epiece : (x1.drop (i * t'.size)).take t'.size = (cs.toList.drop (off + i * t'.size)).take t'.size := by
           rw [← List.drop_drop, e3, List.drop_append_of_le_length (by omega), List.take_append_of_le_length (by rw [List.length_drop]; omega)]
          have hcs : cs.toList.length = cs.size := by simp
          have e8 : aI cs.toList (off + i * t'.size) (((x1.drop (i * t'.size)).take t'.size).take j ++ ((a.eval y).cells.toList ++ ((x1.drop (i * t'.size)).take t'.size).drop (j + ti.size))) =
            aI cs.toList (off + (i * t'.size + j)) (a.eval y).cells.toList := by
           have := kE (l := cs.toList) (q := off + i * t'.size) (n := t'.size) (j := j) (m := (a.eval y).cells.toList) (by omega) (by rw [h6]; exact h7)
           rw [← Nat.add_assoc, ← this, ← epiece]
           simp only [aI, h6]
          rw [e8] at hfin
          refine pc hT h ho hl hk (by rw [show ρ k = _ from hb']; rfl) hh h6 (by omega) hm1 ?_ hR
          intro w' hw' hle
          exact ⟨b', e, _, hb', hw', by simpa using hfin.mono hle⟩
        ·cases hau'
       ·cases hs
      ·cases hs
     ·cases hs
    ·cases hs
   ·cases hs
  ·rename_i k sz i j hx
   split at hs
   ·rename_i u xs hk
    cases hsz : Nat.beq u.size sz with
    | false => rw [hsz] at hs; cases hs
    | true =>
     rw [hsz] at hs
     simp only [cond_true] at hs
     split at hs
     ·rename_i es hes
      split at hs
      ·rename_i z hz
       simp only [ok, Option.some.injEq, Prod.mk.injEq] at hs
       obtain ⟨_, rfl⟩ := hs
       have e2 := Nat.eq_of_beq_eq_true hsz
       subst e2
       have hv := h.ev x
       rw [hx] at hv
       obtain ⟨_, b, q, n, cp, hb, hi, hl⟩ := aK.bb rfl (by simp) hv
       rcases h.heap k _ hk with ⟨hb', _⟩ | ⟨b', q', cp', cur, e, hb', hh, hc1, hc2, hc3, hr⟩
       ·rw [hb'] at hb; cases hb
       ·have hb0 := hb'
        rw [hb'] at hb
        simp only [Value.slice.injEq, Option.some.injEq, Addr.mk.injEq, and_true] at hb
        obtain ⟨⟨rfl, rfl⟩, rfl, rfl⟩ := hb
        simp only [List.cons.injEq, and_true] at hl
        have hr' := hr i (nth u xs i) (eG hi)
        obtain ⟨h5, h6, h7⟩ := qn hes (cC hr') hm
        have hz' := fA hz h5
        have hel : ((cur.toList.drop (q' + i * u.size)).take u.size).length = u.size := hr'.len
        rw [hel] at h7
        have hile : (i + 1) * u.size ≤ cp' * u.size := Nat.mul_le_mul_right _ (by omega)
        rw [Nat.add_mul, Nat.one_mul] at hile
        have hcur : cur.toList.length = cur.size := by simp
        refine pc hT h ho hl hk (by rw [show ρ k = _ from hb']; rfl) hh h6 (by omega) hm1 ?_ hR
        intro w' hw' hle
        refine .inr ⟨b', q', cp', _, e, ?_, hw', by simpa using hc1, hc2, ?_, ?_⟩
        ·rw [List.length_set]; exact hb0
        ·simp only [List.size_toArray]
         rw [dp (by omega), hcur]; exact hc3
        ·intro i2 x2 hx2
         have hi2 : i2 < xs.length := by
          have := (List.getElem?_eq_some_iff.1 hx2).1
          rwa [List.length_set] at this
         have hi2le : (i2 + 1) * u.size ≤ cp' * u.size := Nat.mul_le_mul_right _ (by omega)
         rw [Nat.add_mul, Nat.one_mul] at hi2le
         show Rd _ _ u (((aI cur.toList (q' + (i * u.size + j)) (a.eval y).cells.toList).drop (q' + i2 * u.size)).take u.size) x2
         by_cases e3 : i = i2
         ·subst e3
          rw [List.getElem?_set_self hi] at hx2
          injection hx2 with hx2
          subst hx2
          rw [iO (by omega) (by omega) (by omega) (by omega)]
          rw [show q' + (i * u.size + j) - (q' + i * u.size) = j by omega]
          have := Rd.mono hle.keep hz'
          simpa only [aI, h6] using this
         ·rw [List.getElem?_set_ne e3] at hx2
          rw [cD (by omega) (by
           rcases Nat.lt_or_ge i2 i with hlt | hge
           ·left
            have : (i2 + 1) * u.size ≤ i * u.size := Nat.mul_le_mul_right _ hlt
            rw [Nat.add_mul, Nat.one_mul] at this
            omega
           ·right
            have : (i + 1) * u.size ≤ i2 * u.size := Nat.mul_le_mul_right _ (by omega)
            rw [Nat.add_mul, Nat.one_mul] at this
            omega)]
          exact Rd.mono hle.keep (hr i2 x2 hx2)
      ·cases hs
     ·cases hs
   ·cases hs
  ·rename_i k sz i j n' sz' i' j' hx
   split at hs
   ·rename_i u xs hk
    cases hsz : Nat.beq u.size sz with
    | false => rw [hsz] at hs; cases hs
    | true =>
     rw [hsz] at hs
     simp only [cond_true] at hs
     split at hs
     ·rename_i v ys hav
      split at hs
      ·rename_i es hes
       split at hs
       ·rename_i y2 hy2
        split at hs
        ·rename_i ps' hps'
         split at hs
         ·rename_i z hz
          simp only [ok, Option.some.injEq, Prod.mk.injEq] at hs
          obtain ⟨_, rfl⟩ := hs
          have e2 := Nat.eq_of_beq_eq_true hsz
          subst e2
          have hv := h.ev x
          rw [hx] at hv
          obtain ⟨_, hi', b, q, n, cp, hb, hi, hl⟩ := aK.bb rfl (by simp) hv
          rcases h.heap k _ hk with ⟨hb', _⟩ | ⟨b', q', cp', cur, e, hb', hh, hc1, hc2, hc3, hr⟩
          ·rw [hb'] at hb; cases hb
          ·have hb0 := hb'
           rw [hb'] at hb
           simp only [Value.slice.injEq, Option.some.injEq, Addr.mk.injEq, and_true] at hb
           obtain ⟨⟨rfl, rfl⟩, rfl, rfl⟩ := hb
           simp only [List.cons.injEq, and_true] at hl
           have hr' := hr i (nth u xs i) (eG hi)
           obtain ⟨e9, h6, h7, h5⟩ := BG hav hes hy2 hps' hi' (cC hr') hm
           subst e9
           have hz' := fA hz h5
           have hel : ((cur.toList.drop (q' + i * u.size)).take u.size).length = u.size := hr'.len
           rw [hel] at h7
           generalize hJ : j + (i' * v.size + j') = J at *
           have hile : (i + 1) * u.size ≤ cp' * u.size := Nat.mul_le_mul_right _ (by omega)
           rw [Nat.add_mul, Nat.one_mul] at hile
           have hcur : cur.toList.length = cur.size := by simp
           refine pc hT h ho hl hk (by rw [show ρ k = _ from hb']; rfl) hh h6 (by omega) hm1 ?_ hR
           intro w' hw' hle
           refine .inr ⟨b', q', cp', _, e, ?_, hw', by simpa using hc1, hc2, ?_, ?_⟩
           ·rw [List.length_set]; exact hb0
           ·simp only [List.size_toArray]
            rw [dp (by omega), hcur]; exact hc3
           ·intro i2 x2 hx2
            have hi2 : i2 < xs.length := by
             have := (List.getElem?_eq_some_iff.1 hx2).1
             rwa [List.length_set] at this
            have hi2le : (i2 + 1) * u.size ≤ cp' * u.size := Nat.mul_le_mul_right _ (by omega)
            rw [Nat.add_mul, Nat.one_mul] at hi2le
            show Rd _ _ u (((aI cur.toList (q' + (i * u.size + J)) (a.eval y).cells.toList).drop (q' + i2 * u.size)).take u.size) x2
            by_cases e3 : i = i2
            ·subst e3
             rw [List.getElem?_set_self hi] at hx2
             injection hx2 with hx2
             subst hx2
             rw [iO (by omega) (by omega) (by omega) (by omega)]
             rw [show q' + (i * u.size + J) - (q' + i * u.size) = J by omega]
             have := Rd.mono hle.keep hz'
             simpa only [aI, h6] using this
            ·rw [List.getElem?_set_ne e3] at hx2
             rw [cD (by omega) (by
              rcases Nat.lt_or_ge i2 i with hlt | hge
              ·left
               have : (i2 + 1) * u.size ≤ i * u.size := Nat.mul_le_mul_right _ hlt
               rw [Nat.add_mul, Nat.one_mul] at this
               omega
              ·right
               have : (i + 1) * u.size ≤ i2 * u.size := Nat.mul_le_mul_right _ (by omega)
               rw [Nat.add_mul, Nat.one_mul] at this
               omega)]
             exact Rd.mono hle.keep (hr i2 x2 hx2)
         ·cases hs
        ·cases hs
       ·cases hs
      ·cases hs
     ·cases hs
   ·cases hs
  ·cases hs
 ·cases hs
end
end Go.Sx
/-
 Sx, part J: new boxes and closures, addresses of fields and elements, slices of slices, lengths.
-/
namespace Go.Sx
open Go.RowKit

section
variable {P : Program} {E : Env} {w0 : cz} {w : World} {ρ : Nat → Value} {s s' : St} {a : Act} {o : Oper}

theorem vZ (t : TypeId) (v : Value) : (newVar t v).run P w = .ok ⟨w.heap.size, 0, none⟩ (w.alloc (.cells v.cells t)) := rfl
theorem vM (t : TypeId) (cs : Array Value) : (newRow t cs).run P w = .ok ⟨w.heap.size, 0, none⟩ (w.alloc (.cells cs t)) := rfl

theorem aa.kV {t : TypeId} {ti : TI} (h : aa P t ti) (w : World) : ∃ z, (zeroValue t).run P w = .ok z w ∧ z.cells.toList = da ti.zero := by
 obtain ⟨i, z, h1, _, _, h4, h5⟩ := h.info
 refine ⟨z, by simp [zeroValue, typeInfo, h1, h4], ?_⟩
 have hone : ∀ v ∈ da ti.zero, v.oneCell' = true := (hD (c := ⟨fun _ => undef, fun _ => false, fun _ => False, w⟩) h.flat).one
 cases hg : ti.kind.agg
 ·rw [hg] at h5
  have hs : ti.size = 1 := by
   rcases h.one with h1 | h1
   ·rw [hg] at h1; cases h1
   ·exact h1
  have hl := h.size
  rw [hs] at hl
  match hc : da ti.zero, hl with
  | [v], _ =>
   rw [hc] at h5 hone
   simp only [cond_false, List.headD_cons] at h5
   rw [h5]
   have := hone v (by simp)
   cases v <;> first | rfl | cases this
 ·rw [hg] at h5; rw [h5]; rfl

theorem D7 {R : Act → World → Prop} {k : Nat} {ps : List PV} {t : TypeId} {cs : Array Value} (h : Ok w0 ρ s a w) (hk : s.us k = false) (hp : b9 (cx w0 ρ s w) ps cs.toList)
  (hR : Up w0 ((s.new k (.box ps)).put o.dst (.one (.ptr k 0))) R) : R (a.put o.dst (.pointer (some ⟨w.heap.size, 0, none⟩))) (w.alloc (.cells cs t)) := by
 have hm := fm.alloc w (.cells cs t)
 have hle := vQ (w0 := w0) (ρ := ρ) (s := s) (he := .box ps) (v := .pointer (some ⟨w.heap.size, 0, none⟩)) hk hm (fun b e => by injection e with e; subst e; exact Nat.le_refl _)
 have hok := h.new (he := .box ps) (v := .pointer (some ⟨w.heap.size, 0, none⟩)) hk hm
  (fun b e => by injection e with e; subst e; exact ⟨Nat.le_refl _, by simp⟩)
  ⟨w.heap.size, t, cs, aw _ _ _, heap_alloc_new w _, hp.mono hle⟩
 exact hR _ _ _ (hok.put o.dst (aK.ki rfl ⟨bA _ _, w.heap.size, aw _ _ _, rfl⟩))

theorem IG {e : TypeId} {x : Operand} {k : Nat} {ps : List PV} {R : Act → World → Prop} (h : Ok w0 ρ s a w) (ho : o.op = .box e x) (hk : s.us k = false)
  (hp : (ev s x).parts = some ps) (hR : Up w0 ((s.new k (.box ps)).put o.dst (.one (.ptr k 0))) R) : bD P o a w R := by
 refine .inl ⟨.pointer (some ⟨w.heap.size, 0, none⟩), w.alloc (.cells (a.eval x).cells e), ?_, D7 h hk (dZ (h.ev x) hp) hR⟩
 simp only [execOp, ho, Instr.box, Sem.run_bind, vZ, Result.andThen_ok, Sem.run_pure]
theorem DA {e : TypeId} {k : Nat} {ti : TI} {R : Act → World → Prop} (hE : aY P E) (h : Ok w0 ρ s a w) (ho : o.op = .alloc e) (hk : s.us k = false)
  (hi : E.info e = some ti) (hR : Up w0 ((s.new k (.box (hY ti.zero))).put o.dst (.one (.ptr k 0))) R) : bD P o a w R := by
 obtain ⟨z, h1, h2⟩ := (hE e ti hi).kV w
 refine .inl ⟨.pointer (some ⟨w.heap.size, 0, none⟩), w.alloc (.cells z.cells e), ?_, D7 h hk (by rw [h2]; exact ju (hD (hE e ti hi).flat)) hR⟩
 simp only [execOp, ho, Instr.alloc, Sem.run_bind, h1, vZ, Result.andThen_ok, Sem.run_pure]

theorem vr (h0 : Ok w0 ρ s a w) : ∀ {xs : List Operand} {ps : List PV}, nN (xs.map (ev s)) = some ps → b9 (cx w0 ρ s w) ps (xs.map a.eval) ∧ ps.length = xs.length ∧ ∀ p ∈ ps, p.agg = false
 | [], ps, h => by injection h with h; subst h; exact ⟨rfl, rfl, by simp⟩
 | x :: xs, ps, h => by
  have hx := h0.ev x
  rw [List.map_cons] at h
  cases hsv : ev s x with
  | agg _ => rw [hsv] at h; cases h
  | gB _ => rw [hsv] at h; cases h
  | lT _ _ => rw [hsv] at h; cases h
  | one p =>
   rw [hsv] at h hx
   have hn : p ≠ .any := fun e => by subst e; cases h
   have h' : (bif p.agg then none else (match nN (xs.map (ev s)) with
    | some ps => some (p :: ps)
    | none => none)) = some ps := by cases p <;> first | exact h | exact absurd rfl hn
   cases hg : p.agg with
   | true => rw [hg] at h'; cases h'
   | false =>
    rw [hg] at h'
    simp only [cond_false] at h'
    split at h'
    ·rename_i qs hq
     injection h' with h'
     subst h'
     obtain ⟨h1, h2, h3⟩ := vr h0 hq
     exact ⟨⟨[a.eval x], _, rfl, aK.bb hg hn hx, h1⟩, by simp [h2], by simpa using ⟨hg, h3⟩⟩
    ·cases h'

theorem Kw {f : FuncId} {caps : Array Operand} {k : Nat} {ps : List PV} {R : Act → World → Prop} (h : Ok w0 ρ s a w) (ho : o.op = .makeFunc (.func f) #[] caps) (hk : s.us k = false)
  (hp : nN (caps.toList.map (ev s)) = some ps) (hR : Up w0 ((s.new k (.jP f ps)).put o.dst (.one (.jP k))) R) : bD P o a w R := by
 have hc := vr h hp
 have hle := vQ (w0 := w0) (ρ := ρ) (s := s) (he := .jP f ps) (v := .func (.func f) #[] (caps.map a.eval)) hk (fm.refl w) (fun b e => by cases e)
 have hok := h.new (he := .jP f ps) (v := .func (.func f) #[] (caps.map a.eval)) hk (fm.refl w) (fun b e => by cases e)
  ⟨_, aw _ _ _, by simpa using hc.1.mono hle, by simpa using hc.2.1, hc.2.2⟩
 have hv : iD (cx w0 (bF ρ k (.func (.func f) #[] (caps.map a.eval))) (s.new k (.jP f ps)) w) (.jP k) [.func (.func f) #[] (caps.map a.eval)] := by
  have e : bF ρ k (.func (.func f) #[] (caps.map a.eval)) k = .func (.func f) #[] (caps.map a.eval) := aw _ _ _
  exact ⟨bA _ _, by show [_] = [bF ρ k _ k]; rw [e], by show (bF ρ k _ k).oneCell' = true; rw [e]; rfl⟩
 refine .inl ⟨.func (.func f) #[] (caps.map a.eval), w, ?_, hR _ _ _ (hok.put o.dst (aK.ki rfl hv))⟩
 simp [execOp, ho, Instr.makeFunc]

theorem field?_c {t : TypeId} {i fo : Nat} {fi : TI} (hE : aY P E) (h : field? E t i = some (fo, fi)) :
  ∃ (F : Array Field) (f : Field), P.underlying t = some (.struct F) ∧ F[i]? = some f ∧ f.offset = fo ∧ aa P f.type fi := by
 unfold field? at h
 split at h
 ·rename_i e
  split at h
  ·rename_i off ft hf
   split at h
   ·rename_i fi' hfi
    simp only [Option.some.injEq, Prod.mk.injEq] at h
    obtain ⟨rfl, rfl⟩ := h
    obtain ⟨F, hF, hfs⟩ := (hE _ _ e).kind
    rw [← hfs] at hf
    rw [List.getElem?_map, Option.map_eq_some_iff] at hf
    obtain ⟨f, hf1, hf2⟩ := hf
    simp only [Prod.mk.injEq] at hf2
    obtain ⟨rfl, rfl⟩ := hf2
    exact ⟨F, f, hF, by simpa using hf1, rfl, hE _ _ hfi⟩
   ·cases h
  ·cases h
 ·cases h

theorem zQ {t : TypeId} {i fo : Nat} {fi : TI} (hE : aY P E) (h : field? E t i = some (fo, fi)) (hz : fi.size ≠ 0) (b q : Nat) :
  (Instr.fieldAt t (.pointer (some ⟨b, q, none⟩)) i).run P w = .ok (.pointer (some ⟨b, q + fo, none⟩)) w := by
 obtain ⟨F, f, hF, hf, rfl, hT⟩ := field?_c hE h
 unfold Instr.fieldAt Instr.sureAddr fieldPlace
 simp only [Sem.run_bind, run_underlying hF, Result.andThen_ok, hf, Sem.run_pure, hT.dA, if_neg hz, Addr.add_lit]

theorem Ci {c : Cx} : ∀ {t u : Ty} {x : t.D} {y : u.D} {off n : Nat} {l : List Value}, Ku t x off n = some ⟨u, y⟩ → Rd c.S c.w t l x → Rd c.S c.w u ((l.drop off).take u.size) y
 | .pair a b, u, x, y, off, n, l, h, hl => by
  unfold Ku at h
  cases h1 : (Nat.beq off 0 && Nat.beq n (a.size + b.size)) with
  | true =>
   rw [h1] at h
   simp only [cond_true, Option.some.injEq, Sigma.mk.injEq] at h
   obtain ⟨rfl, h⟩ := h
   have h := eq_of_heq h
   subst h
   simp only [Bool.and_eq_true] at h1
   rw [Nat.eq_of_beq_eq_true h1.1, List.drop_zero, List.take_of_length_le (by rw [hl.len]; exact Nat.le_refl _)]
   exact hl
  | false =>
   rw [h1] at h
   simp only [cond_false] at h
   obtain ⟨l1, l2, e, h2, h3⟩ := hl
   have hl1 := h2.len
   cases h4 : Nat.blt off a.size with
   | true =>
    rw [h4] at h
    simp only [cond_true] at h
    have ih := Ci h h2
    have : off < a.size := by rw [Nat.blt_eq] at h4; exact h4
    have hle := ih.len
    rw [List.length_take, List.length_drop, hl1] at hle
    have e5 : ((l.drop off).take u.size) = ((l1.drop off).take u.size) := by
     rw [e, List.drop_append_of_le_length (by omega), List.take_append_of_le_length (by rw [List.length_drop]; omega)]
    rw [e5]; exact ih
   | false =>
    rw [h4] at h
    simp only [cond_false] at h
    have ih := Ci h h3
    have hge : a.size ≤ off := by
     rcases Nat.lt_or_ge off a.size with hlt | hge
     ·have : Nat.blt off a.size = true := by rw [Nat.blt_eq]; exact hlt
      rw [this] at h4; cases h4
     ·exact hge
    have e5 : l.drop off = l2.drop (off - a.size) := by
     rw [e, List.drop_append, hl1, List.drop_of_length_le (by omega), List.nil_append]
    rw [e5]; exact ih
 | .int k, u, x, y, off, n, l, h, hl => subD_leaf h hl
 | .bool, u, x, y, off, n, l, h, hl => subD_leaf h hl
 | .str, u, x, y, off, n, l, h, hl => subD_leaf h hl
 | .sl t, u, x, y, off, n, l, h, hl => subD_leaf h hl
 | .arr m t, u, x, y, off, n, l, h, hl => subD_leaf h hl
 | .err, u, x, y, off, n, l, h, hl => subD_leaf (t := .err) h hl
where
 subD_leaf {c : Cx} {t u : Ty} {x : t.D} {y : u.D} {off n : Nat} {l : List Value} (h : (bif Nat.beq off 0 && Nat.beq n t.size then some (⟨t, x⟩ : (u : Ty) × u.D) else none) = some ⟨u, y⟩) (hl : Rd c.S c.w t l x) :
   Rd c.S c.w u ((l.drop off).take u.size) y := by
  cases h1 : (Nat.beq off 0 && Nat.beq n t.size) with
  | false => rw [h1] at h; cases h
  | true =>
   rw [h1] at h
   simp only [cond_true, Option.some.injEq, Sigma.mk.injEq] at h
   obtain ⟨rfl, h⟩ := h
   have h := eq_of_heq h
   subst h
   simp only [Bool.and_eq_true] at h1
   rw [Nat.eq_of_beq_eq_true h1.1, List.drop_zero, List.take_of_length_le (by rw [hl.len]; exact Nat.le_refl _)]
   exact hl

theorem vk {t : TypeId} {x : Operand} {i : Nat} {p : Option Prop} {R : Act → World → Prop} (hE : aY P E) (h : Ok w0 ρ s a w) (ho : o.op = .fieldAddr t x i)
  (hs : gK E s o.dst t (ev s x) i = some (p, s')) (hR : Up w0 s' R) : bD P o a w R := by
 unfold gK at hs
 split at hs
 ·rename_i fo fi hf
  cases hz : Nat.beq fi.size 0 with
  | true => rw [hz] at hs; cases hs
  | false =>
  rw [hz] at hs
  simp only [cond_false] at hs
  have hz' : fi.size ≠ 0 := fun e => by rw [e] at hz; cases hz
  have hrun := zQ (w := w) hE hf hz'
  have hx := h.ev x
  split at hs
  ·rename_i k off e
   simp only [ok, Option.some.injEq, Prod.mk.injEq] at hs
   obtain ⟨_, rfl⟩ := hs
   rw [e] at hx
   obtain ⟨hu, b, hb, hl⟩ := aK.bb rfl (by simp) hx
   simp only [List.cons.injEq, and_true] at hl
   refine ae (m := Instr.fieldAt t (a.eval x) i) h (by simp [execOp, ho]) (by rw [hl]; exact hrun _ _) (aK.ki (p := .ptr k (off + fo)) rfl ⟨hu, b, hb, rfl⟩) hR
  ·rename_i k off n sz ix j e
   simp only [ok, Option.some.injEq, Prod.mk.injEq] at hs
   obtain ⟨_, rfl⟩ := hs
   rw [e] at hx
   obtain ⟨hu, hi, b, hb, hl⟩ := aK.bb rfl (by simp) hx
   simp only [List.cons.injEq, and_true] at hl
   refine ae (m := Instr.fieldAt t (a.eval x) i) h (by simp [execOp, ho]) (by rw [hl]; exact hrun _ _) (aK.ki (p := .pV k off n sz ix (j + fo)) rfl ⟨hu, hi, b, hb, by simp [Nat.add_assoc]⟩) hR
  ·rename_i k sz ix j e
   simp only [ok, Option.some.injEq, Prod.mk.injEq] at hs
   obtain ⟨_, rfl⟩ := hs
   rw [e] at hx
   obtain ⟨hu, b, q, n, cp, hb, hi, hl⟩ := aK.bb rfl (by simp) hx
   simp only [List.cons.injEq, and_true] at hl
   refine ae (m := Instr.fieldAt t (a.eval x) i) h (by simp [execOp, ho]) (by rw [hl]; exact hrun _ _) (aK.ki (p := .rel k sz ix (j + fo)) rfl ⟨hu, b, q, n, cp, hb, hi, by simp [Nat.add_assoc]⟩) hR
  ·rename_i k sz ix j n' sz' ix' j' e
   simp only [ok, Option.some.injEq, Prod.mk.injEq] at hs
   obtain ⟨_, rfl⟩ := hs
   rw [e] at hx
   obtain ⟨hu, hi', b, q, n, cp, hb, hi, hl⟩ := aK.bb rfl (by simp) hx
   simp only [List.cons.injEq, and_true] at hl
   refine ae (m := Instr.fieldAt t (a.eval x) i) h (by simp [execOp, ho]) (by rw [hl]; exact hrun _ _) (aK.ki (p := .wG k sz ix j n' sz' ix' (j' + fo)) rfl ⟨hu, hi', b, q, n, cp, hb, hi, by simp [Nat.add_assoc]⟩) hR
  ·rename_i u y e
   split at hs
   ·rename_i v z hv
    simp only [ok, Option.some.injEq, Prod.mk.injEq] at hs
    obtain ⟨_, rfl⟩ := hs
    rw [e] at hx
    obtain ⟨b, q, cs, hl, hS, hr, hc⟩ := aK.bb rfl (by simp) hx
    simp only [List.cons.injEq, and_true] at hl
    have hat : At w b q cs := hc
    refine ae (m := Instr.fieldAt t (a.eval x) i) h (by simp [execOp, ho]) (by rw [hl]; exact hrun _ _) (aK.ki (p := .zz v z) rfl ⟨b, q + fo, _, rfl, hS, Ci (c := cx w0 ρ s w) hv hr, hat.sub fo v.size⟩) hR
   ·cases hs
  ·cases hs
 ·cases hs
end
end Go.Sx
/-
 Sx, part K: fields and elements of values, addresses of elements, lengths, slices of slices, and the small operations.
-/
namespace Go.Sx
open Go.RowKit

section
variable {P : Program} {E : Env} {w0 : cz} {w : World} {ρ : Nat → Value} {s s' : St} {a : Act} {o : Oper}

theorem yT {c : Cx} {x : SV} {v : Value} (h : aK c x v) (hx : x.isAgg = true) : ∃ cs, v = .agg cs := by
 cases x with
 | agg ps => obtain ⟨cs, e, _⟩ := h; exact ⟨cs, e⟩
 | gB es => cases hx
 | lT b p => cases hx
 | one p =>
  cases p with
  | d t y =>
   have h' : dW c t.agg [.d t y] v := h
   rw [show t.agg = true from hx] at h'
   obtain ⟨cs, e, _⟩ := h'
   exact ⟨cs, e⟩
  | _ => cases hx

theorem AU {t : TypeId} {ti : TI} (h : aa P t ti) {cs : Array Value} {off : Nat} (hle : off + ti.size ≤ cs.size) :
  (part t cs off).run P w = .ok (bif ti.kind.agg then .agg ((cs.toList.drop off).take ti.size).toArray else ((cs.toList.drop off).take ti.size).headD undef) w := by
 unfold part
 simp only [Sem.run_bind, h.DY, Result.andThen_ok]
 cases hg : ti.kind.agg
 ·have h1 : ti.size = 1 := by
   rcases h.one with h1 | h1
   ·rw [hg] at h1; cases h1
   ·exact h1
  have hlt : off < cs.size := by omega
  have e1 : cs[off]? = some cs[off] := Array.getElem?_eq_getElem hlt
  have e2 : ((cs.toList.drop off).take ti.size).headD undef = cs[off] := by
   rw [h1]
   have : cs.toList.drop off = cs[off] :: cs.toList.drop (off + 1) := by
    rw [← Array.getElem_toList hlt]; exact List.drop_eq_getElem_cons (by simpa using hlt)
   rw [this]; rfl
  rw [e2]
  simp [e1]
 ·simp only [if_true, Sem.run_bind, h.dA, Result.andThen_ok, Sem.run_pure, cond_true]
  congr 1
  congr 1
  apply Array.ext'
  rw [Array.toList_extract]
  simp [List.extract_eq_take_drop]

theorem B0 {t : TypeId} {x : Operand} {i : Nat} {p : Option Prop} {R : Act → World → Prop} (hE : aY P E) (h : Ok w0 ρ s a w) (ho : o.op = .field t x i)
  (hs : si E s o.dst t (ev s x) i = some (p, s')) (hR : Up w0 s' R) : bD P o a w R := by
 unfold si at hs
 split at hs
 ·rename_i fo fi ps hf hps
  cases hg : (ev s x).isAgg with
  | false => rw [hg] at hs; cases hs
  | true =>
   rw [hg] at hs
   simp only [Bool.not_true, cond_false] at hs
   split at hs
   ·rename_i pre m post hc
    split at hs
    ·rename_i v hv
     simp only [ok, Option.some.injEq, Prod.mk.injEq] at hs
     obtain ⟨_, rfl⟩ := hs
     obtain ⟨cs, hcs⟩ := yT (h.ev x) hg
     have hp := dZ (h.ev x) hps
     rw [hcs] at hp
     obtain ⟨h1, h2⟩ := zF hc hp
     obtain ⟨F, f, hF, hf', rfl, hT⟩ := field?_c hE hf
     refine ae (m := Instr.field t (a.eval x) i) h (by simp [execOp, ho]) ?_ (zg hv h1) hR
     unfold Instr.field
     simp only [Sem.run_bind, run_underlying hF, Result.andThen_ok, hf', hcs, asAgg, Sem.run_pure]
     exact AU hT (by simpa [Value.cells] using h2)
    ·cases hs
   ·cases hs
 ·cases hs

theorem Dn {t : TypeId} {x y : Operand} {p : Option Prop} {R : Act → World → Prop} (hE : aY P E) (h : Ok w0 ρ s a w) (ho : o.op = .index t x y)
  (hs : rV E s o.dst t (ev s x) (ev s y) = some (p, s')) (hp : l6 p) (hR : Up w0 s' R) : bD P o a w R := by
 unfold rV at hs
 split at hs
 ·rename_i l hl
  obtain ⟨ex, bx⟩ := pb (h.ev x) hl
  cases hT : de E t with
  | false => rw [hT] at hs; cases hs
  | true =>
   rw [hT] at hs
   simp only [cond_true] at hs
   split at hs
   ·rename_i k i hi
    have ey := a8 (h.ev y) hi
    simp only [Option.some.injEq, Prod.mk.injEq] at hs
    obtain ⟨rfl, rfl⟩ := hs
    have hp : 0 ≤ i ∧ i < (l.length : Int) := hp
    have hlt : i.toNat < l.length := by omega
    have hb := bx.2 l[i.toNat] (List.getElem_mem hlt)
    have en : nth (.int .u8) l i.toNat = l[i.toNat] := by simp [nth, hlt]
    refine ae (m := Instr.index t (a.eval x) (a.eval y)) h (by simp [execOp, ho]) ?_ (fH (k := .u8) (n := nth (.int .u8) l i.toNat) (by rw [en]; exact hb)) hR
    rw [en]
    unfold Instr.index
    have hget : (mkStr l)[i.toNat]? = some (UInt8.ofNat l[i.toNat].toNat) := by
     have : i.toNat < (mkStr l).size := by rw [dh]; exact hlt
     rw [getElem?_pos (mkStr l) i.toNat this]
     simp only [mkStr, ByteArray.getElem_eq_getElem_data, List.getElem_toArray, List.getElem_map]
    simp only [Sem.run_bind, ey, asIntOf, Sem.run_pure, Result.andThen_ok, run_underlying (jU hE hT), ex, if_pos hp.1, hget]
    congr 2
    simp only [UInt8.toNat_ofNat']
    omega
   ·cases hs
 rename_i hnl
 split at hs
 ·rename_i sz by_ n e z ty k i hti hi
  have ey := a8 (h.ev y) hi
  split at hs
  ·rename_i ei m u xs hei hps
   cases hb : ((ev s x).isAgg && Nat.beq m n && Nat.beq u.size ei.size) with
   | false => rw [hb] at hs; cases hs
   | true =>
    rw [hb] at hs
    simp only [cond_true] at hs
    split at hs
    ·rename_i v hv
     simp only [Option.some.injEq, Prod.mk.injEq] at hs
     obtain ⟨rfl, rfl⟩ := hs
     simp only [Bool.and_eq_true] at hb
     have e1 := Nat.eq_of_beq_eq_true hb.1.2
     have e2 := Nat.eq_of_beq_eq_true hb.2
     subst e1
     obtain ⟨cs, hcs⟩ := yT (h.ev x) hb.1.1
     have hq := dZ (h.ev x) hps
     rw [hcs] at hq
     obtain ⟨l1, l2, e3, h3, h4⟩ := hq
     have h4 : l2 = [] := h4
     rw [h4, List.append_nil] at e3
     have e3 : cs.toList = l1 := e3
     obtain ⟨hx1, hx2, hx3⟩ := h3
     have hilt : i.toNat < m := by omega
     have hr := hx3 i.toNat (nth u xs i.toNat) (eG (by omega))
     have hle : (i.toNat + 1) * u.size ≤ m * u.size := Nat.mul_le_mul_right _ hilt
     rw [Nat.add_mul, Nat.one_mul] at hle
     have hk := (hE t _ hti).kind
     refine ae (m := Instr.index t (a.eval x) (a.eval y)) h (by simp [execOp, ho]) ?_ (zg hv (cC hr)) hR
     unfold Instr.index
     simp only [Sem.run_bind, ey, asIntOf, Sem.run_pure, Result.andThen_ok, run_underlying hk, hcs, if_pos hp, (hE e ei hei).dA]
     rw [← e2, AU (hE e ei hei) (by rw [← e2]; have := congrArg List.length e3; simp at this; omega), e3, ← e2]
    ·cases hs
  ·cases hs
 ·cases hs

theorem BI {sv : SV} {v : Value} {t : Ty} {xs : List t.D} (h : Ok w0 ρ s a w) (hv : aK (cx w0 ρ s w) sv v) (e : uV s sv = some ⟨t, xs⟩) :
  ∃ A c, v = .slice A xs.length c ∧ xs.length ≤ c ∧ c ≤ maxLen ∧ (0 < xs.length → ∃ b q, A = some ⟨b, q, none⟩ ∧ (b < w.heap.size ∧ w0.S b) ∧
   ∀ (i : Nat) x, xs[i]? = some x → ∃ l, At w b (q + i * t.size) l ∧ Rd (dE w0 ρ s.hp w) w t l x) := by
 unfold uV at e
 split at e
 ·simp only [Option.some.injEq, Sigma.mk.injEq] at e
  obtain ⟨rfl, e⟩ := e
  have e := eq_of_heq e
  subst e
  obtain ⟨A, c, h1, h2, h3, h4⟩ := aK.bb rfl (by simp) hv
  simp only [List.cons.injEq, and_true] at h1
  refine ⟨A, c, h1, h2, h3, fun hp => ?_⟩
  obtain ⟨b, q, e1, hS, hx⟩ := h4 hp
  refine ⟨b, q, e1, ⟨hS.1, hS.2.2⟩, fun i x hi => ?_⟩
  obtain ⟨l, hl, hr⟩ := hx i x hi
  exact ⟨l, fun j v hv => by rw [Nat.add_assoc]; exact hl j v hv, hr⟩
 ·rename_i k
  split at e
  ·rename_i t' xs' hk
   simp only [Option.some.injEq, Sigma.mk.injEq] at e
   obtain ⟨rfl, e⟩ := e
   have e := eq_of_heq e
   subst e
   obtain ⟨_, h1, _⟩ := aK.bb rfl (by simp) hv
   simp only [List.cons.injEq, and_true] at h1
   rcases h.heap k _ hk with ⟨h2, rfl⟩ | ⟨b, q, cp, cur, e, h2, hh, h3, h4, h5, h6⟩
   ·exact ⟨none, 0, by rw [h1]; exact h2, Nat.le_refl _, by simp [maxLen], fun hp => absurd hp (by simp)⟩
   ·refine ⟨some ⟨b, q, none⟩, cp, by rw [h1]; exact h2, h3, h4, fun _ => ⟨b, q, rfl, ⟨(Array.getElem?_eq_some_iff.1 hh).1, w0.all b (h.fresh k _ b hk (by rw [show ρ k = _ from h2]; rfl)).1⟩, fun i x hi => ⟨_, At.of_block hh _ _, h6 i x hi⟩⟩⟩
  ·cases e
 ·rename_i k k' sz x y
  split at e
  ·rename_i t' xs' hk
   cases hz : Nat.beq t'.size sz with
   | false => rw [hz] at e; cases e
   | true =>
    rw [hz] at e
    simp only [cond_true, Option.some.injEq, Sigma.mk.injEq] at e
    obtain ⟨rfl, e⟩ := e
    have e := eq_of_heq e
    subst e
    have ez := Nat.eq_of_beq_eq_true hz
    subst ez
    obtain ⟨_, _, h1, A, n, cp, h2, _, ⟨hxy, hyn⟩, h3⟩ := aK.bb rfl (by simp) hv
    simp only [List.cons.injEq, and_true] at h1
    rw [h3] at h1
    rcases h.heap k _ hk with ⟨h4, rfl⟩ | ⟨b, q, cp', cur, e, h4, hh, h5, h6, h7, h8⟩
    ·rw [h4] at h2
     cases h2
     have hy : y = 0 := by omega
     subst hy
     exact ⟨none, 0, by rw [h1]; simp, by simp, by simp [maxLen], fun hp => absurd hp (by simp)⟩
    ·rw [h4] at h2
     cases h2
     have hln : ((xs'.take y).drop x).length = y - x := by rw [List.length_drop, List.length_take]; omega
     refine ⟨_, cp - x, by rw [hln]; exact h1, by rw [hln]; omega, by omega, fun hp => ?_⟩
     rw [hln] at hp
     have hne : ¬ cp = x := by omega
     rw [if_neg hne]
     refine ⟨b, q + x * t'.size, by simp [Addr.add_lit], ⟨(Array.getElem?_eq_some_iff.1 hh).1, w0.all b (h.fresh k _ b hk (by rw [show ρ k = _ from h4]; rfl)).1⟩, fun i z hi => ?_⟩
     have hi' : xs'[x + i]? = some z := by
      rw [List.getElem?_drop, List.getElem?_take] at hi
      split at hi
      ·exact hi
      ·cases hi
     have := h8 (x + i) z hi'
     rw [show q + (x + i) * t'.size = q + x * t'.size + i * t'.size from by rw [Nat.add_mul, Nat.add_assoc]] at this
     exact ⟨_, At.of_block hh _ _, this⟩
  ·cases e
 ·rename_i k off n sz
  split at e
  ·rename_i ps hk
   cases hn : Nat.ble n 65536 with
   | false => rw [hn] at e; cases e
   | true =>
    rw [hn] at e
    simp only [cond_true] at e
    have hn := Nat.le_of_ble_eq_true hn
    obtain ⟨_, b, h1, h2⟩ := aK.bb rfl (by simp) hv
    simp only [List.cons.injEq, and_true] at h2
    obtain ⟨b', ty, cs, h3, hh, hps⟩ := h.heap k _ hk
    rw [h1] at h3
    cases h3
    have hln := FZ e hps
    refine ⟨_, n, by rw [hln]; exact h2, by omega, by simp only [maxLen]; omega, fun hp => ⟨b, off, rfl, ⟨(Array.getElem?_eq_some_iff.1 hh).1, w0.all b (h.fresh k _ b hk (by rw [show ρ k = _ from h1]; rfl)).1⟩, fun i z hi => ?_⟩⟩
    have hi' : i < xs.length := (List.getElem?_eq_some_iff.1 hi).1
    obtain ⟨_, e0, hr⟩ := yh (i := i) e hps (by omega)
    have ez : nth t xs i = z := by rw [eG hi'] at hi; exact Option.some.inj hi
    rw [ez] at hr
    exact ⟨_, At.of_block hh _ _, hr⟩
  ·cases e
 ·cases e

theorem Bn {sv : SV} {v : Value} {t : Ty} {xs : List t.D} (h : Ok w0 ρ s a w) (hv : aK (cx w0 ρ s w) sv v) (e : uV s sv = some ⟨t, xs⟩) :
  ∃ A c, v = .slice A xs.length c ∧ xs.length ≤ c ∧ c ≤ maxLen ∧ (0 < xs.length → ∃ b q, A = some ⟨b, q, none⟩ ∧ b < w.heap.size ∧
   ∀ (i : Nat) x, xs[i]? = some x → ∃ l, At w b (q + i * t.size) l ∧ Rd (dE w0 ρ s.hp w) w t l x) := by
 obtain ⟨A, c, h1, h2, h3, h4⟩ := BI h hv e
 refine ⟨A, c, h1, h2, h3, fun hp => ?_⟩
 obtain ⟨b, q, e1, e2, e3⟩ := h4 hp
 exact ⟨b, q, e1, e2.1, e3⟩

theorem bG {b : Builtin} {args : Array Operand} {ts : Array TypeId} (ho : o.op = .call { callee := .builtin b, args := args, argTypes := ts }) :
  execOp a.eval o = builtin b ts o.type (args.map fun | .const _ => true | _ => false) (args.map a.eval) := by
 simp only [execOp, ho, resolve]
 rfl

theorem wy {t : TypeId} (hE : aY P E) (h : jT E t = true) : ∃ e, P.underlying t = some (.slice e) := by
 unfold jT at h
 split at h
 ·rename_i e; exact ⟨_, (hE _ _ e).kind⟩
 ·cases h
theorem GZ {args : Array Operand} {ts : Array TypeId} {x : Operand} {t : TypeId} {p : Option Prop} {R : Act → World → Prop} (hE : aY P E) (h : Ok w0 ρ s a w)
  (ho : o.op = .call { callee := .builtin .len, args := args, argTypes := ts }) (ha : args.toList = [x]) (ht : ts.toList = [t])
  (hs : Fm E s o.dst t (ev s x) = some (p, s')) (hR : Up w0 s' R) : bD P o a w R := by
 have ea : args = #[x] := by apply Array.ext'; simpa using ha
 have et : ts = #[t] := by apply Array.ext'; simpa using ht
 subst ea; subst et
 unfold Fm at hs
 split at hs
 ·rename_i l hx
  obtain ⟨hv, hb⟩ := pb (h.ev x) hx
  cases hT : de E t with
  | false => rw [hT] at hs; cases hs
  | true =>
   rw [hT] at hs
   simp only [cond_true, ok, Option.some.injEq, Prod.mk.injEq] at hs
   obtain ⟨_, rfl⟩ := hs
   refine ae (m := Builtin.len_ #[t] o.type (#[x].map a.eval)) h (bG ho) ?_ (fH (k := .i64) (n := (l.length : Int)) ⟨by omega, by have := hb.1; omega⟩) hR
   simp [Builtin.len_, run_underlying (jU hE hT), hv, goInt, dh]
 rename_i hxs
 cases hT : jT E t with
 | false => rw [hT] at hs; cases hs
 | true =>
  rw [hT] at hs
  simp only [Bool.not_true, cond_false] at hs
  obtain ⟨e, hu⟩ := wy hE hT
  have hrun : ∀ A n c, a.eval x = .slice A n c → (Builtin.len_ #[t] o.type (#[x].map a.eval)).run P w = .ok (.int .i64 (n : Int)) w := by
   intro A n c hv
   simp [Builtin.len_, run_underlying hu, hv, goInt]
  split at hs
  ·rename_i hx
   simp only [ok, Option.some.injEq, Prod.mk.injEq] at hs
   obtain ⟨_, rfl⟩ := hs
   have hv := h.ev x
   rw [hx] at hv
   obtain ⟨h1, _⟩ := aK.bb rfl (by simp) hv
   simp only [List.cons.injEq, and_true] at h1
   exact ae (m := Builtin.len_ #[t] o.type (#[x].map a.eval)) h (bG ho) (hrun _ _ _ h1) (fH (k := .i64) (n := 0) ⟨by omega, by omega⟩) hR
  ·split at hs
   ·rename_i u xs hx
    simp only [ok, Option.some.injEq, Prod.mk.injEq] at hs
    obtain ⟨_, rfl⟩ := hs
    obtain ⟨A, c, h1, h2, h3, _⟩ := Bn h (h.ev x) hx
    exact ae (m := Builtin.len_ #[t] o.type (#[x].map a.eval)) h (bG ho) (hrun _ _ _ h1) (fH (k := .i64) (n := (xs.length : Int)) ⟨by omega, by simp only [maxLen] at h3; omega⟩) hR
   ·cases hs
end
end Go.Sx
/-
 Sx, part L: addresses of elements, slices of slices, and the small operations.
-/
set_option linter.unusedSimpArgs false
namespace Go.Sx
open Go.RowKit

section
variable {P : Program} {E : Env} {w0 : cz} {w : World} {ρ : Nat → Value} {s s' : St} {a : Act} {o : Oper}

theorem ny {t e : TypeId} {n sz : Nat} {ei : TI} (hk : P.underlying t = some (.array n e)) (hT : aa P e ei) (b q : Nat) (k : IntKind) (i : Int) (hi : 0 ≤ i ∧ i < (n : Int)) (hz : ei.size = sz) :
  (Instr.indexAt t (.pointer (some ⟨b, q, none⟩)) (.int k i)).run P w = .ok (.pointer (some ⟨b, q + i.toNat * sz, none⟩)) w := by
 unfold Instr.indexAt
 simp only [Sem.run_bind, asIntOf, Sem.run_pure, Result.andThen_ok, run_underlying hk, Instr.sureAddr, if_pos hi, hT.dA, Addr.add_lit, hz]
theorem l9 {t e : TypeId} {n c sz : Nat} {ei : TI} (hk : P.underlying t = some (.slice e)) (hT : aa P e ei) (b q : Nat) (k : IntKind) (i : Int) (hi : 0 ≤ i ∧ i < (n : Int)) (hz : ei.size = sz) :
  (Instr.indexAt t (.slice (some ⟨b, q, none⟩) n c) (.int k i)).run P w = .ok (.pointer (some ⟨b, q + i.toNat * sz, none⟩)) w := by
 unfold Instr.indexAt
 simp only [Sem.run_bind, asIntOf, Sem.run_pure, Result.andThen_ok, run_underlying hk, if_pos hi, hT.dA, Addr.add_lit, hz]

theorem uh {t : TypeId} {x y : Operand} {p : Option Prop} {R : Act → World → Prop} (hE : aY P E) (h : Ok w0 ρ s a w) (ho : o.op = .indexAddr t x y)
  {lit : Bool} (hs : gH E lit s o.dst t (ev s x) (ev s y) = some (p, s')) (hp : l6 p) (hR : Up w0 s' R) : bD P o a w R := by
 have hx := h.ev x
 have hexec : execOp a.eval o = (do pure (.value (← Instr.indexAt t (a.eval x) (a.eval y)))) := by simp [execOp, ho]
 unfold gH at hs
 split at hs
 ·rename_i sz by_ n e z ty k i hti hi
  have ey := a8 (h.ev y) hi
  have hk := (hE t _ hti).kind
  split at hs
  ·rename_i ei kk off hei hxx
   rw [hxx] at hx
   obtain ⟨hu, b, hb, hl⟩ := aK.bb rfl (by simp) hx
   simp only [List.cons.injEq, and_true] at hl
   cases lit with
   | true =>
    simp only [cond_true, Option.some.injEq, Prod.mk.injEq] at hs
    obtain ⟨rfl, rfl⟩ := hs
    exact ae h hexec (by rw [hl, ey]; exact ny hk (hE e ei hei) b off k i hp rfl) (aK.ki (p := .ptr kk (off + i.toNat * ei.size)) rfl ⟨hu, b, hb, rfl⟩) hR
   | false =>
    simp only [cond_false, Option.some.injEq, Prod.mk.injEq] at hs
    obtain ⟨rfl, rfl⟩ := hs
    exact ae h hexec (by rw [hl, ey]; exact ny hk (hE e ei hei) b off k i hp rfl) (aK.ki (p := .pV kk off n ei.size i.toNat 0) rfl ⟨hu, by omega, b, hb, rfl⟩) hR
  ·rename_i ei kk sz2 ix j2 hei hxx
   simp only [Option.some.injEq, Prod.mk.injEq] at hs
   obtain ⟨rfl, rfl⟩ := hs
   rw [hxx] at hx
   obtain ⟨hu, b, q, m, cp, hb, him, hl⟩ := aK.bb rfl (by simp) hx
   simp only [List.cons.injEq, and_true] at hl
   refine ae h hexec (by rw [hl, ey]; exact ny hk (hE e ei hei) b _ k i hp rfl) (aK.ki (p := .wG kk sz2 ix j2 n ei.size i.toNat 0) rfl ⟨hu, by omega, b, q, m, cp, hb, him, by simp [Nat.add_assoc]⟩) hR
  ·cases hs
 ·rename_i sz by_ e z ty k i hti hi
  have ey := a8 (h.ev y) hi
  have hk := (hE t _ hti).kind
  split at hs
  ·rename_i ei kk hei hxx
   split at hs
   ·rename_i u xs hkk
    cases hz : Nat.beq u.size ei.size with
    | false => rw [hz] at hs; cases hs
    | true =>
     rw [hz] at hs
     simp only [cond_true, Option.some.injEq, Prod.mk.injEq] at hs
     obtain ⟨rfl, rfl⟩ := hs
     rw [hxx] at hx
     obtain ⟨hu, h1, _⟩ := aK.bb rfl (by simp) hx
     simp only [List.cons.injEq, and_true] at h1
     rcases h.heap kk _ hkk with ⟨_, rfl⟩ | ⟨b, q, cp, cur, e', h2, hh, h3, h4, h5, h6⟩
     ·simp only [List.length_nil] at hp; omega
     ·rw [h2] at h1
      refine ae h hexec (by rw [h1, ey]; exact l9 hk (hE e ei hei) b q k i hp rfl) (aK.ki (p := .rel kk ei.size i.toNat 0) rfl ⟨hu, b, q, xs.length, cp, h2, by omega, rfl⟩) hR
   ·cases hs
  ·rename_i ei u xs hei hxx
   cases hz : Nat.beq u.size ei.size with
   | false => rw [hz] at hs; cases hs
   | true =>
    rw [hz] at hs
    simp only [cond_true, Option.some.injEq, Prod.mk.injEq] at hs
    obtain ⟨rfl, rfl⟩ := hs
    have e2 := Nat.eq_of_beq_eq_true hz
    rw [hxx] at hx
    obtain ⟨A, c, h1, h2, h3, h4⟩ := aK.bb rfl (by simp) hx
    simp only [List.cons.injEq, and_true] at h1
    obtain ⟨b, q, rfl, hS, hr⟩ := h4 (by omega)
    obtain ⟨l, hl, hr'⟩ := hr i.toNat (nth u xs i.toNat) (eG (by omega))
    refine ae h hexec (by rw [h1, ey]; exact l9 hk (hE e ei hei) b q k i hp rfl) (aK.ki (p := .zz u (nth u xs i.toNat)) rfl ⟨b, q + i.toNat * ei.size, l, rfl, hS, hr', fun j v hv => ?_⟩) hR
    rw [← e2, Nat.add_assoc]
    exact hl j v hv
  ·rename_i ei kk kk' sz x1 x2 hei hxx
   cases hz : Nat.beq sz ei.size with
   | false => rw [hz] at hs; cases hs
   | true =>
    rw [hz] at hs
    simp only [cond_true, Option.some.injEq, Prod.mk.injEq] at hs
    obtain ⟨rfl, rfl⟩ := hs
    have e2 := Nat.eq_of_beq_eq_true hz
    subst e2
    have hp : 0 ≤ i ∧ i < ((x2 - x1 : Nat) : Int) := hp
    rw [hxx] at hx
    obtain ⟨hu, _, h1, A, m, cp, h2, ⟨hm0, hmc⟩, ⟨hxy, hyn⟩, h3⟩ := aK.bb rfl (by simp) hx
    simp only [List.cons.injEq, and_true] at h1
    rw [h3] at h1
    rcases hm0 with hm0 | ⟨b, q, rfl⟩
    ·omega
    ·have hne : ¬ cp = x1 := by omega
     rw [if_neg hne] at h1
     simp only [Option.map_some, Addr.add_lit] at h1
     exact ae h hexec (by rw [h1, ey]; exact l9 hk (hE e ei hei) b _ k i hp rfl) (aK.ki (p := .rel kk ei.size (x1 + i.toNat) 0) rfl ⟨hu, b, q, m, cp, h2, by omega, by rw [Nat.add_mul, Nat.add_assoc]; rfl⟩) hR
  ·rename_i ei kk off n sz hei hxx
   cases hz : Nat.beq sz ei.size with
   | false => rw [hz] at hs; cases hs
   | true =>
    rw [hz] at hs
    simp only [cond_true, Option.some.injEq, Prod.mk.injEq] at hs
    obtain ⟨rfl, rfl⟩ := hs
    have e2 := Nat.eq_of_beq_eq_true hz
    subst e2
    rw [hxx] at hx
    obtain ⟨hu, b, hb, hl⟩ := aK.bb rfl (by simp) hx
    simp only [List.cons.injEq, and_true] at hl
    exact ae h hexec (by rw [hl, ey]; exact l9 hk (hE e ei hei) b off k i hp rfl) (aK.ki (p := .pV kk off n ei.size i.toNat 0) rfl ⟨hu, by omega, b, hb, rfl⟩) hR
  ·cases hs
 ·cases hs

theorem aN (k : IntKind) (i : Int) (y : Nat) (code : BoundsCode) (hi : 0 ≤ i ∧ i ≤ (y : Int)) : (Instr.sliceBound (.int k i) y code).run P w = .ok i.toNat w := by
 unfold Instr.sliceBound
 simp only [Sem.run_bind, asIntOf, Sem.run_pure, Result.andThen_ok, if_pos hi]

theorem Du {lo hi : Option Operand} {n c : Nat} {l h : Int} (h0 : Ok w0 ρ s a w) (hl : aH 0 (lo.map (ev s)) = some l) (hh : aH (n : Int) (hi.map (ev s)) = some h)
  (hb : (0 ≤ l ∧ l ≤ h) ∧ h ≤ (n : Int)) (hc : n ≤ c) : (Instr.sliceBounds true n c (lo.map a.eval) (hi.map a.eval) none).run P w = .ok (l.toNat, h.toNat, c) w := by
 unfold Instr.sliceBounds
 have hb1 : ∀ x, aH (n : Int) ((some x : Option Operand).map (ev s)) = some h → ∃ k, a.eval x = .int k h := fun x e => by
  simp only [Option.map_some, aH] at e
  split at e
  ·rename_i k i e1
   injection e with e
   subst e
   exact ⟨k, a8 (h0.ev x) e1⟩
  ·cases e
 have hb2 : ∀ x, aH 0 ((some x : Option Operand).map (ev s)) = some l → ∃ k, a.eval x = .int k l := fun x e => by
  simp only [Option.map_some, aH] at e
  split at e
  ·rename_i k i e1
   injection e with e
   subst e
   exact ⟨k, a8 (h0.ev x) e1⟩
  ·cases e
 cases hi with
 | none =>
  simp only [Option.map_none, aH, Option.some.injEq] at hh
  subst hh
  cases lo with
  | none =>
   simp only [Option.map_none, aH, Option.some.injEq] at hl
   subst hl
   simp
  | some x =>
   obtain ⟨k, ex⟩ := hb2 x hl
   simp only [Option.map_some, Option.map_none, ex, Sem.run_bind, Sem.run_pure, Result.andThen_ok]
   rw [aN k l n _ (by omega)]
   simp
 | some y =>
  obtain ⟨k, ey⟩ := hb1 y hh
  cases lo with
  | none =>
   simp only [Option.map_none, aH, Option.some.injEq] at hl
   subst hl
   simp only [Option.map_some, Option.map_none, ey, Sem.run_bind, Sem.run_pure, Result.andThen_ok]
   rw [aN k h c _ (by omega)]
   simp
  | some x =>
   obtain ⟨k', ex⟩ := hb2 x hl
   simp only [Option.map_some, ex, ey, Sem.run_bind, Sem.run_pure, Result.andThen_ok]
   rw [aN k h c _ (by omega)]
   simp only [Result.andThen_ok]
   rw [aN k' l h.toNat _ (by omega)]
   simp

theorem vo {lo hi : Option Operand} {n : Nat} {l h : Int} (h0 : Ok w0 ρ s a w) (hl : aH 0 (lo.map (ev s)) = some l) (hh : aH (n : Int) (hi.map (ev s)) = some h)
  (hb : (0 ≤ l ∧ l ≤ h) ∧ h ≤ (n : Int)) : (Instr.sliceBounds false n n (lo.map a.eval) (hi.map a.eval) none).run P w = .ok (l.toNat, h.toNat, n) w := by
 unfold Instr.sliceBounds
 have hb1 : ∀ x, aH (n : Int) ((some x : Option Operand).map (ev s)) = some h → ∃ k, a.eval x = .int k h := fun x e => by
  simp only [Option.map_some, aH] at e
  split at e
  ·rename_i k i e1
   injection e with e
   subst e
   exact ⟨k, a8 (h0.ev x) e1⟩
  ·cases e
 have hb2 : ∀ x, aH 0 ((some x : Option Operand).map (ev s)) = some l → ∃ k, a.eval x = .int k l := fun x e => by
  simp only [Option.map_some, aH] at e
  split at e
  ·rename_i k i e1
   injection e with e
   subst e
   exact ⟨k, a8 (h0.ev x) e1⟩
  ·cases e
 cases hi with
 | none =>
  simp only [Option.map_none, aH, Option.some.injEq] at hh
  subst hh
  cases lo with
  | none =>
   simp only [Option.map_none, aH, Option.some.injEq] at hl
   subst hl
   simp
  | some x =>
   obtain ⟨k, ex⟩ := hb2 x hl
   simp only [Option.map_some, Option.map_none, ex, Sem.run_bind, Sem.run_pure, Result.andThen_ok]
   rw [aN k l n _ (by omega)]
   simp
 | some y =>
  obtain ⟨k, ey⟩ := hb1 y hh
  cases lo with
  | none =>
   simp only [Option.map_none, aH, Option.some.injEq] at hl
   subst hl
   simp only [Option.map_some, Option.map_none, ey, Sem.run_bind, Sem.run_pure, Result.andThen_ok]
   rw [aN k h n _ (by omega)]
   simp
  | some x =>
   obtain ⟨k', ex⟩ := hb2 x hl
   simp only [Option.map_some, ex, ey, Sem.run_bind, Sem.run_pure, Result.andThen_ok]
   rw [aN k h n _ (by omega)]
   simp only [Result.andThen_ok]
   rw [aN k' l h.toNat _ (by omega)]
   simp

theorem kr {t e : TypeId} {ei : TI} {A : Option Addr} {lo hi : Option Operand} {n c : Nat} {l h : Int} {x : Value} (h0 : Ok w0 ρ s a w) (hk : P.underlying t = some (.slice e)) (hT : aa P e ei)
  (hx : x = .slice A n c) (hl : aH 0 (lo.map (ev s)) = some l) (hh : aH (n : Int) (hi.map (ev s)) = some h)
  (hb : (0 ≤ l ∧ l ≤ h) ∧ h ≤ (n : Int)) (hc : n ≤ c) :
  (Instr.sliceAt t x (lo.map a.eval) (hi.map a.eval) none).run P w = .ok (.slice (if c = l.toNat then A else A.map (·.add (l.toNat * ei.size))) (h.toNat - l.toNat) (c - l.toNat)) w := by
 subst hx
 unfold Instr.sliceAt
 simp only [Sem.run_bind, run_underlying hk, Result.andThen_ok]
 unfold Instr.slice
 simp only [Sem.run_bind, run_underlying hk, Result.andThen_ok, Du h0 hl hh hb hc, hT.dA, Sem.run_pure]

theorem lA {ty : TypeId} {t : Ty} (hE : aY P E) (h : cM E ty t = true) : ∃ e ei, P.underlying ty = some (.slice e) ∧ aa P e ei ∧ t.size = ei.size := by
 unfold cM at h
 split at h
 ·rename_i e'
  split at h
  ·rename_i ei hei
   exact ⟨_, ei, (hE _ _ e').kind, hE _ _ hei, Nat.eq_of_beq_eq_true h⟩
  ·cases h
 ·cases h

theorem getElem?_window {α : Type} (xs : List α) (l h i : Nat) (x : α) (e : ((xs.take h).drop l)[i]? = some x) : xs[l + i]? = some x := by
 rw [List.getElem?_drop, List.getElem?_take] at e
 split at e
 ·exact e
 ·cases e

theorem B3 {t : TypeId} {x : Operand} {lo hi : Option Operand} {k : Nat} {p : Option Prop} {R : Act → World → Prop} (hE : aY P E) (h : Ok w0 ρ s a w) (ho : o.op = .slice t x lo hi none)
  (hs : mo E s k o.dst t (ev s x) (lo.map (ev s)) (hi.map (ev s)) = some (p, s')) (hp : l6 p) (hR : Up w0 s' R) : bD P o a w R := by
 have hexec : execOp a.eval o = (do pure (.value (← Instr.sliceAt t (a.eval x) (lo.map a.eval) (hi.map a.eval) none))) := by simp [execOp, ho]
 unfold mo at hs
 split at hs
 ·rename_i xs hl
  obtain ⟨ex, bx⟩ := pb (h.ev x) hl
  cases hT : de E t with
  | false => rw [hT] at hs; cases hs
  | true =>
   rw [hT] at hs
   simp only [cond_true] at hs
   split at hs
   ·rename_i l hh hl0 hh0
    simp only [Option.some.injEq, Prod.mk.injEq] at hs
    obtain ⟨rfl, rfl⟩ := hs
    have hp : (0 ≤ l ∧ l ≤ hh) ∧ hh ≤ (xs.length : Int) := hp
    have hbd := vo (lo := lo) (hi := hi) (n := xs.length) (P := P) h hl0 hh0 hp
    refine ae (sv := .one (.d .str ((xs.take hh.toNat).drop l.toNat))) (v := .string (mkStr ((xs.take hh.toNat).drop l.toNat))) h hexec ?_ (wN ⟨?_, ?_⟩) hR
    ·rw [ex]
     unfold Instr.sliceAt
     simp only [Sem.run_bind, run_underlying (jU hE hT), Result.andThen_ok]
     unfold Instr.slice
     simp only [Sem.run_bind, run_underlying (jU hE hT), Result.andThen_ok, dh, hbd, Sem.run_pure]
     have : (mkStr xs).extract l.toNat hh.toNat = mkStr ((xs.take hh.toNat).drop l.toNat) := by
      apply Go.WideShapes.bytes_inj
      simp [mkStr, ByteArray.data_extract, List.extract_eq_take_drop, List.map_take, List.map_drop, List.drop_take]
     simp [hbd, this]
    ·have := bx.1
     rw [List.length_drop, List.length_take]; omega
    ·exact fun b hb => bx.2 b (List.mem_of_mem_take (List.mem_of_mem_drop hb))
   ·cases hs
 rename_i hnl
 split at hs
 ·rename_i u xs hd
  cases hso : cM E t u with
  | false => rw [hso] at hs; cases hs
  | true =>
  rw [hso] at hs
  simp only [Bool.not_true, cond_false] at hs
  obtain ⟨e, ei, hk, hT, hz⟩ := lA hE hso
  split at hs
  ·rename_i l hh hl0 hh0
   split at hs
   ·rename_i kk hxx
    cases hus : s.us k with
    | true => rw [hus] at hs; cases hs
    | false =>
     rw [hus] at hs
     simp only [cond_false, Option.some.injEq, Prod.mk.injEq] at hs
     obtain ⟨rfl, rfl⟩ := hs
     rw [hxx] at hd
     have hd' := hd
     simp only [uV] at hd'
     split at hd'
     ·rename_i t' xs' hkk
      simp only [Option.some.injEq, Sigma.mk.injEq] at hd'
      obtain ⟨rfl, hd'⟩ := hd'
      have hd' := eq_of_heq hd'
      subst hd'
      have hx := h.ev x
      rw [hxx] at hx
      obtain ⟨hu, h1, _⟩ := aK.bb rfl (by simp) hx
      simp only [List.cons.injEq, and_true] at h1
      have hdrop := h.drop kk
      have hlen : ((xs'.take hh.toNat).drop l.toNat).length = hh.toNat - l.toNat := by
       rw [List.length_drop, List.length_take]; omega
      have huk : (s.drop kk).us k = false := hus
      rcases h.heap kk _ hkk with ⟨h2, rfl⟩ | ⟨b, q, cp, cur, e', h2, hheap, h3, h4, h5, h6⟩
      ·have hl : l.toNat = 0 := by simp only [List.length_nil] at hp; omega
       have hh' : hh.toNat = 0 := by simp only [List.length_nil] at hp; omega
       have hrun := kr (lo := lo) (hi := hi) h hk hT (A := none) (n := 0) (c := 0) (x := a.eval x) (by rw [h1]; exact h2) hl0 (by simpa using hh0) (by simpa using hp) (Nat.le_refl _)
       rw [hl, hh'] at hrun
       simp only [if_true, Nat.sub_self] at hrun
       have hok := hdrop.new (k := k) (he := .row t' (([].take hh.toNat).drop l.toNat)) (v := .slice none 0 0) huk (fm.refl w) (fun b e => by cases e)
        (.inl ⟨aw _ _ _, by simp⟩)
       have e3 : bF ρ k (.slice none 0 0) k = .slice none 0 0 := aw _ _ _
       exact .inl ⟨.slice none 0 0, w, by rw [hexec]; simp only [Sem.run_bind, hrun, Result.andThen_ok, Sem.run_pure],
        hR _ _ _ (hok.put o.dst (aK.ki (p := .row k) rfl ⟨bA _ _, by show [_] = [bF ρ k _ k]; rw [e3], by show (bF ρ k _ k).oneCell' = true; rw [e3]; rfl⟩))⟩
      ·have hrun := kr (lo := lo) (hi := hi) h hk hT (A := some ⟨b, q, none⟩) (n := xs'.length) (c := cp) (x := a.eval x) (by rw [h1]; exact h2) hl0 hh0 hp h3
       have hle : l.toNat ≤ cp := by omega
       have hmul : (cp - l.toNat) * t'.size + l.toNat * t'.size = cp * t'.size := by rw [← Nat.add_mul]; congr 1; omega
       -- where it lies
       obtain ⟨q', hq', hqv⟩ : ∃ q', (if cp = l.toNat then some (⟨b, q, none⟩ : Addr) else (some ⟨b, q, none⟩ : Option Addr).map (·.add (l.toNat * ei.size))) = some ⟨b, q', none⟩ ∧
         q' + (cp - l.toNat) * t'.size ≤ cur.size ∧ (l.toNat < cp → q' = q + l.toNat * t'.size) := by
        by_cases e4 : cp = l.toNat
        ·exact ⟨q, by rw [if_pos e4], by rw [e4, Nat.sub_self, Nat.zero_mul]; have : q ≤ q + cp * t'.size := Nat.le_add_right _ _; omega, fun hlt => by omega⟩
        ·exact ⟨q + l.toNat * t'.size, by rw [if_neg e4, hz]; simp [Addr.add_lit], by omega, fun _ => rfl⟩
       rw [hq'] at hrun
       have hbk : bO (ρ kk) = some b := by rw [show ρ kk = _ from h2]; rfl
       have hok := Ok.renew h hkk hbk (k' := k) (he := .row t' ((xs'.take hh.toNat).drop l.toNat)) (v := .slice (some ⟨b, q', none⟩) (hh.toNat - l.toNat) (cp - l.toNat)) hus rfl
        (Below.refl _ _) (fun _ _ _ => rfl) (fun c' hc' hw' e3 => .inr ⟨b, q', cp - l.toNat, cur, e', by rw [e3, hlen], by rw [hw']; exact hheap, by rw [hlen]; omega, by omega, hqv.1, fun i x hx => by
         have hx2 := getElem?_window _ _ _ _ _ hx
         have hi3 : l.toNat + i < xs'.length := (List.getElem?_eq_some_iff.1 hx2).1
         rw [hqv.2 (by omega), Nat.add_assoc, ← Nat.add_mul]
         exact Rd.mono hc'.keep (h6 _ _ hx2)⟩)
       have e3 : bF ρ k (.slice (some ⟨b, q', none⟩) (hh.toNat - l.toNat) (cp - l.toNat)) k = .slice (some ⟨b, q', none⟩) (hh.toNat - l.toNat) (cp - l.toNat) := aw _ _ _
       exact .inl ⟨.slice (some ⟨b, q', none⟩) (hh.toNat - l.toNat) (cp - l.toNat), w, by rw [hexec]; simp only [Sem.run_bind, hrun, Result.andThen_ok, Sem.run_pure],
        hR _ _ _ (hok.put o.dst (aK.ki (p := .row k) rfl ⟨bA _ _, by show [_] = [bF ρ k _ k]; rw [e3], by show (bF ρ k _ k).oneCell' = true; rw [e3]; rfl⟩))⟩
     ·cases hd'
   ·rename_i t1 z1 hnr
    simp only [Option.some.injEq, Prod.mk.injEq] at hs
    obtain ⟨rfl, rfl⟩ := hs
    -- data
    have hx := h.ev x
    have hxx : ev s x = .one (.d (.sl u) xs) := by
     rw [hnr] at hd ⊢
     cases t1 with
     | sl u1 =>
      simp only [uV, Option.some.injEq, Sigma.mk.injEq] at hd
      obtain ⟨rfl, hd⟩ := hd
      have hd := eq_of_heq hd
      subst hd
      rfl
     | _ => cases hd
    rw [hxx] at hx
    obtain ⟨A, c, h1, h2, h3, h4⟩ := aK.bb rfl (by simp) hx
    simp only [List.cons.injEq, and_true] at h1
    have hrun := kr (lo := lo) (hi := hi) h hk hT h1 hl0 hh0 hp h2
    have hlen : ((xs.take hh.toNat).drop l.toNat).length = hh.toNat - l.toNat := by
     rw [List.length_drop, List.length_take]; omega
    refine ae h hexec hrun (aK.ki (p := .d (.sl u) ((xs.take hh.toNat).drop l.toNat)) rfl ⟨_, c - l.toNat, by rw [hlen], by rw [hlen]; omega, by omega, fun hpos => ?_⟩) hR
    rw [hlen] at hpos
    obtain ⟨b, q, rfl, hS, hr⟩ := h4 (by omega)
    refine ⟨b, q + l.toNat * u.size, by rw [if_neg (by omega)]; simp [Addr.add_lit, hz], hS, fun i x hx => ?_⟩
    obtain ⟨ll, hl1, hl2⟩ := hr (l.toNat + i) x (getElem?_window _ _ _ _ _ hx)
    refine ⟨ll, fun j v hv => ?_, hl2⟩
    have := hl1 j v hv
    rw [Nat.add_mul] at this
    rw [show q + l.toNat * u.size + (i * u.size + j) = q + (l.toNat * u.size + i * u.size + j) by omega]
    exact this
   ·cases hs
  ·cases hs
 ·cases hs
theorem H6 {t : TypeId} {x : Operand} {lo hi : Option Operand} {k : Nat} {p : Option Prop} {R : Act → World → Prop} (hE : aY P E) (h : Ok w0 ρ s a w) (ho : o.op = .slice t x lo hi none)
  (hs : De E s k o.dst t (ev s x) (lo.map (ev s)) (hi.map (ev s)) = some (p, s')) (hp : l6 p) (hR : Up w0 s' R) : bD P o a w R := by
 have hexec : execOp a.eval o = (do pure (.value (← Instr.sliceAt t (a.eval x) (lo.map a.eval) (hi.map a.eval) none))) := by simp [execOp, ho]
 unfold De at hs
 split at hs
 ·rename_i kk hxx
  split at hs
  ·rename_i t' xs' hkk
   cases hg : (!(cM E t t') || s.us k) with
   | true => rw [hg] at hs; cases hs
   | false =>
    rw [hg] at hs
    simp only [cond_false] at hs
    simp only [Bool.or_eq_false_iff, Bool.not_eq_false'] at hg
    obtain ⟨e, ei, hk, hT, hz⟩ := lA hE hg.1
    split at hs
    ·rename_i l hh hl0 hh0
     simp only [Option.some.injEq, Prod.mk.injEq] at hs
     obtain ⟨rfl, rfl⟩ := hs
     have hp : (0 ≤ l ∧ l ≤ hh) ∧ hh ≤ (xs'.length : Int) := hp
     have hx := h.ev x
     rw [hxx] at hx
     obtain ⟨hu, h1, _⟩ := aK.bb rfl (by simp) hx
     simp only [List.cons.injEq, and_true] at h1
     have key : ∃ A n cp, ρ kk = .slice A n cp ∧ n = xs'.length ∧ n ≤ cp ∧ (n = 0 ∨ ∃ bl o, A = some ⟨bl, o, none⟩) := by
      rcases h.heap kk _ hkk with ⟨h2, rfl⟩ | ⟨b, q, cp, cur, e', h2, hheap, h3, h4, h5, h6⟩
      ·exact ⟨none, 0, 0, h2, rfl, Nat.le_refl _, .inl rfl⟩
      ·exact ⟨_, _, _, h2, rfl, h3, .inr ⟨b, q, rfl⟩⟩
     obtain ⟨A, n, cp, h2, hn, hnc, hA⟩ := key
     have hrun := kr (lo := lo) (hi := hi) h hk hT (A := A) (n := n) (c := cp) (x := a.eval x) (by rw [h1]; exact h2) hl0 (by rw [hn]; exact hh0) (by rw [hn]; exact hp) hnc
     have hne : kk ≠ k := fun e => by have hu : s.us kk = true := hu; rw [e, hg.2] at hu; cases hu
     generalize hv : Value.slice (if cp = l.toNat then A else A.map (·.add (l.toNat * ei.size))) (hh.toNat - l.toNat) (cp - l.toNat) = v at hrun
     have e3 : bF ρ k v k = v := aw _ _ _
     have e4 : bF ρ k v kk = .slice A n cp := by rw [aR _ _ hne]; exact h2
     exact .inl ⟨v, w, by rw [hexec]; simp only [Sem.run_bind, hrun, Result.andThen_ok, Sem.run_pure], hR _ _ _ ((h.use (k := k) (v := v) hg.2).put o.dst (aK.ki (p := .sub kk k t'.size l.toNat hh.toNat) rfl
      ⟨ib hu, bA _ _, by show [v] = [bF ρ k v k]; rw [e3], A, n, cp, e4, ⟨hA, hnc⟩, ⟨by omega, by omega⟩, by show bF ρ k v k = _; rw [e3, ← hv, hz]⟩))⟩
    ·cases hs
  ·cases hs
 ·cases hs
theorem Kt {t : TypeId} {x : Operand} {lo hi : Option Operand} {p : Option Prop} {R : Act → World → Prop} (hE : aY P E) (h : Ok w0 ρ s a w) (ho : o.op = .slice t x lo hi none)
  (hs : Fi E s o.dst t (ev s x) (lo.map (ev s)) (hi.map (ev s)) = some (p, s')) (hR : Up w0 s' R) : bD P o a w R := by
 have hexec : execOp a.eval o = (do pure (.value (← Instr.sliceAt t (a.eval x) (lo.map a.eval) (hi.map a.eval) none))) := by simp [execOp, ho]
 unfold Fi at hs
 split at hs
 ·rename_i sz by_ n e z ty kk off hti hxx hlo hhi
  split at hs
  ·rename_i ei hei
   simp only [ok, Option.some.injEq, Prod.mk.injEq] at hs
   obtain ⟨rfl, rfl⟩ := hs
   have hlo' : lo = none := by cases lo with | none => rfl | some _ => cases hlo
   have hhi' : hi = none := by cases hi with | none => rfl | some _ => cases hhi
   subst hlo'; subst hhi'
   have hx := h.ev x
   rw [hxx] at hx
   obtain ⟨hu, b, hb, hl⟩ := aK.bb rfl (by simp) hx
   simp only [List.cons.injEq, and_true] at hl
   have hk := (hE t _ hti).kind
   refine ae (v := .slice (some ⟨b, off, none⟩) n n) h hexec ?_ (aK.ki (p := .tu kk off n ei.size) rfl ⟨hu, b, hb, rfl⟩) hR
   rw [hl]
   unfold Instr.sliceAt
   simp only [Sem.run_bind, run_underlying hk, Result.andThen_ok, Instr.sureAddr, Sem.run_pure, Instr.sliceBounds, Option.map_none, (hE e ei hei).dA, Nat.zero_mul, Addr.add_lit, Nat.add_zero, Nat.sub_zero, ite_self]
  ·cases hs
 ·cases hs
theorem s7 {lo : Option Operand} {hi mx : Operand} {n c : Nat} {l h m : Int} {kh km : IntKind} (h0 : Ok w0 ρ s a w) (hl : aH 0 (lo.map (ev s)) = some l) (hh : a.eval hi = .int kh h) (hm : a.eval mx = .int km m)
  (hb : ((0 ≤ l ∧ l ≤ h) ∧ h ≤ m) ∧ m ≤ (n : Int)) (hc : n ≤ c) : (Instr.sliceBounds true n c (lo.map a.eval) (some (a.eval hi)) (some (a.eval mx))).run P w = .ok (l.toNat, h.toNat, m.toNat) w := by
 unfold Instr.sliceBounds
 simp only [hm, hh, Sem.run_bind]
 rw [aN km m c _ (by omega)]
 simp only [Result.andThen_ok]
 rw [aN kh h m.toNat _ (by omega)]
 simp only [Result.andThen_ok]
 cases lo with
 | none =>
  simp only [Option.map_none, aH, Option.some.injEq] at hl
  subst hl
  simp
 | some x =>
  simp only [Option.map_some, aH] at hl
  split at hl
  ·rename_i k i e1
   injection hl with hl
   subst hl
   have ex := a8 (h0.ev x) e1
   simp only [Option.map_some, ex, Sem.run_bind]
   rw [aN k i h.toNat _ (by omega)]
   simp
  ·cases hl
theorem zT {t : TypeId} {x : Operand} {lo hi : Option Operand} {mx : Operand} {p : Option Prop} {R : Act → World → Prop} (hE : aY P E) (h : Ok w0 ρ s a w) (ho : o.op = .slice t x lo hi (some mx))
  (hs : oT E s o.dst t (ev s x) (lo.map (ev s)) (hi.map (ev s)) (ev s mx) = some (p, s')) (hp : l6 p) (hR : Up w0 s' R) : bD P o a w R := by
 have hexec : execOp a.eval o = (do pure (.value (← Instr.sliceAt t (a.eval x) (lo.map a.eval) (hi.map a.eval) (some (a.eval mx))))) := by simp [execOp, ho]
 unfold oT at hs
 split at hs
 ·rename_i u xs hxx
  cases hso : cM E t u with
  | false => rw [hso] at hs; cases hs
  | true =>
  rw [hso] at hs
  simp only [Bool.not_true, cond_false] at hs
  obtain ⟨e, ei, hk, hT, hz⟩ := lA hE hso
  split at hs
  ·rename_i l kh hh km m hl0 hh0 hm0
   cases hi with
   | none => cases hh0
   | some hi =>
   simp only [Option.map_some] at hh0
   simp only [Option.some.injEq, Prod.mk.injEq] at hs
   obtain ⟨rfl, rfl⟩ := hs
   have hp : ((0 ≤ l ∧ l ≤ hh) ∧ hh ≤ m) ∧ m ≤ (xs.length : Int) := hp
   have ehi := a8 (h.ev hi) hh0
   have emx := a8 (h.ev mx) hm0
   have hx := h.ev x
   rw [hxx] at hx
   obtain ⟨A, c, h1, h2, h3, h4⟩ := aK.bb rfl (by simp) hx
   simp only [List.cons.injEq, and_true] at h1
   have hbd := s7 (P := P) (lo := lo) (hi := hi) (mx := mx) (n := xs.length) (c := c) h hl0 ehi emx hp h2
   have hrun : (Instr.sliceAt t (a.eval x) (lo.map a.eval) ((some hi).map a.eval) (some (a.eval mx))).run P w = .ok (.slice (if m.toNat = l.toNat then A else A.map (·.add (l.toNat * ei.size))) (hh.toNat - l.toNat) (m.toNat - l.toNat)) w := by
    rw [h1]
    unfold Instr.sliceAt
    simp only [Sem.run_bind, run_underlying hk, Result.andThen_ok, Option.map_some]
    unfold Instr.slice
    simp only [Sem.run_bind, run_underlying hk, Result.andThen_ok, hbd, hT.dA, Sem.run_pure]
   have hlen : ((xs.take hh.toNat).drop l.toNat).length = hh.toNat - l.toNat := by
    rw [List.length_drop, List.length_take]; omega
   refine ae h hexec hrun (aK.ki (p := .d (.sl u) ((xs.take hh.toNat).drop l.toNat)) rfl ⟨_, m.toNat - l.toNat, by rw [hlen], by rw [hlen]; omega, by omega, fun hpos => ?_⟩) hR
   rw [hlen] at hpos
   obtain ⟨b, q, rfl, hS, hr⟩ := h4 (by omega)
   refine ⟨b, q + l.toNat * u.size, by rw [if_neg (by omega)]; simp [Addr.add_lit, hz], hS, fun i x hx => ?_⟩
   obtain ⟨ll, hl1, hl2⟩ := hr (l.toNat + i) x (getElem?_window _ _ _ _ _ hx)
   refine ⟨ll, fun j v hv => ?_, hl2⟩
   have := hl1 j v hv
   rw [Nat.add_mul] at this
   rw [show q + l.toNat * u.size + (i * u.size + j) = q + (l.toNat * u.size + i * u.size + j) by omega]
   exact this
  ·cases hs
 ·cases hs
end
end Go.Sx
/-
 Sx, part M: append.
-/
namespace Go.Sx
open Go.RowKit

theorem B9 {S : Nat → Prop} {w : World} {n m : Nat} {t : Ty} {cs ds : List Value} {xs ys : List t.D} (h : Rd S w (.arr n t) cs xs) (k : Rd S w (.arr m t) ds ys) :
  Rd S w (.arr (n + m) t) (cs ++ ds) (xs ++ ys) := by
 obtain ⟨h1, h2, h3⟩ := h
 obtain ⟨k1, k2, k3⟩ := k
 refine ⟨by simp [h1, k1], by simp [h2, k2, Nat.add_mul], fun i x hx => ?_⟩
 rcases Nat.lt_or_ge i n with hi | hi
 ·rw [List.getElem?_append_left (by omega)] at hx
  have hle : (i + 1) * t.size ≤ n * t.size := Nat.mul_le_mul_right _ hi
  rw [Nat.add_mul, Nat.one_mul] at hle
  rw [List.drop_append_of_le_length (by omega), List.take_append_of_le_length (by rw [List.length_drop]; omega)]
  exact h3 i x hx
 ·rw [List.getElem?_append_right (by omega), h1] at hx
  have hle : n * t.size ≤ i * t.size := Nat.mul_le_mul_right _ hi
  rw [List.drop_append, List.drop_of_length_le (by omega), List.nil_append, h2, ← Nat.sub_mul]
  exact k3 (i - n) x hx

theorem yp {S : Nat → Prop} {w : World} {t : Ty} {b q : Nat} {xs : List t.D} (h : ∀ (i : Nat) x, xs[i]? = some x → ∃ l, At w b (q + i * t.size) l ∧ Rd S w t l x) :
  ∃ cs, Rd S w (.arr xs.length t) cs xs ∧ At w b q cs := by
 refine ⟨(List.range (xs.length * t.size)).map (fun j => (w.cell? ⟨b, q + j, none⟩).getD undef), ⟨rfl, by simp, fun i x hx => ?_⟩, ?_⟩
 ·obtain ⟨l, hl, hr⟩ := h i x hx
  have hlen := hr.len
  have hi : i < xs.length := (List.getElem?_eq_some_iff.1 hx).1
  have hle : (i + 1) * t.size ≤ xs.length * t.size := Nat.mul_le_mul_right _ hi
  rw [Nat.add_mul, Nat.one_mul] at hle
  have e : (((List.range (xs.length * t.size)).map (fun j => (w.cell? ⟨b, q + j, none⟩).getD undef)).drop (i * t.size)).take t.size = l := by
   apply List.ext_getElem?
   intro k
   rw [dy]
   by_cases hk : k < t.size
   ·rw [if_pos hk]
    have hlt : i * t.size + k < xs.length * t.size := by omega
    have hk' : k < l.length := by omega
    have := hl k l[k] (by simp [hk'])
    rw [Nat.add_assoc] at this
    simp [List.getElem?_range hlt, this, hk']
   ·rw [if_neg hk, List.getElem?_eq_none (by omega)]
  rw [e]; exact hr
 ·intro j v hv
  have hj : j < xs.length * t.size := by
   have := (List.getElem?_eq_some_iff.1 hv).1
   simpa using this
  simp only [List.getElem?_map, List.getElem?_range hj, Option.map_some, Option.some.injEq] at hv
  have hp : 0 < t.size := by
   rcases Nat.eq_zero_or_pos t.size with e | e
   ·rw [e] at hj; simp at hj
   ·exact e
  have hi : j / t.size < xs.length := by rw [Nat.div_lt_iff_lt_mul hp]; exact hj
  obtain ⟨l, hl, hr⟩ := h (j / t.size) xs[j / t.size] (by simp [hi])
  have hm : j % t.size < t.size := Nat.mod_lt _ hp
  have hk : j % t.size < l.length := by rw [hr.len]; exact hm
  have := hl (j % t.size) l[j % t.size] (by simp [hk])
  rw [Nat.add_assoc, Nat.div_add_mod' j t.size] at this
  rw [this] at hv ⊢
  simpa using hv

section
variable {P : Program} {E : Env} {w0 : cz} {w : World} {ρ : Nat → Value} {s s' : St} {a : Act} {o : Oper}

theorem uB {sv : SV} {v : Value} {t : Ty} {xs : List t.D} (h : Ok w0 ρ s a w) (hv : aK (cx w0 ρ s w) sv v) (e : uV s sv = some ⟨t, xs⟩) :
  ∃ A c cs, v = .slice A xs.length c ∧ xs.length ≤ c ∧ c ≤ maxLen ∧ Rd (dE w0 ρ s.hp w) w (.arr xs.length t) cs xs ∧ (0 < xs.length → ∃ b q, A = some ⟨b, q, none⟩ ∧ At w b q cs) := by
 obtain ⟨A, c, h1, h2, h3, h4⟩ := Bn h hv e
 rcases Nat.eq_zero_or_pos xs.length with h0 | hp
 ·refine ⟨A, c, [], h1, h2, h3, ⟨rfl, by simp [h0], fun i x hx => ?_⟩, fun hp => by omega⟩
  have := (List.getElem?_eq_some_iff.1 hx).1
  omega
 ·obtain ⟨b, q, hA, _, hx⟩ := h4 hp
  obtain ⟨cs, hr, hat⟩ := yp hx
  exact ⟨A, c, cs, h1, h2, h3, hr, fun _ => ⟨b, q, hA, hat⟩⟩

structure Src (w : World) (m : Nat) (y : Value) (news : List Value) : Prop where
 form : ∃ A c, y = .slice A m c ∧ (0 < m → ∃ b q, A = some ⟨b, q, none⟩ ∧ At w b q news)
 zero : m = 0 → news = []

theorem Src.cells {m : Nat} {y : Value} {news : List Value} (h : Src w m y news) (sz : Nat) (hl : news.length = m * sz) {W : World} (hW : ∀ a, W.cell? a = w.cell? a) :
  (Builtin.firstCells sz m y).run P W = .ok news.toArray W := by
 obtain ⟨A, c, rfl, hA⟩ := h.form
 rcases Nat.eq_zero_or_pos m with h0 | hp
 ·have := h.zero h0
  subst this; subst h0
  cases A with
  | none => simp [Builtin.firstCells]
  | some ad => simp [Builtin.firstCells, loadCells, loadCellsFrom]
 ·obtain ⟨b, q, rfl, hat⟩ := hA hp
  exact run_firstCells_some W sz m ⟨b, q, none⟩ m c news hl (fun j v hv => by rw [hW, Addr.add_lit]; exact hat j v hv)

theorem Kx {n c : Nat} (h : c < n) : Builtin.nextslicecap n c ≤ n + n / 4 + 192 := by
 simp only [Builtin.nextslicecap, growBy_four]
 by_cases h1 : n > 2 * c
 ·rw [if_pos h1]; omega
 ·rw [if_neg h1]
  by_cases h2 : c < 256
  ·rw [if_pos h2]; omega
  ·rw [if_neg h2]
   repeat' split
   all_goals omega
theorem kO {t ty e : TypeId} {ti : TI} (ht : P.underlying t = some (.slice e)) (hT : aa P e ti)
  {x y : Value} {n cp m : Nat} {A : Option Addr} (hx : x = .slice A n cp) {olds news : List Value} (hxs : Src w n x olds) (hys : Src w m y news)
  (hlo : olds.length = n * ti.size) (hl : news.length = m * ti.size) (hg : cp < n + m) (h63 : n + m ≤ 9223372036854775807) (hb : (n + m + (n + m) / 4 + 192) * ti.bytes ≤ 281474976710656) :
  ∃ cap rest, (Builtin.append_ #[t, t] ty #[x, y]).run P w = .ok (.slice (some ⟨w.heap.size, 0, none⟩) (n + m) cap) (w.drew.alloc (.cells (olds ++ news ++ rest).toArray e)) ∧
   n + m ≤ cap ∧ cap ≤ maxLen ∧ (olds ++ news ++ rest).length = cap * ti.size := by
 obtain ⟨i, z, h1, h2, h3, h4, h5⟩ := hT.info
 obtain ⟨z', hz1, hz2⟩ := hT.kV w.drew
 have hzz : z' = z := by simp [zeroValue, typeInfo, h1, h4] at hz1; exact hz1.symm
 subst hzz
 have hzl : z'.cells.size = ti.size := by
  have := hT.size
  rw [← hz2] at this; simpa using this
 obtain ⟨B, c, hy, _⟩ := hys.form
 have hxf := hxs.cells (P := P) ti.size hlo (W := w.drew) (fun _ => rfl)
 have hyf := hys.cells (P := P) ti.size hl (W := w.drew) (fun _ => rfl)
 have hnot : ¬ (n + m ≤ cp) := by omega
 have h63' : ¬ (9223372036854775807 < ((n : Int) + (m : Int))) := by omega
 have hfit := Nat.le_trans (Nat.mul_le_mul_right ti.bytes (Kx (n := n + m) (c := cp) (by omega))) hb
 have h48' : ¬ (281474976710656 < Builtin.nextslicecap (n + m) cp * ti.bytes) := by omega
 have hge := grownCap_ge w (n + m) cp e
 have hcm := grownCap_le_maxLen w (n + m) cp e (by simp only [maxLen]; omega)
 have hrest : (Builtin.zeroCells z'.cells (grownCap w (n + m) cp e - (n + m))).size = (grownCap w (n + m) cp e - (n + m)) * ti.size := by rw [size_zeroCells, hzl]
 refine ⟨grownCap w (n + m) cp e, (Builtin.zeroCells z'.cells (grownCap w (n + m) cp e - (n + m))).toList, ?_, hge, hcm, ?_⟩
 ·subst hx; subst hy
  simp only [Builtin.append_]
  simp [run_underlying ht, sizeOf, typeInfo, zeroValue, h1, h2, h3, h4, Builtin.lenOf, hnot, h63', h48', Question.forced, hxf, hyf, newRow, grownCap]
  congr 2
  apply Array.ext'
  simp
 ·simp only [List.length_append, hlo, hl, Array.length_toList, hrest, ← Nat.add_mul]
  congr 1; omega

theorem lY {t ty e e' : TypeId} {ti : TI} (ht : P.underlying t = some (.slice e)) (hT : aa P e ti)
  {x y : Value} {n cp m b q : Nat} {cur : Array Value} (hx : x = .slice (some ⟨b, q, none⟩) n cp) (hb : w.heap[b]? = some (.cells cur e' (0, 0))) {news : List Value} (hys : Src w m y news)
  (hl : news.length = m * ti.size) (h1 : ∀ u ∈ news, u.oneCell' = true) (hroom : n + m ≤ cp) (hfit : q + n * ti.size + news.length ≤ cur.size) :
  (Builtin.append_ #[t, t] ty #[x, y]).run P w = .ok (.slice (some ⟨b, q, none⟩) (n + m) cp) (w.setRow b (aI cur.toList (q + n * ti.size) news).toArray) := by
 obtain ⟨i, z, h2, h3, _⟩ := hT.info
 obtain ⟨B, c, hy, _⟩ := hys.form
 have hyf := hys.cells (P := P) ti.size hl (W := w) (fun _ => rfl)
 have hst := run_storeCells_at P b (q + n * ti.size) e' news 0 cur w hb (by simpa using hfit) h1
 simp only [Nat.add_zero] at hst
 subst hx; subst hy
 simp only [Builtin.append_]
 simp [run_underlying ht, sizeOf, typeInfo, h2, h3, Builtin.lenOf, hroom, hyf, Addr.add_lit, hst, aI]
theorem iH {t ty e : TypeId} {ti : TI} (ht : P.underlying t = some (.slice e)) (hT : aa P e ti) {y : Value} {news : List Value} (hys : Src w 0 y news) :
  (Builtin.append_ #[t, t] ty #[.slice none 0 0, y]).run P w = .ok (.slice none 0 0) w := by
 obtain ⟨i, z, h2, h3, _⟩ := hT.info
 obtain ⟨B, c, hy, _⟩ := hys.form
 have hn := hys.zero rfl
 have hyf := hys.cells (P := P) ti.size (by rw [hn]; simp) (W := w) (fun _ => rfl)
 subst hy
 simp only [Builtin.append_]
 simp [run_underlying ht, sizeOf, typeInfo, h2, h3, Builtin.lenOf, hyf]

theorem xM {R : Act → World → Prop} {k' : Nat} {u : Ty} {L rest : List Value} {zs : List u.D} {cap : Nat} {e : TypeId} (h : Ok w0 ρ s a w) (hus : s.us k' = false)
  (hL : Rd (dE w0 ρ s.hp w) w (.arr zs.length u) L zs) (hc : zs.length ≤ cap) (hm : cap ≤ maxLen) (hr : (L ++ rest).length = cap * u.size)
  (hR : Up w0 ((s.new k' (.row u zs)).put o.dst (.one (.row k'))) R) :
  R (a.put o.dst (.slice (some ⟨w.heap.size, 0, none⟩) zs.length cap)) (w.drew.alloc (.cells (L ++ rest).toArray e)) := by
 have hmore : fm w (w.drew.alloc (.cells (L ++ rest).toArray e)) := (fm.drew w).trans (fm.alloc _ _)
 have hle := vQ (w0 := w0) (ρ := ρ) (s := s) (he := .row u zs) (v := .slice (some ⟨w.heap.size, 0, none⟩) zs.length cap) hus hmore (fun b e => by injection e with e; subst e; exact Nat.le_refl _)
 have hok := h.new (he := .row u zs) (v := .slice (some ⟨w.heap.size, 0, none⟩) zs.length cap) hus hmore
  (fun b e => by injection e with e; subst e; exact ⟨Nat.le_refl _, by simp⟩)
  (.inr ⟨w.heap.size, 0, cap, (L ++ rest).toArray, e, aw _ _ _, heap_alloc_new w.drew _, hc, hm, by simp only [List.size_toArray]; omega, fun i x hx => by
   have hLr : Rd _ _ (.arr zs.length u) L zs := Rd.mono hle.keep hL
   have h1 := hLr.2.2 i x hx
   have hi : i < zs.length := (List.getElem?_eq_some_iff.1 hx).1
   have hle2 : (i + 1) * u.size ≤ zs.length * u.size := Nat.mul_le_mul_right _ hi
   rw [Nat.add_mul, Nat.one_mul] at hle2
   have hLl := hLr.2.1
   simp only [Nat.zero_add]
   rw [List.drop_append_of_le_length (by omega), List.take_append_of_le_length (by rw [List.length_drop]; omega)]
   exact h1⟩)
 have e3 : bF ρ k' (.slice (some ⟨w.heap.size, 0, none⟩) zs.length cap) k' = .slice (some ⟨w.heap.size, 0, none⟩) zs.length cap := aw _ _ _
 exact hR _ _ _ (hok.put o.dst (aK.ki (p := .row k') rfl ⟨bA _ _, by show [_] = [bF ρ k' _ k']; rw [e3], by show (bF ρ k' _ k').oneCell' = true; rw [e3]; rfl⟩))
theorem D5 {R : Act → World → Prop} {k' : Nat} {u : Ty} (h : Ok w0 ρ s a w) (hus : s.us k' = false) (hR : Up w0 ((s.new k' (.row u [])).put o.dst (.one (.row k'))) R) :
  R (a.put o.dst (.slice none 0 0)) w := by
 have hok := h.new (he := .row u []) (v := .slice none 0 0) hus (fm.refl w) (fun b e => by cases e) (.inl ⟨aw _ _ _, rfl⟩)
 have e3 : bF ρ k' (.slice none 0 0) k' = .slice none 0 0 := aw _ _ _
 exact hR _ _ _ (hok.put o.dst (aK.ki (p := .row k') rfl ⟨bA _ _, by show [_] = [bF ρ k' _ k']; rw [e3], by show (bF ρ k' _ k').oneCell' = true; rw [e3]; rfl⟩))

theorem bD.Hg {P : Program} {o : Oper} {a : Act} {w w' : World} {R : Act → World → Prop} {v : Value} {m : Sem Value} (he : execOp a.eval o = (do pure (.value (← m)))) (hm : m.run P w = .ok v w')
  (hr : R (a.put o.dst v) w') : bD P o a w R := bD.value he hm hr
theorem BB {args : Array Operand} {ts : Array TypeId} {x y : Operand} {t : TypeId} {k' : Nat} {p : Option Prop} {R : Act → World → Prop} (hE : aY P E) (h : Ok w0 ρ s a w)
  (ho : o.op = .call { callee := .builtin .append, args := args, argTypes := ts }) (ha : args.toList = [x, y]) (ht : ts.toList = [t, t])
  (hs : ox E s k' o.dst t (ev s x) (ev s y) = some (p, s')) (hp : l6 p) (hR : Up w0 s' R) : bD P o a w R := by
 have ea : args = #[x, y] := by apply Array.ext'; simpa using ha
 have et : ts = #[t, t] := by apply Array.ext'; simpa using ht
 subst ea; subst et
 have hexec : execOp a.eval o = (do pure (.value (← Builtin.append_ #[t, t] o.type #[a.eval x, a.eval y]))) := by rw [bG ho]; simp [builtin]
 unfold ox at hs
 split at hs
 ·rename_i e _ _ hti
  have hk := (hE t _ hti).kind
  split at hs
  ·rename_i sz by_ kd z u hei
   have hT := hE e _ hei
   dsimp only at hs
   cases hb : (!(Nat.beq u.size sz && Nat.blt 0 sz) || s.us k') with
   | true => rw [hb] at hs; cases hs
   | false =>
    rw [hb] at hs
    simp only [cond_false] at hs
    simp only [Bool.or_eq_false_iff, Bool.not_eq_false', Bool.and_eq_true] at hb
    obtain ⟨⟨hb1, hb2⟩, hus⟩ := hb
    have hsz : u.size = sz := Nat.eq_of_beq_eq_true hb1
    subst hsz
    -- what is appended
    split at hs
    ·cases hs
    ·rename_i ys hys
     have hy : ∃ news, Src w ys.length (a.eval y) news ∧ Rd (dE w0 ρ s.hp w) w (.arr ys.length u) news ys := by
      split at hys
      ·rename_i hyy
       injection hys with hys
       subst hys
       have hv := h.ev y
       rw [hyy] at hv
       obtain ⟨h1, _⟩ := aK.bb rfl (by simp) hv
       simp only [List.cons.injEq, and_true] at h1
       exact ⟨[], ⟨⟨none, 0, h1, fun hp => absurd hp (by simp)⟩, fun _ => rfl⟩, rfl, by simp, fun i x hx => by simp at hx⟩
      ·split at hys
       ·rename_i u' ys' hyy
        obtain ⟨e2, e3⟩ := du hys
        injection e2 with e2
        subst e2
        have e3 : ys' = ys := e3
        subst e3
        obtain ⟨A, c, cs, h1, h2, h3, h4, h5⟩ := uB h (h.ev y) hyy
        exact ⟨cs, ⟨⟨A, c, h1, h5⟩, fun h0 => by
         have := h4.2.1
         rw [h0] at this
         exact List.eq_nil_of_length_eq_zero (by simpa using this)⟩, h4⟩
       ·cases hys
     obtain ⟨news, hsrc, hrd⟩ := hy
     have hnl : news.length = ys.length * u.size := hrd.2.1
     have hn1 := Rd.one hrd
     split at hs
     ·rename_i hxx
      simp only [Option.some.injEq, Prod.mk.injEq] at hs
      obtain ⟨rfl, rfl⟩ := hs
      obtain ⟨hp1, hp2⟩ := hp
      have hv := h.ev x
      rw [hxx] at hv
      obtain ⟨h1, _⟩ := aK.bb rfl (by simp) hv
      simp only [List.cons.injEq, and_true] at h1
      rcases Nat.eq_zero_or_pos ys.length with h0 | hpos
      ·have hys0 : ys = [] := List.eq_nil_of_length_eq_zero h0
       subst hys0
       have hrun := iH (ty := o.type) hk hT hsrc
       exact bD.Hg (hexec.trans (by rw [h1])) hrun (D5 h hus hR)
      ·obtain ⟨cap, rest, hrun, hc1, hc2, hc3⟩ := kO (ty := o.type) hk hT h1 (olds := []) ⟨⟨none, 0, h1, fun hp => absurd hp (by simp)⟩, fun _ => rfl⟩ hsrc (by simp) hnl (by omega) (by omega) (by simpa using hp2)
       simp only [Nat.zero_add, List.nil_append] at hrun hc1 hc3
       exact bD.Hg hexec hrun (xM h hus hrd hc1 hc2 hc3 hR)
     ·rename_i kk hxx
      split at hs
      ·rename_i u' xs' hkk
       split at hs
       ·rename_i xs hxs
        simp only [Option.some.injEq, Prod.mk.injEq] at hs
        obtain ⟨rfl, rfl⟩ := hs
        obtain ⟨hp1, hp2⟩ := hp
        obtain ⟨e2, e3⟩ := du hxs
        injection e2 with e2
        subst e2
        have e3 : xs' = xs := e3
        subst e3
        have hv := h.ev x
        have hv0 := hv
        rw [hxx] at hv
        obtain ⟨hu, h1, _⟩ := aK.bb rfl (by simp) hv
        simp only [List.cons.injEq, and_true] at h1
        obtain ⟨A, c, olds, h2, h3, h4, h5, h6⟩ := uB (t := u') (xs := xs') h hv0 (by rw [hxx]; simp only [uV, hkk])
        have hol : olds.length = xs'.length * u'.size := h5.2.1
        have hL := B9 h5 hrd
        have hdrop := h.drop kk
        have hdle : (cx w0 ρ s w).le (cx w0 ρ (s.drop kk) w) := zy
        by_cases hroom : xs'.length + ys.length ≤ c
        ·rcases h.heap kk _ hkk with ⟨h7, rfl⟩ | ⟨b, q, cp, cur, e', h7, hheap, h8, h9, h10, h11⟩
         ·-- nothing and nothing
          rw [h7] at h1
          rw [h1] at h2
          injection h2 with h2a h2b h2c
          have hy0 : ys = [] := List.eq_nil_of_length_eq_zero (by simp only [List.length_nil] at hroom; omega)
          subst hy0
          have hrun := iH (ty := o.type) hk hT hsrc
          exact bD.Hg (hexec.trans (by rw [h1])) hrun (D5 hdrop hus hR)
         ·rw [h7] at h1
          rw [h1] at h2
          injection h2 with h2a h2b h2c
          subst h2c
          have hmul : (xs'.length + ys.length) * u'.size ≤ cp * u'.size := Nat.mul_le_mul_right _ hroom
          rw [Nat.add_mul] at hmul
          have hcur : cur.toList.length = cur.size := by simp
          have hfit : q + xs'.length * u'.size + news.length ≤ cur.size := by rw [hnl]; omega
          have hrun := lY (ty := o.type) (e' := e') hk hT h1 hheap hsrc hnl hn1 hroom hfit
          have hbk : bO (ρ kk) = some b := by rw [show ρ kk = _ from h7]; rfl
          have hbz := h.fresh kk _ b hkk hbk
          have hok := Ok.renew h hkk hbk (k' := k') (he := .row u' (xs' ++ ys)) (v := .slice (some ⟨b, q, none⟩) (xs'.length + ys.length) cp) (w' := w.setRow b (aI cur.toList (q + xs'.length * u'.size) news).toArray) hus rfl
           (ml w b _ _ hbz.1) (fun b' hne _ => setRow_other w b b' _ hne) (fun c' hc' hw' e3 => .inr ⟨b, q, cp, _, e', by rw [e3, List.length_append], by rw [hw']; exact setRow_heap w b cur _ e' _ hheap, by rw [List.length_append]; exact hroom, h9, by
            simp only [List.size_toArray]; rw [dp (by omega), hcur]; exact h10, fun i x hx => by
            have hrd' : Rd c'.S c'.w (.arr ys.length u') news ys := Rd.mono hc'.keep hrd
            show Rd _ _ u' (((aI cur.toList (q + xs'.length * u'.size) news).drop (q + i * u'.size)).take u'.size) x
            rcases Nat.lt_or_ge i xs'.length with hi | hi
            ·rw [List.getElem?_append_left hi] at hx
             have hle2 : (i + 1) * u'.size ≤ xs'.length * u'.size := Nat.mul_le_mul_right _ hi
             rw [Nat.add_mul, Nat.one_mul] at hle2
             rw [cD (by omega) (.inl (by omega))]
             exact Rd.mono hc'.keep (h11 i x hx)
            ·rw [List.getElem?_append_right hi] at hx
             have hi2 : i - xs'.length < ys.length := (List.getElem?_eq_some_iff.1 hx).1
             have hle2 : (i - xs'.length + 1) * u'.size ≤ ys.length * u'.size := Nat.mul_le_mul_right _ hi2
             rw [Nat.add_mul, Nat.one_mul, Nat.sub_mul] at hle2
             have hle3 : xs'.length * u'.size ≤ i * u'.size := Nat.mul_le_mul_right _ hi
             have hpc := hrd'.2.2 _ x hx
             rw [Nat.sub_mul] at hpc
             have e5 : ((aI cur.toList (q + xs'.length * u'.size) news).drop (q + i * u'.size)).take u'.size = (news.drop (i * u'.size - xs'.length * u'.size)).take u'.size := by
              apply List.ext_getElem?
              intro j
              rw [dy, dy]
              by_cases hj : j < u'.size
              ·rw [if_pos hj, if_pos hj, cH (by omega), if_neg (by omega), if_pos (by omega)]
               congr 1; omega
              ·rw [if_neg hj, if_neg hj]
             rw [e5]; exact hpc⟩)
          have e3 : bF ρ k' (.slice (some ⟨b, q, none⟩) (xs'.length + ys.length) cp) k' = .slice (some ⟨b, q, none⟩) (xs'.length + ys.length) cp := aw _ _ _
          exact bD.Hg hexec hrun
           (hR _ _ _ (hok.put o.dst (aK.ki (p := .row k') rfl ⟨bA _ _, by show [_] = [bF ρ k' _ k']; rw [e3], by show (bF ρ k' _ k').oneCell' = true; rw [e3]; rfl⟩)))
        ·obtain ⟨cap, rest, hrun, hc1, hc2, hc3⟩ := kO (ty := o.type) hk hT h2 (olds := olds) ⟨⟨A, c, h2, h6⟩, fun h0 => by
          rw [h0] at hol
          exact List.eq_nil_of_length_eq_zero (by simpa using hol)⟩ hsrc hol hnl (by omega) hp1 hp2
         have hL' : Rd (dE w0 ρ (s.drop kk).hp w) w (.arr (xs' ++ ys).length u') (olds ++ news) (xs' ++ ys) := by
          rw [List.length_append]; exact Rd.mono hdle.keep hL
         have hfin := xM (o := o) (k' := k') (e := e) (rest := rest) (R := R) hdrop hus hL' (by rw [List.length_append]; exact hc1) hc2 hc3 hR
         rw [List.length_append] at hfin
         exact bD.Hg hexec hrun hfin
       ·cases hs
      ·cases hs
     ·cases hs
  ·cases hs
 ·cases hs
end
end Go.Sx
/-
 Sx, part MA: conversions.
-/
namespace Go.Sx
open Go.RowKit

section
variable {P : Program} {E : Env} {w0 : cz} {w : World} {ρ : Nat → Value} {s s' : St} {a : Act} {o : Oper}

theorem tY {t : TypeId} {k : IntKind} (hE : aY P E) (h : ur E t = some k) : P.underlying t = some (.int k) := by
 unfold ur at h
 split at h
 ·rename_i e; simp only [Option.some.injEq] at h; subst h; exact (hE _ _ e).kind.1
 ·cases h
theorem ui {t : TypeId} (hE : aY P E) (h : iB E t = true) : ∃ e, P.underlying t = some (.slice e) ∧ P.underlying e = some (.int .u8) := by
 unfold iB at h
 split at h
 ·rename_i e' hti
  split at h
  ·rename_i hi; exact ⟨_, (hE _ _ hti).kind, tY hE hi⟩
  ·cases h
 ·cases h
theorem zj {t u : TypeId} {x : Operand} {wr : Bool} {p : Option Prop} {R : Act → World → Prop} (hE : aY P E) (h : Ok w0 ρ s a w) (ho : o.op = .convert t u x)
  (hs : lk E wr s o.dst t u (ev s x) = some (p, s')) (hp : l6 p) (hR : Up w0 s' R) : bD P o a w R := by
 have hexec : execOp a.eval o = (do pure (.value (← convert t u (a.eval x)))) := by simp [execOp, ho]
 unfold lk at hs
 split at hs
 ·rename_i k n hx
  have ex := a8 (h.ev x) hx
  split at hs
  ·rename_i k1 k2 h1 h2
   have u1 := tY hE h1
   have u2 := tY hE h2
   cases wr with
   | true =>
    simp only [cond_true, ok, Option.some.injEq, Prod.mk.injEq] at hs
    obtain ⟨_, rfl⟩ := hs
    refine ae h hexec ?_ (fH (yQ k2 n)) hR
    rw [ex]
    simp [convert, run_underlying u1, run_underlying u2, Conv.intToInt]
   | false =>
    simp only [cond_false, Option.some.injEq, Prod.mk.injEq] at hs
    obtain ⟨rfl, rfl⟩ := hs
    have hp : IR k2 n := hp
    refine ae h hexec ?_ (fH hp) hR
    rw [ex]
    simp [convert, run_underlying u1, run_underlying u2, Conv.intToInt, o5 hp]
  ·cases hs
 ·split at hs
  ·rename_i l hl
   obtain ⟨ex, bx⟩ := pb (h.ev x) hl
   cases h1 : de E t with
   | false => rw [h1] at hs; cases hs
   | true =>
    rw [h1] at hs
    simp only [cond_true] at hs
    have u1 := jU hE h1
    cases h2 : de E u with
    | true =>
     rw [h2] at hs
     simp only [cond_true, ok, Option.some.injEq, Prod.mk.injEq] at hs
     obtain ⟨_, rfl⟩ := hs
     have u2 := jU hE h2
     refine ae h hexec ?_ (wN bx) hR
     rw [ex]
     simp [convert, run_underlying u1, run_underlying u2]
    | false =>
     rw [h2] at hs
     simp only [cond_false] at hs
     cases h3 : iB E u with
     | false => rw [h3] at hs; cases hs
     | true =>
      rw [h3] at hs
      simp only [cond_true, ok, Option.some.injEq, Prod.mk.injEq] at hs
      obtain ⟨_, rfl⟩ := hs
      obtain ⟨e, u2, u3⟩ := ui hE h3
      have hrun := run_bytes_of_string (P := P) w t u e (mkStr l) u1 u2 u3
      generalize hcap : grownCap w (mkStr l).size 0 e = cap at hrun
      have hcc : (mkStr l).size ≤ cap ∧ cap ≤ maxLen := by
       rw [← hcap]
       exact ⟨grownCap_ge .., grownCap_le_maxLen _ _ _ _ (by rw [dh]; simp only [maxLen]; exact bx.1)⟩
      generalize hro : (Obj.cells (bytesRow (mkStr l) cap) e ((bytesRow (mkStr l) cap).size, (bytesRow (mkStr l) cap).size + 1)) = ob at hrun
      have hm : fm w (w.drew.alloc ob) := (fm.drew w).trans (fm.alloc _ _)
      have hok := h.more hm
      have hnew : (w.drew.alloc ob).heap[w.heap.size]? = some ob := by show (w.heap.push ob)[w.heap.size]? = _; simp
      refine .inl ⟨_, _, by rw [hexec, ex]; simp only [Sem.run_bind, hrun, Result.andThen_ok, Sem.run_pure]; rfl, hR ρ _ _ (hok.put o.dst (aK.ki (p := .d (.sl (.int .u8)) l) rfl ?_))⟩
      refine ⟨some ⟨w.heap.size, 0, none⟩, cap, by rw [dh], by rw [← dh]; exact hcc.1, hcc.2, fun hpos => ⟨w.heap.size, 0, rfl, ⟨?_, ?_, ?_⟩, fun i b hi => ?_⟩⟩
      ·show w.heap.size < (w.heap.push ob).size; simp
      ·intro k he hk e
       have := (h.fresh k he _ hk e).2
       omega
      ·exact w0.all _ h.base
      ·have hlt : i < l.length := (List.getElem?_eq_some_iff.1 hi).1
       have hb : l[i] = b := (List.getElem?_eq_some_iff.1 hi).2
       have hr := bx.2 b (List.mem_of_getElem? hi)
       refine ⟨[.int .u8 b], fun j v hj => ?_, rfl, hr⟩
       cases j with
       | succ j => simp at hj
       | zero =>
        simp only [List.getElem?_cons_zero, Option.some.injEq] at hj
        subst hj
        have hc : (bytesRow (mkStr l) cap)[i]? = some (.int .u8 b) := by
         unfold bytesRow
         rw [Array.getElem?_append_left (by simp [mkStr]; exact hlt)]
         simp only [mkStr, List.map_toArray, List.getElem?_toArray, List.getElem?_map, hi, Option.map_some, Option.some.injEq, Value.int.injEq, true_and]
         simp only [UInt8.toNat_ofNat']
         omega
        have e0 : 0 + (i * Ty.size (.int .u8) + 0) = i := by simp [Ty.size]
        rw [e0]
        show (w.drew.alloc ob).cell? ⟨w.heap.size, i, none⟩ = _
        rw [pj (hnew.trans (congrArg some hro.symm))]
        exact hc
  ·cases hb : iB E t && de E u with
   | false => rw [hb] at hs; cases hs
   | true =>
    rw [hb] at hs
    simp only [cond_true] at hs
    simp only [Bool.and_eq_true] at hb
    obtain ⟨e, u1, u2⟩ := ui hE hb.1
    have u3 := jU hE hb.2
    split at hs
    ·rename_i hx
     simp only [ok, Option.some.injEq, Prod.mk.injEq] at hs
     obtain ⟨_, rfl⟩ := hs
     have hv := h.ev x
     rw [hx] at hv
     obtain ⟨h1, _⟩ := aK.bb rfl (by simp) hv
     simp only [List.cons.injEq, and_true] at h1
     refine ae h hexec ?_ (wN (l := []) ⟨by simp, by simp⟩) hR
     rw [h1, run_convert_bytes_string w t u e _ _ _ u1 u2 u3]
     simp [Conv.bytesToString]
     rfl
    ·split at hs
     ·rename_i t' xs hx
      split at hs
      ·rename_i l hl
       simp only [ok, Option.some.injEq, Prod.mk.injEq] at hs
       obtain ⟨_, rfl⟩ := hs
       obtain ⟨e2, he2⟩ := du hl
       injection e2 with e2
       subst e2
       have he2 : xs = l := he2
       subst he2
       obtain ⟨A, c, h1, h2, h3, h4⟩ := Bn h (h.ev x) hx
       have hby : bN xs := by
        refine ⟨by simp only [maxLen] at h3; omega, fun b hb => ?_⟩
        obtain ⟨i, hi⟩ := List.mem_iff_getElem?.1 hb
        obtain ⟨_, _, _, _, h5⟩ := h4 (by have := (List.getElem?_eq_some_iff.1 hi).1; omega)
        obtain ⟨l, _, hr⟩ := h5 i b hi
        exact hr.2
       refine ae h hexec ?_ (wN hby) hR
       rw [h1]
       cases A with
       | none =>
        have h0 : xs.length = 0 := by
         rcases Nat.eq_zero_or_pos xs.length with h0 | h0
         ·exact h0
         ·obtain ⟨_, _, e, _⟩ := h4 h0; cases e
        have : xs = [] := List.length_eq_zero_iff.1 h0
        subst this
        rw [run_convert_bytes_string w t u e _ _ _ u1 u2 u3]
        simp [Conv.bytesToString]
        rfl
       | some ad =>
        have hl' : (xs.map fun n : Int => UInt8.ofNat n.toNat).length = xs.length := List.length_map ..
        have hrun := run_convert_bytes_back (P := P) w t u e ad c (xs.map fun n : Int => UInt8.ofNat n.toNat) u1 u2 u3 (fun j hj => by
         rw [hl'] at hj
         obtain ⟨b, q, e3, _, h5⟩ := h4 (by omega)
         obtain ⟨l, hl, hr⟩ := h5 j xs[j] (List.getElem?_eq_getElem hj)
         have hr := hr.1
         have h6 := hl 0 (.int .u8 xs[j]) (by rw [hr]; rfl)
         injection e3 with e3
         have e4 : ad.add j = ⟨b, q + j * Ty.size (.int .u8) + 0, none⟩ := by
          subst e3
          unfold Addr.add
          split
          ·rename_i h0; have h0 : j = 0 := h0; subst h0; simp
          ·simp [Ty.size]
         rw [e4, h6]
         have := hby.2 xs[j] (List.getElem_mem hj)
         simp only [List.getElem_map, UInt8.toNat_ofNat', Option.some.injEq, Value.int.injEq, true_and]
         omega)
        rw [hl'] at hrun
        exact hrun
      ·cases hs
     ·cases hs
end
end Go.Sx
/-
 Sx, part MB: maps of our own, by whole numbers.
-/
set_option linter.unusedSimpArgs false
namespace Go.Sx
open Go.RowKit

section
variable {P : Program} {E : Env} {w0 : cz} {w : World} {ρ : Nat → Value} {s s' : St} {a : Act} {o : Oper}

theorem qj {t : TypeId} {kk : IntKind} {ei : TI} (hE : aY P E) (h : mapTy? E t = some (kk, ei)) :
  ∃ kt et, P.underlying t = some (.map kt et) ∧ P.underlying kt = some (.int kk) ∧ aa P et ei ∧ ei.kind.agg = false := by
 unfold mapTy? at h
 split at h
 ·rename_i kt et z ty ht
  split at h
  ·rename_i ei' hk he
   cases hg : ei'.kind.agg with
   | true => simp only [hg, cond_true] at h; cases h
   | false =>
    simp only [hg, cond_false, Option.some.injEq, Prod.mk.injEq] at h
    obtain ⟨rfl, rfl⟩ := h
    exact ⟨kt, et, ((hE _ _ ht).kind).1, ((hE _ _ hk).kind).1, hE _ _ he, hg⟩
  ·cases h
 ·cases h

theorem yW {c : Cx} {kk : IntKind} {t : Ty} {i : Int} : ∀ {es : List MapEntry} {xs : List (Int × t.D)} (n : Nat), iP c kk t es xs →
  (Instr.findNow (.int kk) (.int kk i) es n = some none ∧ mget? t xs i = none ∧ vg t xs i = xs ∧
   ∀ c' (e : MapEntry) (y : t.D), iP c' kk t es xs → e.key = .int kk i → IR kk i → Rd c'.S c'.w t [e.val] y → iP c' kk t (es ++ [e]) (nh t xs i y)) ∨
  ∃ j e y, Instr.findNow (.int kk) (.int kk i) es n = some (some (n + j, e.val)) ∧ es[j]? = some e ∧ e.key = .int kk i ∧ mget? t xs i = some y ∧ Rd c.S c.w t [e.val] y ∧
   (∀ c', iP c' kk t es xs → iP c' kk t (es.eraseIdx j) (vg t xs i)) ∧
   ∀ c' (e' : MapEntry) (y : t.D), iP c' kk t es xs → e'.key = .int kk i → IR kk i → Rd c'.S c'.w t [e'.val] y → iP c' kk t (es.set j e') (nh t xs i y)
 | [], [], n, _ => .inl ⟨rfl, rfl, rfl, fun c' e y _ he hi hr => ⟨⟨he, hi, hr⟩, trivial⟩⟩
 | e :: es, x :: xs, n, h => by
  obtain ⟨⟨h1, h2, h3⟩, h4⟩ := h
  unfold Instr.findNow
  by_cases hx : x.1 = i
  ·refine .inr ⟨0, e, x.2, ?_, rfl, by rw [h1, hx], by simp [mget?, hx], h3, fun c' h' => ?_, fun c' e' y h' he hi hr => ?_⟩
   ·rw [h1]
    simp [Instr.sameNow, hx]
   ·have e1 : vg t (x :: xs) i = xs := by simp [vg, hx]
    rw [e1]; exact h'.2
   ·have e1 : nh t (x :: xs) i y = (i, y) :: xs := by simp [nh, hx]
    rw [e1]; exact ⟨⟨he, hi, hr⟩, h'.2⟩
  ·have hs : Instr.sameNow (.int kk) (.int kk i) e.key = some false := by
    rw [h1]
    have : ¬ i = x.1 := fun e => hx e.symm
    simp [Instr.sameNow, this]
   rw [hs]
   simp only []
   have ed : vg t (x :: xs) i = x :: vg t xs i := by simp [vg, hx]
   have ep : ∀ y, nh t (x :: xs) i y = x :: nh t xs i y := fun y => by simp [nh, hx]
   have eg : mget? t (x :: xs) i = mget? t xs i := by simp [mget?, hx]
   rw [ed, eg]
   rcases yW (i := i) (n + 1) h4 with ⟨f1, f2, f3, f4⟩ | ⟨j, e0, y0, f1, f2, f3, f4, f5, f6, f7⟩
   ·refine .inl ⟨f1, f2, by rw [f3], fun c' e' y h' he hi hr => ?_⟩
    rw [ep]
    exact ⟨h'.1, f4 c' e' y h'.2 he hi hr⟩
   ·refine .inr ⟨j + 1, e0, y0, by rw [f1, show n + 1 + j = n + (j + 1) by omega], f2, f3, f4, f5, fun c' h' => ⟨h'.1, f6 c' h'.2⟩, fun c' e' y h' he hi hr => ?_⟩
    rw [ep]
    exact ⟨h'.1, f7 c' e' y h'.2 he hi hr⟩
 | [], _ :: _, _, h => h.elim
 | _ :: _, [], _, h => h.elim
theorem iP.len {c : Cx} {kk : IntKind} {t : Ty} : ∀ {es : List MapEntry} {xs : List (Int × t.D)}, iP c kk t es xs → es.length = xs.length
 | [], [], _ => rfl
 | _ :: _, _ :: _, h => by simp [iP.len h.2]
 | [], _ :: _, h => h.elim
 | _ :: _, [], h => h.elim
theorem yx {c : Cx} {kk : IntKind} {i : Int} : ∀ {es : List MapEntry} {xs : List (Int × PV)} (n : Nat), pB c kk es xs →
  (Instr.findNow (.int kk) (.int kk i) es n = some none ∧ pget? xs i = none ∧
   ∀ c' (e : MapEntry) (p : PV), pB c' kk es xs → e.key = .int kk i → p.agg = false → iD c' p [e.val] → pB c' kk (es ++ [e]) (tv xs i p)) ∨
  ∃ j e p, Instr.findNow (.int kk) (.int kk i) es n = some (some (n + j, e.val)) ∧ es[j]? = some e ∧ e.key = .int kk i ∧ pget? xs i = some p ∧ p.agg = false ∧ iD c p [e.val] ∧
   ∀ c' (e' : MapEntry) (p : PV), pB c' kk es xs → e'.key = .int kk i → p.agg = false → iD c' p [e'.val] → pB c' kk (es.set j e') (tv xs i p)
 | [], [], n, _ => .inl ⟨rfl, rfl, fun c' e y _ he hi hr => ⟨⟨he, hi, hr⟩, trivial⟩⟩
 | e :: es, x :: xs, n, h => by
  obtain ⟨⟨h1, h2, h3⟩, h4⟩ := h
  unfold Instr.findNow
  by_cases hx : x.1 = i
  ·refine .inr ⟨0, e, x.2, ?_, rfl, by rw [h1, hx], by simp [pget?, hx], h2, h3, fun c' e' y h' he hi hr => ?_⟩
   ·rw [h1]
    simp [Instr.sameNow, hx]
   ·have e1 : tv (x :: xs) i y = (i, y) :: xs := by simp [tv, hx]
    rw [e1]; exact ⟨⟨he, hi, hr⟩, h'.2⟩
  ·have hs : Instr.sameNow (.int kk) (.int kk i) e.key = some false := by
    rw [h1]
    have : ¬ i = x.1 := fun e => hx e.symm
    simp [Instr.sameNow, this]
   rw [hs]
   simp only []
   have ep : ∀ y, tv (x :: xs) i y = x :: tv xs i y := fun y => by simp [tv, hx]
   have eg : pget? (x :: xs) i = pget? xs i := by simp [pget?, hx]
   rw [eg]
   rcases yx (i := i) (n + 1) h4 with ⟨f1, f2, f4⟩ | ⟨j, e0, y0, f1, f2, f3, f4, f5, f6, f7⟩
   ·refine .inl ⟨f1, f2, fun c' e' y h' he hi hr => ?_⟩
    rw [ep]
    exact ⟨h'.1, f4 c' e' y h'.2 he hi hr⟩
   ·refine .inr ⟨j + 1, e0, y0, by rw [f1, show n + 1 + j = n + (j + 1) by omega], f2, f3, f4, f5, f6, fun c' e' y h' he hi hr => ?_⟩
    rw [ep]
    exact ⟨h'.1, f7 c' e' y h'.2 he hi hr⟩
 | [], _ :: _, _, h => h.elim
 | _ :: _, [], _, h => h.elim

theorem Fy (w : World) (kk : IntKind) (i : Int) : (Instr.keyThatStays (.int kk i) (.int kk i)).run P w = .ok (.int kk i) w := by
 unfold Instr.keyThatStays
 simp [Instr.sameBits, Sem.run_pure]
theorem je {kt : TypeId} {kk : IntKind} (hk : P.underlying kt = some (.int kk)) (e : Bool) (i : Int) : (Instr.checkKey e 10000 kt (.int kk i)).run P w = .ok () w :=
 Go.MapKept.run_checkKey hk (by simp [Go.MapKept.IsKey]) e 9999
theorem pf {R : Act → World → Prop} {k b clock clock' : Nat} {es es' : Array MapEntry} {h0 he : HE} {sv : SV} {v : Value} (h : Ok w0 ρ s a w) (hk : s.hp k = some h0) (hbk : ρ k = .map (some b))
  (hb : w.heap[b]? = some (.map es clock))
  (hhe : ∀ w', w'.heap[b]? = some (.map es' clock') → (cx w0 ρ s w).le (cx w0 ρ (s.fY k he) w') → rv (cx w0 ρ (s.fY k he) w') k he)
  (hsv : ∀ c, aK c sv v) (hR : Up w0 ((s.fY k he).put o.dst sv) R) : R (a.put o.dst v) { w with heap := w.heap.setIfInBounds b (.map es' clock') } := by
 obtain ⟨hs1, hs2⟩ := Go.MapKept.heap_set (o' := .map es' clock') hb
 have hbk' : bO (ρ k) = some b := by rw [hbk]; rfl
 have hold : ∀ b', bO (ρ k) ≠ some b' → ({ w with heap := w.heap.setIfInBounds b (.map es' clock') } : World).heap[b']? = w.heap[b']? := fun b' hne => hs2 b' (fun e => hne (by rw [hbk', e]))
 have hle := r5 (w0 := w0) (ρ := ρ) (s := s) (he := he) (w' := { w with heap := w.heap.setIfInBounds b (.map es' clock') }) ⟨h0, hk⟩ (by simp) hold
 have hfr := h.fresh k h0 b hk hbk'
 have hbel : Below w0.w.heap.size w { w with heap := w.heap.setIfInBounds b (.map es' clock') } := ⟨rfl, rfl, rfl, by simp, fun n hn => hs2 n (by omega)⟩
 exact hR ρ _ _ ((h.fY hk hbel hold (hhe _ hs1 hle)).put o.dst (hsv _))

theorem modify_eq {es : Array MapEntry} {j : Nat} {e e' : MapEntry} {f : MapEntry → MapEntry} (he : es.toList[j]? = some e) (hf : f e = e') : (es.modify j f).toList = es.toList.set j e' := by
 rw [Array.toList_modify]
 apply List.ext_getElem?
 intro n
 rw [List.getElem?_modify, List.getElem?_set]
 by_cases hn : j = n
 ·subst hn
  have hlt := (List.getElem?_eq_some_iff.1 he).1
  have hlt' : j < es.size := by simpa using hlt
  have e0 : es[j] = e := by have := (List.getElem?_eq_some_iff.1 he).2; simpa using this
  simp [hlt', e0, hf]
 ·simp [hn]
theorem uY {t kt et : TypeId} {kk : IntKind} {b clock : Nat} {es : Array MapEntry} {i : Int} {v : Value} (hu : P.underlying t = some (.map kt et)) (hku : P.underlying kt = some (.int kk))
  (hb : w.heap[b]? = some (.map es clock)) (hf : Instr.findNow (.int kk) (.int kk i) es.toList 0 = some none) :
  (Instr.mapUpdate t (.map (some b)) (.int kk i) v).run P w = .ok () { w with heap := w.heap.setIfInBounds b (.map (es.push { key := .int kk i, val := v, born := clock }) (clock + 1)) } := by
 unfold Instr.mapUpdate
 simp only [Sem.run_bind, run_underlying hu, Result.andThen_ok, Go.MapKept.run_getObj_map hb, je hku, Go.MapKept.run_findKey hku hf, Go.MapKept.run_setObj_map _ hb]
theorem ub {t kt et : TypeId} {kk : IntKind} {b clock j : Nat} {es : Array MapEntry} {i : Int} {v v0 : Value} {e : MapEntry} (hu : P.underlying t = some (.map kt et)) (hku : P.underlying kt = some (.int kk))
  (hb : w.heap[b]? = some (.map es clock)) (hf : Instr.findNow (.int kk) (.int kk i) es.toList 0 = some (some (j, v0))) (he : es[j]? = some e) (hek : e.key = .int kk i) :
  (Instr.mapUpdate t (.map (some b)) (.int kk i) v).run P w = .ok () { w with heap := w.heap.setIfInBounds b (.map (es.modify j fun e => { e with key := .int kk i, val := v }) clock) } := by
 unfold Instr.mapUpdate
 simp only [Sem.run_bind, run_underlying hu, Result.andThen_ok, Go.MapKept.run_getObj_map hb, je hku, Go.MapKept.run_findKey hku hf, he, Option.map_some, Option.getD_some, hek, Fy, Go.MapKept.run_setObj_map _ hb]
theorem sU {t : TypeId} {x y z : Operand} {p : Option Prop} {R : Act → World → Prop} (hE : aY P E) (h : Ok w0 ρ s a w)
  (hexec : execOp a.eval o = (do Instr.mapUpdate t (a.eval x) (a.eval y) (a.eval z); pure .skip))
  (hs : mC E s t (ev s x) (ev s y) (ev s z) = some (p, s')) (hR : Up w0 (s'.put o.dst (.one .any)) R) : bD P o a w R := by
 unfold mC at hs
 split at hs
 ·rename_i kk ei kk' i k hmt hi hx
  obtain ⟨kt, et, hu, hku, hT, hag⟩ := qj hE hmt
  have ey := a8 (h.ev y) hi
  have hir := cv (h.ev y) hi
  cases hkk : decide (kk = kk') with
  | false => rw [hkk] at hs; cases hs
  | true =>
   rw [hkk] at hs
   simp only [cond_true] at hs
   have hkk := of_decide_eq_true hkk
   subst hkk
   have hv := h.ev x
   rw [hx] at hv
   obtain ⟨_, hv, _⟩ := aK.bb rfl (by simp) hv
   simp only [List.cons.injEq, and_true] at hv
   split at hs
   ·rename_i kk2 u xs hk
    cases hg : (decide (kk2 = kk) && !u.agg) with
    | false => rw [hg] at hs; cases hs
    | true =>
     rw [hg] at hs
     simp only [cond_true] at hs
     simp only [Bool.and_eq_true, Bool.not_eq_true', decide_eq_true_eq] at hg
     obtain ⟨hkk2, hua⟩ := hg
     subst hkk2
     split at hs
     ·cases hs
     ·rename_i q hq hz
      cases hqa : q.agg with
      | true => rw [hqa] at hs; cases hs
      | false =>
      rw [hqa] at hs
      simp only [cond_false] at hs
      split at hs
      ·rename_i yv hyv
       simp only [ok, Option.some.injEq, Prod.mk.injEq] at hs
       obtain ⟨_, rfl⟩ := hs
       have hzc := h.ev z
       rw [hz] at hzc
       have hm := yJ (aK.bb hqa hq hzc)
       have hrd : Rd (dE w0 ρ s.hp w) w u [a.eval z] yv := fA (c := cx w0 ρ s w) hyv hm
       obtain ⟨b, es, clock, hbk, hb, hmc⟩ := h.heap k _ hk
       have hbk : ρ k = .map (some b) := hbk
       have hb : w.heap[b]? = some (.map es clock) := hb
       rcases yW (i := i) 0 hmc with ⟨f1, f2, f3, f4⟩ | ⟨j, e0, y0, f1, f2, f3, f4, f5, f6, f7⟩
       ·refine .inr ⟨_, by rw [hexec]; simp only [Sem.run_bind, hv, show (cx w0 ρ s w).ρ k = _ from hbk, ey, uY hu hku hb f1, Result.andThen_ok, Sem.run_pure]; rfl, ?_⟩
        refine pf (he := .map kk2 u (nh u xs i yv)) h hk hbk hb (fun w' hw' hle => ⟨b, _, _, hbk, hw', ?_⟩) (fun c => kz _) hR
        rw [Array.toList_push]
        exact f4 _ _ _ (hmc.mono hle) rfl hir (Rd.mono hle.keep hrd)
       ·rw [Nat.zero_add] at f1
        have f2' : es[j]? = some e0 := by simpa using f2
        refine .inr ⟨_, by rw [hexec]; simp only [Sem.run_bind, hv, show (cx w0 ρ s w).ρ k = _ from hbk, ey, ub hu hku hb f1 f2' f3, Result.andThen_ok, Sem.run_pure]; rfl, ?_⟩
        refine pf (he := .map kk2 u (nh u xs i yv)) h hk hbk hb (fun w' hw' hle => ⟨b, _, _, hbk, hw', ?_⟩) (fun c => kz _) hR
        rw [modify_eq f2 rfl]
        exact f7 _ _ _ (hmc.mono hle) rfl hir (Rd.mono hle.keep hrd)
      ·cases hs
     ·cases hs
   ·rename_i kk2 xs hk
    cases hg : decide (kk2 = kk) with
    | false => rw [hg] at hs; cases hs
    | true =>
     rw [hg] at hs
     simp only [cond_true] at hs
     have hg := of_decide_eq_true hg
     subst hg
     split at hs
     ·cases hs
     ·rename_i q hq hz
      cases hqa : q.agg with
      | true => rw [hqa] at hs; cases hs
      | false =>
       rw [hqa] at hs
       simp only [cond_false, ok, Option.some.injEq, Prod.mk.injEq] at hs
       obtain ⟨_, rfl⟩ := hs
       have hzc := h.ev z
       rw [hz] at hzc
       have hm := aK.bb hqa hq hzc
       obtain ⟨b, es, clock, hbk, hb, hmc⟩ := h.heap k _ hk
       have hbk : ρ k = .map (some b) := hbk
       have hb : w.heap[b]? = some (.map es clock) := hb
       rcases yx (i := i) 0 hmc with ⟨f1, f2, f4⟩ | ⟨j, e0, y0, f1, f2, f3, f4, f5, f6, f7⟩
       ·refine .inr ⟨_, by rw [hexec]; simp only [Sem.run_bind, hv, show (cx w0 ρ s w).ρ k = _ from hbk, ey, uY hu hku hb f1, Result.andThen_ok, Sem.run_pure]; rfl, ?_⟩
        refine pf (he := .pmap kk2 (tv xs i q)) h hk hbk hb (fun w' hw' hle => ⟨b, _, _, hbk, hw', ?_⟩) (fun c => kz _) hR
        rw [Array.toList_push]
        exact f4 _ _ _ (hmc.mono hle) rfl hqa (iD.mono hle hm)
       ·rw [Nat.zero_add] at f1
        have f2' : es[j]? = some e0 := by simpa using f2
        refine .inr ⟨_, by rw [hexec]; simp only [Sem.run_bind, hv, show (cx w0 ρ s w).ρ k = _ from hbk, ey, ub hu hku hb f1 f2' f3, Result.andThen_ok, Sem.run_pure]; rfl, ?_⟩
        refine pf (he := .pmap kk2 (tv xs i q)) h hk hbk hb (fun w' hw' hle => ⟨b, _, _, hbk, hw', ?_⟩) (fun c => kz _) hR
        rw [modify_eq f2 rfl]
        exact f7 _ _ _ (hmc.mono hle) rfl hqa (iD.mono hle hm)
     ·cases hs
   ·cases hs
 ·cases hs
theorem zn {t : TypeId} {k : Nat} {p : Option Prop} {R : Act → World → Prop} (h : Ok w0 ρ s a w) (ho : o.op = .makeMap t none)
  (hs : lK E s k o.dst t = some (p, s')) (hR : Up w0 s' R) : bD P o a w R := by
 unfold lK at hs
 split at hs
 ·rename_i kk ei hmt
  cases hus : s.us k with
  | true => rw [hus] at hs; cases hs
  | false =>
   rw [hus] at hs
   simp only [cond_false] at hs
   have hexec : (execOp a.eval o).run P w = .ok (.value (.map (some w.heap.size))) (w.alloc (.map #[] 0)) := by simp [execOp, ho, run_makeMap, Result.andThen]
   have key : ∀ he : HE, (∀ c : Cx, c.ρ k = .map (some w.heap.size) → c.w.heap[w.heap.size]? = some (.map #[] 0) → rv c k he) → Up w0 ((s.new k he).put o.dst (.one (.row k))) R → bD P o a w R := fun he hhe hR => by
    have hok := h.new (he := he) (v := .map (some w.heap.size)) hus (fm.alloc w (.map #[] 0)) (fun b e => by injection e with e; subst e; exact ⟨Nat.le_refl _, by simp⟩)
     (hhe _ (aw _ _ _) (heap_alloc_new w _))
    have e3 : bF ρ k (.map (some w.heap.size)) k = .map (some w.heap.size) := aw _ _ _
    exact .inl ⟨_, _, hexec, hR _ _ _ (hok.put o.dst (aK.ki (p := .row k) rfl ⟨bA _ _, by show [_] = [bF ρ k _ k]; rw [e3], by show (bF ρ k _ k).oneCell' = true; rw [e3]; rfl⟩))⟩
   split at hs
   ·rename_i u _
    simp only [ok, Option.some.injEq, Prod.mk.injEq] at hs
    obtain ⟨_, rfl⟩ := hs
    exact key (.map kk u []) (fun c h1 h2 => ⟨_, _, _, h1, h2, trivial⟩) hR
   ·simp only [ok, Option.some.injEq, Prod.mk.injEq] at hs
    obtain ⟨_, rfl⟩ := hs
    exact key (.pmap kk []) (fun c h1 h2 => ⟨_, _, _, h1, h2, trivial⟩) hR
 ·cases hs
theorem mR {t kt et : TypeId} {kk : IntKind} {b clock : Nat} {es : Array MapEntry} {i : Int} {r : Option (Nat × Value)} {two : Bool} {z : Value} (hu : P.underlying t = some (.map kt et)) (hku : P.underlying kt = some (.int kk))
  (hz : (zeroValue et).run P w = .ok z w) (hb : w.heap[b]? = some (.map es clock)) (hf : Instr.findNow (.int kk) (.int kk i) es.toList 0 = some r) :
  (Instr.lookup t (.map (some b)) (.int kk i) two).run P w = .ok (match r with
   | some (_, v) => (if two then .tuple #[v, .bool true] else v)
   | none => (if two then .tuple #[z, .bool false] else z)) w := by
 unfold Instr.lookup
 cases r with
 | none => cases two <;> simp [Sem.run_bind, run_underlying hu, Result.andThen_ok, Go.MapKept.run_getObj_map hb, je hku, Go.MapKept.run_findKey hku hf, hz, Sem.run_pure]
 | some jv => cases two <;> simp [Sem.run_bind, run_underlying hu, Result.andThen_ok, Go.MapKept.run_getObj_map hb, je hku, Go.MapKept.run_findKey hku hf, Sem.run_pure]
theorem zU {et : TypeId} {ei : TI} (hT : aa P et ei) (hag : ei.kind.agg = false) (w : World) : ∃ z, (zeroValue et).run P w = .ok z w ∧ [z] = da ei.zero := by
 obtain ⟨z, h1, h2⟩ := hT.kV w
 refine ⟨z, h1, ?_⟩
 obtain ⟨i, z', g1, g2, g3, g4, g5⟩ := hT.info
 have hzz : z' = z := by simp [zeroValue, typeInfo, g1, g4] at h1; exact h1
 rw [hag] at g5
 subst hzz
 have hone := (hD (c := ⟨fun _ => undef, fun _ => false, fun _ => False, w⟩) hT.flat).one
 have hs : ei.size = 1 := by
  rcases hT.one with h1 | h1
  ·rw [hag] at h1; cases h1
  ·exact h1
 have hl := hT.size
 rw [hs] at hl
 match hc : da ei.zero, hl with
 | [q], _ =>
  rw [hc] at g5
  have : z' = q := g5
  rw [this]
theorem zX {t : TypeId} {x y : Operand} {two : Bool} {p : Option Prop} {R : Act → World → Prop} (hE : aY P E) (h : Ok w0 ρ s a w) (ho : o.op = .lookup t x y two)
  (hs : oX E s o.dst t (ev s x) (ev s y) two = some (p, s')) (hp : l6 p) (hR : Up w0 s' R) : bD P o a w R := by
 have hexec : execOp a.eval o = (do pure (.value (← Instr.lookup t (a.eval x) (a.eval y) two))) := by simp [execOp, ho]
 unfold oX at hs
 split at hs
 ·rename_i kk ei kk' i k hmt hi hx
  obtain ⟨kt, et, hu, hku, hT, hag⟩ := qj hE hmt
  have ey := a8 (h.ev y) hi
  cases hkk : decide (kk = kk') with
  | false => rw [hkk] at hs; cases hs
  | true =>
   rw [hkk] at hs
   simp only [cond_true] at hs
   have hkk := of_decide_eq_true hkk
   subst hkk
   have hv := h.ev x
   rw [hx] at hv
   obtain ⟨_, hv, _⟩ := aK.bb rfl (by simp) hv
   simp only [List.cons.injEq, and_true] at hv
   obtain ⟨z, hz, hzc⟩ := zU hT hag w
   split at hs
   ·rename_i kk2 u xs hk
    cases hg : (decide (kk2 = kk) && !u.agg && Vu u ei.ty) with
    | false => rw [hg] at hs; cases hs
    | true =>
     rw [hg] at hs
     simp only [cond_true] at hs
     simp only [Bool.and_eq_true, Bool.not_eq_true', decide_eq_true_eq] at hg
     obtain ⟨⟨hkk2, hua⟩, hty⟩ := hg
     subst hkk2
     have hzr : Rd (dE w0 ρ s.hp w) w u [z] u.zero := by
      have := hT.ty
      cases hu' : ei.ty with
      | none => rw [hu'] at hty; cases hty
      | some u' =>
       rw [hu'] at hty
       have hty := of_decide_eq_true hty
       subst hty
       rw [hu'] at this
       rw [hzc, ← this.2.2.2]
       exact jx this.2.2.1
     obtain ⟨b, es, clock, hbk, hb, hmc⟩ := h.heap k _ hk
     have hbk : ρ k = .map (some b) := hbk
     have hb : w.heap[b]? = some (.map es clock) := hb
     have hfin : ∀ (v : Value) (y1 : u.D) (q : Bool), Rd (dE w0 ρ s.hp w) w u [v] y1 → Bu u xs i = y1 → MM u xs i = q →
       (Instr.lookup t (a.eval x) (a.eval y) two).run P w = .ok (if two then .tuple #[v, .bool q] else v) w → bD P o a w R := by
      intro v y' q hr hg hh hrun
      cases two with
      | true =>
       simp only [cond_true, ok, Option.some.injEq, Prod.mk.injEq] at hs
       obtain ⟨_, rfl⟩ := hs
       refine ae (v := .tuple #[v, .bool q]) h hexec hrun ?_ hR
       refine ⟨_, rfl, v, [.bool q], rfl, ?_, .bool q, [], rfl, ?_, rfl⟩
       ·rw [hg]; exact b9.single (p := .d u y') hr
       ·rw [hh]; exact b9.single (p := .d .bool q) rfl
      | false =>
       simp only [cond_false, ok, Option.some.injEq, Prod.mk.injEq] at hs
       obtain ⟨_, rfl⟩ := hs
       rw [hg] at hR
       exact ae (v := v) h hexec hrun (aK.ki (p := .d u y') hua hr) hR
     rcases yW (i := i) 0 hmc with ⟨f1, f2, f3, f4⟩ | ⟨j, e0, y0, f1, f2, f3, f4, f5, f6, f7⟩
     ·refine hfin z u.zero false hzr (by simp [Bu, f2]) (by simp [MM, f2]) ?_
      rw [hv, show (cx w0 ρ s w).ρ k = _ from hbk, ey, mR hu hku hz hb f1]
     ·refine hfin e0.val y0 true f5 (by simp [Bu, f4]) (by simp [MM, f4]) ?_
      rw [hv, show (cx w0 ρ s w).ρ k = _ from hbk, ey, mR hu hku hz hb f1]
   ·cases hs
 ·cases hs
def DQ (K : PV → Prop) (i : Int) (z : PV) : List (Int × PV) → Prop
 | [] => K z
 | (k, p) :: r => (i = k → K p) ∧ (¬ i = k → DQ K i z r)
theorem uS {K : PV → Prop} {i : Int} {z : PV} : ∀ {es : List (Int × PV)}, DQ K i z es → (∀ p, pget? es i = some p → K p) ∧ (pget? es i = none → K z)
 | [], h => ⟨fun p e => (by cases e), fun _ => h⟩
 | (k, p) :: r, h => by
  by_cases hk : i = k
  ·have e1 : pget? ((k, p) :: r) i = some p := by simp [pget?, hk]
   rw [e1]
   refine ⟨fun q e => ?_, fun e => ?_⟩
   ·injection e with e
    rw [← e]; exact h.1 hk
   ·cases e
  ·have hk' : ¬ k = i := fun e => hk e.symm
   have e1 : pget? ((k, p) :: r) i = pget? r i := by simp [pget?, hk']
   rw [e1]
   exact uS (h.2 hk)
theorem Ce {i : Int} {es : List (Int × PV)} {z : PV} {N : Act → World → Prop} (hE : aY P E) (h : Ok w0 ρ s a w) (hc : plook? E s o.op = some (i, es, z))
  (hN : DQ (fun p => Up w0 (s.put o.dst (.one p)) N) i z es) : bD P o a w N := by
 cases ho : o.op with
 | lookup t x y two =>
  rw [ho] at hc
  cases two with
  | true => cases hc
  | false =>
   have hexec : execOp a.eval o = (do pure (.value (← Instr.lookup t (a.eval x) (a.eval y) false))) := by simp [execOp, ho]
   simp only [plook?] at hc
   split at hc
   ·rename_i kk ei kk' i' k hmt hi hx
    obtain ⟨kt, et, hu, hku, hT, hag⟩ := qj hE hmt
    have ey := a8 (h.ev y) hi
    have hv := h.ev x
    rw [hx] at hv
    obtain ⟨_, hv, _⟩ := aK.bb rfl (by simp) hv
    simp only [List.cons.injEq, and_true] at hv
    obtain ⟨zv, hz, hzc⟩ := zU hT hag w
    split at hc
    ·rename_i kk2 xs hk
     cases hg : (decide (kk = kk') && decide (kk2 = kk')) with
     | false => rw [hg] at hc; cases hc
     | true =>
      rw [hg] at hc
      simp only [cond_true] at hc
      simp only [Bool.and_eq_true, decide_eq_true_eq] at hg
      obtain ⟨hkk, hkk2⟩ := hg
      subst hkk2; subst hkk
      split at hc
      ·rename_i zp hzp
       cases hza : zp.agg with
       | true => rw [hza] at hc; cases hc
       | false =>
        rw [hza] at hc
        simp only [cond_false, Option.some.injEq, Prod.mk.injEq] at hc
        obtain ⟨rfl, rfl, rfl⟩ := hc
        have hzr : iD (cx w0 ρ s w) zp [zv] := by
         have h1 := hD (c := cx w0 ρ s w) hT.flat
         rw [hzp] at h1
         obtain ⟨l1, l2, e1, h2, h3⟩ := h1
         have h3 : l2 = [] := h3
         subst h3
         rw [List.append_nil] at e1
         rw [hzc, hzp, e1]; exact h2
        obtain ⟨b, mes, clock, hbk, hb, hmc⟩ := h.heap k _ hk
        have hbk : ρ k = .map (some b) := hbk
        have hb : w.heap[b]? = some (.map mes clock) := hb
        obtain ⟨hN1, hN2⟩ := uS hN
        rcases yx (i := i') 0 hmc with ⟨f1, f2, f4⟩ | ⟨j, e0, y0, f1, f2, f3, f4, f5, f6, f7⟩
        ·refine ae (v := zv) h hexec ?_ (aK.ki hza hzr) (hN2 f2)
         rw [hv, show (cx w0 ρ s w).ρ k = _ from hbk, ey, mR hu hku hz hb f1]; rfl
        ·refine ae (v := e0.val) h hexec ?_ (aK.ki f5 f6) (hN1 y0 f4)
         rw [hv, show (cx w0 ρ s w).ρ k = _ from hbk, ey, mR hu hku hz hb f1]; rfl
      ·cases hc
    ·cases hc
   ·cases hc
 | _ => rw [ho] at hc; simp [plook?] at hc
theorem AV {args : Array Operand} {ts : Array TypeId} {x y : Operand} {t t' : TypeId} {p : Option Prop} {R : Act → World → Prop} (hE : aY P E) (h : Ok w0 ρ s a w)
  (ho : o.op = .call { callee := .builtin .delete, args := args, argTypes := ts }) (ha : args.toList = [x, y]) (ht : ts.toList = [t, t'])
  (hs : oF E s o.dst t (ev s x) (ev s y) = some (p, s')) (hR : Up w0 s' R) : bD P o a w R := by
 have ea : args = #[x, y] := by apply Array.ext'; simpa using ha
 have et : ts = #[t, t'] := by apply Array.ext'; simpa using ht
 subst ea; subst et
 have hexec : execOp a.eval o = (do pure (.value (← Builtin.delete_ #[t, t'] o.type (#[x, y].map a.eval)))) := bG ho
 unfold oF at hs
 split at hs
 ·rename_i kk ei kk' i k hmt hi hx
  obtain ⟨kt, et, hu, hku, hT, hag⟩ := qj hE hmt
  have ey := a8 (h.ev y) hi
  cases hkk : decide (kk = kk') with
  | false => rw [hkk] at hs; cases hs
  | true =>
   rw [hkk] at hs
   simp only [cond_true] at hs
   have hkk := of_decide_eq_true hkk
   subst hkk
   have hv := h.ev x
   rw [hx] at hv
   obtain ⟨_, hv, _⟩ := aK.bb rfl (by simp) hv
   simp only [List.cons.injEq, and_true] at hv
   split at hs
   ·rename_i kk2 u xs hk
    cases hg : decide (kk2 = kk) with
    | false => rw [hg] at hs; cases hs
    | true =>
     rw [hg] at hs
     simp only [cond_true, ok, Option.some.injEq, Prod.mk.injEq] at hs
     obtain ⟨_, rfl⟩ := hs
     have hg := of_decide_eq_true hg
     subst hg
     obtain ⟨b, es, clock, hbk, hb, hmc⟩ := h.heap k _ hk
     have hbk : ρ k = .map (some b) := hbk
     have hb : w.heap[b]? = some (.map es clock) := hb
     have hrun : ∀ r es', Instr.findNow (.int kk2) (.int kk2 i) es.toList 0 = some r → (es' = match r with | some (j, _) => es.eraseIdxIfInBounds j | none => es) →
       (execOp a.eval o).run P w = .ok (.value (.tuple #[])) { w with heap := w.heap.setIfInBounds b (.map es' clock) } := by
      intro r es' hf he
      rw [hexec]
      unfold Builtin.delete_
      cases r with
      | none => subst he; simp [hv, show (cx w0 ρ s w).ρ k = _ from hbk, ey, Sem.run_bind, run_underlying hu, Result.andThen_ok, Go.MapKept.run_getObj_map hb, je hku, Go.MapKept.run_findKey hku hf, Go.MapKept.run_setObj_map _ hb, Sem.run_pure]
      | some jv => subst he; simp [hv, show (cx w0 ρ s w).ρ k = _ from hbk, ey, Sem.run_bind, run_underlying hu, Result.andThen_ok, Go.MapKept.run_getObj_map hb, je hku, Go.MapKept.run_findKey hku hf, Go.MapKept.run_setObj_map _ hb, Sem.run_pure]
     rcases yW (i := i) 0 hmc with ⟨f1, f2, f3, f4⟩ | ⟨j, e0, y0, f1, f2, f3, f4, f5, f6, f7⟩
     ·refine .inl ⟨_, _, hrun none _ f1 rfl, pf (he := .map kk2 u (vg u xs i)) h hk hbk hb (fun w' hw' hle => ⟨b, _, _, hbk, hw', ?_⟩) (sv := .gB []) (fun c => ⟨_, rfl, rfl⟩) hR⟩
      exact (congrArg (iP _ kk2 u es.toList) f3).mpr (hmc.mono hle)
     ·rw [Nat.zero_add] at f1
      refine .inl ⟨_, _, hrun _ _ f1 rfl, pf (he := .map kk2 u (vg u xs i)) h hk hbk hb (fun w' hw' hle => ⟨b, _, _, hbk, hw', ?_⟩) (sv := .gB []) (fun c => ⟨_, rfl, rfl⟩) hR⟩
      have : (es.eraseIdxIfInBounds j).toList = es.toList.eraseIdx j := by simp
      rw [this]
      exact f6 _ (hmc.mono hle)
   ·cases hs
 ·cases hs
theorem zM {args : Array Operand} {ts : Array TypeId} {x : Operand} {t : TypeId} {p : Option Prop} {R : Act → World → Prop} (hE : aY P E) (h : Ok w0 ρ s a w)
  (ho : o.op = .call { callee := .builtin .len, args := args, argTypes := ts }) (ha : args.toList = [x]) (ht : ts.toList = [t])
  (hs : oN E s o.dst t (ev s x) = some (p, s')) (hp : l6 p) (hR : Up w0 s' R) : bD P o a w R := by
 have ea : args = #[x] := by apply Array.ext'; simpa using ha
 have et : ts = #[t] := by apply Array.ext'; simpa using ht
 subst ea; subst et
 unfold oN at hs
 split at hs
 ·rename_i kkei k hmt hx
  obtain ⟨kk, ei⟩ := kkei
  obtain ⟨kt, et, hu, hku, hT, hag⟩ := qj hE hmt
  split at hs
  ·rename_i kk2 u xs hk
   simp only [Option.some.injEq, Prod.mk.injEq] at hs
   obtain ⟨rfl, rfl⟩ := hs
   have hp : xs.length ≤ 9223372036854775807 := hp
   have hv := h.ev x
   rw [hx] at hv
   obtain ⟨_, hv, _⟩ := aK.bb rfl (by simp) hv
   simp only [List.cons.injEq, and_true] at hv
   obtain ⟨b, es, clock, hbk, hb, hmc⟩ := h.heap k _ hk
   have hbk : ρ k = .map (some b) := hbk
   have hb : w.heap[b]? = some (.map es clock) := hb
   have hlen : es.size = xs.length := by have := hmc.len; simpa using this
   refine ae (m := Builtin.len_ #[t] o.type (#[x].map a.eval)) h (bG ho) ?_ (fH (k := .i64) (n := (xs.length : Int)) ⟨by omega, by omega⟩) hR
   simp [Builtin.len_, run_underlying hu, hv, show (cx w0 ρ s w).ρ k = _ from hbk, Go.MapKept.run_getObj_map hb, goInt, hlen]
  ·cases hs
 ·cases hs
end
end Go.Sx
/-
 Sx, part MC: views of a slice of our own: appended to in place, cleared, sliced on.
-/
set_option linter.unusedSimpArgs false
namespace Go.Sx
open Go.RowKit

section
variable {P : Program} {E : Env} {w0 : cz} {w : World} {ρ : Nat → Value} {s s' : St} {a : Act} {o : Oper}

theorem vE {S : Nat → Prop} {u : Ty} {z : Array Value} (n : Nat) (hz : z.toList = cellsD u u.zero) (hf : ig u u.zero = true) :
  Rd S w (.arr n u) (madeCells z (n * u.size)).toList (List.replicate n u.zero) := by
 have hzl : z.size = u.size := by rw [← gY hf, ← hz]; simp
 refine ⟨by simp, by simp [madeCells], fun i x hx => ?_⟩
 rw [List.getElem?_replicate] at hx
 split at hx
 case isFalse => cases hx
 rename_i hi
 injection hx with hx
 subst hx
 have hle : (i + 1) * u.size ≤ n * u.size := Nat.mul_le_mul_right _ hi
 rw [Nat.add_mul, Nat.one_mul] at hle
 have e : ((madeCells z (n * u.size)).toList.drop (i * u.size)).take u.size = cellsD u u.zero := by
  rw [← hz]
  apply List.ext_getElem?
  intro k
  rw [dy]
  by_cases hk : k < u.size
  ·have hlt : i * u.size + k < n * u.size := by omega
   have hmod : (i * u.size + k) % z.size = k := by rw [hzl, Nat.mul_comm, Nat.mul_add_mod, Nat.mod_eq_of_lt hk]
   rw [if_pos hk]
   have hkz : k < z.size := by omega
   simp [madeCells, hlt, hmod, hkz]
  ·rw [if_neg hk, List.getElem?_eq_none (by simp; omega)]
 rw [e]
 exact jx hf


theorem C2 {S : Nat → Prop} {w : World} {u : Ty} {xs zs : List u.D} {cur news : List Value} {q cp i0 : Nat} (hcp : xs.length ≤ cp) (hfit : q + cp * u.size ≤ cur.length)
  (hi : i0 + zs.length ≤ xs.length) (hr : ∀ (i : Nat) x, xs[i]? = some x → Rd S w u ((cur.drop (q + i * u.size)).take u.size) x) (hn : Rd S w (.arr zs.length u) news zs) :
  ∀ (i : Nat) x, (xs.take i0 ++ (zs ++ xs.drop (i0 + zs.length)))[i]? = some x → Rd S w u (((aI cur (q + i0 * u.size) news).drop (q + i * u.size)).take u.size) x := by
 intro i x hx
 have hnl : news.length = zs.length * u.size := hn.2.1
 have hle0 : (i0 + zs.length) * u.size ≤ cp * u.size := Nat.mul_le_mul_right _ (by omega)
 rw [Nat.add_mul] at hle0
 have hsp : q + i0 * u.size + news.length ≤ cur.length := by omega
 have htl : (xs.take i0).length = i0 := by rw [List.length_take]; omega
 rcases Nat.lt_or_ge i i0 with h1 | h1
 ·rw [List.getElem?_append_left (by omega), List.getElem?_take, if_pos h1] at hx
  have hle : (i + 1) * u.size ≤ i0 * u.size := Nat.mul_le_mul_right _ h1
  rw [Nat.add_mul, Nat.one_mul] at hle
  rw [cD hsp (.inl (by omega))]
  exact hr i x hx
 ·rw [List.getElem?_append_right (by omega), htl] at hx
  rcases Nat.lt_or_ge (i - i0) zs.length with h2 | h2
  ·rw [List.getElem?_append_left h2] at hx
   have hpc := hn.2.2 _ x hx
   have hle : (i - i0 + 1) * u.size ≤ zs.length * u.size := Nat.mul_le_mul_right _ h2
   rw [Nat.add_mul, Nat.one_mul, Nat.sub_mul] at hle
   have hle3 : i0 * u.size ≤ i * u.size := Nat.mul_le_mul_right _ h1
   rw [Nat.sub_mul] at hpc
   have e5 : ((aI cur (q + i0 * u.size) news).drop (q + i * u.size)).take u.size = (news.drop (i * u.size - i0 * u.size)).take u.size := by
    apply List.ext_getElem?
    intro j
    rw [dy, dy]
    by_cases hj : j < u.size
    ·rw [if_pos hj, if_pos hj, cH hsp, if_neg (by omega), if_pos (by omega)]
     congr 1; omega
    ·rw [if_neg hj, if_neg hj]
   rw [e5]; exact hpc
  ·rw [List.getElem?_append_right h2, List.getElem?_drop] at hx
   rw [show i0 + zs.length + (i - i0 - zs.length) = i from by omega] at hx
   have hle : (i0 + zs.length) * u.size ≤ i * u.size := Nat.mul_le_mul_right _ (by omega)
   rw [Nat.add_mul] at hle
   rw [cD hsp (.inr (by omega))]
   exact hr i x hx
theorem n5 {u : Ty} {xs zs : List u.D} {i0 : Nat} (hi : i0 + zs.length ≤ xs.length) : (xs.take i0 ++ (zs ++ xs.drop (i0 + zs.length))).length = xs.length := by
 simp only [List.length_append, List.length_take, List.length_drop]
 omega
theorem Ok.J9 (h : Ok w0 ρ s a w) {k b q cp i0 : Nat} {u : Ty} {xs zs : List u.D} {cur : Array Value} {e : TypeId} {news : List Value} (hk : s.hp k = some (.row u xs)) (hρ : ρ k = .slice (some ⟨b, q, none⟩) xs.length cp)
  (hb : w.heap[b]? = some (.cells cur e (0, 0))) (h1 : xs.length ≤ cp) (h2 : cp ≤ maxLen) (h3 : q + cp * u.size ≤ cur.size)
  (hr : ∀ (i : Nat) x, xs[i]? = some x → Rd (dE w0 ρ s.hp w) w u ((cur.toList.drop (q + i * u.size)).take u.size) x) (hn : Rd (dE w0 ρ s.hp w) w (.arr zs.length u) news zs) (hi : i0 + zs.length ≤ xs.length) :
  Ok w0 ρ (s.fY k (.row u (xs.take i0 ++ (zs ++ xs.drop (i0 + zs.length))))) a (w.setRow b (aI cur.toList (q + i0 * u.size) news).toArray) := by
 have hbk : bO (ρ k) = some b := by rw [hρ]; rfl
 have hbz := h.fresh k _ b hk hbk
 have hold : ∀ b', bO (ρ k) ≠ some b' → (w.setRow b (aI cur.toList (q + i0 * u.size) news).toArray).heap[b']? = w.heap[b']? := fun b' hne =>
  setRow_other w b b' _ (fun e => hne (by rw [hbk, e]))
 have hle := r5 (w0 := w0) (ρ := ρ) (s := s) (he := .row u (xs.take i0 ++ (zs ++ xs.drop (i0 + zs.length)))) ⟨_, hk⟩ (by simp) hold
 have hnl : news.length = zs.length * u.size := hn.2.1
 have hcur : cur.toList.length = cur.size := by simp
 have hmul : (i0 + zs.length) * u.size ≤ cp * u.size := Nat.mul_le_mul_right _ (by omega)
 rw [Nat.add_mul] at hmul
 refine h.fY hk (ml w b _ _ hbz.1) hold (.inr ⟨b, q, cp, _, e, by rw [n5 hi]; exact hρ, setRow_heap w b cur _ e _ hb, by rw [n5 hi]; exact h1, h2, by
  simp only [List.size_toArray]; rw [dp (by omega), hcur]; exact h3, ?_⟩)
 exact C2 h1 (by rw [hcur]; exact h3) hi (fun i x hx => Rd.mono hle.keep (hr i x hx)) (Rd.mono hle.keep hn)

theorem A8 {lo hi : Option Operand} {n c : Nat} {l h : Int} (h0 : Ok w0 ρ s a w) (hl : aH 0 (lo.map (ev s)) = some l) (hh : aH (n : Int) (hi.map (ev s)) = some h)
  (hb : (0 ≤ l ∧ l ≤ h) ∧ h ≤ (c : Int)) : (Instr.sliceBounds true n c (lo.map a.eval) (hi.map a.eval) none).run P w = .ok (l.toNat, h.toNat, c) w := by
 unfold Instr.sliceBounds
 have hb1 : ∀ x, aH (n : Int) ((some x : Option Operand).map (ev s)) = some h → ∃ k, a.eval x = .int k h := fun x e => by
  simp only [Option.map_some, aH] at e
  split at e
  ·rename_i k i e1
   injection e with e
   subst e
   exact ⟨k, a8 (h0.ev x) e1⟩
  ·cases e
 have hb2 : ∀ x, aH 0 ((some x : Option Operand).map (ev s)) = some l → ∃ k, a.eval x = .int k l := fun x e => by
  simp only [Option.map_some, aH] at e
  split at e
  ·rename_i k i e1
   injection e with e
   subst e
   exact ⟨k, a8 (h0.ev x) e1⟩
  ·cases e
 cases hi with
 | none =>
  simp only [Option.map_none, aH, Option.some.injEq] at hh
  subst hh
  cases lo with
  | none =>
   simp only [Option.map_none, aH, Option.some.injEq] at hl
   subst hl
   simp
  | some x =>
   obtain ⟨k, ex⟩ := hb2 x hl
   simp only [Option.map_some, Option.map_none, ex, Sem.run_bind, Sem.run_pure, Result.andThen_ok]
   rw [aN k l n _ (by omega)]
   simp
 | some y =>
  obtain ⟨k, ey⟩ := hb1 y hh
  cases lo with
  | none =>
   simp only [Option.map_none, aH, Option.some.injEq] at hl
   subst hl
   simp only [Option.map_some, Option.map_none, ey, Sem.run_bind, Sem.run_pure, Result.andThen_ok]
   rw [aN k h c _ (by omega)]
   simp
  | some x =>
   obtain ⟨k', ex⟩ := hb2 x hl
   simp only [Option.map_some, ex, ey, Sem.run_bind, Sem.run_pure, Result.andThen_ok]
   rw [aN k h c _ (by omega)]
   simp only [Result.andThen_ok]
   rw [aN k' l h.toNat _ (by omega)]
   simp

theorem zI {t e : TypeId} {ei : TI} {A : Option Addr} {lo hi : Option Operand} {n c : Nat} {l h : Int} {x : Value} (h0 : Ok w0 ρ s a w) (hk : P.underlying t = some (.slice e)) (hT : aa P e ei)
  (hx : x = .slice A n c) (hl : aH 0 (lo.map (ev s)) = some l) (hh : aH (n : Int) (hi.map (ev s)) = some h) (hb : (0 ≤ l ∧ l ≤ h) ∧ h ≤ (c : Int)) :
  (Instr.sliceAt t x (lo.map a.eval) (hi.map a.eval) none).run P w = .ok (.slice (if c = l.toNat then A else A.map (·.add (l.toNat * ei.size))) (h.toNat - l.toNat) (c - l.toNat)) w := by
 subst hx
 unfold Instr.sliceAt
 simp only [Sem.run_bind, run_underlying hk, Result.andThen_ok]
 unfold Instr.slice
 simp only [Sem.run_bind, run_underlying hk, Result.andThen_ok, A8 h0 hl hh hb, hT.dA, Sem.run_pure]

theorem K8 {A : Option Addr} {cp sz n : Nat} (hA : n = 0 ∨ ∃ bl o, A = some ⟨bl, o, none⟩) (hA0 : n = 0 → A = none ∨ ∃ bl o, A = some ⟨bl, o, none⟩) : (if cp = 0 then A else A.map (·.add (0 * sz))) = A := by
 by_cases hc : cp = 0
 ·rw [if_pos hc]
 ·rw [if_neg hc, Nat.zero_mul]
  have : A = none ∨ ∃ bl o, A = some ⟨bl, o, none⟩ := by
   rcases hA with h | h
   ·exact hA0 h
   ·exact .inr h
  rcases this with rfl | ⟨bl, o, rfl⟩
  ·rfl
  ·simp [Addr.add_lit]
theorem tX (h : Ok w0 ρ s a w) {k : Nat} {u : Ty} {xs : List u.D} (hk : s.hp k = some (.row u xs)) :
  (ρ k = .slice none 0 0 ∧ xs = []) ∨ ∃ b q cp cur e, ρ k = .slice (some ⟨b, q, none⟩) xs.length cp ∧ w.heap[b]? = some (.cells cur e (0, 0)) ∧ xs.length ≤ cp ∧ cp ≤ maxLen ∧
    q + cp * u.size ≤ cur.size ∧ ∀ (i : Nat) x, xs[i]? = some x → Rd (dE w0 ρ s.hp w) w u ((cur.toList.drop (q + i * u.size)).take u.size) x := h.heap k _ hk

theorem F5 {t : TypeId} {x : Operand} {lo hi : Option Operand} {k : Nat} {p : Option Prop} {R : Act → World → Prop} (hE : aY P E) (h : Ok w0 ρ s a w) (ho : o.op = .slice t x lo hi none)
  (hs : uI E s k o.dst t (ev s x) (lo.map (ev s)) (hi.map (ev s)) = some (p, s')) (hp : l6 p) (hR : Up w0 s' R) : bD P o a w R := by
 unfold uI at hs
 split at hs
 ·rename_i kk k1 sz a1 b1 hxx
  have hexec : execOp a.eval o = (do pure (.value (← Instr.sliceAt t (a.eval x) (lo.map a.eval) (hi.map a.eval) none))) := by simp [execOp, ho]
  split at hs
  ·rename_i t' xs' hkk
   cases hg : (!(cM E t t' && Nat.beq t'.size sz && Nat.beq a1 0) || s.us k) with
   | true => rw [hg] at hs; cases hs
   | false =>
    rw [hg] at hs
    simp only [cond_false] at hs
    simp only [Bool.or_eq_false_iff, Bool.not_eq_false', Bool.and_eq_true] at hg
    obtain ⟨⟨⟨hg1, hg2⟩, hg3⟩, hus⟩ := hg
    have hz2 := Nat.eq_of_beq_eq_true hg2
    have ha0 := Nat.eq_of_beq_eq_true hg3
    subst hz2; subst ha0
    obtain ⟨e, ei, hk, hT, hz⟩ := lA hE hg1
    split at hs
    ·rename_i l hh hl0 hh0
     simp only [Option.some.injEq, Prod.mk.injEq] at hs
     obtain ⟨rfl, rfl⟩ := hs
     have hp : (0 ≤ l ∧ l ≤ hh) ∧ hh ≤ (xs'.length : Int) := hp
     have hx := h.ev x
     rw [hxx] at hx
     obtain ⟨hu, hu1, h1, A, n, cp, h2, ⟨hA, hnc⟩, ⟨_, hbn⟩, h3⟩ := aK.bb rfl (by simp) hx
     simp only [List.cons.injEq, and_true] at h1
     have h2 : ρ kk = .slice A n cp := h2
     have hform : n = xs'.length ∧ (A = none ∨ ∃ bl o, A = some ⟨bl, o, none⟩) := by
      rcases tX h hkk with ⟨h4, rfl⟩ | ⟨b, q, cp', cur, e', h4, _⟩
      ·rw [h4] at h2; cases h2; exact ⟨rfl, .inl rfl⟩
      ·rw [h4] at h2; cases h2; exact ⟨rfl, .inr ⟨b, q, rfl⟩⟩
     obtain ⟨hn, hA2⟩ := hform
     rw [K8 hA (fun _ => hA2), Nat.sub_zero, Nat.sub_zero] at h3
     have h3 : ρ k1 = .slice A b1 cp := h3
     have hrun := zI (lo := lo) (hi := hi) h hk hT (A := A) (n := b1) (c := cp) (x := a.eval x) (by rw [h1]; exact h3) hl0 hh0 (by omega)
     have hne : kk ≠ k := fun e => by have hu : s.us kk = true := hu; rw [e, hus] at hu; cases hu
     generalize hv : Value.slice (if cp = l.toNat then A else A.map (·.add (l.toNat * ei.size))) (hh.toNat - l.toNat) (cp - l.toNat) = v at hrun
     have e3 : bF ρ k v k = v := aw _ _ _
     have e4 : bF ρ k v kk = .slice A n cp := by rw [aR _ _ hne]; exact h2
     exact .inl ⟨v, w, by rw [hexec]; simp only [Sem.run_bind, hrun, Result.andThen_ok, Sem.run_pure], hR _ _ _ ((h.use (k := k) (v := v) hus).put o.dst (aK.ki (p := .sub kk k t'.size l.toNat hh.toNat) rfl
      ⟨ib hu, bA _ _, by show [v] = [bF ρ k v k]; rw [e3], A, n, cp, e4, ⟨hA, hnc⟩, ⟨by omega, by omega⟩, by show bF ρ k v k = _; rw [e3, ← hv, hz]⟩))⟩
    ·cases hs
  ·cases hs
 ·exact H6 hE h ho hs hp hR

theorem yy {args : Array Operand} {ts : Array TypeId} {x y : Operand} {t : TypeId} {k' : Nat} {p : Option Prop} {R : Act → World → Prop} (hE : aY P E) (h : Ok w0 ρ s a w)
  (ho : o.op = .call { callee := .builtin .append, args := args, argTypes := ts }) (ha : args.toList = [x, y]) (ht : ts.toList = [t, t])
  (hs : kQ E s k' o.dst t (ev s x) (ev s y) = some (p, s')) (hp : l6 p) (hR : Up w0 s' R) : bD P o a w R := by
 unfold kQ at hs
 split at hs
 ·rename_i kk k1 sz' a1 b1 hxx
  have ea : args = #[x, y] := by apply Array.ext'; simpa using ha
  have et : ts = #[t, t] := by apply Array.ext'; simpa using ht
  subst ea; subst et
  have hexec : execOp a.eval o = (do pure (.value (← Builtin.append_ #[t, t] o.type #[a.eval x, a.eval y]))) := by rw [bG ho]; simp [builtin]
  split at hs
  ·rename_i e _ _ hti
   have hk := (hE t _ hti).kind
   split at hs
   ·rename_i sz by_ kd z u hei
    have hT := hE e _ hei
    split at hs
    ·rename_i u' ys0 u2 xs0 hyy hkk
     split at hs
     ·rename_i ys xs hys hxs
      obtain ⟨e2, e3⟩ := du hys
      injection e2 with e2
      subst e2
      have e3 : ys0 = ys := e3
      subst e3
      obtain ⟨e2, e3⟩ := du hxs
      injection e2 with e2
      subst e2
      have e3 : xs0 = xs := e3
      subst e3
      cases hb : (!(Nat.beq u2.size sz && Nat.beq sz' sz && Nat.beq a1 0) || s.us k') with
      | true => rw [hb] at hs; cases hs
      | false =>
       rw [hb] at hs
       simp only [cond_false, Option.some.injEq, Prod.mk.injEq] at hs
       obtain ⟨rfl, rfl⟩ := hs
       have hp : b1 + ys0.length ≤ xs0.length := hp
       simp only [Bool.or_eq_false_iff, Bool.not_eq_false', Bool.and_eq_true] at hb
       obtain ⟨⟨⟨hb1, hb2⟩, hb3⟩, hus⟩ := hb
       have hsz := Nat.eq_of_beq_eq_true hb1
       have hsz' := Nat.eq_of_beq_eq_true hb2
       have ha0 := Nat.eq_of_beq_eq_true hb3
       subst hsz; subst hsz'; subst ha0
       obtain ⟨A2, c2, news, hy1, hy2, hy3, hrd, hy5⟩ := uB h (h.ev y) hyy
       have hsrc : Src w ys0.length (a.eval y) news := ⟨⟨A2, c2, hy1, hy5⟩, fun h0 => by
        have := hrd.2.1
        rw [h0] at this
        exact List.eq_nil_of_length_eq_zero (by simpa using this)⟩
       have hnl : news.length = ys0.length * u2.size := hrd.2.1
       have hn1 := Rd.one hrd
       have hx := h.ev x
       rw [hxx] at hx
       obtain ⟨hu, hu1, h1, A, n, cp, h2, ⟨hA, hnc⟩, ⟨_, hbn⟩, h3⟩ := aK.bb rfl (by simp) hx
       simp only [List.cons.injEq, and_true] at h1
       have h2 : ρ kk = .slice A n cp := h2
       have hne : kk ≠ k' := fun e => by have hu : s.us kk = true := hu; rw [e, hus] at hu; cases hu
       rcases tX h hkk with ⟨h4, rfl⟩ | ⟨b, q, cp', cur, e', h4, hheap, h5, h6, h7, h8⟩
       ·-- nothing and nothing
        rw [h4] at h2
        cases h2
        have hy0 : ys0 = [] := List.eq_nil_of_length_eq_zero (by simp only [List.length_nil] at hp; omega)
        have hb0 : b1 = 0 := by simp only [List.length_nil] at hp; omega
        subst hy0; subst hb0
        have hx0 : a.eval x = .slice none 0 0 := by rw [h1]; exact h3
        have hrun := iH (ty := o.type) hk hT hsrc
        have hupd : Ok w0 ρ (s.fY kk (.row u2 [])) a w := by
         refine h.fY hkk (Below.refl _ _) (fun _ _ => rfl) (.inl ⟨h4, rfl⟩)
        have hok := hupd.use (k := k') (v := .slice none 0 0) hus
        have e3 : bF ρ k' (.slice none 0 0) k' = .slice none 0 0 := aw _ _ _
        refine bD.Hg (hexec.trans (by rw [hx0])) hrun (hR _ _ _ (hok.put o.dst (aK.ki (p := .sub kk k' u2.size 0 (0 + ([] : List u2.D).length)) rfl
         ⟨ib hu, bA _ _, by show [_] = [bF ρ k' _ k']; rw [e3], none, 0, 0, by show bF ρ k' _ kk = _; rw [aR _ _ hne]; exact h4, ⟨.inl rfl, Nat.le_refl _⟩, ⟨by simp, by simp⟩, by show bF ρ k' _ k' = _; rw [e3]; simp⟩)))
       ·rw [h4] at h2
        cases h2
        rw [K8 hA (fun _ => .inr ⟨b, q, rfl⟩), Nat.sub_zero, Nat.sub_zero] at h3
        have hx0 : a.eval x = .slice (some ⟨b, q, none⟩) b1 cp := by rw [h1]; exact h3
        have hmul : (b1 + ys0.length) * u2.size ≤ cp * u2.size := Nat.mul_le_mul_right _ (by omega)
        rw [Nat.add_mul] at hmul
        have hrun := lY (ty := o.type) (e' := e') hk hT hx0 hheap hsrc hnl hn1 (by omega) (by show q + b1 * u2.size + news.length ≤ cur.size; omega)
        have hok1 := h.J9 hkk h4 hheap h5 h6 h7 h8 hrd hp
        have hok := hok1.use (k := k') (v := .slice (some ⟨b, q, none⟩) (b1 + ys0.length) cp) hus
        have e3 : bF ρ k' (.slice (some ⟨b, q, none⟩) (b1 + ys0.length) cp) k' = .slice (some ⟨b, q, none⟩) (b1 + ys0.length) cp := aw _ _ _
        refine bD.Hg hexec hrun (hR _ _ _ (hok.put o.dst (aK.ki (p := .sub kk k' u2.size 0 (b1 + ys0.length)) rfl
         ⟨ib hu, bA _ _, by show [_] = [bF ρ k' _ k']; rw [e3], some ⟨b, q, none⟩, xs0.length, cp, by show bF ρ k' _ kk = _; rw [aR _ _ hne]; exact h4, ⟨.inr ⟨b, q, rfl⟩, h5⟩, ⟨by omega, hp⟩, by
          show bF ρ k' _ k' = _
          rw [e3, K8 (n := xs0.length) (.inr ⟨b, q, rfl⟩) (fun _ => .inr ⟨b, q, rfl⟩), Nat.sub_zero, Nat.sub_zero]⟩)))
     ·cases hs
    ·cases hs
   ·cases hs
  ·cases hs
 ·exact BB hE h ho ha ht hs hp hR

theorem C1 {args : Array Operand} {ts : Array TypeId} {x : Operand} {t : TypeId} {p : Option Prop} {R : Act → World → Prop} (hE : aY P E) (h : Ok w0 ρ s a w)
  (ho : o.op = .call { callee := .builtin .clear, args := args, argTypes := ts }) (ha : args.toList = [x]) (ht : ts.toList = [t])
  (hs : r9 E s o.dst t (ev s x) = some (p, s')) (hR : Up w0 s' R) : bD P o a w R := by
 have ea : args = #[x] := by apply Array.ext'; simpa using ha
 have et : ts = #[t] := by apply Array.ext'; simpa using ht
 subst ea; subst et
 unfold r9 at hs
 split at hs
 ·rename_i kk k1 sz' a1 b1 hxx
  have hexec : execOp a.eval o = (do pure (.value (← Builtin.clear_ #[t] o.type #[a.eval x]))) := by rw [bG ho]; simp [builtin]
  split at hs
  ·rename_i e _ _ hti
   have hk := (hE t _ hti).kind
   split at hs
   ·rename_i sz by_ kd z u hei
    have hT := hE e _ hei
    obtain ⟨hu1, hu2, hu3, hu4⟩ := hT.ty
    split at hs
    ·rename_i u2 xs0 hkk
     split at hs
     ·rename_i xs hxs
      obtain ⟨e2, e3⟩ := du hxs
      injection e2 with e2
      subst e2
      have e3 : xs0 = xs := e3
      subst e3
      cases hb : (!(Nat.beq u2.size sz && Nat.beq sz' sz)) with
      | true => rw [hb] at hs; cases hs
      | false =>
       rw [hb] at hs
       simp only [cond_false, ok, Option.some.injEq, Prod.mk.injEq] at hs
       obtain ⟨_, rfl⟩ := hs
       simp only [Bool.not_eq_false', Bool.and_eq_true] at hb
       have hsz := Nat.eq_of_beq_eq_true hb.1
       have hsz' := Nat.eq_of_beq_eq_true hb.2
       subst hsz; subst hsz'
       have hx := h.ev x
       rw [hxx] at hx
       obtain ⟨hu, _, h1, A, n, cp, h2, ⟨hA, hnc⟩, ⟨hab, hbn⟩, h3⟩ := aK.bb rfl (by simp) hx
       simp only [List.cons.injEq, and_true] at h1
       have h2 : ρ kk = .slice A n cp := h2
       have hx0 := h1.trans h3
       have hkeep : b1 - a1 = 0 → xs0.take a1 ++ (List.replicate (b1 - a1) u2.zero ++ xs0.drop (a1 + (b1 - a1))) = xs0 := fun h0 => by
        rw [h0, List.replicate_zero, List.nil_append, Nat.add_zero, List.take_append_drop]
       rcases Nat.eq_zero_or_pos (b1 - a1) with h0 | hpos
       ·-- nothing is cleared
        rw [hkeep h0] at hR
        have hrun : (Builtin.clear_ #[t] o.type #[a.eval x]).run P w = .ok (.tuple #[]) w := by
         rw [hx0, h0]
         unfold Builtin.clear_
         simp only [List.getElem?_toArray, List.getElem?_cons_zero, Sem.run_bind, run_underlying hk, Result.andThen_ok]
         generalize (if cp = a1 then A else A.map (·.add (a1 * u2.size))) = B
         cases B <;> simp [Sem.run_pure]
        have hsame : Ok w0 ρ (s.fY kk (.row u2 xs0)) a w := h.fY hkk (Below.refl _ _) (fun _ _ => rfl) (by
         have := h.heap kk _ hkk
         exact rv.mono (r5 ⟨_, hkk⟩ (Nat.le_refl _) (fun _ _ => rfl)) hu (fun _ _ => rfl) this)
        exact bD.Hg hexec hrun (hR _ _ _ (hsame.put o.dst (kz _)))
       ·rcases tX h hkk with ⟨h4, rfl⟩ | ⟨b, q, cp', cur, e', h4, hheap, h5, h6, h7, h8⟩
        ·rw [h4] at h2
         cases h2
         omega
        ·rw [h4] at h2
         cases h2
         have hne : ¬ cp = a1 := by omega
         rw [if_neg hne, Option.map_some, Addr.add_lit] at hx0
         obtain ⟨i, zv, hi1, hi2, hi3, hi4, hi5⟩ := hT.info
         obtain ⟨z', hz1, hz2⟩ := hT.kV w
         have hmade := vE (S := dE w0 ρ s.hp w) (w := w) (z := z'.cells) (b1 - a1) (hz2.trans hu4.symm) hu3
         have hzl : z'.cells.size = u2.size := by
          have := hT.size
          rw [← hz2] at this; simpa using this
         have hzc : Builtin.zeroCells z'.cells (b1 - a1) = Go.madeCells z'.cells ((b1 - a1) * u2.size) := by
          unfold Builtin.zeroCells Go.madeCells
          rw [hzl]
         have hml := hmade.2.1
         have hm1 := Rd.one hmade
         have hmul : (a1 + (b1 - a1)) * u2.size ≤ cp * u2.size := Nat.mul_le_mul_right _ (by omega)
         rw [Nat.add_mul] at hmul
         have hst := run_storeCells_at P b (q + a1 * u2.size) e' (Go.madeCells z'.cells ((b1 - a1) * u2.size)).toList 0 cur w hheap (by rw [hml]; omega) hm1
         simp only [Nat.add_zero] at hst
         have hrun : (Builtin.clear_ #[t] o.type #[a.eval x]).run P w = .ok (.tuple #[]) (w.setRow b (aI cur.toList (q + a1 * u2.size) (Go.madeCells z'.cells ((b1 - a1) * u2.size)).toList).toArray) := by
          rw [hx0]
          unfold Builtin.clear_
          obtain ⟨m, hm⟩ : ∃ m, b1 - a1 = m + 1 := ⟨b1 - a1 - 1, by omega⟩
          rw [hm] at hst hzc
          rw [hm]
          simp [Sem.run_bind, run_underlying hk, Result.andThen_ok, hz1, hzc, hst, aI]
         have hrl : (List.replicate (b1 - a1) u2.zero).length = b1 - a1 := List.length_replicate
         have hmade' : Rd (dE w0 ρ s.hp w) w (.arr (List.replicate (b1 - a1) u2.zero).length u2) (Go.madeCells z'.cells ((b1 - a1) * u2.size)).toList (List.replicate (b1 - a1) u2.zero) := by
          rw [hrl]; exact hmade
         have hok1 := h.J9 (i0 := a1) hkk h4 hheap h5 h6 h7 h8 hmade' (by rw [hrl]; omega)
         rw [hrl] at hok1
         exact bD.Hg hexec hrun (hR _ _ _ (hok1.put o.dst (kz _)))
     ·cases hs
    ·cases hs
   ·cases hs
  ·cases hs
 ·cases hs

theorem zo {t : TypeId} {x : Operand} {lo hi : Option Operand} {mx : Operand} {p : Option Prop} {R : Act → World → Prop} (hE : aY P E) (h : Ok w0 ρ s a w) (ho : o.op = .slice t x lo hi (some mx))
  (hs : oD E s o.dst t (ev s x) (lo.map (ev s)) (hi.map (ev s)) (ev s mx) = some (p, s')) (hp : l6 p) (hR : Up w0 s' R) : bD P o a w R := by
 unfold oD at hs
 split at hs
 ·rename_i kk hxx
  have hexec : execOp a.eval o = (do pure (.value (← Instr.sliceAt t (a.eval x) (lo.map a.eval) (hi.map a.eval) (some (a.eval mx))))) := by simp [execOp, ho]
  split at hs
  ·rename_i u xs hkk
   cases hso : cM E t u with
   | false => rw [hso] at hs; cases hs
   | true =>
   rw [hso] at hs
   simp only [Bool.not_true, cond_false] at hs
   obtain ⟨e, ei, hk, hT, hz⟩ := lA hE hso
   split at hs
   ·rename_i l kh hh km m hl0 hh0 hm0
    cases hi with
    | none => cases hh0
    | some hi =>
    simp only [Option.map_some] at hh0
    simp only [Option.some.injEq, Prod.mk.injEq] at hs
    obtain ⟨rfl, rfl⟩ := hs
    have hp : ((0 ≤ l ∧ l ≤ hh) ∧ hh ≤ m) ∧ m ≤ (xs.length : Int) := hp
    have ehi := a8 (h.ev hi) hh0
    have emx := a8 (h.ev mx) hm0
    have hx := h.ev x
    rw [hxx] at hx
    obtain ⟨A, c, h1, h2, _⟩ := Bn (t := u) (xs := xs) h (h.ev x) (by rw [hxx]; simp only [uV, hkk])
    have hbd := s7 (P := P) (lo := lo) (hi := hi) (mx := mx) (n := xs.length) (c := c) h hl0 ehi emx hp h2
    have hrun : (Instr.sliceAt t (a.eval x) (lo.map a.eval) ((some hi).map a.eval) (some (a.eval mx))).run P w = .ok (.slice (if m.toNat = l.toNat then A else A.map (·.add (l.toNat * ei.size))) (hh.toNat - l.toNat) (m.toNat - l.toNat)) w := by
     rw [h1]
     unfold Instr.sliceAt
     simp only [Sem.run_bind, run_underlying hk, Result.andThen_ok, Option.map_some]
     unfold Instr.slice
     simp only [Sem.run_bind, run_underlying hk, Result.andThen_ok, hbd, hT.dA, Sem.run_pure]
    exact ae h hexec hrun (kz _) hR
   ·cases hs
  ·cases hs
 ·exact zT hE h ho hs hp hR
end
end Go.Sx
/-
 Sx, part N: struct and slice literals, make, and the small operations; then all operations together.
-/
namespace Go.Sx
open Go.RowKit

theorem BO (l : List Value) (p : Nat) : aI l p [] = l := by simp [aI]
theorem Bm {l : List Value} {p : Nat} {v : Value} {vs : List Value} (h : p + (vs.length + 1) ≤ l.length) : aI (l.set p v) (p + 1) vs = aI l p (v :: vs) := by
 apply List.ext_getElem?
 intro k
 rw [cH (by simp; omega), cH (by simp; omega)]
 simp only [List.length_cons]
 by_cases h1 : k < p
 ·rw [if_pos (by omega), if_pos h1, List.getElem?_set_ne (by omega)]
 ·rw [if_neg h1]
  by_cases h2 : k = p
  ·subst h2
   rw [if_pos (by omega), if_pos (by omega), List.getElem?_set_self (by omega)]; simp
  ·rw [if_neg (by omega)]
   by_cases h3 : k < p + (vs.length + 1)
   ·rw [if_pos (by omega), if_pos h3, show k - p = (k - (p + 1)) + 1 by omega]; rfl
   ·rw [if_neg (by omega), if_neg h3, List.getElem?_set_ne (by omega)]
theorem rm (off : Nat) : ∀ (vs : List Value) (j : Nat) (cs : Array Value), off + j + vs.length ≤ cs.size →
  ((vs.zipIdx j).foldl (fun cs (x : Value × Nat) => cs.setIfInBounds (off + x.2) x.1) cs).toList = aI cs.toList (off + j) vs
 | [], j, cs, _ => by simp [BO]
 | v :: vs, j, cs, h => by
  simp only [List.length_cons] at h
  rw [List.zipIdx_cons, List.foldl_cons, rm off vs (j + 1) _ (by simp; omega), Array.toList_setIfInBounds]
  rw [← Nat.add_assoc, Bm (by simp; omega)]
theorem xp (place : Nat → Option (Nat × Nat)) (cells : Array Value) (i off n : Nat) (v : Value) (rest : List (Nat × Value)) (hp : place i = some (off, n)) (hn : v.cells.size = n) (hle : off + n ≤ cells.size) :
  ∃ cells', cells'.toList = aI cells.toList off v.cells.toList ∧ Instr.fill place cells ((i, v) :: rest) = Instr.fill place cells' rest := by
 refine ⟨v.cells.zipIdx.foldl (fun cs (x : Value × Nat) => cs.setIfInBounds (off + x.2) x.1) cells, ?_, ?_⟩
 ·rw [← Array.foldl_toList, Array.toList_zipIdx]
  have := rm off v.cells.toList 0 cells (by simp; omega)
  simpa using this
 ·have h1 : (decide (v.cells.size ≠ n) || decide (off + v.cells.size > cells.size)) = false := by simp [hn]; omega
  simp only [Instr.fill, hp]
  rw [if_neg (by simpa using h1)]

section
variable {P : Program} {E : Env} {w0 : cz} {w : World} {ρ : Nat → Value} {s s' : St} {a : Act} {o : Oper}

theorem xA {place place' : Nat → Option (Nat × Nat)} (hpl : ∀ i x, place i = some x → place' i = some x) (h : Ok w0 ρ s a w) :
  ∀ (parts : List (Nat × Operand)) (ps ps' : List PV) (cells : Array Value), b9 (cx w0 ρ s w) ps cells.toList → qA place ps (parts.map fun p => (p.1, ev s p.2)) = some ps' →
   ∃ cells', Instr.fill place' cells (parts.map fun p => (p.1, a.eval p.2)) = some cells' ∧ b9 (cx w0 ρ s w) ps' cells'.toList
 | [], ps, ps', cells, hc, hb => by
  simp only [List.map_nil, qA, Option.some.injEq] at hb
  subst hb
  exact ⟨cells, rfl, hc⟩
 | (i, x) :: parts, ps, ps', cells, hc, hb => by
  simp only [List.map_cons, qA] at hb
  split at hb
  ·rename_i off n qs hp hq
   split at hb
   ·rename_i ps1 fK
    obtain ⟨h1, h2, h3⟩ := qn fK hc (dZ (h.ev x) hq)
    obtain ⟨cells1, h4, h5⟩ := xp place' cells i off n (a.eval x) (parts.map fun p => (p.1, a.eval p.2)) (hpl _ _ hp) (by simpa using h2) (by simpa using h3)
    have h6 : b9 (cx w0 ρ s w) ps1 cells1.toList := by rw [h4]; simpa only [aI, h2] using h1
    obtain ⟨cells', h7, h8⟩ := xA hpl h parts ps1 ps' cells1 h6 hb
    exact ⟨cells', by rw [List.map_cons, h5, h7], h8⟩
   ·cases hb
  ·cases hb

theorem xG : ∀ (fs : List Field), (∀ f ∈ fs, ∃ ti, aa P f.type ti) → ∃ places, fs.mapM (fun f => (P.info? f.type).map fun i => (f.offset, i.size)) = some places ∧
  ∀ (i : Nat) f ti, fs[i]? = some f → aa P f.type ti → places[i]? = some (f.offset, ti.size)
 | [], _ => ⟨[], rfl, fun i f ti h => by simp at h⟩
 | f :: fs, h => by
  obtain ⟨ti, hT⟩ := h f (by simp)
  obtain ⟨i0, z, hi1, hi2, _⟩ := hT.info
  obtain ⟨places, hp, hq⟩ := xG fs (fun g hg => h g (by simp [hg]))
  refine ⟨(f.offset, i0.size) :: places, by simp [List.mapM_cons, hi1, hp], fun i g tj hg hTj => ?_⟩
  cases i with
  | zero =>
   simp only [List.getElem?_cons_zero, Option.some.injEq] at hg ⊢
   subst hg
   obtain ⟨i1, z1, hj1, hj2, _⟩ := hTj.info
   rw [hi1] at hj1
   injection hj1 with hj1
   rw [hj1, hj2]
  | succ i => exact hq i g tj (by simpa using hg) hTj

theorem vJ {u : Ty} {n : Nat} (h : Ok w0 ρ s a w) : ∀ (parts : List (Nat × Operand)) (xs xs' : List u.D) (cells : Array Value), Rd (dE w0 ρ s.hp w) w (.arr n u) cells.toList xs →
  rB u xs (parts.map fun p => (p.1, ev s p.2)) = some xs' → ∃ cells', Instr.fill (fun i => some (i * u.size, u.size)) cells (parts.map fun p => (p.1, a.eval p.2)) = some cells' ∧ Rd (dE w0 ρ s.hp w) w (.arr n u) cells'.toList xs'
 | [], xs, xs', cells, hc, hb => by
  simp only [List.map_nil, rB, Option.some.injEq] at hb
  subst hb
  exact ⟨cells, rfl, hc⟩
 | (i, x) :: parts, xs, xs', cells, hc, hb => by
  simp only [List.map_cons, rB] at hb
  split at hb
  ·rename_i ps hp
   split at hb
   ·rename_i y hy
    cases hlt : Nat.blt i xs.length with
    | false => rw [hlt] at hb; cases hb
    | true =>
     rw [hlt] at hb
     simp only [cond_true] at hb
     rw [Nat.blt_eq] at hlt
     have hr : Rd (dE w0 ρ s.hp w) w u (a.eval x).cells.toList y := fA (c := cx w0 ρ s w) hy (dZ (h.ev x) hp)
     have hin : i < n := by rw [← hc.1]; exact hlt
     have hle : (i + 1) * u.size ≤ n * u.size := Nat.mul_le_mul_right _ hin
     rw [Nat.add_mul, Nat.one_mul] at hle
     have hcl := hc.2.1
     have hrl := hr.len
     obtain ⟨cells1, h4, h5⟩ := xp (fun i => some (i * u.size, u.size)) cells i (i * u.size) u.size (a.eval x) (parts.map fun p => (p.1, a.eval p.2)) rfl (by simpa using hrl) (by simp at hcl; omega)
     have fK := Rd.set hc hin hr
     rw [← h4] at fK
     obtain ⟨cells', h7, h8⟩ := vJ h parts (xs.set i y) xs' cells1 fK hb
     exact ⟨cells', by rw [List.map_cons, h5, h7], h8⟩
   ·cases hb
  ·cases hb

theorem DF {t : TypeId} {parts : Array (Nat × Operand)} {p : Option Prop} {R : Act → World → Prop} (hE : aY P E) (h : Ok w0 ρ s a w) (ho : o.op = .build t parts)
  (hs : sG E s o.dst t (parts.toList.map fun p => (p.1, ev s p.2)) = some (p, s')) (hR : Up w0 s' R) : bD P o a w R := by
 unfold sG at hs
 split at hs
 ·rename_i sz by_ fs z ty hti
  have hT := hE t _ hti
  cases hall : fs.all (fun f => (E.info f.2).isSome) with
  | false => rw [hall] at hs; cases hs
  | true =>
  rw [hall] at hs
  simp only [Bool.not_true, cond_false] at hs
  split at hs
  ·rename_i ps hb
   simp only [ok, Option.some.injEq, Prod.mk.injEq] at hs
   obtain ⟨_, rfl⟩ := hs
   obtain ⟨F, hF, hfs⟩ := hT.kind
   obtain ⟨it, zv, hi1, hi2, hi3, hi4, hi5⟩ := hT.info
   have hz : zv.cells.toList = da z := by rw [hi5]; rfl
   have hall' : ∀ f ∈ F.toList, ∃ ti, aa P f.type ti := by
    intro f hf
    have hm : (f.offset, f.type) ∈ fs := by rw [← hfs]; exact List.mem_map.2 ⟨f, hf, rfl⟩
    have := List.all_eq_true.1 hall _ hm
    obtain ⟨ti, hti'⟩ := Option.isSome_iff_exists.1 this
    exact ⟨ti, hE _ _ hti'⟩
   obtain ⟨places, hp1, hp2⟩ := xG F.toList hall'
   have hpl : ∀ i x, fieldPlace? E fs i = some x → (places.toArray[·]?) i = some x := by
    intro i x hx
    unfold fieldPlace? at hx
    split at hx
    ·rename_i off ft hfi
     split at hx
     ·rename_i fi hfi2
      injection hx with hx
      subst hx
      rw [← hfs, List.getElem?_map, Option.map_eq_some_iff] at hfi
      obtain ⟨f, hf1, hf2⟩ := hfi
      simp only [Prod.mk.injEq] at hf2
      obtain ⟨rfl, rfl⟩ := hf2
      simpa using hp2 i f fi hf1 (hE _ _ hfi2)
     ·cases hx
    ·cases hx
   obtain ⟨cells', hf1, hf2⟩ := xA hpl h parts.toList z ps zv.cells (by rw [hz]; exact hD hT.flat) hb
   refine ae (m := Instr.build t (parts.map fun (i, x) => (i, a.eval x))) (sv := .agg ps) (v := .agg cells') h (by simp [execOp, ho]) ?_ ⟨cells', rfl, hf2⟩ hR
   refine run_build w t _ cells' ?_
   unfold Program.built
   simp only [hi1, hF, hi4, hp1]
   rw [Array.toList_map]
   exact hf1
  ·cases hs
 ·rename_i sz by_ n e m u xs ty hti
  have hT := hE t _ hti
  split at hs
  ·rename_i ei hei
   have hTe := hE e _ hei
   cases hb : Nat.beq u.size ei.size with
   | false => rw [hb] at hs; cases hs
   | true =>
    rw [hb] at hs
    simp only [Bool.not_true, cond_false] at hs
    have hsz := Nat.eq_of_beq_eq_true hb
    split at hs
    ·rename_i ys fK
     simp only [ok, Option.some.injEq, Prod.mk.injEq] at hs
     obtain ⟨_, rfl⟩ := hs
     have hk : P.underlying t = some (.array n e) := hT.kind
     obtain ⟨it, zv, hi1, hi2, hi3, hi4, hi5⟩ := hT.info
     obtain ⟨ie, _, he1, he2, _⟩ := hTe.info
     have hz : zv.cells.toList = da [.d (.arr m u) xs] := by rw [hi5]; rfl
     have hp : b9 (cx w0 ρ s w) [.d (.arr m u) xs] zv.cells.toList := by rw [hz]; exact hD hT.flat
     obtain ⟨l1, l2, e1, h1, h2⟩ := hp
     have hl2 : l2 = [] := h2
     subst hl2
     rw [List.append_nil] at e1
     have hrd : Rd (dE w0 ρ s.hp w) w (.arr m u) zv.cells.toList xs := by rw [e1]; exact h1
     obtain ⟨cells', hf1, hf2⟩ := vJ h parts.toList xs ys zv.cells hrd fK
     refine ae (m := Instr.build t (parts.map fun (i, x) => (i, a.eval x))) (sv := .agg [.d (.arr m u) ys]) (v := .agg cells') h (by simp [execOp, ho]) ?_ ⟨cells', rfl, b9.single hf2⟩ hR
     refine run_build w t _ cells' ?_
     unfold Program.built
     simp only [hi1, hk, hi4, he1]
     rw [Array.toList_map, he2, ← hsz]
     exact hf1
    ·cases hs
  ·cases hs
 ·cases hs

theorem Eo {R : Act → World → Prop} {k' : Nat} {u : Ty} {cells : Array Value} {zs : List u.D} {cap n : Nat} {e : TypeId} (h : Ok w0 ρ s a w) (hus : s.us k' = false)
  (hL : Rd (dE w0 ρ s.hp w) w (.arr n u) (cells.toList.take (n * u.size)) zs) (hc : n ≤ cap) (hm : cap ≤ maxLen) (hr : cells.size = cap * u.size)
  (hR : Up w0 ((s.new k' (.row u zs)).put o.dst (.one (.row k'))) R) :
  R (a.put o.dst (.slice (some ⟨w.heap.size, 0, none⟩) n cap)) (w.alloc (.cells cells e)) := by
 have hzl : zs.length = n := hL.1
 subst hzl
 have hmore := fm.alloc w (.cells cells e)
 have hle := vQ (w0 := w0) (ρ := ρ) (s := s) (he := .row u zs) (v := .slice (some ⟨w.heap.size, 0, none⟩) zs.length cap) hus hmore (fun b e => by injection e with e; subst e; exact Nat.le_refl _)
 have hok := h.new (he := .row u zs) (v := .slice (some ⟨w.heap.size, 0, none⟩) zs.length cap) hus hmore
  (fun b e => by injection e with e; subst e; exact ⟨Nat.le_refl _, by simp⟩)
  (.inr ⟨w.heap.size, 0, cap, cells, e, aw _ _ _, heap_alloc_new w _, hc, hm, by rw [hr]; omega, fun i x hx => by
   have hLr : Rd _ _ (.arr zs.length u) (cells.toList.take (zs.length * u.size)) zs := Rd.mono hle.keep hL
   have h1 := hLr.2.2 i x hx
   have hi : i < zs.length := (List.getElem?_eq_some_iff.1 hx).1
   have hle2 : (i + 1) * u.size ≤ zs.length * u.size := Nat.mul_le_mul_right _ hi
   rw [Nat.add_mul, Nat.one_mul] at hle2
   simp only [Nat.zero_add]
   rw [List.drop_take, List.take_take, Nat.min_eq_left (by omega)] at h1
   exact h1⟩)
 have e3 : bF ρ k' (.slice (some ⟨w.heap.size, 0, none⟩) zs.length cap) k' = .slice (some ⟨w.heap.size, 0, none⟩) zs.length cap := aw _ _ _
 exact hR _ _ _ (hok.put o.dst (aK.ki (p := .row k') rfl ⟨bA _ _, by show [_] = [bF ρ k' _ k']; rw [e3], by show (bF ρ k' _ k').oneCell' = true; rw [e3]; rfl⟩))

theorem lq {s2 : St} {t : TypeId} {len : Nat} {parts : Array (Nat × Operand)} {k' : Nat} {p : Option Prop} {R : Act → World → Prop} (hE : aY P E) (h : Ok w0 ρ s a w) (h2 : Ok w0 ρ s2 a w) (hhp : s2.hp = s.hp) (ho : o.op = .buildSlice t len parts)
  (hs : cY E s k' o.dst t len (parts.toList.map fun p => (p.1, ev s2 p.2)) = some (p, s')) (hR : Up w0 s' R) : bD P o a w R := by
 unfold cY at hs
 split at hs
 ·rename_i e _ _ hti
  have hk := (hE t _ hti).kind
  split at hs
  ·rename_i sz by_ kd z u hei
   have hT := hE e _ hei
   obtain ⟨hu1, hu2, hu3, hu4⟩ := hT.ty
   cases hb : (!(Nat.beq u.size sz && Nat.blt 0 sz && Nat.ble (len * sz) 65536) || s.us k') with
   | true => rw [hb] at hs; cases hs
   | false =>
    rw [hb] at hs
    simp only [cond_false] at hs
    simp only [Bool.or_eq_false_iff, Bool.not_eq_false', Bool.and_eq_true] at hb
    obtain ⟨⟨⟨hb1, hb2⟩, hb3⟩, hus⟩ := hb
    have hsz : u.size = sz := Nat.eq_of_beq_eq_true hb1
    subst hsz
    rw [Nat.blt_eq] at hb2
    have hb3 := Nat.le_of_ble_eq_true hb3
    split at hs
    ·rename_i xs fK
     simp only [ok, Option.some.injEq, Prod.mk.injEq] at hs
     obtain ⟨_, rfl⟩ := hs
     obtain ⟨z', hz1, hz2⟩ := hT.kV w
     have hmade := vE (S := dE w0 ρ s2.hp w) (w := w) (z := z'.cells) len (hz2.trans hu4.symm) hu3
     obtain ⟨cells', hf1, hf2⟩ := vJ h2 parts.toList _ xs _ hmade fK
     rw [hhp] at hf2
     have hcl : cells'.size = len * u.size := by simpa using hf2.2.1
     have hfin := Eo (o := o) (k' := k') (e := e) (n := len) (cap := len) (R := R) h hus (by rw [List.take_of_length_le (by simp; omega)]; exact hf2) (Nat.le_refl _)
      (by have : len * 1 ≤ len * u.size := Nat.mul_le_mul_left _ hb2; simp only [maxLen]; omega) hcl hR
     refine bD.Hg (m := Instr.buildSlice t len (parts.map fun (i, x) => (i, a.eval x))) (by simp [execOp, ho]) ?_ hfin
     unfold Instr.buildSlice
     simp only [Sem.run_bind, run_underlying hk, Result.andThen_ok, hT.dA]
     rw [if_neg (by simp; omega)]
     have hf0 : Instr.fill (fun i => some (i * u.size, u.size)) (madeCells z'.cells (len * u.size)) (parts.map fun (i, x) => (i, a.eval x)).toList = some cells' := by
      rw [Array.toList_map]; exact hf1
     by_cases h0 : len * u.size = 0
     ·have hc0 : (Array.range (len * u.size)).map ((#[] : Array Value)[· % (#[] : Array Value).size]!) = madeCells z'.cells (len * u.size) := by rw [h0]; simp [madeCells]
      rw [if_pos h0]
      simp only [Sem.run_bind, Sem.run_pure, Result.andThen_ok, hc0, hf0, vM]
     ·rw [if_neg h0]
      have hc0 : (Array.range (len * u.size)).map (z'.cells[· % z'.cells.size]!) = madeCells z'.cells (len * u.size) := rfl
      simp only [Sem.run_bind, Sem.run_pure, Result.andThen_ok, hz1, hc0, hf0, vM]
    ·cases hs
  ·cases hs
 ·cases hs

theorem th {t : TypeId} {len : Nat} {parts : Array (Nat × Operand)} {k' : Nat} {p : Option Prop} {R : Act → World → Prop} (hE : aY P E) (h : Ok w0 ρ s a w) (ho : o.op = .buildSlice t len parts)
  (hs : cY E s k' o.dst t len (parts.toList.map fun p => (p.1, ev s p.2)) = some (p, s')) (hR : Up w0 s' R) : bD P o a w R := lq hE h h rfl ho hs hR
theorem Fg {k : Nat} {t : Ty} {xs : List t.D} (h : Ok w0 ρ s a w) (hk : s.hp k = some (.row t xs)) : Rd (dE w0 ρ (s.drop k).hp w) w (.sl t) [ρ k] xs := by
 have hhp : ∀ {n h'}, (s.drop k).hp n = some h' → n ≠ k ∧ s.hp n = some h' := fun {n h'} hn => by
  by_cases e : n = k
  ·subst e; rw [show (s.drop n).hp n = none from dw _ _ _] at hn; cases hn
  ·exact ⟨e, by rw [← bI s.hp none e]; exact hn⟩
 rcases h.heap k _ hk with ⟨h1, h2⟩ | ⟨b, q, cp, cur, e', h1, hh, h3, h4, h5, h6⟩
 ·subst h2
  exact ⟨none, 0, by rw [show ρ k = _ from h1]; rfl, Nat.le_refl _, by simp [maxLen], fun hp => absurd hp (by simp)⟩
 ·refine ⟨some ⟨b, q, none⟩, cp, by rw [show ρ k = _ from h1], h3, h4, fun _ => ⟨b, q, rfl, ⟨(Array.getElem?_eq_some_iff.1 hh).1, fun n h' hn => ?_, ?_⟩, fun i x hi => ⟨_, ?_, Rd.mono (fun c hc => ⟨⟨hc.1, fun n h' hn => hc.2.1 n h' (hhp hn).2, hc.2.2⟩, rfl⟩) (h6 i x hi)⟩⟩⟩
  ·obtain ⟨hne, hn0⟩ := hhp hn
   exact h.apart k n _ _ b (fun e => hne e.symm) hk hn0 (by rw [show ρ k = _ from h1]; rfl)
  ·exact w0.all b (h.fresh k _ b hk (by rw [show ρ k = _ from h1]; rfl)).1
  ·intro j v hv
   have := At.of_block hh (q + i * t.size) t.size j v hv
   rw [Nat.add_assoc] at this
   exact this
theorem RV {x : Operand} {j : Nat} (h : ev s x = .one (.row j)) : ∃ d, x = .tmp d ∧ aF s.fr d = .one (.row j) := by
 cases x with
 | tmp d => exact ⟨d, rfl, h⟩
 | global g => cases h
 | func f => cases h
 | const v =>
  exfalso
  have h : rf v = .one (.row j) := h
  cases v with
  | int k n =>
   simp only [rf] at h
   cases hb : Sw k n <;> rw [hb] at h <;> cases h
  | string b =>
   simp only [rf] at h
   cases hb : Nat.ble b.size 9223372036854775807 <;> rw [hb] at h <;> cases h
  | _ => cases h
theorem H2 {x : Operand} (h : ∀ d, x ≠ .tmp d) (j : Nat) (u : Ty) (xs : List u.D) : kD j u xs (ev s x) = ev s x := by
 generalize hv : ev s x = v
 cases v with
 | one p =>
  cases p with
  | row i =>
   obtain ⟨d, rfl, _⟩ := RV hv
   exact absurd rfl (h d)
  | _ => rfl
 | _ => rfl
theorem rQ {f : SV → SV} (hf : f (.one .any) = .one .any) : ∀ (l : List SV) (n : Nat), aF (l.map f) n = f (aF l n)
 | [], _ => hf.symm
 | _ :: _, 0 => rfl
 | _ :: l, n + 1 => rQ hf l n
theorem Hh {j : Nat} {u : Ty} {xs : List u.D} (h : Ok w0 ρ s a w) (hj : s.hp j = some (.row u xs)) : Ok w0 ρ { s.drop j with fr := s.fr.map (kD j u xs) } a w := by
 have h1 := h.drop j
 refine { h1 with len := ?_, frame := ?_ }
 ·show (s.fr.map (kD j u xs)).length = _
  rw [List.length_map]
  exact h.len
 ·intro i
  show aK (cx w0 ρ (s.drop j) w) (aF (s.fr.map (kD j u xs)) i) (a.tmps.getD i undef)
  rw [rQ rfl]
  have hf1 := h1.frame i
  have hf := h.frame i
  change aK (cx w0 ρ (s.drop j) w) (aF s.fr i) (a.tmps.getD i undef) at hf1
  generalize hv : aF s.fr i = v at hf hf1
  cases v with
  | one p =>
   cases p with
   | row n =>
    show aK _ (bif Nat.beq n j then _ else _) _
    cases hb : Nat.beq n j with
    | false => exact hf1
    | true =>
     obtain rfl := Nat.eq_of_beq_eq_true hb
     have hval : a.tmps.getD i undef = ρ n := by
      have : [a.tmps.getD i undef] = [ρ n] := (aK.bb (p := .row n) rfl (by simp) hf).2.1
      injection this
     rw [hval]
     exact aK.ki (p := .d (.sl u) xs) rfl (Fg h hj)
   | _ => exact hf1
  | _ => exact hf1
theorem sB {t : TypeId} {len : Nat} {parts : Array (Nat × Operand)} {k' : Nat} {p : Option Prop} {R : Act → World → Prop} (hE : aY P E) (h : Ok w0 ρ s a w) (ho : o.op = .buildSlice t len parts)
  (hs : fQ E s k' o.dst t len (parts.toList.map fun p => (p.1, ev s p.2)) = some (p, s')) (hR : Up w0 s' R) : bD P o a w R := by
 unfold fQ at hs
 split at hs
 ·rename_i j hparts
  split at hs
  ·rename_i u xs hj
   refine lq (p := p) (k' := k') (s2 := { s.drop j with fr := s.fr.map (kD j u xs) }) hE (h.drop j) (Hh h hj) rfl ho ?_ hR
   have e : ∀ x, ev { s.drop j with fr := s.fr.map (kD j u xs) } x = kD j u xs (ev s x) := fun x => by
    cases x with
    | tmp d => exact rQ rfl _ _
    | _ => rw [H2 (by intro d hd; cases hd)]; rfl
   rw [List.map_map] at hs
   simp only [e]
   exact hs
  ·cases hs
 ·cases hs
theorem EN {t : TypeId} {l c : Operand} {k' : Nat} {p : Option Prop} {R : Act → World → Prop} (hE : aY P E) (h : Ok w0 ρ s a w) (ho : o.op = .makeSlice t l c)
  (hs : xI E s k' o.dst t (ev s l) (ev s c) = some (p, s')) (hp : l6 p) (hR : Up w0 s' R) : bD P o a w R := by
 unfold xI at hs
 split at hs
 ·rename_i _ _ e _ _ kl n kc m hti hl hc
  have hk := (hE t _ hti).kind
  have el := a8 (h.ev l) hl
  have ec := a8 (h.ev c) hc
  split at hs
  ·rename_i sz by_ kd z u hei
   have hT := hE e _ hei
   obtain ⟨hu1, hu2, hu3, hu4⟩ := hT.ty
   cases hb : (!(Nat.beq u.size sz && Nat.blt 0 sz) || s.us k') with
   | true => rw [hb] at hs; cases hs
   | false =>
    rw [hb] at hs
    simp only [cond_false, Option.some.injEq, Prod.mk.injEq] at hs
    obtain ⟨rfl, rfl⟩ := hs
    simp only [Bool.or_eq_false_iff, Bool.not_eq_false', Bool.and_eq_true] at hb
    obtain ⟨⟨hb1, hb2⟩, hus⟩ := hb
    have hsz : u.size = sz := Nat.eq_of_beq_eq_true hb1
    subst hsz
    rw [Nat.blt_eq] at hb2
    obtain ⟨⟨hp1, hp2⟩, hp3, hp4⟩ := hp
    obtain ⟨i, zv, hi1, hi2, hi3, hi4, hi5⟩ := hT.info
    have hi3 : i.bytes = by_ := hi3
    obtain ⟨z', hz1, hz2⟩ := hT.kV w
    have hzz : z' = zv := by simp [zeroValue, typeInfo, hi1, hi4] at hz1; exact hz1.symm
    subst hzz
    have hrun := run_make (P := P) w t e i z' hk hi1 hi4 kl kc n m hp1 hp2 (by rw [hi3, Int.mul_comm]; omega) hp4
    rw [hi2] at hrun
    have hmade := vE (S := dE w0 ρ s.hp w) (w := w) (z := z'.cells) n.toNat (hz2.trans hu4.symm) hu3
    have hle : n.toNat * u.size ≤ m.toNat * u.size := Nat.mul_le_mul_right _ (by omega)
    have htake : (madeCells z'.cells (m.toNat * u.size)).toList.take (n.toNat * u.size) = (madeCells z'.cells (n.toNat * u.size)).toList := by
     apply List.ext_getElem?
     intro j
     rw [List.getElem?_take]
     by_cases hj : j < n.toNat * u.size
     ·rw [if_pos hj]
      have : j < m.toNat * u.size := by omega
      simp [madeCells, hj, this]
     ·rw [if_neg hj, List.getElem?_eq_none (by simp [madeCells]; omega)]
    have hfin := Eo (o := o) (k' := k') (e := e) (n := n.toNat) (cap := m.toNat) (R := R) (cells := madeCells z'.cells (m.toNat * u.size)) h hus (by rw [htake]; exact hmade) (by omega)
     (by simp only [maxLen]; omega) (size_madeCells _ _) hR
    exact bD.Hg (m := Instr.makeSlice t (a.eval l) (a.eval c)) (by simp [execOp, ho]) (by rw [el, ec]; exact hrun) hfin
  ·cases hs
 ·cases hs

theorem Js {n : Int} (h : IR .i64 n) : IntKind.i64.wrap (BitVec.ofInt 64 (-1) ^^^ BitVec.ofInt 64 n).toNat = -1 - n := by
 have e : BitVec.ofInt 64 (-1) ^^^ BitVec.ofInt 64 n = ~~~ (BitVec.ofInt 64 n) := by
  rw [show BitVec.ofInt 64 (-1) = BitVec.allOnes 64 from rfl]
  exact BitVec.allOnes_xor
 rw [e, BitVec.toNat_not, BitVec.toNat_ofInt]
 simp only [IR] at h
 simp only [IntKind.wrap, IntKind.bits, IntKind.signed]
 simp
 omega
theorem Oy {op : UnOp} {t : TypeId} {x : Operand} {p : Option Prop} {R : Act → World → Prop} (h : Ok w0 ρ s a w) (ho : o.op = .unOp op t x)
  (hs : SO s o.dst op (ev s x) = some (p, s')) (hp : l6 p) (hR : Up w0 s' R) : bD P o a w R := by
 have hexec : execOp a.eval o = (do pure (.value (← Op.unary op (a.eval x)))) := by simp [execOp, ho]
 unfold SO at hs
 split at hs
 ·rename_i b hx
  simp only [ok, Option.some.injEq, Prod.mk.injEq] at hs
  obtain ⟨_, rfl⟩ := hs
  have ex := iu (h.ev x) (b := b) (by rw [hx]; rfl)
  exact ae h hexec (by rw [ex]; rfl) (nY (!b)) hR
 ·rename_i b hx
  simp only [ok, Option.some.injEq, Prod.mk.injEq] at hs
  obtain ⟨_, rfl⟩ := hs
  have ex := iu (h.ev x) (b := b) (by rw [hx]; rfl)
  exact ae h hexec (by rw [ex]; rfl) (fC (!b)) hR
 ·rename_i k n hx
  simp only [Option.some.injEq, Prod.mk.injEq] at hs
  obtain ⟨rfl, rfl⟩ := hs
  have ex := a8 (h.ev x) (k := k) (n := n) (by rw [hx]; rfl)
  refine ae (v := .int k (-n)) h hexec ?_ (fH hp) hR
  rw [ex]
  simp [Op.unary, Op.intArith, o5 hp]
 ·rename_i n hx
  simp only [ok, Option.some.injEq, Prod.mk.injEq] at hs
  obtain ⟨_, rfl⟩ := hs
  have ex := a8 (h.ev x) (k := .i64) (n := n) (by rw [hx]; rfl)
  have hn : IR .i64 n := cv (h.ev x) (k := .i64) (n := n) (by rw [hx]; rfl)
  refine ae (v := .int .i64 (-1 - n)) h hexec ?_ (fH (by simp only [IR] at hn ⊢; omega)) hR
  rw [ex]
  have := Js hn
  show (pure (.int .i64 (IntKind.i64.wrap (BitVec.ofInt 64 (-1) ^^^ BitVec.ofInt 64 n).toNat)) : Sem Value).run P w = _
  rw [this]; rfl
 ·cases hs

theorem C4 {k : IntKind} {m n : Int} (hm : IR k m) (hn : IR k n) : IR k (bif false then max m n else min m n) := by
 simp only [cond_false]
 rcases Int.le_total m n with h | h
 ·rw [Int.min_eq_left h]; exact hm
 ·rw [Int.min_eq_right h]; exact hn
theorem BU {k : IntKind} {m n : Int} (hm : IR k m) (hn : IR k n) : IR k (bif true then max m n else min m n) := by
 simp only [cond_true]
 rcases Int.le_total m n with h | h
 ·rw [Int.max_eq_right h]; exact hn
 ·rw [Int.max_eq_left h]; exact hm
theorem Au {args : Array Operand} {ts : Array TypeId} {x y : Operand} {mx : Bool} {p : Option Prop} {R : Act → World → Prop} (h : Ok w0 ρ s a w)
  (ho : o.op = .call { callee := .builtin (bif mx then .max else .min), args := args, argTypes := ts }) (ha : args.toList = [x, y])
  (hs : mK s o.dst mx (ev s x) (ev s y) = some (p, s')) (hR : Up w0 s' R) : bD P o a w R := by
 have ea : args = #[x, y] := by apply Array.ext'; simpa using ha
 subst ea
 unfold mK at hs
 split at hs
 ·rename_i k m k' n hx hy
  have ex := a8 (h.ev x) hx
  have ey := a8 (h.ev y) hy
  split at hs
  ·rename_i hk
   subst hk
   simp only [ok, Option.some.injEq, Prod.mk.injEq] at hs
   obtain ⟨_, rfl⟩ := hs
   cases mx
   ·refine ae (m := Builtin.min_ ts o.type #[a.eval x, a.eval y]) h (by rw [bG ho]; simp [builtin]) ?_ (fH (C4 (cv (h.ev x) hx) (cv (h.ev y) hy))) hR
    rw [ex, ey]
    simp only [Builtin.min_, List.foldlM, Builtin.min2, cond_false]
    simp
    by_cases hlt : n < m
    ·rw [if_pos hlt]; omega
    ·rw [if_neg hlt]; omega
   ·refine ae (m := Builtin.max_ ts o.type #[a.eval x, a.eval y]) h (by rw [bG ho]; simp [builtin]) ?_ (fH (BU (cv (h.ev x) hx) (cv (h.ev y) hy))) hR
    rw [ex, ey]
    simp only [Builtin.max_, List.foldlM, Builtin.max2, cond_true]
    simp
    by_cases hlt : m < n
    ·rw [if_pos hlt]; omega
    ·rw [if_neg hlt]; omega
  ·cases hs
 ·cases hs

theorem xH {args : Array Operand} {ts : Array TypeId} {x y z : Operand} {mx : Bool} {p : Option Prop} {R : Act → World → Prop} (h : Ok w0 ρ s a w)
  (ho : o.op = .call { callee := .builtin (bif mx then .max else .min), args := args, argTypes := ts }) (ha : args.toList = [x, y, z])
  (hs : jR s o.dst mx (ev s x) (ev s y) (ev s z) = some (p, s')) (hR : Up w0 s' R) : bD P o a w R := by
 have ea : args = #[x, y, z] := by apply Array.ext'; simpa using ha
 subst ea
 unfold jR at hs
 split at hs
 ·rename_i k m k' n k'' r hx hy hz
  have ex := a8 (h.ev x) hx
  have ey := a8 (h.ev y) hy
  have ez := a8 (h.ev z) hz
  split at hs
  ·rename_i hk
   obtain ⟨hk1, hk2⟩ := hk
   subst hk1 hk2
   simp only [ok, Option.some.injEq, Prod.mk.injEq] at hs
   obtain ⟨_, rfl⟩ := hs
   cases mx
   ·refine ae (m := Builtin.min_ ts o.type #[a.eval x, a.eval y, a.eval z]) h (by rw [bG ho]; simp [builtin]) ?_ (fH (C4 (C4 (cv (h.ev x) hx) (cv (h.ev y) hy)) (cv (h.ev z) hz))) hR
    rw [ex, ey, ez]
    simp only [Builtin.min_, List.foldlM, Builtin.min2, cond_false]
    simp
    repeat' split
    all_goals omega
   ·refine ae (m := Builtin.max_ ts o.type #[a.eval x, a.eval y, a.eval z]) h (by rw [bG ho]; simp [builtin]) ?_ (fH (BU (BU (cv (h.ev x) hx) (cv (h.ev y) hy)) (cv (h.ev z) hz))) hR
    rw [ex, ey, ez]
    simp only [Builtin.max_, List.foldlM, Builtin.max2, cond_true]
    simp
    repeat' split
    all_goals omega
  ·cases hs
 ·cases hs

theorem wg {c : Cx} : ∀ {es : List (Bool × List PV)} {vs : List Value} {i : Nat} {e : Bool × List PV}, qT c es vs → es[i]? = some e → ∃ v, vs[i]? = some v ∧ dW c e.1 e.2 v
 | [], _, i, e, _, h => by simp at h
 | e0 :: es, vs, 0, e, ⟨v, r, hv, h1, h2⟩, h => by
  simp at h; subst h
  exact ⟨v, by rw [hv]; rfl, h1⟩
 | e0 :: es, vs, i + 1, e, ⟨v, r, hv, h1, h2⟩, h => by
  obtain ⟨u, h3, h4⟩ := wg (i := i) h2 (by simpa using h)
  exact ⟨u, by rw [hv]; simpa using h3, h4⟩

theorem Eh {c : Cx} {x : SV} {v : Value} {p : Option Prop} {u : Bool} (h : aK c x v) (e : sT x = some (p, u)) (hp : l6 p) : v = .bool u := by
 unfold sT at e
 split at e <;> simp only [Option.some.injEq, Prod.mk.injEq, reduceCtorEq] at e <;> obtain ⟨rfl, rfl⟩ := e
 ·have : [v] = [.bool _] := aK.bb rfl (by simp) h
  simpa using this
 ·have : [v] = [.bool _] := aK.bb rfl (by simp) h
  simpa using this
 ·have : [v] = [.bool _] := aK.bb (p := .lit _) rfl (by simp) (h.1 hp)
  simpa using this
 ·have : [v] = [.bool _] := aK.bb (p := .d .bool _) rfl (by simp) (h.1 hp)
  simpa using this
theorem Ju {b u v : Bool} {x y : SV} {p q : Option Prop} (hx : sT x = some (p, u)) (hy : sT y = some (q, v)) : GD b u v x y = bif b then u else v := by
 unfold GD
 split
 ·simp only [sT, Option.some.injEq, Prod.mk.injEq] at hy
  obtain ⟨_, rfl⟩ := hy
  cases b <;> simp
 ·split
  ·simp only [sT, Option.some.injEq, Prod.mk.injEq] at hx
   obtain ⟨_, rfl⟩ := hx
   cases b <;> simp
  ·rfl
theorem Gb {c x y : Operand} {p : Option Prop} {R : Act → World → Prop} (h : Ok w0 ρ s a w) (ho : o.op = .pick c x y) (hs : D9 s o.dst (ev s c) (ev s x) (ev s y) = some (p, s')) (hp : l6 p)
  (hR : Up w0 s' R) : bD P o a w R := by
 unfold D9 at hs
 split at hs
 ·rename_i b hc
  simp only [ok, Option.some.injEq, Prod.mk.injEq] at hs
  obtain ⟨_, rfl⟩ := hs
  have ec := iu (h.ev c) (b := b) (by rw [hc]; rfl)
  refine .inl ⟨if b then a.eval x else a.eval y, w, by simp [execOp, ho, ec, asBool], hR ρ _ _ (h.put o.dst ?_)⟩
  cases b
  ·exact h.ev y
  ·exact h.ev x
 ·rename_i b hc
  split at hs
  ·rename_i p1 u p2 v hx hy
   simp only [Option.some.injEq, Prod.mk.injEq] at hs
   obtain ⟨rfl, rfl⟩ := hs
   have ec := iu (h.ev c) (b := b) (by rw [hc]; rfl)
   have hps : (b = true → l6 p1) ∧ (b = false → l6 p2) := by
    cases p1 <;> cases p2 <;> simp only [Th] at hp
    ·exact ⟨fun _ => trivial, fun _ => trivial⟩
    ·exact ⟨fun _ => trivial, hp⟩
    ·exact ⟨hp, fun _ => trivial⟩
    ·exact hp
   refine .inl ⟨if b then a.eval x else a.eval y, w, by simp [execOp, ho, ec, asBool], hR ρ _ _ (h.put o.dst ?_)⟩
   rw [Ju hx hy]
   cases b
   ·rw [Eh (h.ev y) hy (hps.2 rfl)]; exact fC v
   ·rw [Eh (h.ev x) hx (hps.1 rfl)]; exact fC u
  ·cases hs
 ·cases hs

theorem nK {x : Operand} {R : Act → World → Prop} (h : Ok w0 ρ s a w) (ho : o.op = .nilCheck x) (hx : ∃ ad, a.eval x = .pointer (some ad)) (hR : Up w0 (s.put o.dst (ev s x)) R) : bD P o a w R := by
 obtain ⟨ad, e⟩ := hx
 exact .inl ⟨a.eval x, w, by simp [execOp, ho, e], hR ρ _ _ (h.put o.dst (h.ev x))⟩

theorem rh {x : Operand} {i : Nat} {v : Value} {sv : SV} {R : Act → World → Prop} (h : Ok w0 ρ s a w) (ho : o.op = .extract x i) {vs : Array Value} (hx : a.eval x = .tuple vs) (hv : vs.toList[i]? = some v)
  (hsv : aK (cx w0 ρ s w) sv v) (hR : Up w0 (s.put o.dst sv) R) : bD P o a w R := by
 refine ae (m := Instr.extract (a.eval x) i) h (by simp [execOp, ho]) ?_ hsv hR
 have hv' : vs[i]? = some v := by simpa using hv
 simp [Instr.extract, hx, hv']

theorem z7 {wr : Nat → Bool} {k : Nat} {p : Option Prop} {R : Act → World → Prop} (hE : aY P E) (h : Ok w0 ρ s a w) (hs : Mr E wr s k o = some (p, s')) (hp : l6 p) (hR : Up w0 s' R) : bD P o a w R := by
 unfold Mr at hs
 split at hs
 ·rename_i x e
  simp only [ok, Option.some.injEq, Prod.mk.injEq] at hs
  obtain ⟨_, rfl⟩ := hs
  exact xQ h (.inl e) hR
 ·rename_i x e
  simp only [ok, Option.some.injEq, Prod.mk.injEq] at hs
  obtain ⟨_, rfl⟩ := hs
  exact xQ h (.inr e) hR
 ·rename_i c x y e
  exact Gb h e hs hp hR
 ·rename_i t e
  split at hs
  ·rename_i ti hti
   cases hus : s.us k with
   | true => rw [hus] at hs; cases hs
   | false =>
    rw [hus] at hs
    simp only [cond_false, ok, Option.some.injEq, Prod.mk.injEq] at hs
    obtain ⟨_, rfl⟩ := hs
    exact DA hE h e hus hti hR
  ·cases hs
 ·rename_i t x e
  split at hs
  ·rename_i ps hps
   cases hus : s.us k with
   | true => rw [hus] at hs; cases hs
   | false =>
    rw [hus] at hs
    simp only [cond_false, ok, Option.some.injEq, Prod.mk.injEq] at hs
    obtain ⟨_, rfl⟩ := hs
    exact IG h e hus hps hR
  ·cases hs
 ·rename_i t ps e
  exact DF hE h e hs hR
 ·rename_i t n ps e
  cases hb : FG wr 3000000 o.dst with
  | true => rw [hb] at hs; exact sB hE h e hs hR
  | false => rw [hb] at hs; exact th hE h e hs hR
 ·rename_i t x e
  exact FU hE h e hs hR
 ·rename_i t x y e
  split at hs
  ·rename_i q s1 hst
   simp only [Option.some.injEq, Prod.mk.injEq] at hs
   obtain ⟨_, rfl⟩ := hs
   exact Cq hE h e hst hR
  ·cases hs
 ·rename_i x e
  have hx := h.ev x
  split at hs
  ·rename_i k' off hx'
   simp only [ok, Option.some.injEq, Prod.mk.injEq] at hs
   obtain ⟨_, rfl⟩ := hs
   rw [hx'] at hx
   obtain ⟨_, b, _, hl⟩ := aK.bb rfl (by simp) hx
   simp only [List.cons.injEq, and_true] at hl
   exact nK h e ⟨_, hl⟩ (by rw [hx']; exact hR)
  ·rename_i hx'
   simp only [ok, Option.some.injEq, Prod.mk.injEq] at hs
   obtain ⟨_, rfl⟩ := hs
   rw [hx'] at hx
   obtain ⟨_, _, b, _, hl⟩ := aK.bb rfl (by simp) hx
   simp only [List.cons.injEq, and_true] at hl
   exact nK h e ⟨_, hl⟩ (by rw [hx']; exact hR)
  ·rename_i hx'
   simp only [ok, Option.some.injEq, Prod.mk.injEq] at hs
   obtain ⟨_, rfl⟩ := hs
   rw [hx'] at hx
   obtain ⟨_, b, q, n, cp, _, _, hl⟩ := aK.bb rfl (by simp) hx
   simp only [List.cons.injEq, and_true] at hl
   exact nK h e ⟨_, hl⟩ (by rw [hx']; exact hR)
  ·rename_i hx'
   simp only [ok, Option.some.injEq, Prod.mk.injEq] at hs
   obtain ⟨_, rfl⟩ := hs
   rw [hx'] at hx
   obtain ⟨_, _, b, q, n, cp, _, _, hl⟩ := aK.bb rfl (by simp) hx
   simp only [List.cons.injEq, and_true] at hl
   exact nK h e ⟨_, hl⟩ (by rw [hx']; exact hR)
  ·rename_i hx'
   simp only [ok, Option.some.injEq, Prod.mk.injEq] at hs
   obtain ⟨_, rfl⟩ := hs
   rw [hx'] at hx
   obtain ⟨b, q, cs, hl, _⟩ := aK.bb rfl (by simp) hx
   simp only [List.cons.injEq, and_true] at hl
   exact nK h e ⟨_, hl⟩ (by rw [hx']; exact hR)
  ·cases hs
 ·rename_i op t x y t' e
  split at hs
  ·rename_i b hb
   simp only [ok, Option.some.injEq, Prod.mk.injEq] at hs
   obtain ⟨_, rfl⟩ := hs
   exact Ae hE h e hb hR
  ·exact Ia hE h e hs hp hR
 ·rename_i op t x e
  exact Oy h e hs hp hR
 ·rename_i t u x e
  exact zj hE h e hs hp hR
 ·rename_i fn first caps e
  unfold sC at hs
  split at hs
  ·rename_i f hf
   have hf' : first = #[] := by apply Array.ext'; simpa using hf
   subst hf'
   split at hs
   ·rename_i ps hps
    cases hus : s.us k with
    | true => rw [hus] at hs; cases hs
    | false =>
     rw [hus] at hs
     simp only [cond_false, ok, Option.some.injEq, Prod.mk.injEq] at hs
     obtain ⟨_, rfl⟩ := hs
     exact Kw h e hus hps hR
   ·cases hs
  ·cases hs
 ·rename_i t l c e
  exact EN hE h e hs hp hR
 ·rename_i t r e
  split at hs
  ·exact zn h e hs hR
  ·cases hs
 ·rename_i t x y z e
  split at hs
  ·rename_i q s1 hs1
   simp only [Option.some.injEq, Prod.mk.injEq] at hs
   obtain ⟨_, rfl⟩ := hs
   exact sU hE h (by simp [execOp, e]) hs1 hR
  ·cases hs
 ·rename_i t x y z e
  split at hs
  ·rename_i q s1 hs1
   simp only [Option.some.injEq, Prod.mk.injEq] at hs
   obtain ⟨_, rfl⟩ := hs
   exact sU hE h (by simp [execOp, e]) hs1 hR
  ·cases hs
 ·rename_i t x y two e
  exact zX hE h e hs hp hR
 ·rename_i t x lo hi mx e
  split at hs
  ·cases hA : Cf E t with
   | true => rw [hA] at hs; exact Kt hE h e hs hR
   | false =>
    rw [hA] at hs
    simp only [cond_false] at hs
    cases hb : FG wr 3000000 o.dst with
    | true => rw [hb] at hs; exact F5 hE h e hs hp hR
    | false => rw [hb] at hs; exact B3 hE h e hs hp hR
  ·exact zo hE h e hs hp hR
 ·rename_i t x i e
  exact vk hE h e hs hR
 ·rename_i t x i e
  exact B0 hE h e hs hR
 ·rename_i t x i e
  exact uh hE h e hs hp hR
 ·rename_i t x i e
  exact Dn hE h e hs hp hR
 ·rename_i x i e
  have hx := h.ev x
  split at hs
  ·rename_i es hx'
   rw [hx'] at hx
   obtain ⟨vs, hvs, htup⟩ := hx
   split at hs
   ·rename_i ps hi
    simp only [ok, Option.some.injEq, Prod.mk.injEq] at hs
    obtain ⟨_, rfl⟩ := hs
    obtain ⟨v, h1, h2⟩ := wg htup hi
    exact rh (sv := .agg ps) h e hvs h1 h2 hR
   ·rename_i q hi
    obtain ⟨v, h1, h2⟩ := wg htup hi
    cases hq : q.agg with
    | true => rw [hq] at hs; cases hs
    | false =>
     rw [hq] at hs
     simp only [cond_false, ok, Option.some.injEq, Prod.mk.injEq] at hs
     obtain ⟨_, rfl⟩ := hs
     obtain ⟨l1, l2, e1, h3, h4⟩ := h2
     rw [show l2 = [] from h4, List.append_nil] at e1
     exact rh h e hvs h1 (aK.ki hq (by rw [e1]; exact h3)) hR
   ·cases hs
  ·cases hs
 ·rename_i c e
  unfold wD at hs
  split at hs
  ·rename_i b hcb
   have e' : o.op = .call { callee := .builtin b, args := c.args, argTypes := c.argTypes } := by rw [e, ← hcb]
   split at hs
   ·rename_i x t ha ht
    split at hs
    ·exact zM hE h e' ha ht hs hp hR
    ·exact GZ hE h e' ha ht hs hR
   ·rename_i x y t t' ha ht
    exact AV hE h e' ha ht hs hR
   ·rename_i x y t t' ha ht
    cases hb : Nat.beq t t' with
    | false => rw [hb] at hs; cases hs
    | true =>
     rw [hb] at hs
     have := Nat.eq_of_beq_eq_true hb
     subst this
     exact yy hE h e' ha ht hs hp hR
   ·rename_i x t ha ht
    exact C1 hE h e' ha ht hs hR
   ·rename_i x y ha
    exact Au (mx := true) h e' ha hs hR
   ·rename_i x y ha
    exact Au (mx := false) h e' ha hs hR
   ·rename_i x y z ha
    exact xH (mx := true) h e' ha hs hR
   ·rename_i x y z ha
    exact xH (mx := false) h e' ha hs hR
   ·cases hs
  ·cases hs
 ·cases hs
end
end Go.Sx
