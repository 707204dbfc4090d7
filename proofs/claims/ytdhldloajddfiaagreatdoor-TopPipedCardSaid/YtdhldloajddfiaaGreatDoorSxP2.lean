/-
 Sx: a verified executor over the loaded code, part 2 of 4.
-/
import Derived.Test.YtdhldloajddfiaaGreatDoorSxP1
import Derived.Laws.IdiomStrings
import Derived.MapKept
/-
 Sx, part H: each operation does what the executor says: loads and stores.
-/
namespace Go.Sx
open Go.RowKit

def At (w : World) (b o : Nat) (l : List Value) : Prop := ∀ (j : Nat) v, l[j]? = some v → w.cell? ⟨b, o + j, none⟩ = some v

theorem cell_of_block {w : World} {b : Nat} {cs : Array Value} {e : TypeId} {fr : Nat × Nat} (h : w.heap[b]? = some (.cells cs e fr)) (o : Nat) : w.cell? ⟨b, o, none⟩ = cs[o]? := by
 simp [World.cell?, h]
theorem At.of_block {w : World} {b : Nat} {cs : Array Value} {e : TypeId} {fr : Nat × Nat} (h : w.heap[b]? = some (.cells cs e fr)) (o n : Nat) : At w b o ((cs.toList.drop o).take n) := by
 intro j v hv
 rw [cell_of_block h]
 rw [List.getElem?_take] at hv
 split at hv
 ·rw [List.getElem?_drop] at hv; simpa using hv
 ·cases hv
theorem At.sub {w : World} {b o : Nat} {l : List Value} (h : At w b o l) (i n : Nat) : At w b (o + i) ((l.drop i).take n) := by
 intro j v hv
 rw [List.getElem?_take] at hv
 split at hv
 ·rw [List.getElem?_drop] at hv; rw [Nat.add_assoc]; exact h _ _ hv
 ·cases hv

section
variable {P : Program} {E : Env} {w0 : Base} {w : World} {ρ : Nat → Value} {s s' : St} {a : Act} {o : Oper}

theorem mkSV_c {c : Cx} {g : Bool} {ps : List PV} {sv : SV} {l : List Value} (h : mkSV g ps = some sv) (hl : PsC c ps l) :
  SVc c sv (bif g then .agg l.toArray else l.headD undef) := by
 unfold mkSV at h
 cases g
 ·simp only [cond_false] at h
  split at h
  ·rename_i p
   cases hp : p.agg with
   | true => rw [hp] at h; cases h
   | false =>
    rw [hp] at h
    simp only [cond_false, Option.some.injEq] at h
    subst h
    obtain ⟨x, y, e, h1, h2⟩ := hl
    rw [show y = [] from h2, List.append_nil] at e
    subst e
    have hsz : p.size = 1 := by
     cases p with
     | d t x => cases t <;> first | rfl | cases hp
     | _ => rfl
    have hlen := h1.len
    rw [hsz] at hlen
    match l, hlen with
    | [v], _ => exact SVc.of1 hp h1
  ·cases h
 ·simp only [cond_true, Option.some.injEq] at h
  subst h
  exact ⟨_, rfl, hl⟩

theorem loadAt_run {t : TypeId} {ti : TI} (h : TIok P t ti) {b q : Nat} {l : List Value} (hl : At w b q l) (hn : l.length = ti.size) :
  (Instr.loadAt t (.pointer (some ⟨b, q, none⟩))).run P w = .ok (bif ti.kind.agg then .agg l.toArray else l.headD undef) w := by
 unfold Instr.loadAt Instr.sureAddr loadVar
 simp only [Sem.run_bind, Sem.run_pure, Result.andThen_ok, h.run_agg]
 have hadd : ∀ (j : Nat) v, l[j]? = some v → w.cell? ((⟨b, q, none⟩ : Addr).add j) = some v := fun j v hv => by rw [Addr.add_lit]; exact hl j v hv
 cases hg : ti.kind.agg
 ·have h1 : ti.size = 1 := by
   rcases h.one with h1 | h1
   ·rw [hg] at h1; cases h1
   ·exact h1
  rw [h1] at hn
  match l, hn with
  | [v], _ =>
   have := hl 0 v rfl
   simp only [Nat.add_zero] at this
   simp [load, this, Sem.run]
 ·simp only [if_true, Sem.run_bind, h.run_size, Result.andThen_ok, cond_true]
  rw [← hn, run_loadCells_list w ⟨b, q, none⟩ l hadd]
  simp only [Result.andThen_ok, Sem.run_pure]

theorem arrAt_c {c : Cx} {ps : List PV} {off n sz i : Nat} {u : Ty} {xs : List u.D} {l : List Value} (ha : arrAt ps off n sz = some ⟨u, xs⟩) (hl : PsC c ps l) (hi : i < n) :
  ∃ _ : Unit, sz = u.size ∧ Rd c.S c.w u ((l.drop (off + i * u.size)).take u.size) (nth u xs i) := by
 unfold arrAt at ha
 split at ha
 ·rename_i pre m t xs' rest htk
  cases hmn : (Nat.beq m n && Nat.beq t.size sz) with
  | false => rw [hmn] at ha; cases ha
  | true =>
   rw [hmn] at ha
   simp only [cond_true, Option.some.injEq, Sigma.mk.injEq] at ha
   obtain ⟨rfl, ha⟩ := ha
   have ha := eq_of_heq ha
   subst ha
   simp only [Bool.and_eq_true] at hmn
   have e1 := Nat.eq_of_beq_eq_true hmn.1
   have e2 := Nat.eq_of_beq_eq_true hmn.2
   subst e1; subst e2
   obtain ⟨hps, hsz⟩ := takeN_eq htk
   rw [hps] at hl
   have h2 := hl.split.2
   rw [hsz] at h2
   obtain ⟨x1, x2, e3, h3, _⟩ := h2
   obtain ⟨hxl, hxc, hxr⟩ := h3
   have hr := hxr i (nth t xs' i) (nth_some (by rw [hxl]; exact hi))
   refine ⟨(), rfl, ?_⟩
   have hile : (i + 1) * t.size ≤ m * t.size := Nat.mul_le_mul_right _ hi
   rw [Nat.add_mul, Nat.one_mul] at hile
   rw [← List.drop_drop, e3, List.drop_append_of_le_length (by omega), List.take_append_of_le_length (by rw [List.length_drop]; omega)]
   exact hr
 ·cases ha

theorem arrAt_len {c : Cx} {ps : List PV} {off n sz : Nat} {u : Ty} {xs : List u.D} {l : List Value} (ha : arrAt ps off n sz = some ⟨u, xs⟩) (hl : PsC c ps l) : xs.length = n := by
 unfold arrAt at ha
 split at ha
 ·rename_i pre m t xs' rest htk
  cases hmn : (Nat.beq m n && Nat.beq t.size sz) with
  | false => rw [hmn] at ha; cases ha
  | true =>
   rw [hmn] at ha
   simp only [cond_true, Option.some.injEq, Sigma.mk.injEq] at ha
   obtain ⟨rfl, ha⟩ := ha
   have ha := eq_of_heq ha
   subst ha
   simp only [Bool.and_eq_true] at hmn
   have e1 := Nat.eq_of_beq_eq_true hmn.1
   subst e1
   obtain ⟨hps, hsz⟩ := takeN_eq htk
   rw [hps] at hl
   have h2 := hl.split.2
   obtain ⟨x1, x2, e3, h3, _⟩ := h2
   exact h3.1
 ·cases ha
theorem locS_c {x : SV} {v : Value} {ps : List PV} {j : Nat} (h : Ok w0 ρ s a w) (hv : SVc (cx w0 ρ s w) x v) (hx : locS s x = some (ps, j)) :
  ∃ b q l, v = .pointer (some ⟨b, q + j, none⟩) ∧ PsC (cx w0 ρ s w) ps l ∧ At w b q l := by
 unfold locS at hx
 split at hx
 ·rename_i k off
  split at hx
  ·rename_i qs hk
   simp only [Option.some.injEq, Prod.mk.injEq] at hx
   obtain ⟨rfl, rfl⟩ := hx
   obtain ⟨_, b, hb, hl⟩ := SVc.one1 rfl (by simp) hv
   obtain ⟨b', e, cs, hb', hh, hp⟩ := h.heap k _ hk
   have : b' = b := by
    have : (cx w0 ρ s w).ρ k = .pointer (some ⟨b, 0, none⟩) := hb
    rw [hb'] at this; injection this with this; injection this with this; injection this
   subst this
   simp only [List.cons.injEq, and_true] at hl
   refine ⟨b', 0, cs.toList, by rw [hl, Nat.zero_add], hp, ?_⟩
   have := At.of_block hh 0 cs.size
   rw [List.drop_zero, List.take_of_length_le (by simp)] at this
   exact this
  ·cases hx
 ·rename_i k off n sz i j'
  split at hx
  ·rename_i qs hk
   split at hx
   ·rename_i u xs ha
    simp only [Option.some.injEq, Prod.mk.injEq] at hx
    obtain ⟨rfl, rfl⟩ := hx
    obtain ⟨_, hi, b, hb, hl⟩ := SVc.one1 rfl (by simp) hv
    obtain ⟨b', e, cs, hb', hh, hp⟩ := h.heap k _ hk
    have : b' = b := by
     have : (cx w0 ρ s w).ρ k = .pointer (some ⟨b, 0, none⟩) := hb
     rw [hb'] at this; injection this with this; injection this with this; injection this
    subst this
    simp only [List.cons.injEq, and_true] at hl
    unfold arrAt at ha
    split at ha
    ·rename_i pre m t xs' rest htk
     cases hmn : (Nat.beq m n && Nat.beq t.size sz) with
     | false => rw [hmn] at ha; cases ha
     | true =>
      rw [hmn] at ha
      simp only [cond_true, Option.some.injEq, Sigma.mk.injEq] at ha
      obtain ⟨rfl, ha⟩ := ha
      have ha := eq_of_heq ha
      subst ha
      simp only [Bool.and_eq_true] at hmn
      have e1 := Nat.eq_of_beq_eq_true hmn.1
      have e2 := Nat.eq_of_beq_eq_true hmn.2
      subst e1; subst e2
      obtain ⟨hps, hsz⟩ := takeN_eq htk
      rw [hps] at hp
      have h2 := hp.split.2
      rw [hsz] at h2
      obtain ⟨x1, x2, e3, h3, _⟩ := h2
      obtain ⟨hxl, hxc, hxr⟩ := h3
      have hr := hxr i (nth t xs' i) (nth_some (by rw [hxl]; exact hi))
      refine ⟨b', off + i * t.size, _, by rw [hl, Nat.add_assoc], explode_c hr, ?_⟩
      have hat := At.of_block hh off x1.length
      have hx1 : (cs.toList.drop off).take x1.length = x1 := by rw [e3]; simp
      rw [hx1] at hat
      exact hat.sub (i * t.size) t.size
    ·cases ha
   ·cases hx
  ·cases hx
 ·rename_i k sz i j'
  split at hx
  ·rename_i u xs hk
   cases hsz : Nat.beq u.size sz with
   | false => rw [hsz] at hx; cases hx
   | true =>
    rw [hsz] at hx
    simp only [cond_true, Option.some.injEq, Prod.mk.injEq] at hx
    obtain ⟨rfl, rfl⟩ := hx
    have e2 := Nat.eq_of_beq_eq_true hsz
    subst e2
    obtain ⟨_, b, q, n, cp, hb, hi, hl⟩ := SVc.one1 rfl (by simp) hv
    rcases h.heap k _ hk with ⟨hb', _⟩ | ⟨b', q', cp', cur, e, hb', hh, _, _, _, hr⟩
    ·rw [hb'] at hb; cases hb
    ·rw [hb'] at hb
     simp only [Value.slice.injEq, Option.some.injEq, Addr.mk.injEq, and_true] at hb
     obtain ⟨⟨rfl, rfl⟩, rfl, rfl⟩ := hb
     simp only [List.cons.injEq, and_true] at hl
     have hr' := hr i (nth u xs i) (nth_some hi)
     exact ⟨b', q' + i * u.size, _, by rw [hl, Nat.add_assoc], explode_c hr', At.of_block hh _ _⟩
  ·cases hx
 ·rename_i k sz i j2 n' sz' i' j'
  split at hx
  ·rename_i u xs hk
   cases hsz : Nat.beq u.size sz with
   | false => rw [hsz] at hx; cases hx
   | true =>
    rw [hsz] at hx
    simp only [cond_true] at hx
    split at hx
    ·rename_i v ys ha
     simp only [Option.some.injEq, Prod.mk.injEq] at hx
     obtain ⟨rfl, rfl⟩ := hx
     have e2 := Nat.eq_of_beq_eq_true hsz
     subst e2
     obtain ⟨_, hi', b, q, n, cp, hb, hi, hl⟩ := SVc.one1 rfl (by simp) hv
     rcases h.heap k _ hk with ⟨hb', _⟩ | ⟨b', q', cp', cur, e, hb', hh, _, _, _, hr⟩
     ·rw [hb'] at hb; cases hb
     ·rw [hb'] at hb
      simp only [Value.slice.injEq, Option.some.injEq, Addr.mk.injEq, and_true] at hb
      obtain ⟨⟨rfl, rfl⟩, rfl, rfl⟩ := hb
      simp only [List.cons.injEq, and_true] at hl
      have hr' := hr i (nth u xs i) (nth_some hi)
      obtain ⟨x1, e3, hxr⟩ := arrAt_c ha (explode_c hr') hi'
      refine ⟨b', q' + i * u.size + (j2 + i' * v.size), _, ?_, explode_c hxr, ?_⟩
      ·rw [hl, e3]; simp [Nat.add_assoc]
      ·have hat := At.of_block hh (q' + i * u.size) u.size
       exact hat.sub (j2 + i' * v.size) v.size
    ·cases hx
  ·cases hx
 ·rename_i u x'
  simp only [Option.some.injEq, Prod.mk.injEq] at hx
  obtain ⟨rfl, rfl⟩ := hx
  obtain ⟨b, q, cs, hl, hS, hr, hc⟩ := SVc.one1 rfl (by simp) hv
  simp only [List.cons.injEq, and_true] at hl
  exact ⟨b, q, cs, by rw [hl]; rfl, explode_c hr, hc⟩
 ·cases hx

theorem load_does {t : TypeId} {x : Operand} {p : Option Prop} {R : Act → World → Prop} (hE : EnvOk P E) (h : Ok w0 ρ s a w) (ho : o.op = .load t x)
  (hs : loadS E s o.dst t (ev s x) = some (p, s')) (hR : Up w0 s' R) : Does P o a w R := by
 unfold loadS at hs
 split at hs
 ·rename_i ti ps j hi hx
  split at hs
  ·rename_i pre m post hc
   split at hs
   ·rename_i v hv
    simp only [ok, Option.some.injEq, Prod.mk.injEq] at hs
    obtain ⟨_, rfl⟩ := hs
    obtain ⟨b, q, l, e, hl, hat⟩ := locS_c h (h.ev x) hx
    obtain ⟨h1, h2⟩ := cut3_c hc hl
    have hn : ((l.drop j).take ti.size).length = ti.size := by rw [List.length_take, List.length_drop]; omega
    refine does_value (m := Instr.loadAt t (a.eval x)) h (by simp [execOp, ho]) ?_ (mkSV_c hv h1) hR
    rw [e]
    exact loadAt_run (hE t ti hi) (hat.sub j ti.size) hn
   ·cases hs
  ·cases hs
 ·cases hs
end
end Go.Sx
/-
 Sx, part I: stores.
-/
namespace Go.Sx
open Go.RowKit

def splice (l : List Value) (p : Nat) (m : List Value) : List Value := l.take p ++ (m ++ l.drop (p + m.length))
theorem splice_length {l : List Value} {p : Nat} {m : List Value} (h : p + m.length ≤ l.length) : (splice l p m).length = l.length := by
 simp only [splice, List.length_append, List.length_take, List.length_drop]; omega
theorem splice_get {l : List Value} {p : Nat} {m : List Value} (h : p + m.length ≤ l.length) (k : Nat) :
  (splice l p m)[k]? = if k < p then l[k]? else if k < p + m.length then m[k - p]? else l[k]? := by
 simp only [splice]
 by_cases h1 : k < p
 ·rw [if_pos h1, List.getElem?_append_left (by simp; omega), List.getElem?_take, if_pos h1]
 ·rw [if_neg h1, List.getElem?_append_right (by simp; omega)]
  have e : (l.take p).length = p := by simp; omega
  rw [e]
  by_cases h2 : k < p + m.length
  ·rw [if_pos h2, List.getElem?_append_left (by omega)]
  ·rw [if_neg h2, List.getElem?_append_right (by omega), List.getElem?_drop]
   congr 1; omega
theorem piece_get (l : List Value) (q n k : Nat) : ((l.drop q).take n)[k]? = if k < n then l[q + k]? else none := by
 rw [List.getElem?_take, List.getElem?_drop]
theorem splice_piece_out {l : List Value} {p : Nat} {m : List Value} (h : p + m.length ≤ l.length) {q n : Nat} (hq : q + n ≤ p ∨ p + m.length ≤ q) :
  ((splice l p m).drop q).take n = (l.drop q).take n := by
 apply List.ext_getElem?
 intro k
 rw [piece_get, piece_get]
 by_cases hk : k < n
 ·rw [if_pos hk, if_pos hk, splice_get h]
  by_cases h1 : q + k < p
  ·rw [if_pos h1]
  ·rw [if_neg h1, if_neg (by omega)]
 ·rw [if_neg hk, if_neg hk]
theorem splice_piece_in {l : List Value} {p : Nat} {m : List Value} (h : p + m.length ≤ l.length) {q n : Nat} (hq : q ≤ p) (hn : p + m.length ≤ q + n) (hl : q + n ≤ l.length) :
  ((splice l p m).drop q).take n = splice ((l.drop q).take n) (p - q) m := by
 have hlen : ((l.drop q).take n).length = n := by simp; omega
 apply List.ext_getElem?
 intro k
 rw [piece_get, splice_get h, splice_get (l := (l.drop q).take n) (p := p - q) (m := m) (by rw [hlen]; omega), piece_get]
 by_cases hk : k < n
 ·rw [if_pos hk]
  by_cases h1 : q + k < p
  ·rw [if_pos h1, if_pos (by omega), if_pos hk]
  ·rw [if_neg h1]
   by_cases h2 : q + k < p + m.length
   ·rw [if_pos h2, if_neg (by omega), if_pos (by omega)]; congr 1; omega
   ·rw [if_neg h2, if_neg (by omega), if_neg (by omega), if_pos hk]
 ·rw [if_neg hk, if_neg (by omega), if_neg (by omega), if_neg hk]
theorem splice_splice {l : List Value} {q n j : Nat} {m : List Value} (hl : q + n ≤ l.length) (hj : j + m.length ≤ n) :
  splice l q (splice ((l.drop q).take n) j m) = splice l (q + j) m := by
 have hlen : ((l.drop q).take n).length = n := by simp; omega
 have h2 : (splice ((l.drop q).take n) j m).length = n := by rw [splice_length (by rw [hlen]; exact hj), hlen]
 apply List.ext_getElem?
 intro k
 rw [splice_get (l := l) (p := q) (m := splice ((l.drop q).take n) j m) (by rw [h2]; exact hl), splice_get (l := l) (p := q + j) (m := m) (by omega), h2]
 by_cases h1 : k < q
 ·rw [if_pos h1, if_pos (by omega)]
 ·rw [if_neg h1]
  by_cases h3 : k < q + n
  ·rw [if_pos h3, splice_get (l := (l.drop q).take n) (p := j) (m := m) (by rw [hlen]; exact hj), piece_get]
   by_cases h4 : k - q < j
   ·rw [if_pos h4, if_pos (by omega), if_pos (by omega)]; congr 1; omega
   ·rw [if_neg h4]
    by_cases h5 : k - q < j + m.length
    ·rw [if_pos h5, if_neg (by omega), if_pos (by omega)]; congr 1; omega
    ·rw [if_neg h5, if_pos (by omega), if_neg (by omega), if_neg (by omega)]; congr 1; omega
  ·rw [if_neg h3, if_neg (by omega), if_neg (by omega)]

section
variable {P : Program} {E : Env} {w0 : Base} {w : World} {ρ : Nat → Value} {s s' : St} {a : Act} {o : Oper}

theorem setRow_below (w : World) (g : Nat) (cs : Array Value) (B : Nat) (h : B ≤ g) : Below B w (w.setRow g cs) :=
 ⟨rfl, rfl, rfl, by simp [World.setRow], fun k hk => setRow_other w g k _ (by omega)⟩

theorem storeAt_run {t : TypeId} {ti : TI} (h : TIok P t ti) {b q : Nat} {cur : Array Value} {e : TypeId} {v : Value} (hb : w.heap[b]? = some (.cells cur e (0, 0)))
  (hn : v.cells.toList.length = ti.size) (hq : q + ti.size ≤ cur.size) (h1 : ∀ u ∈ v.cells.toList, u.oneCell' = true) :
  (Instr.storeAt t (.pointer (some ⟨b, q, none⟩)) v).run P w = .ok () (w.setRow b (splice cur.toList q v.cells.toList).toArray) := by
 have hn' : v.cells.size = ti.size := by simpa using hn
 unfold Instr.storeAt Instr.sureAddr storeVar
 simp only [Sem.run_bind, Sem.run_pure, Result.andThen_ok, h.run_size]
 rw [if_neg (by simp [hn'])]
 have := run_storeCells_at P b q e v.cells.toList 0 cur w hb (by rw [hn]; simpa using hq) h1
 simp only [Nat.add_zero] at this
 simp only [this, splice, List.append_assoc]

theorem Rd.set {S : Nat → Prop} {w : World} {n i : Nat} {t : Ty} {cs l : List Value} {xs : List t.D} {y : t.D} (h : Rd S w (.arr n t) cs xs) (hi : i < n) (hy : Rd S w t l y) :
  Rd S w (.arr n t) (splice cs (i * t.size) l) (xs.set i y) := by
 obtain ⟨h1, h2, h3⟩ := h
 have hl := hy.len
 have hle : i * t.size + l.length ≤ cs.length := by
  rw [h2, hl]
  calc i * t.size + t.size = (i + 1) * t.size := by rw [Nat.add_mul, Nat.one_mul]
   _ ≤ n * t.size := Nat.mul_le_mul_right _ hi
 refine ⟨by simpa using h1, by rw [splice_length hle, h2], fun j x hx => ?_⟩
 have hj : j < n := by
  have := (List.getElem?_eq_some_iff.1 hx).1
  rw [List.length_set, h1] at this; exact this
 by_cases e : i = j
 ·subst e
  rw [splice_piece_in hle (Nat.le_refl _) (by rw [hl]; exact Nat.le_refl _) (by rw [hl] at hle; exact hle)]
  rw [List.getElem?_set_self (by rw [h1]; exact hi)] at hx
  injection hx with hx
  subst hx
  have : splice ((cs.drop (i * t.size)).take t.size) (i * t.size - i * t.size) l = l := by
   apply List.ext_getElem?
   intro k
   have hlen : ((cs.drop (i * t.size)).take t.size).length = t.size := by simp; omega
   rw [Nat.sub_self, splice_get (by rw [hlen, hl]; omega)]
   rw [if_neg (by omega)]
   by_cases hk : k < 0 + l.length
   ·rw [if_pos hk]; rfl
   ·rw [if_neg hk, List.getElem?_eq_none (by rw [hlen]; omega), List.getElem?_eq_none (by omega)]
  rw [this]; exact hy
 ·rw [splice_piece_out hle (by
   rcases Nat.lt_or_ge j i with hlt | hge
   ·left
    calc j * t.size + t.size = (j + 1) * t.size := by rw [Nat.add_mul, Nat.one_mul]
     _ ≤ i * t.size := Nat.mul_le_mul_right _ hlt
   ·right
    rw [hl]
    calc i * t.size + t.size = (i + 1) * t.size := by rw [Nat.add_mul, Nat.one_mul]
     _ ≤ j * t.size := Nat.mul_le_mul_right _ (by omega))]
  rw [List.getElem?_set_ne e] at hx
  exact h3 j x hx

theorem setArr_c {c : Cx} {ps ps' : List PV} {off n sz i : Nat} {u : Ty} {xs : List u.D} {y : u.D} {l m : List Value}
  (ha : arrAt ps off n sz = some ⟨u, xs⟩) (hs : setArr ps off n sz u (xs.set i y) = some ps') (hi : i < n) (hl : PsC c ps l) (hy : Rd c.S c.w u m y) :
  u.size = sz ∧ off + n * u.size ≤ l.length ∧ Rd c.S c.w u ((l.drop (off + i * u.size)).take u.size) (nth u xs i) ∧ PsC c ps' (splice l (off + i * u.size) m) := by
 unfold arrAt at ha
 unfold setArr at hs
 split at ha
 ·rename_i pre m' t xs' rest htk
  rw [htk] at hs
  cases hmn : (Nat.beq m' n && Nat.beq t.size sz) with
  | false => rw [hmn] at ha; cases ha
  | true =>
   rw [hmn] at ha
   simp only [cond_true, Option.some.injEq, Sigma.mk.injEq] at ha
   obtain ⟨rfl, ha⟩ := ha
   have ha := eq_of_heq ha
   subst ha
   simp only [Bool.and_eq_true] at hmn
   have e1 := Nat.eq_of_beq_eq_true hmn.1
   have e2 := Nat.eq_of_beq_eq_true hmn.2
   subst e1; subst e2
   simp only [and_self, if_true, Option.some.injEq] at hs
   subst hs
   obtain ⟨hps, hsz⟩ := takeN_eq htk
   rw [hps] at hl
   obtain ⟨h1, h2⟩ := hl.split
   rw [hsz] at h1 h2
   obtain ⟨x1, x2, e3, h3, h4⟩ := h2
   have hx1 : x1.length = m' * t.size := h3.len
   have hml : m.length = t.size := hy.len
   have hle : i * t.size + m.length ≤ x1.length := by
    rw [hx1, hml]
    calc i * t.size + t.size = (i + 1) * t.size := by rw [Nat.add_mul, Nat.one_mul]
     _ ≤ m' * t.size := Nat.mul_le_mul_right _ hi
   have hlen := hl.len
   rw [psSize_append, hsz] at hlen
   have hd : (l.drop off).length = x1.length + x2.length := by rw [e3, List.length_append]
   rw [List.length_drop] at hd
   have hoff : off ≤ l.length := by omega
   have hx1' : (l.drop off).take (m' * t.size) = x1 := by rw [e3, ← hx1]; simp
   have hfit : off + m' * t.size ≤ l.length := by omega
   have hset := Rd.set h3 hi hy
   refine ⟨rfl, hfit, ?_, ?_⟩
   ·have := h3.2.2 i (nth t xs' i) (nth_some (by rw [h3.1]; exact hi))
    have e4 : (l.drop (off + i * t.size)).take t.size = (x1.drop (i * t.size)).take t.size := by
     rw [← List.drop_drop, e3, List.drop_append_of_le_length (by omega), List.take_append_of_le_length (by rw [List.length_drop]; omega)]
    rw [e4]; exact this
   ·have e5 : splice l (off + i * t.size) m = l.take off ++ (splice x1 (i * t.size) m ++ x2) := by
     have hss := splice_splice (l := l) (q := off) (n := m' * t.size) (j := i * t.size) (m := m) hfit (by rw [← hx1]; exact hle)
     rw [hx1'] at hss
     rw [← hss]
     show l.take off ++ (splice x1 (i * t.size) m ++ l.drop (off + (splice x1 (i * t.size) m).length)) = _
     rw [splice_length hle, ← List.drop_drop, e3]
     simp
    rw [e5]
    exact h1.append ⟨_, _, rfl, hset, h4⟩
 ·cases ha

theorem arrStore_c {c : Cx} {ps ps' qs es : List PV} {off n sz i j sz' : Nat} {u : Ty} {xs : List u.D} {z : u.D} {l m : List Value}
  (ha : arrAt ps off n sz = some ⟨u, xs⟩) (he : setPs (explode u (nth u xs i)) j sz' qs = some es) (hz : rdAll u es = some z) (hs : setArr ps off n sz u (xs.set i z) = some ps')
  (hi : i < n) (hl : PsC c ps l) (hm : PsC c qs m) : u.size = sz ∧ m.length = sz' ∧ off + (i * sz + j) + sz' ≤ l.length ∧ PsC c ps' (splice l (off + (i * sz + j)) m) := by
 obtain ⟨_, e0, hr⟩ := arrAt_c ha hl hi
 subst e0
 obtain ⟨h5, h6, h7⟩ := setPs_c he (explode_c hr) hm
 have hz' := rdAll_c hz h5
 obtain ⟨e2, hfit, _, hfin⟩ := setArr_c (i := i) (y := z) ha hs hi hl hz'
 have hel := hr.len
 rw [hel] at h7
 have hile : (i + 1) * u.size ≤ n * u.size := Nat.mul_le_mul_right _ hi
 rw [Nat.add_mul, Nat.one_mul] at hile
 refine ⟨rfl, h6, by omega, ?_⟩
 have e8 : splice l (off + i * u.size) (((l.drop (off + i * u.size)).take u.size).take j ++ (m ++ ((l.drop (off + i * u.size)).take u.size).drop (j + sz'))) = splice l (off + (i * u.size + j)) m := by
  have := splice_splice (l := l) (q := off + i * u.size) (n := u.size) (j := j) (m := m) (by omega) (by rw [h6]; exact h7)
  rw [← Nat.add_assoc, ← this]
  simp only [splice, h6]
 rw [e8] at hfin
 exact hfin

theorem store_fin {t : TypeId} {ti : TI} {x y : Operand} {R : Act → World → Prop} {k b q : Nat} {cur : Array Value} {e : TypeId} {h0 he : HE}
  (hT : TIok P t ti) (h : Ok w0 ρ s a w) (ho : o.op = .store t x y) (hx : a.eval x = .pointer (some ⟨b, q, none⟩)) (hk : s.hp k = some h0) (hbk : blkOf (ρ k) = some b)
  (hb : w.heap[b]? = some (.cells cur e (0, 0))) (hn : (a.eval y).cells.toList.length = ti.size) (hq : q + ti.size ≤ cur.size)
  (h1 : ∀ u ∈ (a.eval y).cells.toList, u.oneCell' = true)
  (hhe : ∀ w', w'.heap[b]? = some (.cells (splice cur.toList q (a.eval y).cells.toList).toArray e (0, 0)) → (cx w0 ρ s w).le (cx w0 ρ (s.upd k he) w') → HEc (cx w0 ρ (s.upd k he) w') k he)
  (hR : Up w0 ((s.upd k he).put o.dst (.one .any)) R) : Does P o a w R := by
 have hrun := storeAt_run hT (v := a.eval y) hb hn hq h1
 have hold : ∀ b', blkOf (ρ k) ≠ some b' → (w.setRow b (splice cur.toList q (a.eval y).cells.toList).toArray).heap[b']? = w.heap[b']? := fun b' hne =>
  setRow_other w b b' _ (fun e => hne (by rw [hbk, e]))
 have hle := upd_le (w0 := w0) (ρ := ρ) (s := s) (he := he) ⟨h0, hk⟩ (by simp) hold
 have hok : Ok w0 ρ (s.upd k he) a (w.setRow b (splice cur.toList q (a.eval y).cells.toList).toArray) :=
  h.upd hk (setRow_below w b _ _ (h.fresh k h0 b hk hbk).1) hold (hhe _ (setRow_heap w b cur _ e _ hb) hle)
 refine .inr ⟨_, ?_, hR ρ _ _ (hok.put o.dst (SVc_any _))⟩
 simp only [execOp, ho, hx, Sem.run_bind, hrun, Result.andThen_ok, Sem.run_pure]

theorem store_does {t : TypeId} {x y : Operand} {p : Option Prop} {R : Act → World → Prop} (hE : EnvOk P E) (h : Ok w0 ρ s a w) (ho : o.op = .store t x y)
  (hs : storeS E s t (ev s x) (ev s y) = some (p, s')) (hR : Up w0 (s'.put o.dst (.one .any)) R) : Does P o a w R := by
 unfold storeS at hs
 split at hs
 ·rename_i ti qs hti hqs
  have hT := hE t ti hti
  have hm := SVparts_c (h.ev y) hqs
  have hm1 := hm.one
  split at hs
  ·rename_i k off hx
   split at hs
   ·rename_i ps hk
    split at hs
    ·rename_i ps' hps
     simp only [ok, Option.some.injEq, Prod.mk.injEq] at hs
     obtain ⟨_, rfl⟩ := hs
     have hv := h.ev x
     rw [hx] at hv
     obtain ⟨_, b, hb, hl⟩ := SVc.one1 rfl (by simp) hv
     obtain ⟨b', e, cs, hb', hh, hp⟩ := h.heap k _ hk
     have : b' = b := by
      have : (cx w0 ρ s w).ρ k = .pointer (some ⟨b, 0, none⟩) := hb
      rw [hb'] at this; injection this with this; injection this with this; injection this
     subst this
     simp only [List.cons.injEq, and_true] at hl
     obtain ⟨h1, h2, h3⟩ := setPs_c hps hp hm
     refine store_fin hT h ho hl hk (by rw [show ρ k = _ from hb']; rfl) hh h2 (by simpa using h3) hm1 ?_ hR
     intro w' hw' hle
     refine ⟨b', e, _, hb', hw', ?_⟩
     have h4 := h1.mono hle
     simpa [splice, h2] using h4
    ·cases hs
   ·cases hs
  ·rename_i k off n sz i j hx
   split at hs
   ·rename_i ps hk
    split at hs
    ·rename_i u xs hau
     split at hs
     ·rename_i es hes
      split at hs
      ·rename_i z hz
       split at hs
       ·rename_i ps' hps
        simp only [ok, Option.some.injEq, Prod.mk.injEq] at hs
        obtain ⟨_, rfl⟩ := hs
        have hv := h.ev x
        rw [hx] at hv
        obtain ⟨_, hi, b, hb, hl⟩ := SVc.one1 rfl (by simp) hv
        obtain ⟨b', e, cs, hb', hh, hp⟩ := h.heap k _ hk
        have : b' = b := by
         have : (cx w0 ρ s w).ρ k = .pointer (some ⟨b, 0, none⟩) := hb
         rw [hb'] at this; injection this with this; injection this with this; injection this
        subst this
        simp only [List.cons.injEq, and_true] at hl
        -- the element as it was: by the same law at the data itself
        have hself := fun m => setArr_c (i := i) (y := z) (m := m) hau hps hi hp
        have hau' := hau
        unfold arrAt at hau'
        split at hau'
        ·rename_i pre m' t' xs' rest htk
         cases hmn : (Nat.beq m' n && Nat.beq t'.size sz) with
         | false => rw [hmn] at hau'; cases hau'
         | true =>
          rw [hmn] at hau'
          simp only [cond_true, Option.some.injEq, Sigma.mk.injEq] at hau'
          obtain ⟨rfl, hau'⟩ := hau'
          have hau' := eq_of_heq hau'
          subst hau'
          obtain ⟨hpe, hsz⟩ := takeN_eq htk
          rw [hpe] at hp
          have h2 := hp.split.2
          rw [hsz] at h2
          obtain ⟨x1, x2, e3, h3, _⟩ := h2
          simp only [Bool.and_eq_true] at hmn
          have e1 := Nat.eq_of_beq_eq_true hmn.1
          subst e1
          have hr := h3.2.2 i (nth t' xs' i) (nth_some (by rw [h3.1]; exact hi))
          obtain ⟨h5, h6, h7⟩ := setPs_c hes (explode_c hr) hm
          have hz' := rdAll_c hz h5
          rw [← hpe] at hp
          obtain ⟨e2, hfit, _, hfin⟩ := hself _ hz'
          subst e2
          have hxl : x1.length = m' * t'.size := h3.len
          have hel : ((x1.drop (i * t'.size)).take t'.size).length = t'.size := hr.len
          rw [hel] at h7
          have hile : (i + 1) * t'.size ≤ m' * t'.size := Nat.mul_le_mul_right _ hi
          rw [Nat.add_mul, Nat.one_mul] at hile
          have epiece : (x1.drop (i * t'.size)).take t'.size = (cs.toList.drop (off + i * t'.size)).take t'.size := by
           rw [← List.drop_drop, e3, List.drop_append_of_le_length (by omega), List.take_append_of_le_length (by rw [List.length_drop]; omega)]
          have hcs : cs.toList.length = cs.size := by simp
          have e8 : splice cs.toList (off + i * t'.size) (((x1.drop (i * t'.size)).take t'.size).take j ++ ((a.eval y).cells.toList ++ ((x1.drop (i * t'.size)).take t'.size).drop (j + ti.size))) =
            splice cs.toList (off + (i * t'.size + j)) (a.eval y).cells.toList := by
           have := splice_splice (l := cs.toList) (q := off + i * t'.size) (n := t'.size) (j := j) (m := (a.eval y).cells.toList) (by omega) (by rw [h6]; exact h7)
           rw [← Nat.add_assoc, ← this, ← epiece]
           simp only [splice, h6]
          rw [e8] at hfin
          refine store_fin hT h ho hl hk (by rw [show ρ k = _ from hb']; rfl) hh h6 (by omega) hm1 ?_ hR
          intro w' hw' hle
          exact ⟨b', e, _, hb', hw', by simpa using hfin.mono hle⟩
        ·cases hau'
       ·cases hs
      ·cases hs
     ·cases hs
    ·cases hs
   ·cases hs
  ·rename_i k sz i j hx
   split at hs
   ·rename_i u xs hk
    cases hsz : Nat.beq u.size sz with
    | false => rw [hsz] at hs; cases hs
    | true =>
     rw [hsz] at hs
     simp only [cond_true] at hs
     split at hs
     ·rename_i es hes
      split at hs
      ·rename_i z hz
       simp only [ok, Option.some.injEq, Prod.mk.injEq] at hs
       obtain ⟨_, rfl⟩ := hs
       have e2 := Nat.eq_of_beq_eq_true hsz
       subst e2
       have hv := h.ev x
       rw [hx] at hv
       obtain ⟨_, b, q, n, cp, hb, hi, hl⟩ := SVc.one1 rfl (by simp) hv
       rcases h.heap k _ hk with ⟨hb', _⟩ | ⟨b', q', cp', cur, e, hb', hh, hc1, hc2, hc3, hr⟩
       ·rw [hb'] at hb; cases hb
       ·have hb0 := hb'
        rw [hb'] at hb
        simp only [Value.slice.injEq, Option.some.injEq, Addr.mk.injEq, and_true] at hb
        obtain ⟨⟨rfl, rfl⟩, rfl, rfl⟩ := hb
        simp only [List.cons.injEq, and_true] at hl
        have hr' := hr i (nth u xs i) (nth_some hi)
        obtain ⟨h5, h6, h7⟩ := setPs_c hes (explode_c hr') hm
        have hz' := rdAll_c hz h5
        have hel : ((cur.toList.drop (q' + i * u.size)).take u.size).length = u.size := hr'.len
        rw [hel] at h7
        have hile : (i + 1) * u.size ≤ cp' * u.size := Nat.mul_le_mul_right _ (by omega)
        rw [Nat.add_mul, Nat.one_mul] at hile
        have hcur : cur.toList.length = cur.size := by simp
        refine store_fin hT h ho hl hk (by rw [show ρ k = _ from hb']; rfl) hh h6 (by omega) hm1 ?_ hR
        intro w' hw' hle
        refine .inr ⟨b', q', cp', _, e, ?_, hw', by simpa using hc1, hc2, ?_, ?_⟩
        ·rw [List.length_set]; exact hb0
        ·simp only [List.size_toArray]
         rw [splice_length (by omega), hcur]; exact hc3
        ·intro i2 x2 hx2
         have hi2 : i2 < xs.length := by
          have := (List.getElem?_eq_some_iff.1 hx2).1
          rwa [List.length_set] at this
         have hi2le : (i2 + 1) * u.size ≤ cp' * u.size := Nat.mul_le_mul_right _ (by omega)
         rw [Nat.add_mul, Nat.one_mul] at hi2le
         show Rd _ _ u (((splice cur.toList (q' + (i * u.size + j)) (a.eval y).cells.toList).drop (q' + i2 * u.size)).take u.size) x2
         by_cases e3 : i = i2
         ·subst e3
          rw [List.getElem?_set_self hi] at hx2
          injection hx2 with hx2
          subst hx2
          rw [splice_piece_in (by omega) (by omega) (by omega) (by omega)]
          rw [show q' + (i * u.size + j) - (q' + i * u.size) = j by omega]
          have := Rd.mono hle.keep hz'
          simpa only [splice, h6] using this
         ·rw [List.getElem?_set_ne e3] at hx2
          rw [splice_piece_out (by omega) (by
           rcases Nat.lt_or_ge i2 i with hlt | hge
           ·left
            have : (i2 + 1) * u.size ≤ i * u.size := Nat.mul_le_mul_right _ hlt
            rw [Nat.add_mul, Nat.one_mul] at this
            omega
           ·right
            have : (i + 1) * u.size ≤ i2 * u.size := Nat.mul_le_mul_right _ (by omega)
            rw [Nat.add_mul, Nat.one_mul] at this
            omega)]
          exact Rd.mono hle.keep (hr i2 x2 hx2)
      ·cases hs
     ·cases hs
   ·cases hs
  ·rename_i k sz i j n' sz' i' j' hx
   split at hs
   ·rename_i u xs hk
    cases hsz : Nat.beq u.size sz with
    | false => rw [hsz] at hs; cases hs
    | true =>
     rw [hsz] at hs
     simp only [cond_true] at hs
     split at hs
     ·rename_i v ys hav
      split at hs
      ·rename_i es hes
       split at hs
       ·rename_i y2 hy2
        split at hs
        ·rename_i ps' hps'
         split at hs
         ·rename_i z hz
          simp only [ok, Option.some.injEq, Prod.mk.injEq] at hs
          obtain ⟨_, rfl⟩ := hs
          have e2 := Nat.eq_of_beq_eq_true hsz
          subst e2
          have hv := h.ev x
          rw [hx] at hv
          obtain ⟨_, hi', b, q, n, cp, hb, hi, hl⟩ := SVc.one1 rfl (by simp) hv
          rcases h.heap k _ hk with ⟨hb', _⟩ | ⟨b', q', cp', cur, e, hb', hh, hc1, hc2, hc3, hr⟩
          ·rw [hb'] at hb; cases hb
          ·have hb0 := hb'
           rw [hb'] at hb
           simp only [Value.slice.injEq, Option.some.injEq, Addr.mk.injEq, and_true] at hb
           obtain ⟨⟨rfl, rfl⟩, rfl, rfl⟩ := hb
           simp only [List.cons.injEq, and_true] at hl
           have hr' := hr i (nth u xs i) (nth_some hi)
           obtain ⟨e9, h6, h7, h5⟩ := arrStore_c hav hes hy2 hps' hi' (explode_c hr') hm
           subst e9
           have hz' := rdAll_c hz h5
           have hel : ((cur.toList.drop (q' + i * u.size)).take u.size).length = u.size := hr'.len
           rw [hel] at h7
           generalize hJ : j + (i' * v.size + j') = J at *
           have hile : (i + 1) * u.size ≤ cp' * u.size := Nat.mul_le_mul_right _ (by omega)
           rw [Nat.add_mul, Nat.one_mul] at hile
           have hcur : cur.toList.length = cur.size := by simp
           refine store_fin hT h ho hl hk (by rw [show ρ k = _ from hb']; rfl) hh h6 (by omega) hm1 ?_ hR
           intro w' hw' hle
           refine .inr ⟨b', q', cp', _, e, ?_, hw', by simpa using hc1, hc2, ?_, ?_⟩
           ·rw [List.length_set]; exact hb0
           ·simp only [List.size_toArray]
            rw [splice_length (by omega), hcur]; exact hc3
           ·intro i2 x2 hx2
            have hi2 : i2 < xs.length := by
             have := (List.getElem?_eq_some_iff.1 hx2).1
             rwa [List.length_set] at this
            have hi2le : (i2 + 1) * u.size ≤ cp' * u.size := Nat.mul_le_mul_right _ (by omega)
            rw [Nat.add_mul, Nat.one_mul] at hi2le
            show Rd _ _ u (((splice cur.toList (q' + (i * u.size + J)) (a.eval y).cells.toList).drop (q' + i2 * u.size)).take u.size) x2
            by_cases e3 : i = i2
            ·subst e3
             rw [List.getElem?_set_self hi] at hx2
             injection hx2 with hx2
             subst hx2
             rw [splice_piece_in (by omega) (by omega) (by omega) (by omega)]
             rw [show q' + (i * u.size + J) - (q' + i * u.size) = J by omega]
             have := Rd.mono hle.keep hz'
             simpa only [splice, h6] using this
            ·rw [List.getElem?_set_ne e3] at hx2
             rw [splice_piece_out (by omega) (by
              rcases Nat.lt_or_ge i2 i with hlt | hge
              ·left
               have : (i2 + 1) * u.size ≤ i * u.size := Nat.mul_le_mul_right _ hlt
               rw [Nat.add_mul, Nat.one_mul] at this
               omega
              ·right
               have : (i + 1) * u.size ≤ i2 * u.size := Nat.mul_le_mul_right _ (by omega)
               rw [Nat.add_mul, Nat.one_mul] at this
               omega)]
             exact Rd.mono hle.keep (hr i2 x2 hx2)
         ·cases hs
        ·cases hs
       ·cases hs
      ·cases hs
     ·cases hs
   ·cases hs
  ·cases hs
 ·cases hs
end
end Go.Sx
/-
 Sx, part J: new boxes and closures, addresses of fields and elements, slices of slices, lengths.
-/
namespace Go.Sx
open Go.RowKit

section
variable {P : Program} {E : Env} {w0 : Base} {w : World} {ρ : Nat → Value} {s s' : St} {a : Act} {o : Oper}

theorem newVar_run (t : TypeId) (v : Value) : (newVar t v).run P w = .ok ⟨w.heap.size, 0, none⟩ (w.alloc (.cells v.cells t)) := rfl
theorem newRow_run (t : TypeId) (cs : Array Value) : (newRow t cs).run P w = .ok ⟨w.heap.size, 0, none⟩ (w.alloc (.cells cs t)) := rfl

theorem TIok.run_zero {t : TypeId} {ti : TI} (h : TIok P t ti) (w : World) : ∃ z, (zeroValue t).run P w = .ok z w ∧ z.cells.toList = cellsPs ti.zero := by
 obtain ⟨i, z, h1, _, _, h4, h5⟩ := h.info
 refine ⟨z, by simp [zeroValue, typeInfo, h1, h4], ?_⟩
 have hone : ∀ v ∈ cellsPs ti.zero, v.oneCell' = true := (cellsPs_c (c := ⟨fun _ => undef, fun _ => false, fun _ => False, w⟩) h.flat).one
 cases hg : ti.kind.agg
 ·rw [hg] at h5
  have hs : ti.size = 1 := by
   rcases h.one with h1 | h1
   ·rw [hg] at h1; cases h1
   ·exact h1
  have hl := h.size
  rw [hs] at hl
  match hc : cellsPs ti.zero, hl with
  | [v], _ =>
   rw [hc] at h5 hone
   simp only [cond_false, List.headD_cons] at h5
   rw [h5]
   have := hone v (by simp)
   cases v <;> first | rfl | cases this
 ·rw [hg] at h5; rw [h5]; rfl

theorem new_box {R : Act → World → Prop} {k : Nat} {ps : List PV} {t : TypeId} {cs : Array Value} (h : Ok w0 ρ s a w) (hk : s.us k = false) (hp : PsC (cx w0 ρ s w) ps cs.toList)
  (hR : Up w0 ((s.new k (.box ps)).put o.dst (.one (.ptr k 0))) R) : R (a.put o.dst (.pointer (some ⟨w.heap.size, 0, none⟩))) (w.alloc (.cells cs t)) := by
 have hm := More.alloc w (.cells cs t)
 have hle := new_le (w0 := w0) (ρ := ρ) (s := s) (he := .box ps) (v := .pointer (some ⟨w.heap.size, 0, none⟩)) hk hm (fun b e => by injection e with e; subst e; exact Nat.le_refl _)
 have hok := h.new (he := .box ps) (v := .pointer (some ⟨w.heap.size, 0, none⟩)) hk hm
  (fun b e => by injection e with e; subst e; exact ⟨Nat.le_refl _, by simp⟩)
  ⟨w.heap.size, t, cs, rset_same _ _ _, heap_alloc_new w _, hp.mono hle⟩
 exact hR _ _ _ (hok.put o.dst (SVc.of1 rfl ⟨uset_same _ _, w.heap.size, rset_same _ _ _, rfl⟩))

theorem box_does {e : TypeId} {x : Operand} {k : Nat} {ps : List PV} {R : Act → World → Prop} (h : Ok w0 ρ s a w) (ho : o.op = .box e x) (hk : s.us k = false)
  (hp : (ev s x).parts = some ps) (hR : Up w0 ((s.new k (.box ps)).put o.dst (.one (.ptr k 0))) R) : Does P o a w R := by
 refine .inl ⟨.pointer (some ⟨w.heap.size, 0, none⟩), w.alloc (.cells (a.eval x).cells e), ?_, new_box h hk (SVparts_c (h.ev x) hp) hR⟩
 simp only [execOp, ho, Instr.box, Sem.run_bind, newVar_run, Result.andThen_ok, Sem.run_pure]
theorem alloc_does {e : TypeId} {k : Nat} {ti : TI} {R : Act → World → Prop} (hE : EnvOk P E) (h : Ok w0 ρ s a w) (ho : o.op = .alloc e) (hk : s.us k = false)
  (hi : E.info e = some ti) (hR : Up w0 ((s.new k (.box (psParts ti.zero))).put o.dst (.one (.ptr k 0))) R) : Does P o a w R := by
 obtain ⟨z, h1, h2⟩ := (hE e ti hi).run_zero w
 refine .inl ⟨.pointer (some ⟨w.heap.size, 0, none⟩), w.alloc (.cells z.cells e), ?_, new_box h hk (by rw [h2]; exact psParts_c (cellsPs_c (hE e ti hi).flat)) hR⟩
 simp only [execOp, ho, Instr.alloc, Sem.run_bind, h1, newVar_run, Result.andThen_ok, Sem.run_pure]

theorem oneParts_c (h0 : Ok w0 ρ s a w) : ∀ {xs : List Operand} {ps : List PV}, oneParts (xs.map (ev s)) = some ps → PsC (cx w0 ρ s w) ps (xs.map a.eval) ∧ ps.length = xs.length ∧ ∀ p ∈ ps, p.agg = false
 | [], ps, h => by injection h with h; subst h; exact ⟨rfl, rfl, by simp⟩
 | x :: xs, ps, h => by
  have hx := h0.ev x
  rw [List.map_cons] at h
  cases hsv : ev s x with
  | agg _ => rw [hsv] at h; cases h
  | tup _ => rw [hsv] at h; cases h
  | cnd _ _ => rw [hsv] at h; cases h
  | one p =>
   rw [hsv] at h hx
   have hn : p ≠ .any := fun e => by subst e; cases h
   have h' : (bif p.agg then none else (match oneParts (xs.map (ev s)) with
    | some ps => some (p :: ps)
    | none => none)) = some ps := by cases p <;> first | exact h | exact absurd rfl hn
   cases hg : p.agg with
   | true => rw [hg] at h'; cases h'
   | false =>
    rw [hg] at h'
    simp only [cond_false] at h'
    split at h'
    ·rename_i qs hq
     injection h' with h'
     subst h'
     obtain ⟨h1, h2, h3⟩ := oneParts_c h0 hq
     exact ⟨⟨[a.eval x], _, rfl, SVc.one1 hg hn hx, h1⟩, by simp [h2], by simpa using ⟨hg, h3⟩⟩
    ·cases h'

theorem clo_does {f : FuncId} {caps : Array Operand} {k : Nat} {ps : List PV} {R : Act → World → Prop} (h : Ok w0 ρ s a w) (ho : o.op = .makeFunc (.func f) #[] caps) (hk : s.us k = false)
  (hp : oneParts (caps.toList.map (ev s)) = some ps) (hR : Up w0 ((s.new k (.clo f ps)).put o.dst (.one (.clo k))) R) : Does P o a w R := by
 have hc := oneParts_c h hp
 have hle := new_le (w0 := w0) (ρ := ρ) (s := s) (he := .clo f ps) (v := .func (.func f) #[] (caps.map a.eval)) hk (More.refl w) (fun b e => by cases e)
 have hok := h.new (he := .clo f ps) (v := .func (.func f) #[] (caps.map a.eval)) hk (More.refl w) (fun b e => by cases e)
  ⟨_, rset_same _ _ _, by simpa using hc.1.mono hle, by simpa using hc.2.1, hc.2.2⟩
 have hv : PVc (cx w0 (rset ρ k (.func (.func f) #[] (caps.map a.eval))) (s.new k (.clo f ps)) w) (.clo k) [.func (.func f) #[] (caps.map a.eval)] := by
  have e : rset ρ k (.func (.func f) #[] (caps.map a.eval)) k = .func (.func f) #[] (caps.map a.eval) := rset_same _ _ _
  exact ⟨uset_same _ _, by show [_] = [rset ρ k _ k]; rw [e], by show (rset ρ k _ k).oneCell' = true; rw [e]; rfl⟩
 refine .inl ⟨.func (.func f) #[] (caps.map a.eval), w, ?_, hR _ _ _ (hok.put o.dst (SVc.of1 rfl hv))⟩
 simp [execOp, ho, Instr.makeFunc]

theorem field?_c {t : TypeId} {i fo : Nat} {fi : TI} (hE : EnvOk P E) (h : field? E t i = some (fo, fi)) :
  ∃ (F : Array Field) (f : Field), P.underlying t = some (.struct F) ∧ F[i]? = some f ∧ f.offset = fo ∧ TIok P f.type fi := by
 unfold field? at h
 split at h
 ·rename_i e
  split at h
  ·rename_i off ft hf
   split at h
   ·rename_i fi' hfi
    simp only [Option.some.injEq, Prod.mk.injEq] at h
    obtain ⟨rfl, rfl⟩ := h
    obtain ⟨F, hF, hfs⟩ := (hE _ _ e).kind
    rw [← hfs] at hf
    rw [List.getElem?_map, Option.map_eq_some_iff] at hf
    obtain ⟨f, hf1, hf2⟩ := hf
    simp only [Prod.mk.injEq] at hf2
    obtain ⟨rfl, rfl⟩ := hf2
    exact ⟨F, f, hF, by simpa using hf1, rfl, hE _ _ hfi⟩
   ·cases h
  ·cases h
 ·cases h

theorem fieldAt_run {t : TypeId} {i fo : Nat} {fi : TI} (hE : EnvOk P E) (h : field? E t i = some (fo, fi)) (hz : fi.size ≠ 0) (b q : Nat) :
  (Instr.fieldAt t (.pointer (some ⟨b, q, none⟩)) i).run P w = .ok (.pointer (some ⟨b, q + fo, none⟩)) w := by
 obtain ⟨F, f, hF, hf, rfl, hT⟩ := field?_c hE h
 unfold Instr.fieldAt Instr.sureAddr fieldPlace
 simp only [Sem.run_bind, run_underlying hF, Result.andThen_ok, hf, Sem.run_pure, hT.run_size, if_neg hz, Addr.add_lit]

theorem subD_c {c : Cx} : ∀ {t u : Ty} {x : t.D} {y : u.D} {off n : Nat} {l : List Value}, subD t x off n = some ⟨u, y⟩ → Rd c.S c.w t l x → Rd c.S c.w u ((l.drop off).take u.size) y
 | .pair a b, u, x, y, off, n, l, h, hl => by
  unfold subD at h
  cases h1 : (Nat.beq off 0 && Nat.beq n (a.size + b.size)) with
  | true =>
   rw [h1] at h
   simp only [cond_true, Option.some.injEq, Sigma.mk.injEq] at h
   obtain ⟨rfl, h⟩ := h
   have h := eq_of_heq h
   subst h
   simp only [Bool.and_eq_true] at h1
   rw [Nat.eq_of_beq_eq_true h1.1, List.drop_zero, List.take_of_length_le (by rw [hl.len]; exact Nat.le_refl _)]
   exact hl
  | false =>
   rw [h1] at h
   simp only [cond_false] at h
   obtain ⟨l1, l2, e, h2, h3⟩ := hl
   have hl1 := h2.len
   cases h4 : Nat.blt off a.size with
   | true =>
    rw [h4] at h
    simp only [cond_true] at h
    have ih := subD_c h h2
    have : off < a.size := by rw [Nat.blt_eq] at h4; exact h4
    have hle := ih.len
    rw [List.length_take, List.length_drop, hl1] at hle
    have e5 : ((l.drop off).take u.size) = ((l1.drop off).take u.size) := by
     rw [e, List.drop_append_of_le_length (by omega), List.take_append_of_le_length (by rw [List.length_drop]; omega)]
    rw [e5]; exact ih
   | false =>
    rw [h4] at h
    simp only [cond_false] at h
    have ih := subD_c h h3
    have hge : a.size ≤ off := by
     rcases Nat.lt_or_ge off a.size with hlt | hge
     ·have : Nat.blt off a.size = true := by rw [Nat.blt_eq]; exact hlt
      rw [this] at h4; cases h4
     ·exact hge
    have e5 : l.drop off = l2.drop (off - a.size) := by
     rw [e, List.drop_append, hl1, List.drop_of_length_le (by omega), List.nil_append]
    rw [e5]; exact ih
 | .int k, u, x, y, off, n, l, h, hl => subD_leaf h hl
 | .bool, u, x, y, off, n, l, h, hl => subD_leaf h hl
 | .str, u, x, y, off, n, l, h, hl => subD_leaf h hl
 | .sl t, u, x, y, off, n, l, h, hl => subD_leaf h hl
 | .arr m t, u, x, y, off, n, l, h, hl => subD_leaf h hl
 | .err, u, x, y, off, n, l, h, hl => subD_leaf (t := .err) h hl
where
 subD_leaf {c : Cx} {t u : Ty} {x : t.D} {y : u.D} {off n : Nat} {l : List Value} (h : (bif Nat.beq off 0 && Nat.beq n t.size then some (⟨t, x⟩ : (u : Ty) × u.D) else none) = some ⟨u, y⟩) (hl : Rd c.S c.w t l x) :
   Rd c.S c.w u ((l.drop off).take u.size) y := by
  cases h1 : (Nat.beq off 0 && Nat.beq n t.size) with
  | false => rw [h1] at h; cases h
  | true =>
   rw [h1] at h
   simp only [cond_true, Option.some.injEq, Sigma.mk.injEq] at h
   obtain ⟨rfl, h⟩ := h
   have h := eq_of_heq h
   subst h
   simp only [Bool.and_eq_true] at h1
   rw [Nat.eq_of_beq_eq_true h1.1, List.drop_zero, List.take_of_length_le (by rw [hl.len]; exact Nat.le_refl _)]
   exact hl

theorem fieldAddr_does {t : TypeId} {x : Operand} {i : Nat} {p : Option Prop} {R : Act → World → Prop} (hE : EnvOk P E) (h : Ok w0 ρ s a w) (ho : o.op = .fieldAddr t x i)
  (hs : fieldAddrS E s o.dst t (ev s x) i = some (p, s')) (hR : Up w0 s' R) : Does P o a w R := by
 unfold fieldAddrS at hs
 split at hs
 ·rename_i fo fi hf
  cases hz : Nat.beq fi.size 0 with
  | true => rw [hz] at hs; cases hs
  | false =>
  rw [hz] at hs
  simp only [cond_false] at hs
  have hz' : fi.size ≠ 0 := fun e => by rw [e] at hz; cases hz
  have hrun := fieldAt_run (w := w) hE hf hz'
  have hx := h.ev x
  split at hs
  ·rename_i k off e
   simp only [ok, Option.some.injEq, Prod.mk.injEq] at hs
   obtain ⟨_, rfl⟩ := hs
   rw [e] at hx
   obtain ⟨hu, b, hb, hl⟩ := SVc.one1 rfl (by simp) hx
   simp only [List.cons.injEq, and_true] at hl
   refine does_value (m := Instr.fieldAt t (a.eval x) i) h (by simp [execOp, ho]) (by rw [hl]; exact hrun _ _) (SVc.of1 (p := .ptr k (off + fo)) rfl ⟨hu, b, hb, rfl⟩) hR
  ·rename_i k off n sz ix j e
   simp only [ok, Option.some.injEq, Prod.mk.injEq] at hs
   obtain ⟨_, rfl⟩ := hs
   rw [e] at hx
   obtain ⟨hu, hi, b, hb, hl⟩ := SVc.one1 rfl (by simp) hx
   simp only [List.cons.injEq, and_true] at hl
   refine does_value (m := Instr.fieldAt t (a.eval x) i) h (by simp [execOp, ho]) (by rw [hl]; exact hrun _ _) (SVc.of1 (p := .pel k off n sz ix (j + fo)) rfl ⟨hu, hi, b, hb, by simp [Nat.add_assoc]⟩) hR
  ·rename_i k sz ix j e
   simp only [ok, Option.some.injEq, Prod.mk.injEq] at hs
   obtain ⟨_, rfl⟩ := hs
   rw [e] at hx
   obtain ⟨hu, b, q, n, cp, hb, hi, hl⟩ := SVc.one1 rfl (by simp) hx
   simp only [List.cons.injEq, and_true] at hl
   refine does_value (m := Instr.fieldAt t (a.eval x) i) h (by simp [execOp, ho]) (by rw [hl]; exact hrun _ _) (SVc.of1 (p := .rel k sz ix (j + fo)) rfl ⟨hu, b, q, n, cp, hb, hi, by simp [Nat.add_assoc]⟩) hR
  ·rename_i k sz ix j n' sz' ix' j' e
   simp only [ok, Option.some.injEq, Prod.mk.injEq] at hs
   obtain ⟨_, rfl⟩ := hs
   rw [e] at hx
   obtain ⟨hu, hi', b, q, n, cp, hb, hi, hl⟩ := SVc.one1 rfl (by simp) hx
   simp only [List.cons.injEq, and_true] at hl
   refine does_value (m := Instr.fieldAt t (a.eval x) i) h (by simp [execOp, ho]) (by rw [hl]; exact hrun _ _) (SVc.of1 (p := .rea k sz ix j n' sz' ix' (j' + fo)) rfl ⟨hu, hi', b, q, n, cp, hb, hi, by simp [Nat.add_assoc]⟩) hR
  ·rename_i u y e
   split at hs
   ·rename_i v z hv
    simp only [ok, Option.some.injEq, Prod.mk.injEq] at hs
    obtain ⟨_, rfl⟩ := hs
    rw [e] at hx
    obtain ⟨b, q, cs, hl, hS, hr, hc⟩ := SVc.one1 rfl (by simp) hx
    simp only [List.cons.injEq, and_true] at hl
    have hat : At w b q cs := hc
    refine does_value (m := Instr.fieldAt t (a.eval x) i) h (by simp [execOp, ho]) (by rw [hl]; exact hrun _ _) (SVc.of1 (p := .dpl v z) rfl ⟨b, q + fo, _, rfl, hS, subD_c (c := cx w0 ρ s w) hv hr, hat.sub fo v.size⟩) hR
   ·cases hs
  ·cases hs
 ·cases hs
end
end Go.Sx
/-
 Sx, part K: fields and elements of values, addresses of elements, lengths, slices of slices, and the small operations.
-/
namespace Go.Sx
open Go.RowKit

section
variable {P : Program} {E : Env} {w0 : Base} {w : World} {ρ : Nat → Value} {s s' : St} {a : Act} {o : Oper}

theorem isAgg_c {c : Cx} {x : SV} {v : Value} (h : SVc c x v) (hx : x.isAgg = true) : ∃ cs, v = .agg cs := by
 cases x with
 | agg ps => obtain ⟨cs, e, _⟩ := h; exact ⟨cs, e⟩
 | tup es => cases hx
 | cnd b p => cases hx
 | one p =>
  cases p with
  | d t y =>
   have h' : aggC c t.agg [.d t y] v := h
   rw [show t.agg = true from hx] at h'
   obtain ⟨cs, e, _⟩ := h'
   exact ⟨cs, e⟩
  | _ => cases hx

theorem part_run {t : TypeId} {ti : TI} (h : TIok P t ti) {cs : Array Value} {off : Nat} (hle : off + ti.size ≤ cs.size) :
  (part t cs off).run P w = .ok (bif ti.kind.agg then .agg ((cs.toList.drop off).take ti.size).toArray else ((cs.toList.drop off).take ti.size).headD undef) w := by
 unfold part
 simp only [Sem.run_bind, h.run_agg, Result.andThen_ok]
 cases hg : ti.kind.agg
 ·have h1 : ti.size = 1 := by
   rcases h.one with h1 | h1
   ·rw [hg] at h1; cases h1
   ·exact h1
  have hlt : off < cs.size := by omega
  have e1 : cs[off]? = some cs[off] := Array.getElem?_eq_getElem hlt
  have e2 : ((cs.toList.drop off).take ti.size).headD undef = cs[off] := by
   rw [h1]
   have : cs.toList.drop off = cs[off] :: cs.toList.drop (off + 1) := by
    rw [← Array.getElem_toList hlt]; exact List.drop_eq_getElem_cons (by simpa using hlt)
   rw [this]; rfl
  rw [e2]
  simp [e1]
 ·simp only [if_true, Sem.run_bind, h.run_size, Result.andThen_ok, Sem.run_pure, cond_true]
  congr 1
  congr 1
  apply Array.ext'
  rw [Array.toList_extract]
  simp [List.extract_eq_take_drop]

theorem field_does {t : TypeId} {x : Operand} {i : Nat} {p : Option Prop} {R : Act → World → Prop} (hE : EnvOk P E) (h : Ok w0 ρ s a w) (ho : o.op = .field t x i)
  (hs : fieldS E s o.dst t (ev s x) i = some (p, s')) (hR : Up w0 s' R) : Does P o a w R := by
 unfold fieldS at hs
 split at hs
 ·rename_i fo fi ps hf hps
  cases hg : (ev s x).isAgg with
  | false => rw [hg] at hs; cases hs
  | true =>
   rw [hg] at hs
   simp only [Bool.not_true, cond_false] at hs
   split at hs
   ·rename_i pre m post hc
    split at hs
    ·rename_i v hv
     simp only [ok, Option.some.injEq, Prod.mk.injEq] at hs
     obtain ⟨_, rfl⟩ := hs
     obtain ⟨cs, hcs⟩ := isAgg_c (h.ev x) hg
     have hp := SVparts_c (h.ev x) hps
     rw [hcs] at hp
     obtain ⟨h1, h2⟩ := cut3_c hc hp
     obtain ⟨F, f, hF, hf', rfl, hT⟩ := field?_c hE hf
     refine does_value (m := Instr.field t (a.eval x) i) h (by simp [execOp, ho]) ?_ (mkSV_c hv h1) hR
     unfold Instr.field
     simp only [Sem.run_bind, run_underlying hF, Result.andThen_ok, hf', hcs, asAgg, Sem.run_pure]
     exact part_run hT (by simpa [Value.cells] using h2)
    ·cases hs
   ·cases hs
 ·cases hs

theorem index_does {t : TypeId} {x y : Operand} {p : Option Prop} {R : Act → World → Prop} (hE : EnvOk P E) (h : Ok w0 ρ s a w) (ho : o.op = .index t x y)
  (hs : indexS E s o.dst t (ev s x) (ev s y) = some (p, s')) (hp : vcP p) (hR : Up w0 s' R) : Does P o a w R := by
 unfold indexS at hs
 split at hs
 ·rename_i l hl
  obtain ⟨ex, bx⟩ := asStr_c (h.ev x) hl
  cases hT : isStrT E t with
  | false => rw [hT] at hs; cases hs
  | true =>
   rw [hT] at hs
   simp only [cond_true] at hs
   split at hs
   ·rename_i k i hi
    have ey := asInt_c (h.ev y) hi
    simp only [Option.some.injEq, Prod.mk.injEq] at hs
    obtain ⟨rfl, rfl⟩ := hs
    have hp : 0 ≤ i ∧ i < (l.length : Int) := hp
    have hlt : i.toNat < l.length := by omega
    have hb := bx.2 l[i.toNat] (List.getElem_mem hlt)
    have en : nth (.int .u8) l i.toNat = l[i.toNat] := by simp [nth, hlt]
    refine does_value (m := Instr.index t (a.eval x) (a.eval y)) h (by simp [execOp, ho]) ?_ (sv_int (k := .u8) (n := nth (.int .u8) l i.toNat) (by rw [en]; exact hb)) hR
    rw [en]
    unfold Instr.index
    have hget : (mkStr l)[i.toNat]? = some (UInt8.ofNat l[i.toNat].toNat) := by
     have : i.toNat < (mkStr l).size := by rw [mkStr_size]; exact hlt
     rw [getElem?_pos (mkStr l) i.toNat this]
     simp only [mkStr, ByteArray.getElem_eq_getElem_data, List.getElem_toArray, List.getElem_map]
    simp only [Sem.run_bind, ey, asIntOf, Sem.run_pure, Result.andThen_ok, run_underlying (isStrT_c hE hT), ex, if_pos hp.1, hget]
    congr 2
    simp only [UInt8.toNat_ofNat']
    omega
   ·cases hs
 rename_i hnl
 split at hs
 ·rename_i sz by_ n e z ty k i hti hi
  have ey := asInt_c (h.ev y) hi
  split at hs
  ·rename_i ei m u xs hei hps
   cases hb : ((ev s x).isAgg && Nat.beq m n && Nat.beq u.size ei.size) with
   | false => rw [hb] at hs; cases hs
   | true =>
    rw [hb] at hs
    simp only [cond_true] at hs
    split at hs
    ·rename_i v hv
     simp only [Option.some.injEq, Prod.mk.injEq] at hs
     obtain ⟨rfl, rfl⟩ := hs
     simp only [Bool.and_eq_true] at hb
     have e1 := Nat.eq_of_beq_eq_true hb.1.2
     have e2 := Nat.eq_of_beq_eq_true hb.2
     subst e1
     obtain ⟨cs, hcs⟩ := isAgg_c (h.ev x) hb.1.1
     have hq := SVparts_c (h.ev x) hps
     rw [hcs] at hq
     obtain ⟨l1, l2, e3, h3, h4⟩ := hq
     have h4 : l2 = [] := h4
     rw [h4, List.append_nil] at e3
     have e3 : cs.toList = l1 := e3
     obtain ⟨hx1, hx2, hx3⟩ := h3
     have hilt : i.toNat < m := by omega
     have hr := hx3 i.toNat (nth u xs i.toNat) (nth_some (by omega))
     have hle : (i.toNat + 1) * u.size ≤ m * u.size := Nat.mul_le_mul_right _ hilt
     rw [Nat.add_mul, Nat.one_mul] at hle
     have hk := (hE t _ hti).kind
     refine does_value (m := Instr.index t (a.eval x) (a.eval y)) h (by simp [execOp, ho]) ?_ (mkSV_c hv (explode_c hr)) hR
     unfold Instr.index
     simp only [Sem.run_bind, ey, asIntOf, Sem.run_pure, Result.andThen_ok, run_underlying hk, hcs, if_pos hp, (hE e ei hei).run_size]
     rw [← e2, part_run (hE e ei hei) (by rw [← e2]; have := congrArg List.length e3; simp at this; omega), e3, ← e2]
    ·cases hs
  ·cases hs
 ·cases hs

theorem slD_cS {sv : SV} {v : Value} {t : Ty} {xs : List t.D} (h : Ok w0 ρ s a w) (hv : SVc (cx w0 ρ s w) sv v) (e : slD s sv = some ⟨t, xs⟩) :
  ∃ A c, v = .slice A xs.length c ∧ xs.length ≤ c ∧ c ≤ maxLen ∧ (0 < xs.length → ∃ b q, A = some ⟨b, q, none⟩ ∧ (b < w.heap.size ∧ w0.S b) ∧
   ∀ (i : Nat) x, xs[i]? = some x → ∃ l, At w b (q + i * t.size) l ∧ Rd (Free w0 ρ s.hp w) w t l x) := by
 unfold slD at e
 split at e
 ·simp only [Option.some.injEq, Sigma.mk.injEq] at e
  obtain ⟨rfl, e⟩ := e
  have e := eq_of_heq e
  subst e
  obtain ⟨A, c, h1, h2, h3, h4⟩ := SVc.one1 rfl (by simp) hv
  simp only [List.cons.injEq, and_true] at h1
  refine ⟨A, c, h1, h2, h3, fun hp => ?_⟩
  obtain ⟨b, q, e1, hS, hx⟩ := h4 hp
  refine ⟨b, q, e1, ⟨hS.1, hS.2.2⟩, fun i x hi => ?_⟩
  obtain ⟨l, hl, hr⟩ := hx i x hi
  exact ⟨l, fun j v hv => by rw [Nat.add_assoc]; exact hl j v hv, hr⟩
 ·rename_i k
  split at e
  ·rename_i t' xs' hk
   simp only [Option.some.injEq, Sigma.mk.injEq] at e
   obtain ⟨rfl, e⟩ := e
   have e := eq_of_heq e
   subst e
   obtain ⟨_, h1, _⟩ := SVc.one1 rfl (by simp) hv
   simp only [List.cons.injEq, and_true] at h1
   rcases h.heap k _ hk with ⟨h2, rfl⟩ | ⟨b, q, cp, cur, e, h2, hh, h3, h4, h5, h6⟩
   ·exact ⟨none, 0, by rw [h1]; exact h2, Nat.le_refl _, by simp [maxLen], fun hp => absurd hp (by simp)⟩
   ·refine ⟨some ⟨b, q, none⟩, cp, by rw [h1]; exact h2, h3, h4, fun _ => ⟨b, q, rfl, ⟨(Array.getElem?_eq_some_iff.1 hh).1, w0.all b (h.fresh k _ b hk (by rw [show ρ k = _ from h2]; rfl)).1⟩, fun i x hi => ⟨_, At.of_block hh _ _, h6 i x hi⟩⟩⟩
  ·cases e
 ·rename_i k k' sz x y
  split at e
  ·rename_i t' xs' hk
   cases hz : Nat.beq t'.size sz with
   | false => rw [hz] at e; cases e
   | true =>
    rw [hz] at e
    simp only [cond_true, Option.some.injEq, Sigma.mk.injEq] at e
    obtain ⟨rfl, e⟩ := e
    have e := eq_of_heq e
    subst e
    have ez := Nat.eq_of_beq_eq_true hz
    subst ez
    obtain ⟨_, _, h1, A, n, cp, h2, _, ⟨hxy, hyn⟩, h3⟩ := SVc.one1 rfl (by simp) hv
    simp only [List.cons.injEq, and_true] at h1
    rw [h3] at h1
    rcases h.heap k _ hk with ⟨h4, rfl⟩ | ⟨b, q, cp', cur, e, h4, hh, h5, h6, h7, h8⟩
    ·rw [h4] at h2
     cases h2
     have hy : y = 0 := by omega
     subst hy
     exact ⟨none, 0, by rw [h1]; simp, by simp, by simp [maxLen], fun hp => absurd hp (by simp)⟩
    ·rw [h4] at h2
     cases h2
     have hln : ((xs'.take y).drop x).length = y - x := by rw [List.length_drop, List.length_take]; omega
     refine ⟨_, cp - x, by rw [hln]; exact h1, by rw [hln]; omega, by omega, fun hp => ?_⟩
     rw [hln] at hp
     have hne : ¬ cp = x := by omega
     rw [if_neg hne]
     refine ⟨b, q + x * t'.size, by simp [Addr.add_lit], ⟨(Array.getElem?_eq_some_iff.1 hh).1, w0.all b (h.fresh k _ b hk (by rw [show ρ k = _ from h4]; rfl)).1⟩, fun i z hi => ?_⟩
     have hi' : xs'[x + i]? = some z := by
      rw [List.getElem?_drop, List.getElem?_take] at hi
      split at hi
      ·exact hi
      ·cases hi
     have := h8 (x + i) z hi'
     rw [show q + (x + i) * t'.size = q + x * t'.size + i * t'.size from by rw [Nat.add_mul, Nat.add_assoc]] at this
     exact ⟨_, At.of_block hh _ _, this⟩
  ·cases e
 ·rename_i k off n sz
  split at e
  ·rename_i ps hk
   cases hn : Nat.ble n 65536 with
   | false => rw [hn] at e; cases e
   | true =>
    rw [hn] at e
    simp only [cond_true] at e
    have hn := Nat.le_of_ble_eq_true hn
    obtain ⟨_, b, h1, h2⟩ := SVc.one1 rfl (by simp) hv
    simp only [List.cons.injEq, and_true] at h2
    obtain ⟨b', ty, cs, h3, hh, hps⟩ := h.heap k _ hk
    rw [h1] at h3
    cases h3
    have hln := arrAt_len e hps
    refine ⟨_, n, by rw [hln]; exact h2, by omega, by simp only [maxLen]; omega, fun hp => ⟨b, off, rfl, ⟨(Array.getElem?_eq_some_iff.1 hh).1, w0.all b (h.fresh k _ b hk (by rw [show ρ k = _ from h1]; rfl)).1⟩, fun i z hi => ?_⟩⟩
    have hi' : i < xs.length := (List.getElem?_eq_some_iff.1 hi).1
    obtain ⟨_, e0, hr⟩ := arrAt_c (i := i) e hps (by omega)
    have ez : nth t xs i = z := by rw [nth_some hi'] at hi; exact Option.some.inj hi
    rw [ez] at hr
    exact ⟨_, At.of_block hh _ _, hr⟩
  ·cases e
 ·cases e

theorem slD_c {sv : SV} {v : Value} {t : Ty} {xs : List t.D} (h : Ok w0 ρ s a w) (hv : SVc (cx w0 ρ s w) sv v) (e : slD s sv = some ⟨t, xs⟩) :
  ∃ A c, v = .slice A xs.length c ∧ xs.length ≤ c ∧ c ≤ maxLen ∧ (0 < xs.length → ∃ b q, A = some ⟨b, q, none⟩ ∧ b < w.heap.size ∧
   ∀ (i : Nat) x, xs[i]? = some x → ∃ l, At w b (q + i * t.size) l ∧ Rd (Free w0 ρ s.hp w) w t l x) := by
 obtain ⟨A, c, h1, h2, h3, h4⟩ := slD_cS h hv e
 refine ⟨A, c, h1, h2, h3, fun hp => ?_⟩
 obtain ⟨b, q, e1, e2, e3⟩ := h4 hp
 exact ⟨b, q, e1, e2.1, e3⟩

theorem exec_builtin {b : Builtin} {args : Array Operand} {ts : Array TypeId} (ho : o.op = .call { callee := .builtin b, args := args, argTypes := ts }) :
  execOp a.eval o = builtin b ts o.type (args.map fun | .const _ => true | _ => false) (args.map a.eval) := by
 simp only [execOp, ho, resolve]
 rfl

theorem isSliceT_c {t : TypeId} (hE : EnvOk P E) (h : isSliceT E t = true) : ∃ e, P.underlying t = some (.slice e) := by
 unfold isSliceT at h
 split at h
 ·rename_i e; exact ⟨_, (hE _ _ e).kind⟩
 ·cases h
theorem len_does {args : Array Operand} {ts : Array TypeId} {x : Operand} {t : TypeId} {p : Option Prop} {R : Act → World → Prop} (hE : EnvOk P E) (h : Ok w0 ρ s a w)
  (ho : o.op = .call { callee := .builtin .len, args := args, argTypes := ts }) (ha : args.toList = [x]) (ht : ts.toList = [t])
  (hs : lenS E s o.dst t (ev s x) = some (p, s')) (hR : Up w0 s' R) : Does P o a w R := by
 have ea : args = #[x] := by apply Array.ext'; simpa using ha
 have et : ts = #[t] := by apply Array.ext'; simpa using ht
 subst ea; subst et
 unfold lenS at hs
 split at hs
 ·rename_i l hx
  obtain ⟨hv, hb⟩ := asStr_c (h.ev x) hx
  cases hT : isStrT E t with
  | false => rw [hT] at hs; cases hs
  | true =>
   rw [hT] at hs
   simp only [cond_true, ok, Option.some.injEq, Prod.mk.injEq] at hs
   obtain ⟨_, rfl⟩ := hs
   refine does_value (m := Builtin.len_ #[t] o.type (#[x].map a.eval)) h (exec_builtin ho) ?_ (sv_int (k := .i64) (n := (l.length : Int)) ⟨by omega, by have := hb.1; omega⟩) hR
   simp [Builtin.len_, run_underlying (isStrT_c hE hT), hv, goInt, mkStr_size]
 rename_i hxs
 cases hT : isSliceT E t with
 | false => rw [hT] at hs; cases hs
 | true =>
  rw [hT] at hs
  simp only [Bool.not_true, cond_false] at hs
  obtain ⟨e, hu⟩ := isSliceT_c hE hT
  have hrun : ∀ A n c, a.eval x = .slice A n c → (Builtin.len_ #[t] o.type (#[x].map a.eval)).run P w = .ok (.int .i64 (n : Int)) w := by
   intro A n c hv
   simp [Builtin.len_, run_underlying hu, hv, goInt]
  split at hs
  ·rename_i hx
   simp only [ok, Option.some.injEq, Prod.mk.injEq] at hs
   obtain ⟨_, rfl⟩ := hs
   have hv := h.ev x
   rw [hx] at hv
   obtain ⟨h1, _⟩ := SVc.one1 rfl (by simp) hv
   simp only [List.cons.injEq, and_true] at h1
   exact does_value (m := Builtin.len_ #[t] o.type (#[x].map a.eval)) h (exec_builtin ho) (hrun _ _ _ h1) (sv_int (k := .i64) (n := 0) ⟨by omega, by omega⟩) hR
  ·split at hs
   ·rename_i u xs hx
    simp only [ok, Option.some.injEq, Prod.mk.injEq] at hs
    obtain ⟨_, rfl⟩ := hs
    obtain ⟨A, c, h1, h2, h3, _⟩ := slD_c h (h.ev x) hx
    exact does_value (m := Builtin.len_ #[t] o.type (#[x].map a.eval)) h (exec_builtin ho) (hrun _ _ _ h1) (sv_int (k := .i64) (n := (xs.length : Int)) ⟨by omega, by simp only [maxLen] at h3; omega⟩) hR
   ·cases hs
end
end Go.Sx
/-
 Sx, part L: addresses of elements, slices of slices, and the small operations.
-/
set_option linter.unusedSimpArgs false
namespace Go.Sx
open Go.RowKit

section
variable {P : Program} {E : Env} {w0 : Base} {w : World} {ρ : Nat → Value} {s s' : St} {a : Act} {o : Oper}

theorem indexAt_arr {t e : TypeId} {n sz : Nat} {ei : TI} (hk : P.underlying t = some (.array n e)) (hT : TIok P e ei) (b q : Nat) (k : IntKind) (i : Int) (hi : 0 ≤ i ∧ i < (n : Int)) (hz : ei.size = sz) :
  (Instr.indexAt t (.pointer (some ⟨b, q, none⟩)) (.int k i)).run P w = .ok (.pointer (some ⟨b, q + i.toNat * sz, none⟩)) w := by
 unfold Instr.indexAt
 simp only [Sem.run_bind, asIntOf, Sem.run_pure, Result.andThen_ok, run_underlying hk, Instr.sureAddr, if_pos hi, hT.run_size, Addr.add_lit, hz]
theorem indexAt_sl {t e : TypeId} {n c sz : Nat} {ei : TI} (hk : P.underlying t = some (.slice e)) (hT : TIok P e ei) (b q : Nat) (k : IntKind) (i : Int) (hi : 0 ≤ i ∧ i < (n : Int)) (hz : ei.size = sz) :
  (Instr.indexAt t (.slice (some ⟨b, q, none⟩) n c) (.int k i)).run P w = .ok (.pointer (some ⟨b, q + i.toNat * sz, none⟩)) w := by
 unfold Instr.indexAt
 simp only [Sem.run_bind, asIntOf, Sem.run_pure, Result.andThen_ok, run_underlying hk, if_pos hi, hT.run_size, Addr.add_lit, hz]

theorem indexAddr_does {t : TypeId} {x y : Operand} {p : Option Prop} {R : Act → World → Prop} (hE : EnvOk P E) (h : Ok w0 ρ s a w) (ho : o.op = .indexAddr t x y)
  {lit : Bool} (hs : indexAddrS E lit s o.dst t (ev s x) (ev s y) = some (p, s')) (hp : vcP p) (hR : Up w0 s' R) : Does P o a w R := by
 have hx := h.ev x
 have hexec : execOp a.eval o = (do pure (.value (← Instr.indexAt t (a.eval x) (a.eval y)))) := by simp [execOp, ho]
 unfold indexAddrS at hs
 split at hs
 ·rename_i sz by_ n e z ty k i hti hi
  have ey := asInt_c (h.ev y) hi
  have hk := (hE t _ hti).kind
  split at hs
  ·rename_i ei kk off hei hxx
   rw [hxx] at hx
   obtain ⟨hu, b, hb, hl⟩ := SVc.one1 rfl (by simp) hx
   simp only [List.cons.injEq, and_true] at hl
   cases lit with
   | true =>
    simp only [cond_true, Option.some.injEq, Prod.mk.injEq] at hs
    obtain ⟨rfl, rfl⟩ := hs
    exact does_value h hexec (by rw [hl, ey]; exact indexAt_arr hk (hE e ei hei) b off k i hp rfl) (SVc.of1 (p := .ptr kk (off + i.toNat * ei.size)) rfl ⟨hu, b, hb, rfl⟩) hR
   | false =>
    simp only [cond_false, Option.some.injEq, Prod.mk.injEq] at hs
    obtain ⟨rfl, rfl⟩ := hs
    exact does_value h hexec (by rw [hl, ey]; exact indexAt_arr hk (hE e ei hei) b off k i hp rfl) (SVc.of1 (p := .pel kk off n ei.size i.toNat 0) rfl ⟨hu, by omega, b, hb, rfl⟩) hR
  ·rename_i ei kk sz2 ix j2 hei hxx
   simp only [Option.some.injEq, Prod.mk.injEq] at hs
   obtain ⟨rfl, rfl⟩ := hs
   rw [hxx] at hx
   obtain ⟨hu, b, q, m, cp, hb, him, hl⟩ := SVc.one1 rfl (by simp) hx
   simp only [List.cons.injEq, and_true] at hl
   refine does_value h hexec (by rw [hl, ey]; exact indexAt_arr hk (hE e ei hei) b _ k i hp rfl) (SVc.of1 (p := .rea kk sz2 ix j2 n ei.size i.toNat 0) rfl ⟨hu, by omega, b, q, m, cp, hb, him, by simp [Nat.add_assoc]⟩) hR
  ·cases hs
 ·rename_i sz by_ e z ty k i hti hi
  have ey := asInt_c (h.ev y) hi
  have hk := (hE t _ hti).kind
  split at hs
  ·rename_i ei kk hei hxx
   split at hs
   ·rename_i u xs hkk
    cases hz : Nat.beq u.size ei.size with
    | false => rw [hz] at hs; cases hs
    | true =>
     rw [hz] at hs
     simp only [cond_true, Option.some.injEq, Prod.mk.injEq] at hs
     obtain ⟨rfl, rfl⟩ := hs
     rw [hxx] at hx
     obtain ⟨hu, h1, _⟩ := SVc.one1 rfl (by simp) hx
     simp only [List.cons.injEq, and_true] at h1
     rcases h.heap kk _ hkk with ⟨_, rfl⟩ | ⟨b, q, cp, cur, e', h2, hh, h3, h4, h5, h6⟩
     ·simp only [List.length_nil] at hp; omega
     ·rw [h2] at h1
      refine does_value h hexec (by rw [h1, ey]; exact indexAt_sl hk (hE e ei hei) b q k i hp rfl) (SVc.of1 (p := .rel kk ei.size i.toNat 0) rfl ⟨hu, b, q, xs.length, cp, h2, by omega, rfl⟩) hR
   ·cases hs
  ·rename_i ei u xs hei hxx
   cases hz : Nat.beq u.size ei.size with
   | false => rw [hz] at hs; cases hs
   | true =>
    rw [hz] at hs
    simp only [cond_true, Option.some.injEq, Prod.mk.injEq] at hs
    obtain ⟨rfl, rfl⟩ := hs
    have e2 := Nat.eq_of_beq_eq_true hz
    rw [hxx] at hx
    obtain ⟨A, c, h1, h2, h3, h4⟩ := SVc.one1 rfl (by simp) hx
    simp only [List.cons.injEq, and_true] at h1
    obtain ⟨b, q, rfl, hS, hr⟩ := h4 (by omega)
    obtain ⟨l, hl, hr'⟩ := hr i.toNat (nth u xs i.toNat) (nth_some (by omega))
    refine does_value h hexec (by rw [h1, ey]; exact indexAt_sl hk (hE e ei hei) b q k i hp rfl) (SVc.of1 (p := .dpl u (nth u xs i.toNat)) rfl ⟨b, q + i.toNat * ei.size, l, rfl, hS, hr', fun j v hv => ?_⟩) hR
    rw [← e2, Nat.add_assoc]
    exact hl j v hv
  ·rename_i ei kk kk' sz x1 x2 hei hxx
   cases hz : Nat.beq sz ei.size with
   | false => rw [hz] at hs; cases hs
   | true =>
    rw [hz] at hs
    simp only [cond_true, Option.some.injEq, Prod.mk.injEq] at hs
    obtain ⟨rfl, rfl⟩ := hs
    have e2 := Nat.eq_of_beq_eq_true hz
    subst e2
    have hp : 0 ≤ i ∧ i < ((x2 - x1 : Nat) : Int) := hp
    rw [hxx] at hx
    obtain ⟨hu, _, h1, A, m, cp, h2, ⟨hm0, hmc⟩, ⟨hxy, hyn⟩, h3⟩ := SVc.one1 rfl (by simp) hx
    simp only [List.cons.injEq, and_true] at h1
    rw [h3] at h1
    rcases hm0 with hm0 | ⟨b, q, rfl⟩
    ·omega
    ·have hne : ¬ cp = x1 := by omega
     rw [if_neg hne] at h1
     simp only [Option.map_some, Addr.add_lit] at h1
     exact does_value h hexec (by rw [h1, ey]; exact indexAt_sl hk (hE e ei hei) b _ k i hp rfl) (SVc.of1 (p := .rel kk ei.size (x1 + i.toNat) 0) rfl ⟨hu, b, q, m, cp, h2, by omega, by rw [Nat.add_mul, Nat.add_assoc]; rfl⟩) hR
  ·rename_i ei kk off n sz hei hxx
   cases hz : Nat.beq sz ei.size with
   | false => rw [hz] at hs; cases hs
   | true =>
    rw [hz] at hs
    simp only [cond_true, Option.some.injEq, Prod.mk.injEq] at hs
    obtain ⟨rfl, rfl⟩ := hs
    have e2 := Nat.eq_of_beq_eq_true hz
    subst e2
    rw [hxx] at hx
    obtain ⟨hu, b, hb, hl⟩ := SVc.one1 rfl (by simp) hx
    simp only [List.cons.injEq, and_true] at hl
    exact does_value h hexec (by rw [hl, ey]; exact indexAt_sl hk (hE e ei hei) b off k i hp rfl) (SVc.of1 (p := .pel kk off n ei.size i.toNat 0) rfl ⟨hu, by omega, b, hb, rfl⟩) hR
  ·cases hs
 ·cases hs

theorem sliceBound_run (k : IntKind) (i : Int) (y : Nat) (code : BoundsCode) (hi : 0 ≤ i ∧ i ≤ (y : Int)) : (Instr.sliceBound (.int k i) y code).run P w = .ok i.toNat w := by
 unfold Instr.sliceBound
 simp only [Sem.run_bind, asIntOf, Sem.run_pure, Result.andThen_ok, if_pos hi]

theorem bounds_run {lo hi : Option Operand} {n c : Nat} {l h : Int} (h0 : Ok w0 ρ s a w) (hl : boundOf 0 (lo.map (ev s)) = some l) (hh : boundOf (n : Int) (hi.map (ev s)) = some h)
  (hb : (0 ≤ l ∧ l ≤ h) ∧ h ≤ (n : Int)) (hc : n ≤ c) : (Instr.sliceBounds true n c (lo.map a.eval) (hi.map a.eval) none).run P w = .ok (l.toNat, h.toNat, c) w := by
 unfold Instr.sliceBounds
 have hb1 : ∀ x, boundOf (n : Int) ((some x : Option Operand).map (ev s)) = some h → ∃ k, a.eval x = .int k h := fun x e => by
  simp only [Option.map_some, boundOf] at e
  split at e
  ·rename_i k i e1
   injection e with e
   subst e
   exact ⟨k, asInt_c (h0.ev x) e1⟩
  ·cases e
 have hb2 : ∀ x, boundOf 0 ((some x : Option Operand).map (ev s)) = some l → ∃ k, a.eval x = .int k l := fun x e => by
  simp only [Option.map_some, boundOf] at e
  split at e
  ·rename_i k i e1
   injection e with e
   subst e
   exact ⟨k, asInt_c (h0.ev x) e1⟩
  ·cases e
 cases hi with
 | none =>
  simp only [Option.map_none, boundOf, Option.some.injEq] at hh
  subst hh
  cases lo with
  | none =>
   simp only [Option.map_none, boundOf, Option.some.injEq] at hl
   subst hl
   simp
  | some x =>
   obtain ⟨k, ex⟩ := hb2 x hl
   simp only [Option.map_some, Option.map_none, ex, Sem.run_bind, Sem.run_pure, Result.andThen_ok]
   rw [sliceBound_run k l n _ (by omega)]
   simp
 | some y =>
  obtain ⟨k, ey⟩ := hb1 y hh
  cases lo with
  | none =>
   simp only [Option.map_none, boundOf, Option.some.injEq] at hl
   subst hl
   simp only [Option.map_some, Option.map_none, ey, Sem.run_bind, Sem.run_pure, Result.andThen_ok]
   rw [sliceBound_run k h c _ (by omega)]
   simp
  | some x =>
   obtain ⟨k', ex⟩ := hb2 x hl
   simp only [Option.map_some, ex, ey, Sem.run_bind, Sem.run_pure, Result.andThen_ok]
   rw [sliceBound_run k h c _ (by omega)]
   simp only [Result.andThen_ok]
   rw [sliceBound_run k' l h.toNat _ (by omega)]
   simp

theorem bounds_run_str {lo hi : Option Operand} {n : Nat} {l h : Int} (h0 : Ok w0 ρ s a w) (hl : boundOf 0 (lo.map (ev s)) = some l) (hh : boundOf (n : Int) (hi.map (ev s)) = some h)
  (hb : (0 ≤ l ∧ l ≤ h) ∧ h ≤ (n : Int)) : (Instr.sliceBounds false n n (lo.map a.eval) (hi.map a.eval) none).run P w = .ok (l.toNat, h.toNat, n) w := by
 unfold Instr.sliceBounds
 have hb1 : ∀ x, boundOf (n : Int) ((some x : Option Operand).map (ev s)) = some h → ∃ k, a.eval x = .int k h := fun x e => by
  simp only [Option.map_some, boundOf] at e
  split at e
  ·rename_i k i e1
   injection e with e
   subst e
   exact ⟨k, asInt_c (h0.ev x) e1⟩
  ·cases e
 have hb2 : ∀ x, boundOf 0 ((some x : Option Operand).map (ev s)) = some l → ∃ k, a.eval x = .int k l := fun x e => by
  simp only [Option.map_some, boundOf] at e
  split at e
  ·rename_i k i e1
   injection e with e
   subst e
   exact ⟨k, asInt_c (h0.ev x) e1⟩
  ·cases e
 cases hi with
 | none =>
  simp only [Option.map_none, boundOf, Option.some.injEq] at hh
  subst hh
  cases lo with
  | none =>
   simp only [Option.map_none, boundOf, Option.some.injEq] at hl
   subst hl
   simp
  | some x =>
   obtain ⟨k, ex⟩ := hb2 x hl
   simp only [Option.map_some, Option.map_none, ex, Sem.run_bind, Sem.run_pure, Result.andThen_ok]
   rw [sliceBound_run k l n _ (by omega)]
   simp
 | some y =>
  obtain ⟨k, ey⟩ := hb1 y hh
  cases lo with
  | none =>
   simp only [Option.map_none, boundOf, Option.some.injEq] at hl
   subst hl
   simp only [Option.map_some, Option.map_none, ey, Sem.run_bind, Sem.run_pure, Result.andThen_ok]
   rw [sliceBound_run k h n _ (by omega)]
   simp
  | some x =>
   obtain ⟨k', ex⟩ := hb2 x hl
   simp only [Option.map_some, ex, ey, Sem.run_bind, Sem.run_pure, Result.andThen_ok]
   rw [sliceBound_run k h n _ (by omega)]
   simp only [Result.andThen_ok]
   rw [sliceBound_run k' l h.toNat _ (by omega)]
   simp

theorem sliceAt_run {t e : TypeId} {ei : TI} {A : Option Addr} {lo hi : Option Operand} {n c : Nat} {l h : Int} {x : Value} (h0 : Ok w0 ρ s a w) (hk : P.underlying t = some (.slice e)) (hT : TIok P e ei)
  (hx : x = .slice A n c) (hl : boundOf 0 (lo.map (ev s)) = some l) (hh : boundOf (n : Int) (hi.map (ev s)) = some h)
  (hb : (0 ≤ l ∧ l ≤ h) ∧ h ≤ (n : Int)) (hc : n ≤ c) :
  (Instr.sliceAt t x (lo.map a.eval) (hi.map a.eval) none).run P w = .ok (.slice (if c = l.toNat then A else A.map (·.add (l.toNat * ei.size))) (h.toNat - l.toNat) (c - l.toNat)) w := by
 subst hx
 unfold Instr.sliceAt
 simp only [Sem.run_bind, run_underlying hk, Result.andThen_ok]
 unfold Instr.slice
 simp only [Sem.run_bind, run_underlying hk, Result.andThen_ok, bounds_run h0 hl hh hb hc, hT.run_size, Sem.run_pure]

theorem sliceOf_c {ty : TypeId} {t : Ty} (hE : EnvOk P E) (h : sliceOf E ty t = true) : ∃ e ei, P.underlying ty = some (.slice e) ∧ TIok P e ei ∧ t.size = ei.size := by
 unfold sliceOf at h
 split at h
 ·rename_i e'
  split at h
  ·rename_i ei hei
   exact ⟨_, ei, (hE _ _ e').kind, hE _ _ hei, Nat.eq_of_beq_eq_true h⟩
  ·cases h
 ·cases h

theorem getElem?_window {α : Type} (xs : List α) (l h i : Nat) (x : α) (e : ((xs.take h).drop l)[i]? = some x) : xs[l + i]? = some x := by
 rw [List.getElem?_drop, List.getElem?_take] at e
 split at e
 ·exact e
 ·cases e

theorem slice_does {t : TypeId} {x : Operand} {lo hi : Option Operand} {k : Nat} {p : Option Prop} {R : Act → World → Prop} (hE : EnvOk P E) (h : Ok w0 ρ s a w) (ho : o.op = .slice t x lo hi none)
  (hs : sliceS E s k o.dst t (ev s x) (lo.map (ev s)) (hi.map (ev s)) = some (p, s')) (hp : vcP p) (hR : Up w0 s' R) : Does P o a w R := by
 have hexec : execOp a.eval o = (do pure (.value (← Instr.sliceAt t (a.eval x) (lo.map a.eval) (hi.map a.eval) none))) := by simp [execOp, ho]
 unfold sliceS at hs
 split at hs
 ·rename_i xs hl
  obtain ⟨ex, bx⟩ := asStr_c (h.ev x) hl
  cases hT : isStrT E t with
  | false => rw [hT] at hs; cases hs
  | true =>
   rw [hT] at hs
   simp only [cond_true] at hs
   split at hs
   ·rename_i l hh hl0 hh0
    simp only [Option.some.injEq, Prod.mk.injEq] at hs
    obtain ⟨rfl, rfl⟩ := hs
    have hp : (0 ≤ l ∧ l ≤ hh) ∧ hh ≤ (xs.length : Int) := hp
    have hbd := bounds_run_str (lo := lo) (hi := hi) (n := xs.length) (P := P) h hl0 hh0 hp
    refine does_value (sv := .one (.d .str ((xs.take hh.toNat).drop l.toNat))) (v := .string (mkStr ((xs.take hh.toNat).drop l.toNat))) h hexec ?_ (sv_str ⟨?_, ?_⟩) hR
    ·rw [ex]
     unfold Instr.sliceAt
     simp only [Sem.run_bind, run_underlying (isStrT_c hE hT), Result.andThen_ok]
     unfold Instr.slice
     simp only [Sem.run_bind, run_underlying (isStrT_c hE hT), Result.andThen_ok, mkStr_size, hbd, Sem.run_pure]
     have : (mkStr xs).extract l.toNat hh.toNat = mkStr ((xs.take hh.toNat).drop l.toNat) := by
      apply Go.WideShapes.bytes_inj
      simp [mkStr, ByteArray.data_extract, List.extract_eq_take_drop, List.map_take, List.map_drop, List.drop_take]
     simp [hbd, this]
    ·have := bx.1
     rw [List.length_drop, List.length_take]; omega
    ·exact fun b hb => bx.2 b (List.mem_of_mem_take (List.mem_of_mem_drop hb))
   ·cases hs
 rename_i hnl
 split at hs
 ·rename_i u xs hd
  cases hso : sliceOf E t u with
  | false => rw [hso] at hs; cases hs
  | true =>
  rw [hso] at hs
  simp only [Bool.not_true, cond_false] at hs
  obtain ⟨e, ei, hk, hT, hz⟩ := sliceOf_c hE hso
  split at hs
  ·rename_i l hh hl0 hh0
   split at hs
   ·rename_i kk hxx
    cases hus : s.us k with
    | true => rw [hus] at hs; cases hs
    | false =>
     rw [hus] at hs
     simp only [cond_false, Option.some.injEq, Prod.mk.injEq] at hs
     obtain ⟨rfl, rfl⟩ := hs
     rw [hxx] at hd
     have hd' := hd
     simp only [slD] at hd'
     split at hd'
     ·rename_i t' xs' hkk
      simp only [Option.some.injEq, Sigma.mk.injEq] at hd'
      obtain ⟨rfl, hd'⟩ := hd'
      have hd' := eq_of_heq hd'
      subst hd'
      have hx := h.ev x
      rw [hxx] at hx
      obtain ⟨hu, h1, _⟩ := SVc.one1 rfl (by simp) hx
      simp only [List.cons.injEq, and_true] at h1
      have hdrop := h.drop kk
      have hlen : ((xs'.take hh.toNat).drop l.toNat).length = hh.toNat - l.toNat := by
       rw [List.length_drop, List.length_take]; omega
      have huk : (s.drop kk).us k = false := hus
      rcases h.heap kk _ hkk with ⟨h2, rfl⟩ | ⟨b, q, cp, cur, e', h2, hheap, h3, h4, h5, h6⟩
      ·have hl : l.toNat = 0 := by simp only [List.length_nil] at hp; omega
       have hh' : hh.toNat = 0 := by simp only [List.length_nil] at hp; omega
       have hrun := sliceAt_run (lo := lo) (hi := hi) h hk hT (A := none) (n := 0) (c := 0) (x := a.eval x) (by rw [h1]; exact h2) hl0 (by simpa using hh0) (by simpa using hp) (Nat.le_refl _)
       rw [hl, hh'] at hrun
       simp only [if_true, Nat.sub_self] at hrun
       have hok := hdrop.new (k := k) (he := .row t' (([].take hh.toNat).drop l.toNat)) (v := .slice none 0 0) huk (More.refl w) (fun b e => by cases e)
        (.inl ⟨rset_same _ _ _, by simp⟩)
       have e3 : rset ρ k (.slice none 0 0) k = .slice none 0 0 := rset_same _ _ _
       exact .inl ⟨.slice none 0 0, w, by rw [hexec]; simp only [Sem.run_bind, hrun, Result.andThen_ok, Sem.run_pure],
        hR _ _ _ (hok.put o.dst (SVc.of1 (p := .row k) rfl ⟨uset_same _ _, by show [_] = [rset ρ k _ k]; rw [e3], by show (rset ρ k _ k).oneCell' = true; rw [e3]; rfl⟩))⟩
      ·have hrun := sliceAt_run (lo := lo) (hi := hi) h hk hT (A := some ⟨b, q, none⟩) (n := xs'.length) (c := cp) (x := a.eval x) (by rw [h1]; exact h2) hl0 hh0 hp h3
       have hle : l.toNat ≤ cp := by omega
       have hmul : (cp - l.toNat) * t'.size + l.toNat * t'.size = cp * t'.size := by rw [← Nat.add_mul]; congr 1; omega
       -- where it lies
       obtain ⟨q', hq', hqv⟩ : ∃ q', (if cp = l.toNat then some (⟨b, q, none⟩ : Addr) else (some ⟨b, q, none⟩ : Option Addr).map (·.add (l.toNat * ei.size))) = some ⟨b, q', none⟩ ∧
         q' + (cp - l.toNat) * t'.size ≤ cur.size ∧ (l.toNat < cp → q' = q + l.toNat * t'.size) := by
        by_cases e4 : cp = l.toNat
        ·exact ⟨q, by rw [if_pos e4], by rw [e4, Nat.sub_self, Nat.zero_mul]; have : q ≤ q + cp * t'.size := Nat.le_add_right _ _; omega, fun hlt => by omega⟩
        ·exact ⟨q + l.toNat * t'.size, by rw [if_neg e4, hz]; simp [Addr.add_lit], by omega, fun _ => rfl⟩
       rw [hq'] at hrun
       have hbk : blkOf (ρ kk) = some b := by rw [show ρ kk = _ from h2]; rfl
       have hok := Ok.renew h hkk hbk (k' := k) (he := .row t' ((xs'.take hh.toNat).drop l.toNat)) (v := .slice (some ⟨b, q', none⟩) (hh.toNat - l.toNat) (cp - l.toNat)) hus rfl
        (Below.refl _ _) (fun _ _ _ => rfl) (fun c' hc' hw' e3 => .inr ⟨b, q', cp - l.toNat, cur, e', by rw [e3, hlen], by rw [hw']; exact hheap, by rw [hlen]; omega, by omega, hqv.1, fun i x hx => by
         have hx2 := getElem?_window _ _ _ _ _ hx
         have hi3 : l.toNat + i < xs'.length := (List.getElem?_eq_some_iff.1 hx2).1
         rw [hqv.2 (by omega), Nat.add_assoc, ← Nat.add_mul]
         exact Rd.mono hc'.keep (h6 _ _ hx2)⟩)
       have e3 : rset ρ k (.slice (some ⟨b, q', none⟩) (hh.toNat - l.toNat) (cp - l.toNat)) k = .slice (some ⟨b, q', none⟩) (hh.toNat - l.toNat) (cp - l.toNat) := rset_same _ _ _
       exact .inl ⟨.slice (some ⟨b, q', none⟩) (hh.toNat - l.toNat) (cp - l.toNat), w, by rw [hexec]; simp only [Sem.run_bind, hrun, Result.andThen_ok, Sem.run_pure],
        hR _ _ _ (hok.put o.dst (SVc.of1 (p := .row k) rfl ⟨uset_same _ _, by show [_] = [rset ρ k _ k]; rw [e3], by show (rset ρ k _ k).oneCell' = true; rw [e3]; rfl⟩))⟩
     ·cases hd'
   ·rename_i t1 z1 hnr
    simp only [Option.some.injEq, Prod.mk.injEq] at hs
    obtain ⟨rfl, rfl⟩ := hs
    -- data
    have hx := h.ev x
    have hxx : ev s x = .one (.d (.sl u) xs) := by
     rw [hnr] at hd ⊢
     cases t1 with
     | sl u1 =>
      simp only [slD, Option.some.injEq, Sigma.mk.injEq] at hd
      obtain ⟨rfl, hd⟩ := hd
      have hd := eq_of_heq hd
      subst hd
      rfl
     | _ => cases hd
    rw [hxx] at hx
    obtain ⟨A, c, h1, h2, h3, h4⟩ := SVc.one1 rfl (by simp) hx
    simp only [List.cons.injEq, and_true] at h1
    have hrun := sliceAt_run (lo := lo) (hi := hi) h hk hT h1 hl0 hh0 hp h2
    have hlen : ((xs.take hh.toNat).drop l.toNat).length = hh.toNat - l.toNat := by
     rw [List.length_drop, List.length_take]; omega
    refine does_value h hexec hrun (SVc.of1 (p := .d (.sl u) ((xs.take hh.toNat).drop l.toNat)) rfl ⟨_, c - l.toNat, by rw [hlen], by rw [hlen]; omega, by omega, fun hpos => ?_⟩) hR
    rw [hlen] at hpos
    obtain ⟨b, q, rfl, hS, hr⟩ := h4 (by omega)
    refine ⟨b, q + l.toNat * u.size, by rw [if_neg (by omega)]; simp [Addr.add_lit, hz], hS, fun i x hx => ?_⟩
    obtain ⟨ll, hl1, hl2⟩ := hr (l.toNat + i) x (getElem?_window _ _ _ _ _ hx)
    refine ⟨ll, fun j v hv => ?_, hl2⟩
    have := hl1 j v hv
    rw [Nat.add_mul] at this
    rw [show q + l.toNat * u.size + (i * u.size + j) = q + (l.toNat * u.size + i * u.size + j) by omega]
    exact this
   ·cases hs
  ·cases hs
 ·cases hs
theorem sub_does {t : TypeId} {x : Operand} {lo hi : Option Operand} {k : Nat} {p : Option Prop} {R : Act → World → Prop} (hE : EnvOk P E) (h : Ok w0 ρ s a w) (ho : o.op = .slice t x lo hi none)
  (hs : subS E s k o.dst t (ev s x) (lo.map (ev s)) (hi.map (ev s)) = some (p, s')) (hp : vcP p) (hR : Up w0 s' R) : Does P o a w R := by
 have hexec : execOp a.eval o = (do pure (.value (← Instr.sliceAt t (a.eval x) (lo.map a.eval) (hi.map a.eval) none))) := by simp [execOp, ho]
 unfold subS at hs
 split at hs
 ·rename_i kk hxx
  split at hs
  ·rename_i t' xs' hkk
   cases hg : (!(sliceOf E t t') || s.us k) with
   | true => rw [hg] at hs; cases hs
   | false =>
    rw [hg] at hs
    simp only [cond_false] at hs
    simp only [Bool.or_eq_false_iff, Bool.not_eq_false'] at hg
    obtain ⟨e, ei, hk, hT, hz⟩ := sliceOf_c hE hg.1
    split at hs
    ·rename_i l hh hl0 hh0
     simp only [Option.some.injEq, Prod.mk.injEq] at hs
     obtain ⟨rfl, rfl⟩ := hs
     have hp : (0 ≤ l ∧ l ≤ hh) ∧ hh ≤ (xs'.length : Int) := hp
     have hx := h.ev x
     rw [hxx] at hx
     obtain ⟨hu, h1, _⟩ := SVc.one1 rfl (by simp) hx
     simp only [List.cons.injEq, and_true] at h1
     have key : ∃ A n cp, ρ kk = .slice A n cp ∧ n = xs'.length ∧ n ≤ cp ∧ (n = 0 ∨ ∃ bl o, A = some ⟨bl, o, none⟩) := by
      rcases h.heap kk _ hkk with ⟨h2, rfl⟩ | ⟨b, q, cp, cur, e', h2, hheap, h3, h4, h5, h6⟩
      ·exact ⟨none, 0, 0, h2, rfl, Nat.le_refl _, .inl rfl⟩
      ·exact ⟨_, _, _, h2, rfl, h3, .inr ⟨b, q, rfl⟩⟩
     obtain ⟨A, n, cp, h2, hn, hnc, hA⟩ := key
     have hrun := sliceAt_run (lo := lo) (hi := hi) h hk hT (A := A) (n := n) (c := cp) (x := a.eval x) (by rw [h1]; exact h2) hl0 (by rw [hn]; exact hh0) (by rw [hn]; exact hp) hnc
     have hne : kk ≠ k := fun e => by have hu : s.us kk = true := hu; rw [e, hg.2] at hu; cases hu
     generalize hv : Value.slice (if cp = l.toNat then A else A.map (·.add (l.toNat * ei.size))) (hh.toNat - l.toNat) (cp - l.toNat) = v at hrun
     have e3 : rset ρ k v k = v := rset_same _ _ _
     have e4 : rset ρ k v kk = .slice A n cp := by rw [rset_other _ _ hne]; exact h2
     exact .inl ⟨v, w, by rw [hexec]; simp only [Sem.run_bind, hrun, Result.andThen_ok, Sem.run_pure], hR _ _ _ ((h.use (k := k) (v := v) hg.2).put o.dst (SVc.of1 (p := .sub kk k t'.size l.toNat hh.toNat) rfl
      ⟨uset_of hu, uset_same _ _, by show [v] = [rset ρ k v k]; rw [e3], A, n, cp, e4, ⟨hA, hnc⟩, ⟨by omega, by omega⟩, by show rset ρ k v k = _; rw [e3, ← hv, hz]⟩))⟩
    ·cases hs
  ·cases hs
 ·cases hs
theorem bsl_does {t : TypeId} {x : Operand} {lo hi : Option Operand} {p : Option Prop} {R : Act → World → Prop} (hE : EnvOk P E) (h : Ok w0 ρ s a w) (ho : o.op = .slice t x lo hi none)
  (hs : bslS E s o.dst t (ev s x) (lo.map (ev s)) (hi.map (ev s)) = some (p, s')) (hR : Up w0 s' R) : Does P o a w R := by
 have hexec : execOp a.eval o = (do pure (.value (← Instr.sliceAt t (a.eval x) (lo.map a.eval) (hi.map a.eval) none))) := by simp [execOp, ho]
 unfold bslS at hs
 split at hs
 ·rename_i sz by_ n e z ty kk off hti hxx hlo hhi
  split at hs
  ·rename_i ei hei
   simp only [ok, Option.some.injEq, Prod.mk.injEq] at hs
   obtain ⟨rfl, rfl⟩ := hs
   have hlo' : lo = none := by cases lo with | none => rfl | some _ => cases hlo
   have hhi' : hi = none := by cases hi with | none => rfl | some _ => cases hhi
   subst hlo'; subst hhi'
   have hx := h.ev x
   rw [hxx] at hx
   obtain ⟨hu, b, hb, hl⟩ := SVc.one1 rfl (by simp) hx
   simp only [List.cons.injEq, and_true] at hl
   have hk := (hE t _ hti).kind
   refine does_value (v := .slice (some ⟨b, off, none⟩) n n) h hexec ?_ (SVc.of1 (p := .bsl kk off n ei.size) rfl ⟨hu, b, hb, rfl⟩) hR
   rw [hl]
   unfold Instr.sliceAt
   simp only [Sem.run_bind, run_underlying hk, Result.andThen_ok, Instr.sureAddr, Sem.run_pure, Instr.sliceBounds, Option.map_none, (hE e ei hei).run_size, Nat.zero_mul, Addr.add_lit, Nat.add_zero, Nat.sub_zero, ite_self]
  ·cases hs
 ·cases hs
theorem bounds3_run {lo : Option Operand} {hi mx : Operand} {n c : Nat} {l h m : Int} {kh km : IntKind} (h0 : Ok w0 ρ s a w) (hl : boundOf 0 (lo.map (ev s)) = some l) (hh : a.eval hi = .int kh h) (hm : a.eval mx = .int km m)
  (hb : ((0 ≤ l ∧ l ≤ h) ∧ h ≤ m) ∧ m ≤ (n : Int)) (hc : n ≤ c) : (Instr.sliceBounds true n c (lo.map a.eval) (some (a.eval hi)) (some (a.eval mx))).run P w = .ok (l.toNat, h.toNat, m.toNat) w := by
 unfold Instr.sliceBounds
 simp only [hm, hh, Sem.run_bind]
 rw [sliceBound_run km m c _ (by omega)]
 simp only [Result.andThen_ok]
 rw [sliceBound_run kh h m.toNat _ (by omega)]
 simp only [Result.andThen_ok]
 cases lo with
 | none =>
  simp only [Option.map_none, boundOf, Option.some.injEq] at hl
  subst hl
  simp
 | some x =>
  simp only [Option.map_some, boundOf] at hl
  split at hl
  ·rename_i k i e1
   injection hl with hl
   subst hl
   have ex := asInt_c (h0.ev x) e1
   simp only [Option.map_some, ex, Sem.run_bind]
   rw [sliceBound_run k i h.toNat _ (by omega)]
   simp
  ·cases hl
theorem slice3_does {t : TypeId} {x : Operand} {lo hi : Option Operand} {mx : Operand} {p : Option Prop} {R : Act → World → Prop} (hE : EnvOk P E) (h : Ok w0 ρ s a w) (ho : o.op = .slice t x lo hi (some mx))
  (hs : slice3S E s o.dst t (ev s x) (lo.map (ev s)) (hi.map (ev s)) (ev s mx) = some (p, s')) (hp : vcP p) (hR : Up w0 s' R) : Does P o a w R := by
 have hexec : execOp a.eval o = (do pure (.value (← Instr.sliceAt t (a.eval x) (lo.map a.eval) (hi.map a.eval) (some (a.eval mx))))) := by simp [execOp, ho]
 unfold slice3S at hs
 split at hs
 ·rename_i u xs hxx
  cases hso : sliceOf E t u with
  | false => rw [hso] at hs; cases hs
  | true =>
  rw [hso] at hs
  simp only [Bool.not_true, cond_false] at hs
  obtain ⟨e, ei, hk, hT, hz⟩ := sliceOf_c hE hso
  split at hs
  ·rename_i l kh hh km m hl0 hh0 hm0
   cases hi with
   | none => cases hh0
   | some hi =>
   simp only [Option.map_some] at hh0
   simp only [Option.some.injEq, Prod.mk.injEq] at hs
   obtain ⟨rfl, rfl⟩ := hs
   have hp : ((0 ≤ l ∧ l ≤ hh) ∧ hh ≤ m) ∧ m ≤ (xs.length : Int) := hp
   have ehi := asInt_c (h.ev hi) hh0
   have emx := asInt_c (h.ev mx) hm0
   have hx := h.ev x
   rw [hxx] at hx
   obtain ⟨A, c, h1, h2, h3, h4⟩ := SVc.one1 rfl (by simp) hx
   simp only [List.cons.injEq, and_true] at h1
   have hbd := bounds3_run (P := P) (lo := lo) (hi := hi) (mx := mx) (n := xs.length) (c := c) h hl0 ehi emx hp h2
   have hrun : (Instr.sliceAt t (a.eval x) (lo.map a.eval) ((some hi).map a.eval) (some (a.eval mx))).run P w = .ok (.slice (if m.toNat = l.toNat then A else A.map (·.add (l.toNat * ei.size))) (hh.toNat - l.toNat) (m.toNat - l.toNat)) w := by
    rw [h1]
    unfold Instr.sliceAt
    simp only [Sem.run_bind, run_underlying hk, Result.andThen_ok, Option.map_some]
    unfold Instr.slice
    simp only [Sem.run_bind, run_underlying hk, Result.andThen_ok, hbd, hT.run_size, Sem.run_pure]
   have hlen : ((xs.take hh.toNat).drop l.toNat).length = hh.toNat - l.toNat := by
    rw [List.length_drop, List.length_take]; omega
   refine does_value h hexec hrun (SVc.of1 (p := .d (.sl u) ((xs.take hh.toNat).drop l.toNat)) rfl ⟨_, m.toNat - l.toNat, by rw [hlen], by rw [hlen]; omega, by omega, fun hpos => ?_⟩) hR
   rw [hlen] at hpos
   obtain ⟨b, q, rfl, hS, hr⟩ := h4 (by omega)
   refine ⟨b, q + l.toNat * u.size, by rw [if_neg (by omega)]; simp [Addr.add_lit, hz], hS, fun i x hx => ?_⟩
   obtain ⟨ll, hl1, hl2⟩ := hr (l.toNat + i) x (getElem?_window _ _ _ _ _ hx)
   refine ⟨ll, fun j v hv => ?_, hl2⟩
   have := hl1 j v hv
   rw [Nat.add_mul] at this
   rw [show q + l.toNat * u.size + (i * u.size + j) = q + (l.toNat * u.size + i * u.size + j) by omega]
   exact this
  ·cases hs
 ·cases hs
end
end Go.Sx
/-
 Sx, part M: append.
-/
namespace Go.Sx
open Go.RowKit

theorem arr_piece {S : Nat → Prop} {w : World} {n : Nat} {t : Ty} {cs : List Value} {xs : List t.D} (h : Rd S w (.arr n t) cs xs) {i : Nat} {x : t.D} (hx : xs[i]? = some x) :
  Rd S w t ((cs.drop (i * t.size)).take t.size) x := h.2.2 i x hx

theorem arr_append {S : Nat → Prop} {w : World} {n m : Nat} {t : Ty} {cs ds : List Value} {xs ys : List t.D} (h : Rd S w (.arr n t) cs xs) (k : Rd S w (.arr m t) ds ys) :
  Rd S w (.arr (n + m) t) (cs ++ ds) (xs ++ ys) := by
 obtain ⟨h1, h2, h3⟩ := h
 obtain ⟨k1, k2, k3⟩ := k
 refine ⟨by simp [h1, k1], by simp [h2, k2, Nat.add_mul], fun i x hx => ?_⟩
 rcases Nat.lt_or_ge i n with hi | hi
 ·rw [List.getElem?_append_left (by omega)] at hx
  have hle : (i + 1) * t.size ≤ n * t.size := Nat.mul_le_mul_right _ hi
  rw [Nat.add_mul, Nat.one_mul] at hle
  rw [List.drop_append_of_le_length (by omega), List.take_append_of_le_length (by rw [List.length_drop]; omega)]
  exact h3 i x hx
 ·rw [List.getElem?_append_right (by omega), h1] at hx
  have hle : n * t.size ≤ i * t.size := Nat.mul_le_mul_right _ hi
  rw [List.drop_append, List.drop_of_length_le (by omega), List.nil_append, h2, ← Nat.sub_mul]
  exact k3 (i - n) x hx

theorem arr_of_elems {S : Nat → Prop} {w : World} {t : Ty} {b q : Nat} {xs : List t.D} (h : ∀ (i : Nat) x, xs[i]? = some x → ∃ l, At w b (q + i * t.size) l ∧ Rd S w t l x) :
  ∃ cs, Rd S w (.arr xs.length t) cs xs ∧ At w b q cs := by
 refine ⟨(List.range (xs.length * t.size)).map (fun j => (w.cell? ⟨b, q + j, none⟩).getD undef), ⟨rfl, by simp, fun i x hx => ?_⟩, ?_⟩
 ·obtain ⟨l, hl, hr⟩ := h i x hx
  have hlen := hr.len
  have hi : i < xs.length := (List.getElem?_eq_some_iff.1 hx).1
  have hle : (i + 1) * t.size ≤ xs.length * t.size := Nat.mul_le_mul_right _ hi
  rw [Nat.add_mul, Nat.one_mul] at hle
  have e : (((List.range (xs.length * t.size)).map (fun j => (w.cell? ⟨b, q + j, none⟩).getD undef)).drop (i * t.size)).take t.size = l := by
   apply List.ext_getElem?
   intro k
   rw [piece_get]
   by_cases hk : k < t.size
   ·rw [if_pos hk]
    have hlt : i * t.size + k < xs.length * t.size := by omega
    have hk' : k < l.length := by omega
    have := hl k l[k] (by simp [hk'])
    rw [Nat.add_assoc] at this
    simp [List.getElem?_range hlt, this, hk']
   ·rw [if_neg hk, List.getElem?_eq_none (by omega)]
  rw [e]; exact hr
 ·intro j v hv
  have hj : j < xs.length * t.size := by
   have := (List.getElem?_eq_some_iff.1 hv).1
   simpa using this
  simp only [List.getElem?_map, List.getElem?_range hj, Option.map_some, Option.some.injEq] at hv
  have hp : 0 < t.size := by
   rcases Nat.eq_zero_or_pos t.size with e | e
   ·rw [e] at hj; simp at hj
   ·exact e
  have hi : j / t.size < xs.length := by rw [Nat.div_lt_iff_lt_mul hp]; exact hj
  obtain ⟨l, hl, hr⟩ := h (j / t.size) xs[j / t.size] (by simp [hi])
  have hm : j % t.size < t.size := Nat.mod_lt _ hp
  have hk : j % t.size < l.length := by rw [hr.len]; exact hm
  have := hl (j % t.size) l[j % t.size] (by simp [hk])
  rw [Nat.add_assoc, Nat.div_add_mod' j t.size] at this
  rw [this] at hv ⊢
  simpa using hv

section
variable {P : Program} {E : Env} {w0 : Base} {w : World} {ρ : Nat → Value} {s s' : St} {a : Act} {o : Oper}

theorem slD_flat {sv : SV} {v : Value} {t : Ty} {xs : List t.D} (h : Ok w0 ρ s a w) (hv : SVc (cx w0 ρ s w) sv v) (e : slD s sv = some ⟨t, xs⟩) :
  ∃ A c cs, v = .slice A xs.length c ∧ xs.length ≤ c ∧ c ≤ maxLen ∧ Rd (Free w0 ρ s.hp w) w (.arr xs.length t) cs xs ∧ (0 < xs.length → ∃ b q, A = some ⟨b, q, none⟩ ∧ At w b q cs) := by
 obtain ⟨A, c, h1, h2, h3, h4⟩ := slD_c h hv e
 rcases Nat.eq_zero_or_pos xs.length with h0 | hp
 ·refine ⟨A, c, [], h1, h2, h3, ⟨rfl, by simp [h0], fun i x hx => ?_⟩, fun hp => by omega⟩
  have := (List.getElem?_eq_some_iff.1 hx).1
  omega
 ·obtain ⟨b, q, hA, _, hx⟩ := h4 hp
  obtain ⟨cs, hr, hat⟩ := arr_of_elems hx
  exact ⟨A, c, cs, h1, h2, h3, hr, fun _ => ⟨b, q, hA, hat⟩⟩

structure Src (w : World) (m : Nat) (y : Value) (news : List Value) : Prop where
 form : ∃ A c, y = .slice A m c ∧ (0 < m → ∃ b q, A = some ⟨b, q, none⟩ ∧ At w b q news)
 zero : m = 0 → news = []

theorem Src.cells {m : Nat} {y : Value} {news : List Value} (h : Src w m y news) (sz : Nat) (hl : news.length = m * sz) {W : World} (hW : ∀ a, W.cell? a = w.cell? a) :
  (Builtin.firstCells sz m y).run P W = .ok news.toArray W := by
 obtain ⟨A, c, rfl, hA⟩ := h.form
 rcases Nat.eq_zero_or_pos m with h0 | hp
 ·have := h.zero h0
  subst this; subst h0
  cases A with
  | none => simp [Builtin.firstCells]
  | some ad => simp [Builtin.firstCells, loadCells, loadCellsFrom]
 ·obtain ⟨b, q, rfl, hat⟩ := hA hp
  exact run_firstCells_some W sz m ⟨b, q, none⟩ m c news hl (fun j v hv => by rw [hW, Addr.add_lit]; exact hat j v hv)

theorem cap_most {n c : Nat} (h : c < n) : Builtin.nextslicecap n c ≤ n + n / 4 + 192 := by
 simp only [Builtin.nextslicecap, growBy_four]
 by_cases h1 : n > 2 * c
 ·rw [if_pos h1]; omega
 ·rw [if_neg h1]
  by_cases h2 : c < 256
  ·rw [if_pos h2]; omega
  ·rw [if_neg h2]
   repeat' split
   all_goals omega
theorem run_append_grow' {t ty e : TypeId} {ti : TI} (ht : P.underlying t = some (.slice e)) (hT : TIok P e ti)
  {x y : Value} {n cp m : Nat} {A : Option Addr} (hx : x = .slice A n cp) {olds news : List Value} (hxs : Src w n x olds) (hys : Src w m y news)
  (hlo : olds.length = n * ti.size) (hl : news.length = m * ti.size) (hg : cp < n + m) (h63 : n + m ≤ 9223372036854775807) (hb : (n + m + (n + m) / 4 + 192) * ti.bytes ≤ 281474976710656) :
  ∃ cap rest, (Builtin.append_ #[t, t] ty #[x, y]).run P w = .ok (.slice (some ⟨w.heap.size, 0, none⟩) (n + m) cap) (w.drew.alloc (.cells (olds ++ news ++ rest).toArray e)) ∧
   n + m ≤ cap ∧ cap ≤ maxLen ∧ (olds ++ news ++ rest).length = cap * ti.size := by
 obtain ⟨i, z, h1, h2, h3, h4, h5⟩ := hT.info
 obtain ⟨z', hz1, hz2⟩ := hT.run_zero w.drew
 have hzz : z' = z := by simp [zeroValue, typeInfo, h1, h4] at hz1; exact hz1.symm
 subst hzz
 have hzl : z'.cells.size = ti.size := by
  have := hT.size
  rw [← hz2] at this; simpa using this
 obtain ⟨B, c, hy, _⟩ := hys.form
 have hxf := hxs.cells (P := P) ti.size hlo (W := w.drew) (fun _ => rfl)
 have hyf := hys.cells (P := P) ti.size hl (W := w.drew) (fun _ => rfl)
 have hnot : ¬ (n + m ≤ cp) := by omega
 have h63' : ¬ (9223372036854775807 < ((n : Int) + (m : Int))) := by omega
 have hfit := Nat.le_trans (Nat.mul_le_mul_right ti.bytes (cap_most (n := n + m) (c := cp) (by omega))) hb
 have h48' : ¬ (281474976710656 < Builtin.nextslicecap (n + m) cp * ti.bytes) := by omega
 have hge := grownCap_ge w (n + m) cp e
 have hcm := grownCap_le_maxLen w (n + m) cp e (by simp only [maxLen]; omega)
 have hrest : (Builtin.zeroCells z'.cells (grownCap w (n + m) cp e - (n + m))).size = (grownCap w (n + m) cp e - (n + m)) * ti.size := by rw [size_zeroCells, hzl]
 refine ⟨grownCap w (n + m) cp e, (Builtin.zeroCells z'.cells (grownCap w (n + m) cp e - (n + m))).toList, ?_, hge, hcm, ?_⟩
 ·subst hx; subst hy
  simp only [Builtin.append_]
  simp [run_underlying ht, sizeOf, typeInfo, zeroValue, h1, h2, h3, h4, Builtin.lenOf, hnot, h63', h48', Question.forced, hxf, hyf, newRow, grownCap]
  congr 2
  apply Array.ext'
  simp
 ·simp only [List.length_append, hlo, hl, Array.length_toList, hrest, ← Nat.add_mul]
  congr 1; omega

theorem run_append_room' {t ty e e' : TypeId} {ti : TI} (ht : P.underlying t = some (.slice e)) (hT : TIok P e ti)
  {x y : Value} {n cp m b q : Nat} {cur : Array Value} (hx : x = .slice (some ⟨b, q, none⟩) n cp) (hb : w.heap[b]? = some (.cells cur e' (0, 0))) {news : List Value} (hys : Src w m y news)
  (hl : news.length = m * ti.size) (h1 : ∀ u ∈ news, u.oneCell' = true) (hroom : n + m ≤ cp) (hfit : q + n * ti.size + news.length ≤ cur.size) :
  (Builtin.append_ #[t, t] ty #[x, y]).run P w = .ok (.slice (some ⟨b, q, none⟩) (n + m) cp) (w.setRow b (splice cur.toList (q + n * ti.size) news).toArray) := by
 obtain ⟨i, z, h2, h3, _⟩ := hT.info
 obtain ⟨B, c, hy, _⟩ := hys.form
 have hyf := hys.cells (P := P) ti.size hl (W := w) (fun _ => rfl)
 have hst := run_storeCells_at P b (q + n * ti.size) e' news 0 cur w hb (by simpa using hfit) h1
 simp only [Nat.add_zero] at hst
 subst hx; subst hy
 simp only [Builtin.append_]
 simp [run_underlying ht, sizeOf, typeInfo, h2, h3, Builtin.lenOf, hroom, hyf, Addr.add_lit, hst, splice]
theorem run_append_none {t ty e : TypeId} {ti : TI} (ht : P.underlying t = some (.slice e)) (hT : TIok P e ti) {y : Value} {news : List Value} (hys : Src w 0 y news) :
  (Builtin.append_ #[t, t] ty #[.slice none 0 0, y]).run P w = .ok (.slice none 0 0) w := by
 obtain ⟨i, z, h2, h3, _⟩ := hT.info
 obtain ⟨B, c, hy, _⟩ := hys.form
 have hn := hys.zero rfl
 have hyf := hys.cells (P := P) ti.size (by rw [hn]; simp) (W := w) (fun _ => rfl)
 subst hy
 simp only [Builtin.append_]
 simp [run_underlying ht, sizeOf, typeInfo, h2, h3, Builtin.lenOf, hyf]

theorem grown_row {R : Act → World → Prop} {k' : Nat} {u : Ty} {L rest : List Value} {zs : List u.D} {cap : Nat} {e : TypeId} (h : Ok w0 ρ s a w) (hus : s.us k' = false)
  (hL : Rd (Free w0 ρ s.hp w) w (.arr zs.length u) L zs) (hc : zs.length ≤ cap) (hm : cap ≤ maxLen) (hr : (L ++ rest).length = cap * u.size)
  (hR : Up w0 ((s.new k' (.row u zs)).put o.dst (.one (.row k'))) R) :
  R (a.put o.dst (.slice (some ⟨w.heap.size, 0, none⟩) zs.length cap)) (w.drew.alloc (.cells (L ++ rest).toArray e)) := by
 have hmore : More w (w.drew.alloc (.cells (L ++ rest).toArray e)) := (More.drew w).trans (More.alloc _ _)
 have hle := new_le (w0 := w0) (ρ := ρ) (s := s) (he := .row u zs) (v := .slice (some ⟨w.heap.size, 0, none⟩) zs.length cap) hus hmore (fun b e => by injection e with e; subst e; exact Nat.le_refl _)
 have hok := h.new (he := .row u zs) (v := .slice (some ⟨w.heap.size, 0, none⟩) zs.length cap) hus hmore
  (fun b e => by injection e with e; subst e; exact ⟨Nat.le_refl _, by simp⟩)
  (.inr ⟨w.heap.size, 0, cap, (L ++ rest).toArray, e, rset_same _ _ _, heap_alloc_new w.drew _, hc, hm, by simp only [List.size_toArray]; omega, fun i x hx => by
   have hLr : Rd _ _ (.arr zs.length u) L zs := Rd.mono hle.keep hL
   have h1 := hLr.2.2 i x hx
   have hi : i < zs.length := (List.getElem?_eq_some_iff.1 hx).1
   have hle2 : (i + 1) * u.size ≤ zs.length * u.size := Nat.mul_le_mul_right _ hi
   rw [Nat.add_mul, Nat.one_mul] at hle2
   have hLl := hLr.2.1
   simp only [Nat.zero_add]
   rw [List.drop_append_of_le_length (by omega), List.take_append_of_le_length (by rw [List.length_drop]; omega)]
   exact h1⟩)
 have e3 : rset ρ k' (.slice (some ⟨w.heap.size, 0, none⟩) zs.length cap) k' = .slice (some ⟨w.heap.size, 0, none⟩) zs.length cap := rset_same _ _ _
 exact hR _ _ _ (hok.put o.dst (SVc.of1 (p := .row k') rfl ⟨uset_same _ _, by show [_] = [rset ρ k' _ k']; rw [e3], by show (rset ρ k' _ k').oneCell' = true; rw [e3]; rfl⟩))
theorem nil_row {R : Act → World → Prop} {k' : Nat} {u : Ty} (h : Ok w0 ρ s a w) (hus : s.us k' = false) (hR : Up w0 ((s.new k' (.row u [])).put o.dst (.one (.row k'))) R) :
  R (a.put o.dst (.slice none 0 0)) w := by
 have hok := h.new (he := .row u []) (v := .slice none 0 0) hus (More.refl w) (fun b e => by cases e) (.inl ⟨rset_same _ _ _, rfl⟩)
 have e3 : rset ρ k' (.slice none 0 0) k' = .slice none 0 0 := rset_same _ _ _
 exact hR _ _ _ (hok.put o.dst (SVc.of1 (p := .row k') rfl ⟨uset_same _ _, by show [_] = [rset ρ k' _ k']; rw [e3], by show (rset ρ k' _ k').oneCell' = true; rw [e3]; rfl⟩))

theorem Does.ran {P : Program} {o : Oper} {a : Act} {w w' : World} {R : Act → World → Prop} {v : Value} {m : Sem Value} (he : execOp a.eval o = (do pure (.value (← m)))) (hm : m.run P w = .ok v w')
  (hr : R (a.put o.dst v) w') : Does P o a w R := Does.value he hm hr
theorem append_does {args : Array Operand} {ts : Array TypeId} {x y : Operand} {t : TypeId} {k' : Nat} {p : Option Prop} {R : Act → World → Prop} (hE : EnvOk P E) (h : Ok w0 ρ s a w)
  (ho : o.op = .call { callee := .builtin .append, args := args, argTypes := ts }) (ha : args.toList = [x, y]) (ht : ts.toList = [t, t])
  (hs : appendS E s k' o.dst t (ev s x) (ev s y) = some (p, s')) (hp : vcP p) (hR : Up w0 s' R) : Does P o a w R := by
 have ea : args = #[x, y] := by apply Array.ext'; simpa using ha
 have et : ts = #[t, t] := by apply Array.ext'; simpa using ht
 subst ea; subst et
 have hexec : execOp a.eval o = (do pure (.value (← Builtin.append_ #[t, t] o.type #[a.eval x, a.eval y]))) := by rw [exec_builtin ho]; simp [builtin]
 unfold appendS at hs
 split at hs
 ·rename_i e _ _ hti
  have hk := (hE t _ hti).kind
  split at hs
  ·rename_i sz by_ kd z u hei
   have hT := hE e _ hei
   dsimp only at hs
   cases hb : (!(Nat.beq u.size sz && Nat.blt 0 sz) || s.us k') with
   | true => rw [hb] at hs; cases hs
   | false =>
    rw [hb] at hs
    simp only [cond_false] at hs
    simp only [Bool.or_eq_false_iff, Bool.not_eq_false', Bool.and_eq_true] at hb
    obtain ⟨⟨hb1, hb2⟩, hus⟩ := hb
    have hsz : u.size = sz := Nat.eq_of_beq_eq_true hb1
    subst hsz
    -- what is appended
    split at hs
    ·cases hs
    ·rename_i ys hys
     have hy : ∃ news, Src w ys.length (a.eval y) news ∧ Rd (Free w0 ρ s.hp w) w (.arr ys.length u) news ys := by
      split at hys
      ·rename_i hyy
       injection hys with hys
       subst hys
       have hv := h.ev y
       rw [hyy] at hv
       obtain ⟨h1, _⟩ := SVc.one1 rfl (by simp) hv
       simp only [List.cons.injEq, and_true] at h1
       exact ⟨[], ⟨⟨none, 0, h1, fun hp => absurd hp (by simp)⟩, fun _ => rfl⟩, rfl, by simp, fun i x hx => by simp at hx⟩
      ·split at hys
       ·rename_i u' ys' hyy
        obtain ⟨e2, e3⟩ := castD_eq hys
        injection e2 with e2
        subst e2
        have e3 : ys' = ys := e3
        subst e3
        obtain ⟨A, c, cs, h1, h2, h3, h4, h5⟩ := slD_flat h (h.ev y) hyy
        exact ⟨cs, ⟨⟨A, c, h1, h5⟩, fun h0 => by
         have := h4.2.1
         rw [h0] at this
         exact List.eq_nil_of_length_eq_zero (by simpa using this)⟩, h4⟩
       ·cases hys
     obtain ⟨news, hsrc, hrd⟩ := hy
     have hnl : news.length = ys.length * u.size := hrd.2.1
     have hn1 := Rd.one hrd
     split at hs
     ·rename_i hxx
      simp only [Option.some.injEq, Prod.mk.injEq] at hs
      obtain ⟨rfl, rfl⟩ := hs
      obtain ⟨hp1, hp2⟩ := hp
      have hv := h.ev x
      rw [hxx] at hv
      obtain ⟨h1, _⟩ := SVc.one1 rfl (by simp) hv
      simp only [List.cons.injEq, and_true] at h1
      rcases Nat.eq_zero_or_pos ys.length with h0 | hpos
      ·have hys0 : ys = [] := List.eq_nil_of_length_eq_zero h0
       subst hys0
       have hrun := run_append_none (ty := o.type) hk hT hsrc
       exact Does.ran (hexec.trans (by rw [h1])) hrun (nil_row h hus hR)
      ·obtain ⟨cap, rest, hrun, hc1, hc2, hc3⟩ := run_append_grow' (ty := o.type) hk hT h1 (olds := []) ⟨⟨none, 0, h1, fun hp => absurd hp (by simp)⟩, fun _ => rfl⟩ hsrc (by simp) hnl (by omega) (by omega) (by simpa using hp2)
       simp only [Nat.zero_add, List.nil_append] at hrun hc1 hc3
       exact Does.ran hexec hrun (grown_row h hus hrd hc1 hc2 hc3 hR)
     ·rename_i kk hxx
      split at hs
      ·rename_i u' xs' hkk
       split at hs
       ·rename_i xs hxs
        simp only [Option.some.injEq, Prod.mk.injEq] at hs
        obtain ⟨rfl, rfl⟩ := hs
        obtain ⟨hp1, hp2⟩ := hp
        obtain ⟨e2, e3⟩ := castD_eq hxs
        injection e2 with e2
        subst e2
        have e3 : xs' = xs := e3
        subst e3
        have hv := h.ev x
        have hv0 := hv
        rw [hxx] at hv
        obtain ⟨hu, h1, _⟩ := SVc.one1 rfl (by simp) hv
        simp only [List.cons.injEq, and_true] at h1
        obtain ⟨A, c, olds, h2, h3, h4, h5, h6⟩ := slD_flat (t := u') (xs := xs') h hv0 (by rw [hxx]; simp only [slD, hkk])
        have hol : olds.length = xs'.length * u'.size := h5.2.1
        have hL := arr_append h5 hrd
        have hdrop := h.drop kk
        have hdle : (cx w0 ρ s w).le (cx w0 ρ (s.drop kk) w) := drop_le
        by_cases hroom : xs'.length + ys.length ≤ c
        ·rcases h.heap kk _ hkk with ⟨h7, rfl⟩ | ⟨b, q, cp, cur, e', h7, hheap, h8, h9, h10, h11⟩
         ·-- nothing and nothing
          rw [h7] at h1
          rw [h1] at h2
          injection h2 with h2a h2b h2c
          have hy0 : ys = [] := List.eq_nil_of_length_eq_zero (by simp only [List.length_nil] at hroom; omega)
          subst hy0
          have hrun := run_append_none (ty := o.type) hk hT hsrc
          exact Does.ran (hexec.trans (by rw [h1])) hrun (nil_row hdrop hus hR)
         ·rw [h7] at h1
          rw [h1] at h2
          injection h2 with h2a h2b h2c
          subst h2c
          have hmul : (xs'.length + ys.length) * u'.size ≤ cp * u'.size := Nat.mul_le_mul_right _ hroom
          rw [Nat.add_mul] at hmul
          have hcur : cur.toList.length = cur.size := by simp
          have hfit : q + xs'.length * u'.size + news.length ≤ cur.size := by rw [hnl]; omega
          have hrun := run_append_room' (ty := o.type) (e' := e') hk hT h1 hheap hsrc hnl hn1 hroom hfit
          have hbk : blkOf (ρ kk) = some b := by rw [show ρ kk = _ from h7]; rfl
          have hbz := h.fresh kk _ b hkk hbk
          have hok := Ok.renew h hkk hbk (k' := k') (he := .row u' (xs' ++ ys)) (v := .slice (some ⟨b, q, none⟩) (xs'.length + ys.length) cp) (w' := w.setRow b (splice cur.toList (q + xs'.length * u'.size) news).toArray) hus rfl
           (setRow_below w b _ _ hbz.1) (fun b' hne _ => setRow_other w b b' _ hne) (fun c' hc' hw' e3 => .inr ⟨b, q, cp, _, e', by rw [e3, List.length_append], by rw [hw']; exact setRow_heap w b cur _ e' _ hheap, by rw [List.length_append]; exact hroom, h9, by
            simp only [List.size_toArray]; rw [splice_length (by omega), hcur]; exact h10, fun i x hx => by
            have hrd' : Rd c'.S c'.w (.arr ys.length u') news ys := Rd.mono hc'.keep hrd
            show Rd _ _ u' (((splice cur.toList (q + xs'.length * u'.size) news).drop (q + i * u'.size)).take u'.size) x
            rcases Nat.lt_or_ge i xs'.length with hi | hi
            ·rw [List.getElem?_append_left hi] at hx
             have hle2 : (i + 1) * u'.size ≤ xs'.length * u'.size := Nat.mul_le_mul_right _ hi
             rw [Nat.add_mul, Nat.one_mul] at hle2
             rw [splice_piece_out (by omega) (.inl (by omega))]
             exact Rd.mono hc'.keep (h11 i x hx)
            ·rw [List.getElem?_append_right hi] at hx
             have hi2 : i - xs'.length < ys.length := (List.getElem?_eq_some_iff.1 hx).1
             have hle2 : (i - xs'.length + 1) * u'.size ≤ ys.length * u'.size := Nat.mul_le_mul_right _ hi2
             rw [Nat.add_mul, Nat.one_mul, Nat.sub_mul] at hle2
             have hle3 : xs'.length * u'.size ≤ i * u'.size := Nat.mul_le_mul_right _ hi
             have hpc := hrd'.2.2 _ x hx
             rw [Nat.sub_mul] at hpc
             have e5 : ((splice cur.toList (q + xs'.length * u'.size) news).drop (q + i * u'.size)).take u'.size = (news.drop (i * u'.size - xs'.length * u'.size)).take u'.size := by
              apply List.ext_getElem?
              intro j
              rw [piece_get, piece_get]
              by_cases hj : j < u'.size
              ·rw [if_pos hj, if_pos hj, splice_get (by omega), if_neg (by omega), if_pos (by omega)]
               congr 1; omega
              ·rw [if_neg hj, if_neg hj]
             rw [e5]; exact hpc⟩)
          have e3 : rset ρ k' (.slice (some ⟨b, q, none⟩) (xs'.length + ys.length) cp) k' = .slice (some ⟨b, q, none⟩) (xs'.length + ys.length) cp := rset_same _ _ _
          exact Does.ran hexec hrun
           (hR _ _ _ (hok.put o.dst (SVc.of1 (p := .row k') rfl ⟨uset_same _ _, by show [_] = [rset ρ k' _ k']; rw [e3], by show (rset ρ k' _ k').oneCell' = true; rw [e3]; rfl⟩)))
        ·obtain ⟨cap, rest, hrun, hc1, hc2, hc3⟩ := run_append_grow' (ty := o.type) hk hT h2 (olds := olds) ⟨⟨A, c, h2, h6⟩, fun h0 => by
          rw [h0] at hol
          exact List.eq_nil_of_length_eq_zero (by simpa using hol)⟩ hsrc hol hnl (by omega) hp1 hp2
         have hL' : Rd (Free w0 ρ (s.drop kk).hp w) w (.arr (xs' ++ ys).length u') (olds ++ news) (xs' ++ ys) := by
          rw [List.length_append]; exact Rd.mono hdle.keep hL
         have hfin := grown_row (o := o) (k' := k') (e := e) (rest := rest) (R := R) hdrop hus hL' (by rw [List.length_append]; exact hc1) hc2 hc3 hR
         rw [List.length_append] at hfin
         exact Does.ran hexec hrun hfin
       ·cases hs
      ·cases hs
     ·cases hs
  ·cases hs
 ·cases hs
end
end Go.Sx
/-
 Sx, part MA: conversions.
-/
namespace Go.Sx
open Go.RowKit

section
variable {P : Program} {E : Env} {w0 : Base} {w : World} {ρ : Nat → Value} {s s' : St} {a : Act} {o : Oper}

theorem isIntT_c {t : TypeId} {k : IntKind} (hE : EnvOk P E) (h : isIntT E t = some k) : P.underlying t = some (.int k) := by
 unfold isIntT at h
 split at h
 ·rename_i e; simp only [Option.some.injEq] at h; subst h; exact (hE _ _ e).kind.1
 ·cases h
theorem isBytesT_c {t : TypeId} (hE : EnvOk P E) (h : isBytesT E t = true) : ∃ e, P.underlying t = some (.slice e) ∧ P.underlying e = some (.int .u8) := by
 unfold isBytesT at h
 split at h
 ·rename_i e' hti
  split at h
  ·rename_i hi; exact ⟨_, (hE _ _ hti).kind, isIntT_c hE hi⟩
  ·cases h
 ·cases h
theorem convert_does {t u : TypeId} {x : Operand} {wr : Bool} {p : Option Prop} {R : Act → World → Prop} (hE : EnvOk P E) (h : Ok w0 ρ s a w) (ho : o.op = .convert t u x)
  (hs : convertS E wr s o.dst t u (ev s x) = some (p, s')) (hp : vcP p) (hR : Up w0 s' R) : Does P o a w R := by
 have hexec : execOp a.eval o = (do pure (.value (← convert t u (a.eval x)))) := by simp [execOp, ho]
 unfold convertS at hs
 split at hs
 ·rename_i k n hx
  have ex := asInt_c (h.ev x) hx
  split at hs
  ·rename_i k1 k2 h1 h2
   have u1 := isIntT_c hE h1
   have u2 := isIntT_c hE h2
   cases wr with
   | true =>
    simp only [cond_true, ok, Option.some.injEq, Prod.mk.injEq] at hs
    obtain ⟨_, rfl⟩ := hs
    refine does_value h hexec ?_ (sv_int (IR_wrap k2 n)) hR
    rw [ex]
    simp [convert, run_underlying u1, run_underlying u2, Conv.intToInt]
   | false =>
    simp only [cond_false, Option.some.injEq, Prod.mk.injEq] at hs
    obtain ⟨rfl, rfl⟩ := hs
    have hp : IR k2 n := hp
    refine does_value h hexec ?_ (sv_int hp) hR
    rw [ex]
    simp [convert, run_underlying u1, run_underlying u2, Conv.intToInt, wrap_in hp]
  ·cases hs
 ·split at hs
  ·rename_i l hl
   obtain ⟨ex, bx⟩ := asStr_c (h.ev x) hl
   cases h1 : isStrT E t with
   | false => rw [h1] at hs; cases hs
   | true =>
    rw [h1] at hs
    simp only [cond_true] at hs
    have u1 := isStrT_c hE h1
    cases h2 : isStrT E u with
    | true =>
     rw [h2] at hs
     simp only [cond_true, ok, Option.some.injEq, Prod.mk.injEq] at hs
     obtain ⟨_, rfl⟩ := hs
     have u2 := isStrT_c hE h2
     refine does_value h hexec ?_ (sv_str bx) hR
     rw [ex]
     simp [convert, run_underlying u1, run_underlying u2]
    | false =>
     rw [h2] at hs
     simp only [cond_false] at hs
     cases h3 : isBytesT E u with
     | false => rw [h3] at hs; cases hs
     | true =>
      rw [h3] at hs
      simp only [cond_true, ok, Option.some.injEq, Prod.mk.injEq] at hs
      obtain ⟨_, rfl⟩ := hs
      obtain ⟨e, u2, u3⟩ := isBytesT_c hE h3
      have hrun := run_bytes_of_string (P := P) w t u e (mkStr l) u1 u2 u3
      generalize hcap : grownCap w (mkStr l).size 0 e = cap at hrun
      have hcc : (mkStr l).size ≤ cap ∧ cap ≤ maxLen := by
       rw [← hcap]
       exact ⟨grownCap_ge .., grownCap_le_maxLen _ _ _ _ (by rw [mkStr_size]; simp only [maxLen]; exact bx.1)⟩
      generalize hro : (Obj.cells (bytesRow (mkStr l) cap) e ((bytesRow (mkStr l) cap).size, (bytesRow (mkStr l) cap).size + 1)) = ob at hrun
      have hm : More w (w.drew.alloc ob) := (More.drew w).trans (More.alloc _ _)
      have hok := h.more hm
      have hnew : (w.drew.alloc ob).heap[w.heap.size]? = some ob := by show (w.heap.push ob)[w.heap.size]? = _; simp
      refine .inl ⟨_, _, by rw [hexec, ex]; simp only [Sem.run_bind, hrun, Result.andThen_ok, Sem.run_pure]; rfl, hR ρ _ _ (hok.put o.dst (SVc.of1 (p := .d (.sl (.int .u8)) l) rfl ?_))⟩
      refine ⟨some ⟨w.heap.size, 0, none⟩, cap, by rw [mkStr_size], by rw [← mkStr_size]; exact hcc.1, hcc.2, fun hpos => ⟨w.heap.size, 0, rfl, ⟨?_, ?_, ?_⟩, fun i b hi => ?_⟩⟩
      ·show w.heap.size < (w.heap.push ob).size; simp
      ·intro k he hk e
       have := (h.fresh k he _ hk e).2
       omega
      ·exact w0.all _ h.base
      ·have hlt : i < l.length := (List.getElem?_eq_some_iff.1 hi).1
       have hb : l[i] = b := (List.getElem?_eq_some_iff.1 hi).2
       have hr := bx.2 b (List.mem_of_getElem? hi)
       refine ⟨[.int .u8 b], fun j v hj => ?_, rfl, hr⟩
       cases j with
       | succ j => simp at hj
       | zero =>
        simp only [List.getElem?_cons_zero, Option.some.injEq] at hj
        subst hj
        have hc : (bytesRow (mkStr l) cap)[i]? = some (.int .u8 b) := by
         unfold bytesRow
         rw [Array.getElem?_append_left (by simp [mkStr]; exact hlt)]
         simp only [mkStr, List.map_toArray, List.getElem?_toArray, List.getElem?_map, hi, Option.map_some, Option.some.injEq, Value.int.injEq, true_and]
         simp only [UInt8.toNat_ofNat']
         omega
        have e0 : 0 + (i * Ty.size (.int .u8) + 0) = i := by simp [Ty.size]
        rw [e0]
        show (w.drew.alloc ob).cell? ⟨w.heap.size, i, none⟩ = _
        rw [cell_of_block (hnew.trans (congrArg some hro.symm))]
        exact hc
  ·cases hb : isBytesT E t && isStrT E u with
   | false => rw [hb] at hs; cases hs
   | true =>
    rw [hb] at hs
    simp only [cond_true] at hs
    simp only [Bool.and_eq_true] at hb
    obtain ⟨e, u1, u2⟩ := isBytesT_c hE hb.1
    have u3 := isStrT_c hE hb.2
    split at hs
    ·rename_i hx
     simp only [ok, Option.some.injEq, Prod.mk.injEq] at hs
     obtain ⟨_, rfl⟩ := hs
     have hv := h.ev x
     rw [hx] at hv
     obtain ⟨h1, _⟩ := SVc.one1 rfl (by simp) hv
     simp only [List.cons.injEq, and_true] at h1
     refine does_value h hexec ?_ (sv_str (l := []) ⟨by simp, by simp⟩) hR
     rw [h1, run_convert_bytes_string w t u e _ _ _ u1 u2 u3]
     simp [Conv.bytesToString]
     rfl
    ·split at hs
     ·rename_i t' xs hx
      split at hs
      ·rename_i l hl
       simp only [ok, Option.some.injEq, Prod.mk.injEq] at hs
       obtain ⟨_, rfl⟩ := hs
       obtain ⟨e2, he2⟩ := castD_eq hl
       injection e2 with e2
       subst e2
       have he2 : xs = l := he2
       subst he2
       obtain ⟨A, c, h1, h2, h3, h4⟩ := slD_c h (h.ev x) hx
       have hby : isBytes xs := by
        refine ⟨by simp only [maxLen] at h3; omega, fun b hb => ?_⟩
        obtain ⟨i, hi⟩ := List.mem_iff_getElem?.1 hb
        obtain ⟨_, _, _, _, h5⟩ := h4 (by have := (List.getElem?_eq_some_iff.1 hi).1; omega)
        obtain ⟨l, _, hr⟩ := h5 i b hi
        exact hr.2
       refine does_value h hexec ?_ (sv_str hby) hR
       rw [h1]
       cases A with
       | none =>
        have h0 : xs.length = 0 := by
         rcases Nat.eq_zero_or_pos xs.length with h0 | h0
         ·exact h0
         ·obtain ⟨_, _, e, _⟩ := h4 h0; cases e
        have : xs = [] := List.length_eq_zero_iff.1 h0
        subst this
        rw [run_convert_bytes_string w t u e _ _ _ u1 u2 u3]
        simp [Conv.bytesToString]
        rfl
       | some ad =>
        have hl' : (xs.map fun n : Int => UInt8.ofNat n.toNat).length = xs.length := List.length_map ..
        have hrun := run_convert_bytes_back (P := P) w t u e ad c (xs.map fun n : Int => UInt8.ofNat n.toNat) u1 u2 u3 (fun j hj => by
         rw [hl'] at hj
         obtain ⟨b, q, e3, _, h5⟩ := h4 (by omega)
         obtain ⟨l, hl, hr⟩ := h5 j xs[j] (List.getElem?_eq_getElem hj)
         have hr := hr.1
         have h6 := hl 0 (.int .u8 xs[j]) (by rw [hr]; rfl)
         injection e3 with e3
         have e4 : ad.add j = ⟨b, q + j * Ty.size (.int .u8) + 0, none⟩ := by
          subst e3
          unfold Addr.add
          split
          ·rename_i h0; have h0 : j = 0 := h0; subst h0; simp
          ·simp [Ty.size]
         rw [e4, h6]
         have := hby.2 xs[j] (List.getElem_mem hj)
         simp only [List.getElem_map, UInt8.toNat_ofNat', Option.some.injEq, Value.int.injEq, true_and]
         omega)
        rw [hl'] at hrun
        exact hrun
      ·cases hs
     ·cases hs
end
end Go.Sx
/-
 Sx, part MB: maps of our own, by whole numbers.
-/
set_option linter.unusedSimpArgs false
namespace Go.Sx
open Go.RowKit

section
variable {P : Program} {E : Env} {w0 : Base} {w : World} {ρ : Nat → Value} {s s' : St} {a : Act} {o : Oper}

theorem mapTy_c {t : TypeId} {kk : IntKind} {ei : TI} (hE : EnvOk P E) (h : mapTy? E t = some (kk, ei)) :
  ∃ kt et, P.underlying t = some (.map kt et) ∧ P.underlying kt = some (.int kk) ∧ TIok P et ei ∧ ei.kind.agg = false := by
 unfold mapTy? at h
 split at h
 ·rename_i kt et z ty ht
  split at h
  ·rename_i ei' hk he
   cases hg : ei'.kind.agg with
   | true => simp only [hg, cond_true] at h; cases h
   | false =>
    simp only [hg, cond_false, Option.some.injEq, Prod.mk.injEq] at h
    obtain ⟨rfl, rfl⟩ := h
    exact ⟨kt, et, ((hE _ _ ht).kind).1, ((hE _ _ hk).kind).1, hE _ _ he, hg⟩
  ·cases h
 ·cases h

theorem find_c {c : Cx} {kk : IntKind} {t : Ty} {i : Int} : ∀ {es : List MapEntry} {xs : List (Int × t.D)} (n : Nat), MapC c kk t es xs →
  (Instr.findNow (.int kk) (.int kk i) es n = some none ∧ mget? t xs i = none ∧ mdel t xs i = xs ∧
   ∀ c' (e : MapEntry) (y : t.D), MapC c' kk t es xs → e.key = .int kk i → IR kk i → Rd c'.S c'.w t [e.val] y → MapC c' kk t (es ++ [e]) (mput t xs i y)) ∨
  ∃ j e y, Instr.findNow (.int kk) (.int kk i) es n = some (some (n + j, e.val)) ∧ es[j]? = some e ∧ e.key = .int kk i ∧ mget? t xs i = some y ∧ Rd c.S c.w t [e.val] y ∧
   (∀ c', MapC c' kk t es xs → MapC c' kk t (es.eraseIdx j) (mdel t xs i)) ∧
   ∀ c' (e' : MapEntry) (y : t.D), MapC c' kk t es xs → e'.key = .int kk i → IR kk i → Rd c'.S c'.w t [e'.val] y → MapC c' kk t (es.set j e') (mput t xs i y)
 | [], [], n, _ => .inl ⟨rfl, rfl, rfl, fun c' e y _ he hi hr => ⟨⟨he, hi, hr⟩, trivial⟩⟩
 | e :: es, x :: xs, n, h => by
  obtain ⟨⟨h1, h2, h3⟩, h4⟩ := h
  unfold Instr.findNow
  by_cases hx : x.1 = i
  ·refine .inr ⟨0, e, x.2, ?_, rfl, by rw [h1, hx], by simp [mget?, hx], h3, fun c' h' => ?_, fun c' e' y h' he hi hr => ?_⟩
   ·rw [h1]
    simp [Instr.sameNow, hx]
   ·have e1 : mdel t (x :: xs) i = xs := by simp [mdel, hx]
    rw [e1]; exact h'.2
   ·have e1 : mput t (x :: xs) i y = (i, y) :: xs := by simp [mput, hx]
    rw [e1]; exact ⟨⟨he, hi, hr⟩, h'.2⟩
  ·have hs : Instr.sameNow (.int kk) (.int kk i) e.key = some false := by
    rw [h1]
    have : ¬ i = x.1 := fun e => hx e.symm
    simp [Instr.sameNow, this]
   rw [hs]
   simp only []
   have ed : mdel t (x :: xs) i = x :: mdel t xs i := by simp [mdel, hx]
   have ep : ∀ y, mput t (x :: xs) i y = x :: mput t xs i y := fun y => by simp [mput, hx]
   have eg : mget? t (x :: xs) i = mget? t xs i := by simp [mget?, hx]
   rw [ed, eg]
   rcases find_c (i := i) (n + 1) h4 with ⟨f1, f2, f3, f4⟩ | ⟨j, e0, y0, f1, f2, f3, f4, f5, f6, f7⟩
   ·refine .inl ⟨f1, f2, by rw [f3], fun c' e' y h' he hi hr => ?_⟩
    rw [ep]
    exact ⟨h'.1, f4 c' e' y h'.2 he hi hr⟩
   ·refine .inr ⟨j + 1, e0, y0, by rw [f1, show n + 1 + j = n + (j + 1) by omega], f2, f3, f4, f5, fun c' h' => ⟨h'.1, f6 c' h'.2⟩, fun c' e' y h' he hi hr => ?_⟩
    rw [ep]
    exact ⟨h'.1, f7 c' e' y h'.2 he hi hr⟩
 | [], _ :: _, _, h => h.elim
 | _ :: _, [], _, h => h.elim
theorem MapC.len {c : Cx} {kk : IntKind} {t : Ty} : ∀ {es : List MapEntry} {xs : List (Int × t.D)}, MapC c kk t es xs → es.length = xs.length
 | [], [], _ => rfl
 | _ :: _, _ :: _, h => by simp [MapC.len h.2]
 | [], _ :: _, h => h.elim
 | _ :: _, [], h => h.elim
theorem pfind_c {c : Cx} {kk : IntKind} {i : Int} : ∀ {es : List MapEntry} {xs : List (Int × PV)} (n : Nat), PMapC c kk es xs →
  (Instr.findNow (.int kk) (.int kk i) es n = some none ∧ pget? xs i = none ∧
   ∀ c' (e : MapEntry) (p : PV), PMapC c' kk es xs → e.key = .int kk i → p.agg = false → PVc c' p [e.val] → PMapC c' kk (es ++ [e]) (pput xs i p)) ∨
  ∃ j e p, Instr.findNow (.int kk) (.int kk i) es n = some (some (n + j, e.val)) ∧ es[j]? = some e ∧ e.key = .int kk i ∧ pget? xs i = some p ∧ p.agg = false ∧ PVc c p [e.val] ∧
   ∀ c' (e' : MapEntry) (p : PV), PMapC c' kk es xs → e'.key = .int kk i → p.agg = false → PVc c' p [e'.val] → PMapC c' kk (es.set j e') (pput xs i p)
 | [], [], n, _ => .inl ⟨rfl, rfl, fun c' e y _ he hi hr => ⟨⟨he, hi, hr⟩, trivial⟩⟩
 | e :: es, x :: xs, n, h => by
  obtain ⟨⟨h1, h2, h3⟩, h4⟩ := h
  unfold Instr.findNow
  by_cases hx : x.1 = i
  ·refine .inr ⟨0, e, x.2, ?_, rfl, by rw [h1, hx], by simp [pget?, hx], h2, h3, fun c' e' y h' he hi hr => ?_⟩
   ·rw [h1]
    simp [Instr.sameNow, hx]
   ·have e1 : pput (x :: xs) i y = (i, y) :: xs := by simp [pput, hx]
    rw [e1]; exact ⟨⟨he, hi, hr⟩, h'.2⟩
  ·have hs : Instr.sameNow (.int kk) (.int kk i) e.key = some false := by
    rw [h1]
    have : ¬ i = x.1 := fun e => hx e.symm
    simp [Instr.sameNow, this]
   rw [hs]
   simp only []
   have ep : ∀ y, pput (x :: xs) i y = x :: pput xs i y := fun y => by simp [pput, hx]
   have eg : pget? (x :: xs) i = pget? xs i := by simp [pget?, hx]
   rw [eg]
   rcases pfind_c (i := i) (n + 1) h4 with ⟨f1, f2, f4⟩ | ⟨j, e0, y0, f1, f2, f3, f4, f5, f6, f7⟩
   ·refine .inl ⟨f1, f2, fun c' e' y h' he hi hr => ?_⟩
    rw [ep]
    exact ⟨h'.1, f4 c' e' y h'.2 he hi hr⟩
   ·refine .inr ⟨j + 1, e0, y0, by rw [f1, show n + 1 + j = n + (j + 1) by omega], f2, f3, f4, f5, f6, fun c' e' y h' he hi hr => ?_⟩
    rw [ep]
    exact ⟨h'.1, f7 c' e' y h'.2 he hi hr⟩
 | [], _ :: _, _, h => h.elim
 | _ :: _, [], _, h => h.elim

theorem stays_run (w : World) (kk : IntKind) (i : Int) : (Instr.keyThatStays (.int kk i) (.int kk i)).run P w = .ok (.int kk i) w := by
 unfold Instr.keyThatStays
 simp [Instr.sameBits, Sem.run_pure]
theorem check_run {kt : TypeId} {kk : IntKind} (hk : P.underlying kt = some (.int kk)) (e : Bool) (i : Int) : (Instr.checkKey e 10000 kt (.int kk i)).run P w = .ok () w :=
 Go.MapKept.run_checkKey hk (by simp [Go.MapKept.IsKey]) e 9999
theorem map_fin {R : Act → World → Prop} {k b clock clock' : Nat} {es es' : Array MapEntry} {h0 he : HE} {sv : SV} {v : Value} (h : Ok w0 ρ s a w) (hk : s.hp k = some h0) (hbk : ρ k = .map (some b))
  (hb : w.heap[b]? = some (.map es clock))
  (hhe : ∀ w', w'.heap[b]? = some (.map es' clock') → (cx w0 ρ s w).le (cx w0 ρ (s.upd k he) w') → HEc (cx w0 ρ (s.upd k he) w') k he)
  (hsv : ∀ c, SVc c sv v) (hR : Up w0 ((s.upd k he).put o.dst sv) R) : R (a.put o.dst v) { w with heap := w.heap.setIfInBounds b (.map es' clock') } := by
 obtain ⟨hs1, hs2⟩ := Go.MapKept.heap_set (o' := .map es' clock') hb
 have hbk' : blkOf (ρ k) = some b := by rw [hbk]; rfl
 have hold : ∀ b', blkOf (ρ k) ≠ some b' → ({ w with heap := w.heap.setIfInBounds b (.map es' clock') } : World).heap[b']? = w.heap[b']? := fun b' hne => hs2 b' (fun e => hne (by rw [hbk', e]))
 have hle := upd_le (w0 := w0) (ρ := ρ) (s := s) (he := he) (w' := { w with heap := w.heap.setIfInBounds b (.map es' clock') }) ⟨h0, hk⟩ (by simp) hold
 have hfr := h.fresh k h0 b hk hbk'
 have hbel : Below w0.w.heap.size w { w with heap := w.heap.setIfInBounds b (.map es' clock') } := ⟨rfl, rfl, rfl, by simp, fun n hn => hs2 n (by omega)⟩
 exact hR ρ _ _ ((h.upd hk hbel hold (hhe _ hs1 hle)).put o.dst (hsv _))

theorem modify_eq {es : Array MapEntry} {j : Nat} {e e' : MapEntry} {f : MapEntry → MapEntry} (he : es.toList[j]? = some e) (hf : f e = e') : (es.modify j f).toList = es.toList.set j e' := by
 rw [Array.toList_modify]
 apply List.ext_getElem?
 intro n
 rw [List.getElem?_modify, List.getElem?_set]
 by_cases hn : j = n
 ·subst hn
  have hlt := (List.getElem?_eq_some_iff.1 he).1
  have hlt' : j < es.size := by simpa using hlt
  have e0 : es[j] = e := by have := (List.getElem?_eq_some_iff.1 he).2; simpa using this
  simp [hlt', e0, hf]
 ·simp [hn]
theorem update_new {t kt et : TypeId} {kk : IntKind} {b clock : Nat} {es : Array MapEntry} {i : Int} {v : Value} (hu : P.underlying t = some (.map kt et)) (hku : P.underlying kt = some (.int kk))
  (hb : w.heap[b]? = some (.map es clock)) (hf : Instr.findNow (.int kk) (.int kk i) es.toList 0 = some none) :
  (Instr.mapUpdate t (.map (some b)) (.int kk i) v).run P w = .ok () { w with heap := w.heap.setIfInBounds b (.map (es.push { key := .int kk i, val := v, born := clock }) (clock + 1)) } := by
 unfold Instr.mapUpdate
 simp only [Sem.run_bind, run_underlying hu, Result.andThen_ok, Go.MapKept.run_getObj_map hb, check_run hku, Go.MapKept.run_findKey hku hf, Go.MapKept.run_setObj_map _ hb]
theorem update_old {t kt et : TypeId} {kk : IntKind} {b clock j : Nat} {es : Array MapEntry} {i : Int} {v v0 : Value} {e : MapEntry} (hu : P.underlying t = some (.map kt et)) (hku : P.underlying kt = some (.int kk))
  (hb : w.heap[b]? = some (.map es clock)) (hf : Instr.findNow (.int kk) (.int kk i) es.toList 0 = some (some (j, v0))) (he : es[j]? = some e) (hek : e.key = .int kk i) :
  (Instr.mapUpdate t (.map (some b)) (.int kk i) v).run P w = .ok () { w with heap := w.heap.setIfInBounds b (.map (es.modify j fun e => { e with key := .int kk i, val := v }) clock) } := by
 unfold Instr.mapUpdate
 simp only [Sem.run_bind, run_underlying hu, Result.andThen_ok, Go.MapKept.run_getObj_map hb, check_run hku, Go.MapKept.run_findKey hku hf, he, Option.map_some, Option.getD_some, hek, stays_run, Go.MapKept.run_setObj_map _ hb]
theorem insert_does {t : TypeId} {x y z : Operand} {p : Option Prop} {R : Act → World → Prop} (hE : EnvOk P E) (h : Ok w0 ρ s a w)
  (hexec : execOp a.eval o = (do Instr.mapUpdate t (a.eval x) (a.eval y) (a.eval z); pure .skip))
  (hs : insertS E s t (ev s x) (ev s y) (ev s z) = some (p, s')) (hR : Up w0 (s'.put o.dst (.one .any)) R) : Does P o a w R := by
 unfold insertS at hs
 split at hs
 ·rename_i kk ei kk' i k hmt hi hx
  obtain ⟨kt, et, hu, hku, hT, hag⟩ := mapTy_c hE hmt
  have ey := asInt_c (h.ev y) hi
  have hir := asInt_ir (h.ev y) hi
  cases hkk : decide (kk = kk') with
  | false => rw [hkk] at hs; cases hs
  | true =>
   rw [hkk] at hs
   simp only [cond_true] at hs
   have hkk := of_decide_eq_true hkk
   subst hkk
   have hv := h.ev x
   rw [hx] at hv
   obtain ⟨_, hv, _⟩ := SVc.one1 rfl (by simp) hv
   simp only [List.cons.injEq, and_true] at hv
   split at hs
   ·rename_i kk2 u xs hk
    cases hg : (decide (kk2 = kk) && !u.agg) with
    | false => rw [hg] at hs; cases hs
    | true =>
     rw [hg] at hs
     simp only [cond_true] at hs
     simp only [Bool.and_eq_true, Bool.not_eq_true', decide_eq_true_eq] at hg
     obtain ⟨hkk2, hua⟩ := hg
     subst hkk2
     split at hs
     ·cases hs
     ·rename_i q hq hz
      cases hqa : q.agg with
      | true => rw [hqa] at hs; cases hs
      | false =>
      rw [hqa] at hs
      simp only [cond_false] at hs
      split at hs
      ·rename_i yv hyv
       simp only [ok, Option.some.injEq, Prod.mk.injEq] at hs
       obtain ⟨_, rfl⟩ := hs
       have hzc := h.ev z
       rw [hz] at hzc
       have hm := parts_c (SVc.one1 hqa hq hzc)
       have hrd : Rd (Free w0 ρ s.hp w) w u [a.eval z] yv := rdAll_c (c := cx w0 ρ s w) hyv hm
       obtain ⟨b, es, clock, hbk, hb, hmc⟩ := h.heap k _ hk
       have hbk : ρ k = .map (some b) := hbk
       have hb : w.heap[b]? = some (.map es clock) := hb
       rcases find_c (i := i) 0 hmc with ⟨f1, f2, f3, f4⟩ | ⟨j, e0, y0, f1, f2, f3, f4, f5, f6, f7⟩
       ·refine .inr ⟨_, by rw [hexec]; simp only [Sem.run_bind, hv, show (cx w0 ρ s w).ρ k = _ from hbk, ey, update_new hu hku hb f1, Result.andThen_ok, Sem.run_pure]; rfl, ?_⟩
        refine map_fin (he := .map kk2 u (mput u xs i yv)) h hk hbk hb (fun w' hw' hle => ⟨b, _, _, hbk, hw', ?_⟩) (fun c => SVc_any _) hR
        rw [Array.toList_push]
        exact f4 _ _ _ (hmc.mono hle) rfl hir (Rd.mono hle.keep hrd)
       ·rw [Nat.zero_add] at f1
        have f2' : es[j]? = some e0 := by simpa using f2
        refine .inr ⟨_, by rw [hexec]; simp only [Sem.run_bind, hv, show (cx w0 ρ s w).ρ k = _ from hbk, ey, update_old hu hku hb f1 f2' f3, Result.andThen_ok, Sem.run_pure]; rfl, ?_⟩
        refine map_fin (he := .map kk2 u (mput u xs i yv)) h hk hbk hb (fun w' hw' hle => ⟨b, _, _, hbk, hw', ?_⟩) (fun c => SVc_any _) hR
        rw [modify_eq f2 rfl]
        exact f7 _ _ _ (hmc.mono hle) rfl hir (Rd.mono hle.keep hrd)
      ·cases hs
     ·cases hs
   ·rename_i kk2 xs hk
    cases hg : decide (kk2 = kk) with
    | false => rw [hg] at hs; cases hs
    | true =>
     rw [hg] at hs
     simp only [cond_true] at hs
     have hg := of_decide_eq_true hg
     subst hg
     split at hs
     ·cases hs
     ·rename_i q hq hz
      cases hqa : q.agg with
      | true => rw [hqa] at hs; cases hs
      | false =>
       rw [hqa] at hs
       simp only [cond_false, ok, Option.some.injEq, Prod.mk.injEq] at hs
       obtain ⟨_, rfl⟩ := hs
       have hzc := h.ev z
       rw [hz] at hzc
       have hm := SVc.one1 hqa hq hzc
       obtain ⟨b, es, clock, hbk, hb, hmc⟩ := h.heap k _ hk
       have hbk : ρ k = .map (some b) := hbk
       have hb : w.heap[b]? = some (.map es clock) := hb
       rcases pfind_c (i := i) 0 hmc with ⟨f1, f2, f4⟩ | ⟨j, e0, y0, f1, f2, f3, f4, f5, f6, f7⟩
       ·refine .inr ⟨_, by rw [hexec]; simp only [Sem.run_bind, hv, show (cx w0 ρ s w).ρ k = _ from hbk, ey, update_new hu hku hb f1, Result.andThen_ok, Sem.run_pure]; rfl, ?_⟩
        refine map_fin (he := .pmap kk2 (pput xs i q)) h hk hbk hb (fun w' hw' hle => ⟨b, _, _, hbk, hw', ?_⟩) (fun c => SVc_any _) hR
        rw [Array.toList_push]
        exact f4 _ _ _ (hmc.mono hle) rfl hqa (PVc.mono hle hm)
       ·rw [Nat.zero_add] at f1
        have f2' : es[j]? = some e0 := by simpa using f2
        refine .inr ⟨_, by rw [hexec]; simp only [Sem.run_bind, hv, show (cx w0 ρ s w).ρ k = _ from hbk, ey, update_old hu hku hb f1 f2' f3, Result.andThen_ok, Sem.run_pure]; rfl, ?_⟩
        refine map_fin (he := .pmap kk2 (pput xs i q)) h hk hbk hb (fun w' hw' hle => ⟨b, _, _, hbk, hw', ?_⟩) (fun c => SVc_any _) hR
        rw [modify_eq f2 rfl]
        exact f7 _ _ _ (hmc.mono hle) rfl hqa (PVc.mono hle hm)
     ·cases hs
   ·cases hs
 ·cases hs
theorem makeMap_does {t : TypeId} {k : Nat} {p : Option Prop} {R : Act → World → Prop} (h : Ok w0 ρ s a w) (ho : o.op = .makeMap t none)
  (hs : makeMapS E s k o.dst t = some (p, s')) (hR : Up w0 s' R) : Does P o a w R := by
 unfold makeMapS at hs
 split at hs
 ·rename_i kk ei hmt
  cases hus : s.us k with
  | true => rw [hus] at hs; cases hs
  | false =>
   rw [hus] at hs
   simp only [cond_false] at hs
   have hexec : (execOp a.eval o).run P w = .ok (.value (.map (some w.heap.size))) (w.alloc (.map #[] 0)) := by simp [execOp, ho, run_makeMap, Result.andThen]
   have key : ∀ he : HE, (∀ c : Cx, c.ρ k = .map (some w.heap.size) → c.w.heap[w.heap.size]? = some (.map #[] 0) → HEc c k he) → Up w0 ((s.new k he).put o.dst (.one (.row k))) R → Does P o a w R := fun he hhe hR => by
    have hok := h.new (he := he) (v := .map (some w.heap.size)) hus (More.alloc w (.map #[] 0)) (fun b e => by injection e with e; subst e; exact ⟨Nat.le_refl _, by simp⟩)
     (hhe _ (rset_same _ _ _) (heap_alloc_new w _))
    have e3 : rset ρ k (.map (some w.heap.size)) k = .map (some w.heap.size) := rset_same _ _ _
    exact .inl ⟨_, _, hexec, hR _ _ _ (hok.put o.dst (SVc.of1 (p := .row k) rfl ⟨uset_same _ _, by show [_] = [rset ρ k _ k]; rw [e3], by show (rset ρ k _ k).oneCell' = true; rw [e3]; rfl⟩))⟩
   split at hs
   ·rename_i u _
    simp only [ok, Option.some.injEq, Prod.mk.injEq] at hs
    obtain ⟨_, rfl⟩ := hs
    exact key (.map kk u []) (fun c h1 h2 => ⟨_, _, _, h1, h2, trivial⟩) hR
   ·simp only [ok, Option.some.injEq, Prod.mk.injEq] at hs
    obtain ⟨_, rfl⟩ := hs
    exact key (.pmap kk []) (fun c h1 h2 => ⟨_, _, _, h1, h2, trivial⟩) hR
 ·cases hs
theorem lookup_run {t kt et : TypeId} {kk : IntKind} {b clock : Nat} {es : Array MapEntry} {i : Int} {r : Option (Nat × Value)} {two : Bool} {z : Value} (hu : P.underlying t = some (.map kt et)) (hku : P.underlying kt = some (.int kk))
  (hz : (zeroValue et).run P w = .ok z w) (hb : w.heap[b]? = some (.map es clock)) (hf : Instr.findNow (.int kk) (.int kk i) es.toList 0 = some r) :
  (Instr.lookup t (.map (some b)) (.int kk i) two).run P w = .ok (match r with
   | some (_, v) => (if two then .tuple #[v, .bool true] else v)
   | none => (if two then .tuple #[z, .bool false] else z)) w := by
 unfold Instr.lookup
 cases r with
 | none => cases two <;> simp [Sem.run_bind, run_underlying hu, Result.andThen_ok, Go.MapKept.run_getObj_map hb, check_run hku, Go.MapKept.run_findKey hku hf, hz, Sem.run_pure]
 | some jv => cases two <;> simp [Sem.run_bind, run_underlying hu, Result.andThen_ok, Go.MapKept.run_getObj_map hb, check_run hku, Go.MapKept.run_findKey hku hf, Sem.run_pure]
theorem zero_one {et : TypeId} {ei : TI} (hT : TIok P et ei) (hag : ei.kind.agg = false) (w : World) : ∃ z, (zeroValue et).run P w = .ok z w ∧ [z] = cellsPs ei.zero := by
 obtain ⟨z, h1, h2⟩ := hT.run_zero w
 refine ⟨z, h1, ?_⟩
 obtain ⟨i, z', g1, g2, g3, g4, g5⟩ := hT.info
 have hzz : z' = z := by simp [zeroValue, typeInfo, g1, g4] at h1; exact h1
 rw [hag] at g5
 subst hzz
 have hone := (cellsPs_c (c := ⟨fun _ => undef, fun _ => false, fun _ => False, w⟩) hT.flat).one
 have hs : ei.size = 1 := by
  rcases hT.one with h1 | h1
  ·rw [hag] at h1; cases h1
  ·exact h1
 have hl := hT.size
 rw [hs] at hl
 match hc : cellsPs ei.zero, hl with
 | [q], _ =>
  rw [hc] at g5
  have : z' = q := g5
  rw [this]
theorem lookup_does {t : TypeId} {x y : Operand} {two : Bool} {p : Option Prop} {R : Act → World → Prop} (hE : EnvOk P E) (h : Ok w0 ρ s a w) (ho : o.op = .lookup t x y two)
  (hs : lookupS E s o.dst t (ev s x) (ev s y) two = some (p, s')) (hp : vcP p) (hR : Up w0 s' R) : Does P o a w R := by
 have hexec : execOp a.eval o = (do pure (.value (← Instr.lookup t (a.eval x) (a.eval y) two))) := by simp [execOp, ho]
 unfold lookupS at hs
 split at hs
 ·rename_i kk ei kk' i k hmt hi hx
  obtain ⟨kt, et, hu, hku, hT, hag⟩ := mapTy_c hE hmt
  have ey := asInt_c (h.ev y) hi
  cases hkk : decide (kk = kk') with
  | false => rw [hkk] at hs; cases hs
  | true =>
   rw [hkk] at hs
   simp only [cond_true] at hs
   have hkk := of_decide_eq_true hkk
   subst hkk
   have hv := h.ev x
   rw [hx] at hv
   obtain ⟨_, hv, _⟩ := SVc.one1 rfl (by simp) hv
   simp only [List.cons.injEq, and_true] at hv
   obtain ⟨z, hz, hzc⟩ := zero_one hT hag w
   split at hs
   ·rename_i kk2 u xs hk
    cases hg : (decide (kk2 = kk) && !u.agg && tyO u ei.ty) with
    | false => rw [hg] at hs; cases hs
    | true =>
     rw [hg] at hs
     simp only [cond_true] at hs
     simp only [Bool.and_eq_true, Bool.not_eq_true', decide_eq_true_eq] at hg
     obtain ⟨⟨hkk2, hua⟩, hty⟩ := hg
     subst hkk2
     have hzr : Rd (Free w0 ρ s.hp w) w u [z] u.zero := by
      have := hT.ty
      cases hu' : ei.ty with
      | none => rw [hu'] at hty; cases hty
      | some u' =>
       rw [hu'] at hty
       have hty := of_decide_eq_true hty
       subst hty
       rw [hu'] at this
       rw [hzc, ← this.2.2.2]
       exact cellsD_rd this.2.2.1
     obtain ⟨b, es, clock, hbk, hb, hmc⟩ := h.heap k _ hk
     have hbk : ρ k = .map (some b) := hbk
     have hb : w.heap[b]? = some (.map es clock) := hb
     have hfin : ∀ (v : Value) (y1 : u.D) (q : Bool), Rd (Free w0 ρ s.hp w) w u [v] y1 → mval u xs i = y1 → mhas u xs i = q →
       (Instr.lookup t (a.eval x) (a.eval y) two).run P w = .ok (if two then .tuple #[v, .bool q] else v) w → Does P o a w R := by
      intro v y' q hr hg hh hrun
      cases two with
      | true =>
       simp only [cond_true, ok, Option.some.injEq, Prod.mk.injEq] at hs
       obtain ⟨_, rfl⟩ := hs
       refine does_value (v := .tuple #[v, .bool q]) h hexec hrun ?_ hR
       refine ⟨_, rfl, v, [.bool q], rfl, ?_, .bool q, [], rfl, ?_, rfl⟩
       ·rw [hg]; exact PsC.single (p := .d u y') hr
       ·rw [hh]; exact PsC.single (p := .d .bool q) rfl
      | false =>
       simp only [cond_false, ok, Option.some.injEq, Prod.mk.injEq] at hs
       obtain ⟨_, rfl⟩ := hs
       rw [hg] at hR
       exact does_value (v := v) h hexec hrun (SVc.of1 (p := .d u y') hua hr) hR
     rcases find_c (i := i) 0 hmc with ⟨f1, f2, f3, f4⟩ | ⟨j, e0, y0, f1, f2, f3, f4, f5, f6, f7⟩
     ·refine hfin z u.zero false hzr (by simp [mval, f2]) (by simp [mhas, f2]) ?_
      rw [hv, show (cx w0 ρ s w).ρ k = _ from hbk, ey, lookup_run hu hku hz hb f1]
     ·refine hfin e0.val y0 true f5 (by simp [mval, f4]) (by simp [mhas, f4]) ?_
      rw [hv, show (cx w0 ρ s w).ρ k = _ from hbk, ey, lookup_run hu hku hz hb f1]
   ·cases hs
 ·cases hs
def lookG (K : PV → Prop) (i : Int) (z : PV) : List (Int × PV) → Prop
 | [] => K z
 | (k, p) :: r => (i = k → K p) ∧ (¬ i = k → lookG K i z r)
theorem lookG_some {K : PV → Prop} {i : Int} {z : PV} : ∀ {es : List (Int × PV)}, lookG K i z es → (∀ p, pget? es i = some p → K p) ∧ (pget? es i = none → K z)
 | [], h => ⟨fun p e => (by cases e), fun _ => h⟩
 | (k, p) :: r, h => by
  by_cases hk : i = k
  ·have e1 : pget? ((k, p) :: r) i = some p := by simp [pget?, hk]
   rw [e1]
   refine ⟨fun q e => ?_, fun e => ?_⟩
   ·injection e with e
    rw [← e]; exact h.1 hk
   ·cases e
  ·have hk' : ¬ k = i := fun e => hk e.symm
   have e1 : pget? ((k, p) :: r) i = pget? r i := by simp [pget?, hk']
   rw [e1]
   exact lookG_some (h.2 hk)
theorem plook_does {i : Int} {es : List (Int × PV)} {z : PV} {N : Act → World → Prop} (hE : EnvOk P E) (h : Ok w0 ρ s a w) (hc : plook? E s o.op = some (i, es, z))
  (hN : lookG (fun p => Up w0 (s.put o.dst (.one p)) N) i z es) : Does P o a w N := by
 cases ho : o.op with
 | lookup t x y two =>
  rw [ho] at hc
  cases two with
  | true => cases hc
  | false =>
   have hexec : execOp a.eval o = (do pure (.value (← Instr.lookup t (a.eval x) (a.eval y) false))) := by simp [execOp, ho]
   simp only [plook?] at hc
   split at hc
   ·rename_i kk ei kk' i' k hmt hi hx
    obtain ⟨kt, et, hu, hku, hT, hag⟩ := mapTy_c hE hmt
    have ey := asInt_c (h.ev y) hi
    have hv := h.ev x
    rw [hx] at hv
    obtain ⟨_, hv, _⟩ := SVc.one1 rfl (by simp) hv
    simp only [List.cons.injEq, and_true] at hv
    obtain ⟨zv, hz, hzc⟩ := zero_one hT hag w
    split at hc
    ·rename_i kk2 xs hk
     cases hg : (decide (kk = kk') && decide (kk2 = kk')) with
     | false => rw [hg] at hc; cases hc
     | true =>
      rw [hg] at hc
      simp only [cond_true] at hc
      simp only [Bool.and_eq_true, decide_eq_true_eq] at hg
      obtain ⟨hkk, hkk2⟩ := hg
      subst hkk2; subst hkk
      split at hc
      ·rename_i zp hzp
       cases hza : zp.agg with
       | true => rw [hza] at hc; cases hc
       | false =>
        rw [hza] at hc
        simp only [cond_false, Option.some.injEq, Prod.mk.injEq] at hc
        obtain ⟨rfl, rfl, rfl⟩ := hc
        have hzr : PVc (cx w0 ρ s w) zp [zv] := by
         have h1 := cellsPs_c (c := cx w0 ρ s w) hT.flat
         rw [hzp] at h1
         obtain ⟨l1, l2, e1, h2, h3⟩ := h1
         have h3 : l2 = [] := h3
         subst h3
         rw [List.append_nil] at e1
         rw [hzc, hzp, e1]; exact h2
        obtain ⟨b, mes, clock, hbk, hb, hmc⟩ := h.heap k _ hk
        have hbk : ρ k = .map (some b) := hbk
        have hb : w.heap[b]? = some (.map mes clock) := hb
        obtain ⟨hN1, hN2⟩ := lookG_some hN
        rcases pfind_c (i := i') 0 hmc with ⟨f1, f2, f4⟩ | ⟨j, e0, y0, f1, f2, f3, f4, f5, f6, f7⟩
        ·refine does_value (v := zv) h hexec ?_ (SVc.of1 hza hzr) (hN2 f2)
         rw [hv, show (cx w0 ρ s w).ρ k = _ from hbk, ey, lookup_run hu hku hz hb f1]; rfl
        ·refine does_value (v := e0.val) h hexec ?_ (SVc.of1 f5 f6) (hN1 y0 f4)
         rw [hv, show (cx w0 ρ s w).ρ k = _ from hbk, ey, lookup_run hu hku hz hb f1]; rfl
      ·cases hc
    ·cases hc
   ·cases hc
 | _ => rw [ho] at hc; simp [plook?] at hc
theorem delete_does {args : Array Operand} {ts : Array TypeId} {x y : Operand} {t t' : TypeId} {p : Option Prop} {R : Act → World → Prop} (hE : EnvOk P E) (h : Ok w0 ρ s a w)
  (ho : o.op = .call { callee := .builtin .delete, args := args, argTypes := ts }) (ha : args.toList = [x, y]) (ht : ts.toList = [t, t'])
  (hs : deleteS E s o.dst t (ev s x) (ev s y) = some (p, s')) (hR : Up w0 s' R) : Does P o a w R := by
 have ea : args = #[x, y] := by apply Array.ext'; simpa using ha
 have et : ts = #[t, t'] := by apply Array.ext'; simpa using ht
 subst ea; subst et
 have hexec : execOp a.eval o = (do pure (.value (← Builtin.delete_ #[t, t'] o.type (#[x, y].map a.eval)))) := exec_builtin ho
 unfold deleteS at hs
 split at hs
 ·rename_i kk ei kk' i k hmt hi hx
  obtain ⟨kt, et, hu, hku, hT, hag⟩ := mapTy_c hE hmt
  have ey := asInt_c (h.ev y) hi
  cases hkk : decide (kk = kk') with
  | false => rw [hkk] at hs; cases hs
  | true =>
   rw [hkk] at hs
   simp only [cond_true] at hs
   have hkk := of_decide_eq_true hkk
   subst hkk
   have hv := h.ev x
   rw [hx] at hv
   obtain ⟨_, hv, _⟩ := SVc.one1 rfl (by simp) hv
   simp only [List.cons.injEq, and_true] at hv
   split at hs
   ·rename_i kk2 u xs hk
    cases hg : decide (kk2 = kk) with
    | false => rw [hg] at hs; cases hs
    | true =>
     rw [hg] at hs
     simp only [cond_true, ok, Option.some.injEq, Prod.mk.injEq] at hs
     obtain ⟨_, rfl⟩ := hs
     have hg := of_decide_eq_true hg
     subst hg
     obtain ⟨b, es, clock, hbk, hb, hmc⟩ := h.heap k _ hk
     have hbk : ρ k = .map (some b) := hbk
     have hb : w.heap[b]? = some (.map es clock) := hb
     have hrun : ∀ r es', Instr.findNow (.int kk2) (.int kk2 i) es.toList 0 = some r → (es' = match r with | some (j, _) => es.eraseIdxIfInBounds j | none => es) →
       (execOp a.eval o).run P w = .ok (.value (.tuple #[])) { w with heap := w.heap.setIfInBounds b (.map es' clock) } := by
      intro r es' hf he
      rw [hexec]
      unfold Builtin.delete_
      cases r with
      | none => subst he; simp [hv, show (cx w0 ρ s w).ρ k = _ from hbk, ey, Sem.run_bind, run_underlying hu, Result.andThen_ok, Go.MapKept.run_getObj_map hb, check_run hku, Go.MapKept.run_findKey hku hf, Go.MapKept.run_setObj_map _ hb, Sem.run_pure]
      | some jv => subst he; simp [hv, show (cx w0 ρ s w).ρ k = _ from hbk, ey, Sem.run_bind, run_underlying hu, Result.andThen_ok, Go.MapKept.run_getObj_map hb, check_run hku, Go.MapKept.run_findKey hku hf, Go.MapKept.run_setObj_map _ hb, Sem.run_pure]
     rcases find_c (i := i) 0 hmc with ⟨f1, f2, f3, f4⟩ | ⟨j, e0, y0, f1, f2, f3, f4, f5, f6, f7⟩
     ·refine .inl ⟨_, _, hrun none _ f1 rfl, map_fin (he := .map kk2 u (mdel u xs i)) h hk hbk hb (fun w' hw' hle => ⟨b, _, _, hbk, hw', ?_⟩) (sv := .tup []) (fun c => ⟨_, rfl, rfl⟩) hR⟩
      exact (congrArg (MapC _ kk2 u es.toList) f3).mpr (hmc.mono hle)
     ·rw [Nat.zero_add] at f1
      refine .inl ⟨_, _, hrun _ _ f1 rfl, map_fin (he := .map kk2 u (mdel u xs i)) h hk hbk hb (fun w' hw' hle => ⟨b, _, _, hbk, hw', ?_⟩) (sv := .tup []) (fun c => ⟨_, rfl, rfl⟩) hR⟩
      have : (es.eraseIdxIfInBounds j).toList = es.toList.eraseIdx j := by simp
      rw [this]
      exact f6 _ (hmc.mono hle)
   ·cases hs
 ·cases hs
theorem lenMap_does {args : Array Operand} {ts : Array TypeId} {x : Operand} {t : TypeId} {p : Option Prop} {R : Act → World → Prop} (hE : EnvOk P E) (h : Ok w0 ρ s a w)
  (ho : o.op = .call { callee := .builtin .len, args := args, argTypes := ts }) (ha : args.toList = [x]) (ht : ts.toList = [t])
  (hs : lenMapS E s o.dst t (ev s x) = some (p, s')) (hp : vcP p) (hR : Up w0 s' R) : Does P o a w R := by
 have ea : args = #[x] := by apply Array.ext'; simpa using ha
 have et : ts = #[t] := by apply Array.ext'; simpa using ht
 subst ea; subst et
 unfold lenMapS at hs
 split at hs
 ·rename_i kkei k hmt hx
  obtain ⟨kk, ei⟩ := kkei
  obtain ⟨kt, et, hu, hku, hT, hag⟩ := mapTy_c hE hmt
  split at hs
  ·rename_i kk2 u xs hk
   simp only [Option.some.injEq, Prod.mk.injEq] at hs
   obtain ⟨rfl, rfl⟩ := hs
   have hp : xs.length ≤ 9223372036854775807 := hp
   have hv := h.ev x
   rw [hx] at hv
   obtain ⟨_, hv, _⟩ := SVc.one1 rfl (by simp) hv
   simp only [List.cons.injEq, and_true] at hv
   obtain ⟨b, es, clock, hbk, hb, hmc⟩ := h.heap k _ hk
   have hbk : ρ k = .map (some b) := hbk
   have hb : w.heap[b]? = some (.map es clock) := hb
   have hlen : es.size = xs.length := by have := hmc.len; simpa using this
   refine does_value (m := Builtin.len_ #[t] o.type (#[x].map a.eval)) h (exec_builtin ho) ?_ (sv_int (k := .i64) (n := (xs.length : Int)) ⟨by omega, by omega⟩) hR
   simp [Builtin.len_, run_underlying hu, hv, show (cx w0 ρ s w).ρ k = _ from hbk, Go.MapKept.run_getObj_map hb, goInt, hlen]
  ·cases hs
 ·cases hs
end
end Go.Sx
/-
 Sx, part MC: views of a slice of our own: appended to in place, cleared, sliced on.
-/
set_option linter.unusedSimpArgs false
namespace Go.Sx
open Go.RowKit

section
variable {P : Program} {E : Env} {w0 : Base} {w : World} {ρ : Nat → Value} {s s' : St} {a : Act} {o : Oper}

theorem made_arr {S : Nat → Prop} {u : Ty} {z : Array Value} (n : Nat) (hz : z.toList = cellsD u u.zero) (hf : flatD u u.zero = true) :
  Rd S w (.arr n u) (madeCells z (n * u.size)).toList (List.replicate n u.zero) := by
 have hzl : z.size = u.size := by rw [← cellsD_len hf, ← hz]; simp
 refine ⟨by simp, by simp [madeCells], fun i x hx => ?_⟩
 rw [List.getElem?_replicate] at hx
 split at hx
 case isFalse => cases hx
 rename_i hi
 injection hx with hx
 subst hx
 have hle : (i + 1) * u.size ≤ n * u.size := Nat.mul_le_mul_right _ hi
 rw [Nat.add_mul, Nat.one_mul] at hle
 have e : ((madeCells z (n * u.size)).toList.drop (i * u.size)).take u.size = cellsD u u.zero := by
  rw [← hz]
  apply List.ext_getElem?
  intro k
  rw [piece_get]
  by_cases hk : k < u.size
  ·have hlt : i * u.size + k < n * u.size := by omega
   have hmod : (i * u.size + k) % z.size = k := by rw [hzl, Nat.mul_comm, Nat.mul_add_mod, Nat.mod_eq_of_lt hk]
   rw [if_pos hk]
   have hkz : k < z.size := by omega
   simp [madeCells, hlt, hmod, hkz]
  ·rw [if_neg hk, List.getElem?_eq_none (by simp; omega)]
 rw [e]
 exact cellsD_rd hf


theorem row_splice {S : Nat → Prop} {w : World} {u : Ty} {xs zs : List u.D} {cur news : List Value} {q cp i0 : Nat} (hcp : xs.length ≤ cp) (hfit : q + cp * u.size ≤ cur.length)
  (hi : i0 + zs.length ≤ xs.length) (hr : ∀ (i : Nat) x, xs[i]? = some x → Rd S w u ((cur.drop (q + i * u.size)).take u.size) x) (hn : Rd S w (.arr zs.length u) news zs) :
  ∀ (i : Nat) x, (xs.take i0 ++ (zs ++ xs.drop (i0 + zs.length)))[i]? = some x → Rd S w u (((splice cur (q + i0 * u.size) news).drop (q + i * u.size)).take u.size) x := by
 intro i x hx
 have hnl : news.length = zs.length * u.size := hn.2.1
 have hle0 : (i0 + zs.length) * u.size ≤ cp * u.size := Nat.mul_le_mul_right _ (by omega)
 rw [Nat.add_mul] at hle0
 have hsp : q + i0 * u.size + news.length ≤ cur.length := by omega
 have htl : (xs.take i0).length = i0 := by rw [List.length_take]; omega
 rcases Nat.lt_or_ge i i0 with h1 | h1
 ·rw [List.getElem?_append_left (by omega), List.getElem?_take, if_pos h1] at hx
  have hle : (i + 1) * u.size ≤ i0 * u.size := Nat.mul_le_mul_right _ h1
  rw [Nat.add_mul, Nat.one_mul] at hle
  rw [splice_piece_out hsp (.inl (by omega))]
  exact hr i x hx
 ·rw [List.getElem?_append_right (by omega), htl] at hx
  rcases Nat.lt_or_ge (i - i0) zs.length with h2 | h2
  ·rw [List.getElem?_append_left h2] at hx
   have hpc := hn.2.2 _ x hx
   have hle : (i - i0 + 1) * u.size ≤ zs.length * u.size := Nat.mul_le_mul_right _ h2
   rw [Nat.add_mul, Nat.one_mul, Nat.sub_mul] at hle
   have hle3 : i0 * u.size ≤ i * u.size := Nat.mul_le_mul_right _ h1
   rw [Nat.sub_mul] at hpc
   have e5 : ((splice cur (q + i0 * u.size) news).drop (q + i * u.size)).take u.size = (news.drop (i * u.size - i0 * u.size)).take u.size := by
    apply List.ext_getElem?
    intro j
    rw [piece_get, piece_get]
    by_cases hj : j < u.size
    ·rw [if_pos hj, if_pos hj, splice_get hsp, if_neg (by omega), if_pos (by omega)]
     congr 1; omega
    ·rw [if_neg hj, if_neg hj]
   rw [e5]; exact hpc
  ·rw [List.getElem?_append_right h2, List.getElem?_drop] at hx
   rw [show i0 + zs.length + (i - i0 - zs.length) = i from by omega] at hx
   have hle : (i0 + zs.length) * u.size ≤ i * u.size := Nat.mul_le_mul_right _ (by omega)
   rw [Nat.add_mul] at hle
   rw [splice_piece_out hsp (.inr (by omega))]
   exact hr i x hx
theorem row_splice_len {u : Ty} {xs zs : List u.D} {i0 : Nat} (hi : i0 + zs.length ≤ xs.length) : (xs.take i0 ++ (zs ++ xs.drop (i0 + zs.length))).length = xs.length := by
 simp only [List.length_append, List.length_take, List.length_drop]
 omega
theorem Ok.rowSet (h : Ok w0 ρ s a w) {k b q cp i0 : Nat} {u : Ty} {xs zs : List u.D} {cur : Array Value} {e : TypeId} {news : List Value} (hk : s.hp k = some (.row u xs)) (hρ : ρ k = .slice (some ⟨b, q, none⟩) xs.length cp)
  (hb : w.heap[b]? = some (.cells cur e (0, 0))) (h1 : xs.length ≤ cp) (h2 : cp ≤ maxLen) (h3 : q + cp * u.size ≤ cur.size)
  (hr : ∀ (i : Nat) x, xs[i]? = some x → Rd (Free w0 ρ s.hp w) w u ((cur.toList.drop (q + i * u.size)).take u.size) x) (hn : Rd (Free w0 ρ s.hp w) w (.arr zs.length u) news zs) (hi : i0 + zs.length ≤ xs.length) :
  Ok w0 ρ (s.upd k (.row u (xs.take i0 ++ (zs ++ xs.drop (i0 + zs.length))))) a (w.setRow b (splice cur.toList (q + i0 * u.size) news).toArray) := by
 have hbk : blkOf (ρ k) = some b := by rw [hρ]; rfl
 have hbz := h.fresh k _ b hk hbk
 have hold : ∀ b', blkOf (ρ k) ≠ some b' → (w.setRow b (splice cur.toList (q + i0 * u.size) news).toArray).heap[b']? = w.heap[b']? := fun b' hne =>
  setRow_other w b b' _ (fun e => hne (by rw [hbk, e]))
 have hle := upd_le (w0 := w0) (ρ := ρ) (s := s) (he := .row u (xs.take i0 ++ (zs ++ xs.drop (i0 + zs.length)))) ⟨_, hk⟩ (by simp) hold
 have hnl : news.length = zs.length * u.size := hn.2.1
 have hcur : cur.toList.length = cur.size := by simp
 have hmul : (i0 + zs.length) * u.size ≤ cp * u.size := Nat.mul_le_mul_right _ (by omega)
 rw [Nat.add_mul] at hmul
 refine h.upd hk (setRow_below w b _ _ hbz.1) hold (.inr ⟨b, q, cp, _, e, by rw [row_splice_len hi]; exact hρ, setRow_heap w b cur _ e _ hb, by rw [row_splice_len hi]; exact h1, h2, by
  simp only [List.size_toArray]; rw [splice_length (by omega), hcur]; exact h3, ?_⟩)
 exact row_splice h1 (by rw [hcur]; exact h3) hi (fun i x hx => Rd.mono hle.keep (hr i x hx)) (Rd.mono hle.keep hn)

theorem bounds_run2 {lo hi : Option Operand} {n c : Nat} {l h : Int} (h0 : Ok w0 ρ s a w) (hl : boundOf 0 (lo.map (ev s)) = some l) (hh : boundOf (n : Int) (hi.map (ev s)) = some h)
  (hb : (0 ≤ l ∧ l ≤ h) ∧ h ≤ (c : Int)) : (Instr.sliceBounds true n c (lo.map a.eval) (hi.map a.eval) none).run P w = .ok (l.toNat, h.toNat, c) w := by
 unfold Instr.sliceBounds
 have hb1 : ∀ x, boundOf (n : Int) ((some x : Option Operand).map (ev s)) = some h → ∃ k, a.eval x = .int k h := fun x e => by
  simp only [Option.map_some, boundOf] at e
  split at e
  ·rename_i k i e1
   injection e with e
   subst e
   exact ⟨k, asInt_c (h0.ev x) e1⟩
  ·cases e
 have hb2 : ∀ x, boundOf 0 ((some x : Option Operand).map (ev s)) = some l → ∃ k, a.eval x = .int k l := fun x e => by
  simp only [Option.map_some, boundOf] at e
  split at e
  ·rename_i k i e1
   injection e with e
   subst e
   exact ⟨k, asInt_c (h0.ev x) e1⟩
  ·cases e
 cases hi with
 | none =>
  simp only [Option.map_none, boundOf, Option.some.injEq] at hh
  subst hh
  cases lo with
  | none =>
   simp only [Option.map_none, boundOf, Option.some.injEq] at hl
   subst hl
   simp
  | some x =>
   obtain ⟨k, ex⟩ := hb2 x hl
   simp only [Option.map_some, Option.map_none, ex, Sem.run_bind, Sem.run_pure, Result.andThen_ok]
   rw [sliceBound_run k l n _ (by omega)]
   simp
 | some y =>
  obtain ⟨k, ey⟩ := hb1 y hh
  cases lo with
  | none =>
   simp only [Option.map_none, boundOf, Option.some.injEq] at hl
   subst hl
   simp only [Option.map_some, Option.map_none, ey, Sem.run_bind, Sem.run_pure, Result.andThen_ok]
   rw [sliceBound_run k h c _ (by omega)]
   simp
  | some x =>
   obtain ⟨k', ex⟩ := hb2 x hl
   simp only [Option.map_some, ex, ey, Sem.run_bind, Sem.run_pure, Result.andThen_ok]
   rw [sliceBound_run k h c _ (by omega)]
   simp only [Result.andThen_ok]
   rw [sliceBound_run k' l h.toNat _ (by omega)]
   simp

theorem sliceAt_run2 {t e : TypeId} {ei : TI} {A : Option Addr} {lo hi : Option Operand} {n c : Nat} {l h : Int} {x : Value} (h0 : Ok w0 ρ s a w) (hk : P.underlying t = some (.slice e)) (hT : TIok P e ei)
  (hx : x = .slice A n c) (hl : boundOf 0 (lo.map (ev s)) = some l) (hh : boundOf (n : Int) (hi.map (ev s)) = some h) (hb : (0 ≤ l ∧ l ≤ h) ∧ h ≤ (c : Int)) :
  (Instr.sliceAt t x (lo.map a.eval) (hi.map a.eval) none).run P w = .ok (.slice (if c = l.toNat then A else A.map (·.add (l.toNat * ei.size))) (h.toNat - l.toNat) (c - l.toNat)) w := by
 subst hx
 unfold Instr.sliceAt
 simp only [Sem.run_bind, run_underlying hk, Result.andThen_ok]
 unfold Instr.slice
 simp only [Sem.run_bind, run_underlying hk, Result.andThen_ok, bounds_run2 h0 hl hh hb, hT.run_size, Sem.run_pure]

theorem view0 {A : Option Addr} {cp sz n : Nat} (hA : n = 0 ∨ ∃ bl o, A = some ⟨bl, o, none⟩) (hA0 : n = 0 → A = none ∨ ∃ bl o, A = some ⟨bl, o, none⟩) : (if cp = 0 then A else A.map (·.add (0 * sz))) = A := by
 by_cases hc : cp = 0
 ·rw [if_pos hc]
 ·rw [if_neg hc, Nat.zero_mul]
  have : A = none ∨ ∃ bl o, A = some ⟨bl, o, none⟩ := by
   rcases hA with h | h
   ·exact hA0 h
   ·exact .inr h
  rcases this with rfl | ⟨bl, o, rfl⟩
  ·rfl
  ·simp [Addr.add_lit]
theorem row_form (h : Ok w0 ρ s a w) {k : Nat} {u : Ty} {xs : List u.D} (hk : s.hp k = some (.row u xs)) :
  (ρ k = .slice none 0 0 ∧ xs = []) ∨ ∃ b q cp cur e, ρ k = .slice (some ⟨b, q, none⟩) xs.length cp ∧ w.heap[b]? = some (.cells cur e (0, 0)) ∧ xs.length ≤ cp ∧ cp ≤ maxLen ∧
    q + cp * u.size ≤ cur.size ∧ ∀ (i : Nat) x, xs[i]? = some x → Rd (Free w0 ρ s.hp w) w u ((cur.toList.drop (q + i * u.size)).take u.size) x := h.heap k _ hk

theorem sub2_does {t : TypeId} {x : Operand} {lo hi : Option Operand} {k : Nat} {p : Option Prop} {R : Act → World → Prop} (hE : EnvOk P E) (h : Ok w0 ρ s a w) (ho : o.op = .slice t x lo hi none)
  (hs : sub2S E s k o.dst t (ev s x) (lo.map (ev s)) (hi.map (ev s)) = some (p, s')) (hp : vcP p) (hR : Up w0 s' R) : Does P o a w R := by
 unfold sub2S at hs
 split at hs
 ·rename_i kk k1 sz a1 b1 hxx
  have hexec : execOp a.eval o = (do pure (.value (← Instr.sliceAt t (a.eval x) (lo.map a.eval) (hi.map a.eval) none))) := by simp [execOp, ho]
  split at hs
  ·rename_i t' xs' hkk
   cases hg : (!(sliceOf E t t' && Nat.beq t'.size sz && Nat.beq a1 0) || s.us k) with
   | true => rw [hg] at hs; cases hs
   | false =>
    rw [hg] at hs
    simp only [cond_false] at hs
    simp only [Bool.or_eq_false_iff, Bool.not_eq_false', Bool.and_eq_true] at hg
    obtain ⟨⟨⟨hg1, hg2⟩, hg3⟩, hus⟩ := hg
    have hz2 := Nat.eq_of_beq_eq_true hg2
    have ha0 := Nat.eq_of_beq_eq_true hg3
    subst hz2; subst ha0
    obtain ⟨e, ei, hk, hT, hz⟩ := sliceOf_c hE hg1
    split at hs
    ·rename_i l hh hl0 hh0
     simp only [Option.some.injEq, Prod.mk.injEq] at hs
     obtain ⟨rfl, rfl⟩ := hs
     have hp : (0 ≤ l ∧ l ≤ hh) ∧ hh ≤ (xs'.length : Int) := hp
     have hx := h.ev x
     rw [hxx] at hx
     obtain ⟨hu, hu1, h1, A, n, cp, h2, ⟨hA, hnc⟩, ⟨_, hbn⟩, h3⟩ := SVc.one1 rfl (by simp) hx
     simp only [List.cons.injEq, and_true] at h1
     have h2 : ρ kk = .slice A n cp := h2
     have hform : n = xs'.length ∧ (A = none ∨ ∃ bl o, A = some ⟨bl, o, none⟩) := by
      rcases row_form h hkk with ⟨h4, rfl⟩ | ⟨b, q, cp', cur, e', h4, _⟩
      ·rw [h4] at h2; cases h2; exact ⟨rfl, .inl rfl⟩
      ·rw [h4] at h2; cases h2; exact ⟨rfl, .inr ⟨b, q, rfl⟩⟩
     obtain ⟨hn, hA2⟩ := hform
     rw [view0 hA (fun _ => hA2), Nat.sub_zero, Nat.sub_zero] at h3
     have h3 : ρ k1 = .slice A b1 cp := h3
     have hrun := sliceAt_run2 (lo := lo) (hi := hi) h hk hT (A := A) (n := b1) (c := cp) (x := a.eval x) (by rw [h1]; exact h3) hl0 hh0 (by omega)
     have hne : kk ≠ k := fun e => by have hu : s.us kk = true := hu; rw [e, hus] at hu; cases hu
     generalize hv : Value.slice (if cp = l.toNat then A else A.map (·.add (l.toNat * ei.size))) (hh.toNat - l.toNat) (cp - l.toNat) = v at hrun
     have e3 : rset ρ k v k = v := rset_same _ _ _
     have e4 : rset ρ k v kk = .slice A n cp := by rw [rset_other _ _ hne]; exact h2
     exact .inl ⟨v, w, by rw [hexec]; simp only [Sem.run_bind, hrun, Result.andThen_ok, Sem.run_pure], hR _ _ _ ((h.use (k := k) (v := v) hus).put o.dst (SVc.of1 (p := .sub kk k t'.size l.toNat hh.toNat) rfl
      ⟨uset_of hu, uset_same _ _, by show [v] = [rset ρ k v k]; rw [e3], A, n, cp, e4, ⟨hA, hnc⟩, ⟨by omega, by omega⟩, by show rset ρ k v k = _; rw [e3, ← hv, hz]⟩))⟩
    ·cases hs
  ·cases hs
 ·exact sub_does hE h ho hs hp hR

theorem append2_does {args : Array Operand} {ts : Array TypeId} {x y : Operand} {t : TypeId} {k' : Nat} {p : Option Prop} {R : Act → World → Prop} (hE : EnvOk P E) (h : Ok w0 ρ s a w)
  (ho : o.op = .call { callee := .builtin .append, args := args, argTypes := ts }) (ha : args.toList = [x, y]) (ht : ts.toList = [t, t])
  (hs : append2S E s k' o.dst t (ev s x) (ev s y) = some (p, s')) (hp : vcP p) (hR : Up w0 s' R) : Does P o a w R := by
 unfold append2S at hs
 split at hs
 ·rename_i kk k1 sz' a1 b1 hxx
  have ea : args = #[x, y] := by apply Array.ext'; simpa using ha
  have et : ts = #[t, t] := by apply Array.ext'; simpa using ht
  subst ea; subst et
  have hexec : execOp a.eval o = (do pure (.value (← Builtin.append_ #[t, t] o.type #[a.eval x, a.eval y]))) := by rw [exec_builtin ho]; simp [builtin]
  split at hs
  ·rename_i e _ _ hti
   have hk := (hE t _ hti).kind
   split at hs
   ·rename_i sz by_ kd z u hei
    have hT := hE e _ hei
    split at hs
    ·rename_i u' ys0 u2 xs0 hyy hkk
     split at hs
     ·rename_i ys xs hys hxs
      obtain ⟨e2, e3⟩ := castD_eq hys
      injection e2 with e2
      subst e2
      have e3 : ys0 = ys := e3
      subst e3
      obtain ⟨e2, e3⟩ := castD_eq hxs
      injection e2 with e2
      subst e2
      have e3 : xs0 = xs := e3
      subst e3
      cases hb : (!(Nat.beq u2.size sz && Nat.beq sz' sz && Nat.beq a1 0) || s.us k') with
      | true => rw [hb] at hs; cases hs
      | false =>
       rw [hb] at hs
       simp only [cond_false, Option.some.injEq, Prod.mk.injEq] at hs
       obtain ⟨rfl, rfl⟩ := hs
       have hp : b1 + ys0.length ≤ xs0.length := hp
       simp only [Bool.or_eq_false_iff, Bool.not_eq_false', Bool.and_eq_true] at hb
       obtain ⟨⟨⟨hb1, hb2⟩, hb3⟩, hus⟩ := hb
       have hsz := Nat.eq_of_beq_eq_true hb1
       have hsz' := Nat.eq_of_beq_eq_true hb2
       have ha0 := Nat.eq_of_beq_eq_true hb3
       subst hsz; subst hsz'; subst ha0
       obtain ⟨A2, c2, news, hy1, hy2, hy3, hrd, hy5⟩ := slD_flat h (h.ev y) hyy
       have hsrc : Src w ys0.length (a.eval y) news := ⟨⟨A2, c2, hy1, hy5⟩, fun h0 => by
        have := hrd.2.1
        rw [h0] at this
        exact List.eq_nil_of_length_eq_zero (by simpa using this)⟩
       have hnl : news.length = ys0.length * u2.size := hrd.2.1
       have hn1 := Rd.one hrd
       have hx := h.ev x
       rw [hxx] at hx
       obtain ⟨hu, hu1, h1, A, n, cp, h2, ⟨hA, hnc⟩, ⟨_, hbn⟩, h3⟩ := SVc.one1 rfl (by simp) hx
       simp only [List.cons.injEq, and_true] at h1
       have h2 : ρ kk = .slice A n cp := h2
       have hne : kk ≠ k' := fun e => by have hu : s.us kk = true := hu; rw [e, hus] at hu; cases hu
       rcases row_form h hkk with ⟨h4, rfl⟩ | ⟨b, q, cp', cur, e', h4, hheap, h5, h6, h7, h8⟩
       ·-- nothing and nothing
        rw [h4] at h2
        cases h2
        have hy0 : ys0 = [] := List.eq_nil_of_length_eq_zero (by simp only [List.length_nil] at hp; omega)
        have hb0 : b1 = 0 := by simp only [List.length_nil] at hp; omega
        subst hy0; subst hb0
        have hx0 : a.eval x = .slice none 0 0 := by rw [h1]; exact h3
        have hrun := run_append_none (ty := o.type) hk hT hsrc
        have hupd : Ok w0 ρ (s.upd kk (.row u2 [])) a w := by
         refine h.upd hkk (Below.refl _ _) (fun _ _ => rfl) (.inl ⟨h4, rfl⟩)
        have hok := hupd.use (k := k') (v := .slice none 0 0) hus
        have e3 : rset ρ k' (.slice none 0 0) k' = .slice none 0 0 := rset_same _ _ _
        refine Does.ran (hexec.trans (by rw [hx0])) hrun (hR _ _ _ (hok.put o.dst (SVc.of1 (p := .sub kk k' u2.size 0 (0 + ([] : List u2.D).length)) rfl
         ⟨uset_of hu, uset_same _ _, by show [_] = [rset ρ k' _ k']; rw [e3], none, 0, 0, by show rset ρ k' _ kk = _; rw [rset_other _ _ hne]; exact h4, ⟨.inl rfl, Nat.le_refl _⟩, ⟨by simp, by simp⟩, by show rset ρ k' _ k' = _; rw [e3]; simp⟩)))
       ·rw [h4] at h2
        cases h2
        rw [view0 hA (fun _ => .inr ⟨b, q, rfl⟩), Nat.sub_zero, Nat.sub_zero] at h3
        have hx0 : a.eval x = .slice (some ⟨b, q, none⟩) b1 cp := by rw [h1]; exact h3
        have hmul : (b1 + ys0.length) * u2.size ≤ cp * u2.size := Nat.mul_le_mul_right _ (by omega)
        rw [Nat.add_mul] at hmul
        have hrun := run_append_room' (ty := o.type) (e' := e') hk hT hx0 hheap hsrc hnl hn1 (by omega) (by show q + b1 * u2.size + news.length ≤ cur.size; omega)
        have hok1 := h.rowSet hkk h4 hheap h5 h6 h7 h8 hrd hp
        have hok := hok1.use (k := k') (v := .slice (some ⟨b, q, none⟩) (b1 + ys0.length) cp) hus
        have e3 : rset ρ k' (.slice (some ⟨b, q, none⟩) (b1 + ys0.length) cp) k' = .slice (some ⟨b, q, none⟩) (b1 + ys0.length) cp := rset_same _ _ _
        refine Does.ran hexec hrun (hR _ _ _ (hok.put o.dst (SVc.of1 (p := .sub kk k' u2.size 0 (b1 + ys0.length)) rfl
         ⟨uset_of hu, uset_same _ _, by show [_] = [rset ρ k' _ k']; rw [e3], some ⟨b, q, none⟩, xs0.length, cp, by show rset ρ k' _ kk = _; rw [rset_other _ _ hne]; exact h4, ⟨.inr ⟨b, q, rfl⟩, h5⟩, ⟨by omega, hp⟩, by
          show rset ρ k' _ k' = _
          rw [e3, view0 (n := xs0.length) (.inr ⟨b, q, rfl⟩) (fun _ => .inr ⟨b, q, rfl⟩), Nat.sub_zero, Nat.sub_zero]⟩)))
     ·cases hs
    ·cases hs
   ·cases hs
  ·cases hs
 ·exact append_does hE h ho ha ht hs hp hR

theorem clear_does {args : Array Operand} {ts : Array TypeId} {x : Operand} {t : TypeId} {p : Option Prop} {R : Act → World → Prop} (hE : EnvOk P E) (h : Ok w0 ρ s a w)
  (ho : o.op = .call { callee := .builtin .clear, args := args, argTypes := ts }) (ha : args.toList = [x]) (ht : ts.toList = [t])
  (hs : clearS E s o.dst t (ev s x) = some (p, s')) (hR : Up w0 s' R) : Does P o a w R := by
 have ea : args = #[x] := by apply Array.ext'; simpa using ha
 have et : ts = #[t] := by apply Array.ext'; simpa using ht
 subst ea; subst et
 unfold clearS at hs
 split at hs
 ·rename_i kk k1 sz' a1 b1 hxx
  have hexec : execOp a.eval o = (do pure (.value (← Builtin.clear_ #[t] o.type #[a.eval x]))) := by rw [exec_builtin ho]; simp [builtin]
  split at hs
  ·rename_i e _ _ hti
   have hk := (hE t _ hti).kind
   split at hs
   ·rename_i sz by_ kd z u hei
    have hT := hE e _ hei
    obtain ⟨hu1, hu2, hu3, hu4⟩ := hT.ty
    split at hs
    ·rename_i u2 xs0 hkk
     split at hs
     ·rename_i xs hxs
      obtain ⟨e2, e3⟩ := castD_eq hxs
      injection e2 with e2
      subst e2
      have e3 : xs0 = xs := e3
      subst e3
      cases hb : (!(Nat.beq u2.size sz && Nat.beq sz' sz)) with
      | true => rw [hb] at hs; cases hs
      | false =>
       rw [hb] at hs
       simp only [cond_false, ok, Option.some.injEq, Prod.mk.injEq] at hs
       obtain ⟨_, rfl⟩ := hs
       simp only [Bool.not_eq_false', Bool.and_eq_true] at hb
       have hsz := Nat.eq_of_beq_eq_true hb.1
       have hsz' := Nat.eq_of_beq_eq_true hb.2
       subst hsz; subst hsz'
       have hx := h.ev x
       rw [hxx] at hx
       obtain ⟨hu, _, h1, A, n, cp, h2, ⟨hA, hnc⟩, ⟨hab, hbn⟩, h3⟩ := SVc.one1 rfl (by simp) hx
       simp only [List.cons.injEq, and_true] at h1
       have h2 : ρ kk = .slice A n cp := h2
       have hx0 := h1.trans h3
       have hkeep : b1 - a1 = 0 → xs0.take a1 ++ (List.replicate (b1 - a1) u2.zero ++ xs0.drop (a1 + (b1 - a1))) = xs0 := fun h0 => by
        rw [h0, List.replicate_zero, List.nil_append, Nat.add_zero, List.take_append_drop]
       rcases Nat.eq_zero_or_pos (b1 - a1) with h0 | hpos
       ·-- nothing is cleared
        rw [hkeep h0] at hR
        have hrun : (Builtin.clear_ #[t] o.type #[a.eval x]).run P w = .ok (.tuple #[]) w := by
         rw [hx0, h0]
         unfold Builtin.clear_
         simp only [List.getElem?_toArray, List.getElem?_cons_zero, Sem.run_bind, run_underlying hk, Result.andThen_ok]
         generalize (if cp = a1 then A else A.map (·.add (a1 * u2.size))) = B
         cases B <;> simp [Sem.run_pure]
        have hsame : Ok w0 ρ (s.upd kk (.row u2 xs0)) a w := h.upd hkk (Below.refl _ _) (fun _ _ => rfl) (by
         have := h.heap kk _ hkk
         exact HEc.mono (upd_le ⟨_, hkk⟩ (Nat.le_refl _) (fun _ _ => rfl)) hu (fun _ _ => rfl) this)
        exact Does.ran hexec hrun (hR _ _ _ (hsame.put o.dst (SVc_any _)))
       ·rcases row_form h hkk with ⟨h4, rfl⟩ | ⟨b, q, cp', cur, e', h4, hheap, h5, h6, h7, h8⟩
        ·rw [h4] at h2
         cases h2
         omega
        ·rw [h4] at h2
         cases h2
         have hne : ¬ cp = a1 := by omega
         rw [if_neg hne, Option.map_some, Addr.add_lit] at hx0
         obtain ⟨i, zv, hi1, hi2, hi3, hi4, hi5⟩ := hT.info
         obtain ⟨z', hz1, hz2⟩ := hT.run_zero w
         have hmade := made_arr (S := Free w0 ρ s.hp w) (w := w) (z := z'.cells) (b1 - a1) (hz2.trans hu4.symm) hu3
         have hzl : z'.cells.size = u2.size := by
          have := hT.size
          rw [← hz2] at this; simpa using this
         have hzc : Builtin.zeroCells z'.cells (b1 - a1) = Go.madeCells z'.cells ((b1 - a1) * u2.size) := by
          unfold Builtin.zeroCells Go.madeCells
          rw [hzl]
         have hml := hmade.2.1
         have hm1 := Rd.one hmade
         have hmul : (a1 + (b1 - a1)) * u2.size ≤ cp * u2.size := Nat.mul_le_mul_right _ (by omega)
         rw [Nat.add_mul] at hmul
         have hst := run_storeCells_at P b (q + a1 * u2.size) e' (Go.madeCells z'.cells ((b1 - a1) * u2.size)).toList 0 cur w hheap (by rw [hml]; omega) hm1
         simp only [Nat.add_zero] at hst
         have hrun : (Builtin.clear_ #[t] o.type #[a.eval x]).run P w = .ok (.tuple #[]) (w.setRow b (splice cur.toList (q + a1 * u2.size) (Go.madeCells z'.cells ((b1 - a1) * u2.size)).toList).toArray) := by
          rw [hx0]
          unfold Builtin.clear_
          obtain ⟨m, hm⟩ : ∃ m, b1 - a1 = m + 1 := ⟨b1 - a1 - 1, by omega⟩
          rw [hm] at hst hzc
          rw [hm]
          simp [Sem.run_bind, run_underlying hk, Result.andThen_ok, hz1, hzc, hst, splice]
         have hrl : (List.replicate (b1 - a1) u2.zero).length = b1 - a1 := List.length_replicate
         have hmade' : Rd (Free w0 ρ s.hp w) w (.arr (List.replicate (b1 - a1) u2.zero).length u2) (Go.madeCells z'.cells ((b1 - a1) * u2.size)).toList (List.replicate (b1 - a1) u2.zero) := by
          rw [hrl]; exact hmade
         have hok1 := h.rowSet (i0 := a1) hkk h4 hheap h5 h6 h7 h8 hmade' (by rw [hrl]; omega)
         rw [hrl] at hok1
         exact Does.ran hexec hrun (hR _ _ _ (hok1.put o.dst (SVc_any _)))
     ·cases hs
    ·cases hs
   ·cases hs
  ·cases hs
 ·cases hs

theorem slice3R_does {t : TypeId} {x : Operand} {lo hi : Option Operand} {mx : Operand} {p : Option Prop} {R : Act → World → Prop} (hE : EnvOk P E) (h : Ok w0 ρ s a w) (ho : o.op = .slice t x lo hi (some mx))
  (hs : slice3R E s o.dst t (ev s x) (lo.map (ev s)) (hi.map (ev s)) (ev s mx) = some (p, s')) (hp : vcP p) (hR : Up w0 s' R) : Does P o a w R := by
 unfold slice3R at hs
 split at hs
 ·rename_i kk hxx
  have hexec : execOp a.eval o = (do pure (.value (← Instr.sliceAt t (a.eval x) (lo.map a.eval) (hi.map a.eval) (some (a.eval mx))))) := by simp [execOp, ho]
  split at hs
  ·rename_i u xs hkk
   cases hso : sliceOf E t u with
   | false => rw [hso] at hs; cases hs
   | true =>
   rw [hso] at hs
   simp only [Bool.not_true, cond_false] at hs
   obtain ⟨e, ei, hk, hT, hz⟩ := sliceOf_c hE hso
   split at hs
   ·rename_i l kh hh km m hl0 hh0 hm0
    cases hi with
    | none => cases hh0
    | some hi =>
    simp only [Option.map_some] at hh0
    simp only [Option.some.injEq, Prod.mk.injEq] at hs
    obtain ⟨rfl, rfl⟩ := hs
    have hp : ((0 ≤ l ∧ l ≤ hh) ∧ hh ≤ m) ∧ m ≤ (xs.length : Int) := hp
    have ehi := asInt_c (h.ev hi) hh0
    have emx := asInt_c (h.ev mx) hm0
    have hx := h.ev x
    rw [hxx] at hx
    obtain ⟨A, c, h1, h2, _⟩ := slD_c (t := u) (xs := xs) h (h.ev x) (by rw [hxx]; simp only [slD, hkk])
    have hbd := bounds3_run (P := P) (lo := lo) (hi := hi) (mx := mx) (n := xs.length) (c := c) h hl0 ehi emx hp h2
    have hrun : (Instr.sliceAt t (a.eval x) (lo.map a.eval) ((some hi).map a.eval) (some (a.eval mx))).run P w = .ok (.slice (if m.toNat = l.toNat then A else A.map (·.add (l.toNat * ei.size))) (hh.toNat - l.toNat) (m.toNat - l.toNat)) w := by
     rw [h1]
     unfold Instr.sliceAt
     simp only [Sem.run_bind, run_underlying hk, Result.andThen_ok, Option.map_some]
     unfold Instr.slice
     simp only [Sem.run_bind, run_underlying hk, Result.andThen_ok, hbd, hT.run_size, Sem.run_pure]
    exact does_value h hexec hrun (SVc_any _) hR
   ·cases hs
  ·cases hs
 ·exact slice3_does hE h ho hs hp hR
end
end Go.Sx
/-
 Sx, part N: struct and slice literals, make, and the small operations; then all operations together.
-/
namespace Go.Sx
open Go.RowKit

theorem splice_nil (l : List Value) (p : Nat) : splice l p [] = l := by simp [splice]
theorem splice_cons {l : List Value} {p : Nat} {v : Value} {vs : List Value} (h : p + (vs.length + 1) ≤ l.length) : splice (l.set p v) (p + 1) vs = splice l p (v :: vs) := by
 apply List.ext_getElem?
 intro k
 rw [splice_get (by simp; omega), splice_get (by simp; omega)]
 simp only [List.length_cons]
 by_cases h1 : k < p
 ·rw [if_pos (by omega), if_pos h1, List.getElem?_set_ne (by omega)]
 ·rw [if_neg h1]
  by_cases h2 : k = p
  ·subst h2
   rw [if_pos (by omega), if_pos (by omega), List.getElem?_set_self (by omega)]; simp
  ·rw [if_neg (by omega)]
   by_cases h3 : k < p + (vs.length + 1)
   ·rw [if_pos (by omega), if_pos h3, show k - p = (k - (p + 1)) + 1 by omega]; rfl
   ·rw [if_neg (by omega), if_neg h3, List.getElem?_set_ne (by omega)]
theorem foldl_splice (off : Nat) : ∀ (vs : List Value) (j : Nat) (cs : Array Value), off + j + vs.length ≤ cs.size →
  ((vs.zipIdx j).foldl (fun cs (x : Value × Nat) => cs.setIfInBounds (off + x.2) x.1) cs).toList = splice cs.toList (off + j) vs
 | [], j, cs, _ => by simp [splice_nil]
 | v :: vs, j, cs, h => by
  simp only [List.length_cons] at h
  rw [List.zipIdx_cons, List.foldl_cons, foldl_splice off vs (j + 1) _ (by simp; omega), Array.toList_setIfInBounds]
  rw [← Nat.add_assoc, splice_cons (by simp; omega)]
theorem fill_step (place : Nat → Option (Nat × Nat)) (cells : Array Value) (i off n : Nat) (v : Value) (rest : List (Nat × Value)) (hp : place i = some (off, n)) (hn : v.cells.size = n) (hle : off + n ≤ cells.size) :
  ∃ cells', cells'.toList = splice cells.toList off v.cells.toList ∧ Instr.fill place cells ((i, v) :: rest) = Instr.fill place cells' rest := by
 refine ⟨v.cells.zipIdx.foldl (fun cs (x : Value × Nat) => cs.setIfInBounds (off + x.2) x.1) cells, ?_, ?_⟩
 ·rw [← Array.foldl_toList, Array.toList_zipIdx]
  have := foldl_splice off v.cells.toList 0 cells (by simp; omega)
  simpa using this
 ·have h1 : (decide (v.cells.size ≠ n) || decide (off + v.cells.size > cells.size)) = false := by simp [hn]; omega
  simp only [Instr.fill, hp]
  rw [if_neg (by simpa using h1)]

section
variable {P : Program} {E : Env} {w0 : Base} {w : World} {ρ : Nat → Value} {s s' : St} {a : Act} {o : Oper}

theorem buildPs_c {place place' : Nat → Option (Nat × Nat)} (hpl : ∀ i x, place i = some x → place' i = some x) (h : Ok w0 ρ s a w) :
  ∀ (parts : List (Nat × Operand)) (ps ps' : List PV) (cells : Array Value), PsC (cx w0 ρ s w) ps cells.toList → buildPs place ps (parts.map fun p => (p.1, ev s p.2)) = some ps' →
   ∃ cells', Instr.fill place' cells (parts.map fun p => (p.1, a.eval p.2)) = some cells' ∧ PsC (cx w0 ρ s w) ps' cells'.toList
 | [], ps, ps', cells, hc, hb => by
  simp only [List.map_nil, buildPs, Option.some.injEq] at hb
  subst hb
  exact ⟨cells, rfl, hc⟩
 | (i, x) :: parts, ps, ps', cells, hc, hb => by
  simp only [List.map_cons, buildPs] at hb
  split at hb
  ·rename_i off n qs hp hq
   split at hb
   ·rename_i ps1 hset
    obtain ⟨h1, h2, h3⟩ := setPs_c hset hc (SVparts_c (h.ev x) hq)
    obtain ⟨cells1, h4, h5⟩ := fill_step place' cells i off n (a.eval x) (parts.map fun p => (p.1, a.eval p.2)) (hpl _ _ hp) (by simpa using h2) (by simpa using h3)
    have h6 : PsC (cx w0 ρ s w) ps1 cells1.toList := by rw [h4]; simpa only [splice, h2] using h1
    obtain ⟨cells', h7, h8⟩ := buildPs_c hpl h parts ps1 ps' cells1 h6 hb
    exact ⟨cells', by rw [List.map_cons, h5, h7], h8⟩
   ·cases hb
  ·cases hb

theorem places_ok : ∀ (fs : List Field), (∀ f ∈ fs, ∃ ti, TIok P f.type ti) → ∃ places, fs.mapM (fun f => (P.info? f.type).map fun i => (f.offset, i.size)) = some places ∧
  ∀ (i : Nat) f ti, fs[i]? = some f → TIok P f.type ti → places[i]? = some (f.offset, ti.size)
 | [], _ => ⟨[], rfl, fun i f ti h => by simp at h⟩
 | f :: fs, h => by
  obtain ⟨ti, hT⟩ := h f (by simp)
  obtain ⟨i0, z, hi1, hi2, _⟩ := hT.info
  obtain ⟨places, hp, hq⟩ := places_ok fs (fun g hg => h g (by simp [hg]))
  refine ⟨(f.offset, i0.size) :: places, by simp [List.mapM_cons, hi1, hp], fun i g tj hg hTj => ?_⟩
  cases i with
  | zero =>
   simp only [List.getElem?_cons_zero, Option.some.injEq] at hg ⊢
   subst hg
   obtain ⟨i1, z1, hj1, hj2, _⟩ := hTj.info
   rw [hi1] at hj1
   injection hj1 with hj1
   rw [hj1, hj2]
  | succ i => exact hq i g tj (by simpa using hg) hTj

theorem setNth_c {u : Ty} {n : Nat} (h : Ok w0 ρ s a w) : ∀ (parts : List (Nat × Operand)) (xs xs' : List u.D) (cells : Array Value), Rd (Free w0 ρ s.hp w) w (.arr n u) cells.toList xs →
  setNth u xs (parts.map fun p => (p.1, ev s p.2)) = some xs' → ∃ cells', Instr.fill (fun i => some (i * u.size, u.size)) cells (parts.map fun p => (p.1, a.eval p.2)) = some cells' ∧ Rd (Free w0 ρ s.hp w) w (.arr n u) cells'.toList xs'
 | [], xs, xs', cells, hc, hb => by
  simp only [List.map_nil, setNth, Option.some.injEq] at hb
  subst hb
  exact ⟨cells, rfl, hc⟩
 | (i, x) :: parts, xs, xs', cells, hc, hb => by
  simp only [List.map_cons, setNth] at hb
  split at hb
  ·rename_i ps hp
   split at hb
   ·rename_i y hy
    cases hlt : Nat.blt i xs.length with
    | false => rw [hlt] at hb; cases hb
    | true =>
     rw [hlt] at hb
     simp only [cond_true] at hb
     rw [Nat.blt_eq] at hlt
     have hr : Rd (Free w0 ρ s.hp w) w u (a.eval x).cells.toList y := rdAll_c (c := cx w0 ρ s w) hy (SVparts_c (h.ev x) hp)
     have hin : i < n := by rw [← hc.1]; exact hlt
     have hle : (i + 1) * u.size ≤ n * u.size := Nat.mul_le_mul_right _ hin
     rw [Nat.add_mul, Nat.one_mul] at hle
     have hcl := hc.2.1
     have hrl := hr.len
     obtain ⟨cells1, h4, h5⟩ := fill_step (fun i => some (i * u.size, u.size)) cells i (i * u.size) u.size (a.eval x) (parts.map fun p => (p.1, a.eval p.2)) rfl (by simpa using hrl) (by simp at hcl; omega)
     have hset := Rd.set hc hin hr
     rw [← h4] at hset
     obtain ⟨cells', h7, h8⟩ := setNth_c h parts (xs.set i y) xs' cells1 hset hb
     exact ⟨cells', by rw [List.map_cons, h5, h7], h8⟩
   ·cases hb
  ·cases hb

theorem build_does {t : TypeId} {parts : Array (Nat × Operand)} {p : Option Prop} {R : Act → World → Prop} (hE : EnvOk P E) (h : Ok w0 ρ s a w) (ho : o.op = .build t parts)
  (hs : buildS E s o.dst t (parts.toList.map fun p => (p.1, ev s p.2)) = some (p, s')) (hR : Up w0 s' R) : Does P o a w R := by
 unfold buildS at hs
 split at hs
 ·rename_i sz by_ fs z ty hti
  have hT := hE t _ hti
  cases hall : fs.all (fun f => (E.info f.2).isSome) with
  | false => rw [hall] at hs; cases hs
  | true =>
  rw [hall] at hs
  simp only [Bool.not_true, cond_false] at hs
  split at hs
  ·rename_i ps hb
   simp only [ok, Option.some.injEq, Prod.mk.injEq] at hs
   obtain ⟨_, rfl⟩ := hs
   obtain ⟨F, hF, hfs⟩ := hT.kind
   obtain ⟨it, zv, hi1, hi2, hi3, hi4, hi5⟩ := hT.info
   have hz : zv.cells.toList = cellsPs z := by rw [hi5]; rfl
   have hall' : ∀ f ∈ F.toList, ∃ ti, TIok P f.type ti := by
    intro f hf
    have hm : (f.offset, f.type) ∈ fs := by rw [← hfs]; exact List.mem_map.2 ⟨f, hf, rfl⟩
    have := List.all_eq_true.1 hall _ hm
    obtain ⟨ti, hti'⟩ := Option.isSome_iff_exists.1 this
    exact ⟨ti, hE _ _ hti'⟩
   obtain ⟨places, hp1, hp2⟩ := places_ok F.toList hall'
   have hpl : ∀ i x, fieldPlace? E fs i = some x → (places.toArray[·]?) i = some x := by
    intro i x hx
    unfold fieldPlace? at hx
    split at hx
    ·rename_i off ft hfi
     split at hx
     ·rename_i fi hfi2
      injection hx with hx
      subst hx
      rw [← hfs, List.getElem?_map, Option.map_eq_some_iff] at hfi
      obtain ⟨f, hf1, hf2⟩ := hfi
      simp only [Prod.mk.injEq] at hf2
      obtain ⟨rfl, rfl⟩ := hf2
      simpa using hp2 i f fi hf1 (hE _ _ hfi2)
     ·cases hx
    ·cases hx
   obtain ⟨cells', hf1, hf2⟩ := buildPs_c hpl h parts.toList z ps zv.cells (by rw [hz]; exact cellsPs_c hT.flat) hb
   refine does_value (m := Instr.build t (parts.map fun (i, x) => (i, a.eval x))) (sv := .agg ps) (v := .agg cells') h (by simp [execOp, ho]) ?_ ⟨cells', rfl, hf2⟩ hR
   refine run_build w t _ cells' ?_
   unfold Program.built
   simp only [hi1, hF, hi4, hp1]
   rw [Array.toList_map]
   exact hf1
  ·cases hs
 ·rename_i sz by_ n e m u xs ty hti
  have hT := hE t _ hti
  split at hs
  ·rename_i ei hei
   have hTe := hE e _ hei
   cases hb : Nat.beq u.size ei.size with
   | false => rw [hb] at hs; cases hs
   | true =>
    rw [hb] at hs
    simp only [Bool.not_true, cond_false] at hs
    have hsz := Nat.eq_of_beq_eq_true hb
    split at hs
    ·rename_i ys hset
     simp only [ok, Option.some.injEq, Prod.mk.injEq] at hs
     obtain ⟨_, rfl⟩ := hs
     have hk : P.underlying t = some (.array n e) := hT.kind
     obtain ⟨it, zv, hi1, hi2, hi3, hi4, hi5⟩ := hT.info
     obtain ⟨ie, _, he1, he2, _⟩ := hTe.info
     have hz : zv.cells.toList = cellsPs [.d (.arr m u) xs] := by rw [hi5]; rfl
     have hp : PsC (cx w0 ρ s w) [.d (.arr m u) xs] zv.cells.toList := by rw [hz]; exact cellsPs_c hT.flat
     obtain ⟨l1, l2, e1, h1, h2⟩ := hp
     have hl2 : l2 = [] := h2
     subst hl2
     rw [List.append_nil] at e1
     have hrd : Rd (Free w0 ρ s.hp w) w (.arr m u) zv.cells.toList xs := by rw [e1]; exact h1
     obtain ⟨cells', hf1, hf2⟩ := setNth_c h parts.toList xs ys zv.cells hrd hset
     refine does_value (m := Instr.build t (parts.map fun (i, x) => (i, a.eval x))) (sv := .agg [.d (.arr m u) ys]) (v := .agg cells') h (by simp [execOp, ho]) ?_ ⟨cells', rfl, PsC.single hf2⟩ hR
     refine run_build w t _ cells' ?_
     unfold Program.built
     simp only [hi1, hk, hi4, he1]
     rw [Array.toList_map, he2, ← hsz]
     exact hf1
    ·cases hs
  ·cases hs
 ·cases hs

theorem new_row {R : Act → World → Prop} {k' : Nat} {u : Ty} {cells : Array Value} {zs : List u.D} {cap n : Nat} {e : TypeId} (h : Ok w0 ρ s a w) (hus : s.us k' = false)
  (hL : Rd (Free w0 ρ s.hp w) w (.arr n u) (cells.toList.take (n * u.size)) zs) (hc : n ≤ cap) (hm : cap ≤ maxLen) (hr : cells.size = cap * u.size)
  (hR : Up w0 ((s.new k' (.row u zs)).put o.dst (.one (.row k'))) R) :
  R (a.put o.dst (.slice (some ⟨w.heap.size, 0, none⟩) n cap)) (w.alloc (.cells cells e)) := by
 have hzl : zs.length = n := hL.1
 subst hzl
 have hmore := More.alloc w (.cells cells e)
 have hle := new_le (w0 := w0) (ρ := ρ) (s := s) (he := .row u zs) (v := .slice (some ⟨w.heap.size, 0, none⟩) zs.length cap) hus hmore (fun b e => by injection e with e; subst e; exact Nat.le_refl _)
 have hok := h.new (he := .row u zs) (v := .slice (some ⟨w.heap.size, 0, none⟩) zs.length cap) hus hmore
  (fun b e => by injection e with e; subst e; exact ⟨Nat.le_refl _, by simp⟩)
  (.inr ⟨w.heap.size, 0, cap, cells, e, rset_same _ _ _, heap_alloc_new w _, hc, hm, by rw [hr]; omega, fun i x hx => by
   have hLr : Rd _ _ (.arr zs.length u) (cells.toList.take (zs.length * u.size)) zs := Rd.mono hle.keep hL
   have h1 := hLr.2.2 i x hx
   have hi : i < zs.length := (List.getElem?_eq_some_iff.1 hx).1
   have hle2 : (i + 1) * u.size ≤ zs.length * u.size := Nat.mul_le_mul_right _ hi
   rw [Nat.add_mul, Nat.one_mul] at hle2
   simp only [Nat.zero_add]
   rw [List.drop_take, List.take_take, Nat.min_eq_left (by omega)] at h1
   exact h1⟩)
 have e3 : rset ρ k' (.slice (some ⟨w.heap.size, 0, none⟩) zs.length cap) k' = .slice (some ⟨w.heap.size, 0, none⟩) zs.length cap := rset_same _ _ _
 exact hR _ _ _ (hok.put o.dst (SVc.of1 (p := .row k') rfl ⟨uset_same _ _, by show [_] = [rset ρ k' _ k']; rw [e3], by show (rset ρ k' _ k').oneCell' = true; rw [e3]; rfl⟩))

theorem buildSlice_does2 {s2 : St} {t : TypeId} {len : Nat} {parts : Array (Nat × Operand)} {k' : Nat} {p : Option Prop} {R : Act → World → Prop} (hE : EnvOk P E) (h : Ok w0 ρ s a w) (h2 : Ok w0 ρ s2 a w) (hhp : s2.hp = s.hp) (ho : o.op = .buildSlice t len parts)
  (hs : buildSliceS E s k' o.dst t len (parts.toList.map fun p => (p.1, ev s2 p.2)) = some (p, s')) (hR : Up w0 s' R) : Does P o a w R := by
 unfold buildSliceS at hs
 split at hs
 ·rename_i e _ _ hti
  have hk := (hE t _ hti).kind
  split at hs
  ·rename_i sz by_ kd z u hei
   have hT := hE e _ hei
   obtain ⟨hu1, hu2, hu3, hu4⟩ := hT.ty
   cases hb : (!(Nat.beq u.size sz && Nat.blt 0 sz && Nat.ble (len * sz) 65536) || s.us k') with
   | true => rw [hb] at hs; cases hs
   | false =>
    rw [hb] at hs
    simp only [cond_false] at hs
    simp only [Bool.or_eq_false_iff, Bool.not_eq_false', Bool.and_eq_true] at hb
    obtain ⟨⟨⟨hb1, hb2⟩, hb3⟩, hus⟩ := hb
    have hsz : u.size = sz := Nat.eq_of_beq_eq_true hb1
    subst hsz
    rw [Nat.blt_eq] at hb2
    have hb3 := Nat.le_of_ble_eq_true hb3
    split at hs
    ·rename_i xs hset
     simp only [ok, Option.some.injEq, Prod.mk.injEq] at hs
     obtain ⟨_, rfl⟩ := hs
     obtain ⟨z', hz1, hz2⟩ := hT.run_zero w
     have hmade := made_arr (S := Free w0 ρ s2.hp w) (w := w) (z := z'.cells) len (hz2.trans hu4.symm) hu3
     obtain ⟨cells', hf1, hf2⟩ := setNth_c h2 parts.toList _ xs _ hmade hset
     rw [hhp] at hf2
     have hcl : cells'.size = len * u.size := by simpa using hf2.2.1
     have hfin := new_row (o := o) (k' := k') (e := e) (n := len) (cap := len) (R := R) h hus (by rw [List.take_of_length_le (by simp; omega)]; exact hf2) (Nat.le_refl _)
      (by have : len * 1 ≤ len * u.size := Nat.mul_le_mul_left _ hb2; simp only [maxLen]; omega) hcl hR
     refine Does.ran (m := Instr.buildSlice t len (parts.map fun (i, x) => (i, a.eval x))) (by simp [execOp, ho]) ?_ hfin
     unfold Instr.buildSlice
     simp only [Sem.run_bind, run_underlying hk, Result.andThen_ok, hT.run_size]
     rw [if_neg (by simp; omega)]
     have hf0 : Instr.fill (fun i => some (i * u.size, u.size)) (madeCells z'.cells (len * u.size)) (parts.map fun (i, x) => (i, a.eval x)).toList = some cells' := by
      rw [Array.toList_map]; exact hf1
     by_cases h0 : len * u.size = 0
     ·have hc0 : (Array.range (len * u.size)).map ((#[] : Array Value)[· % (#[] : Array Value).size]!) = madeCells z'.cells (len * u.size) := by rw [h0]; simp [madeCells]
      rw [if_pos h0]
      simp only [Sem.run_bind, Sem.run_pure, Result.andThen_ok, hc0, hf0, newRow_run]
     ·rw [if_neg h0]
      have hc0 : (Array.range (len * u.size)).map (z'.cells[· % z'.cells.size]!) = madeCells z'.cells (len * u.size) := rfl
      simp only [Sem.run_bind, Sem.run_pure, Result.andThen_ok, hz1, hc0, hf0, newRow_run]
    ·cases hs
  ·cases hs
 ·cases hs

theorem buildSlice_does {t : TypeId} {len : Nat} {parts : Array (Nat × Operand)} {k' : Nat} {p : Option Prop} {R : Act → World → Prop} (hE : EnvOk P E) (h : Ok w0 ρ s a w) (ho : o.op = .buildSlice t len parts)
  (hs : buildSliceS E s k' o.dst t len (parts.toList.map fun p => (p.1, ev s p.2)) = some (p, s')) (hR : Up w0 s' R) : Does P o a w R := buildSlice_does2 hE h h rfl ho hs hR
theorem drop_data {k : Nat} {t : Ty} {xs : List t.D} (h : Ok w0 ρ s a w) (hk : s.hp k = some (.row t xs)) : Rd (Free w0 ρ (s.drop k).hp w) w (.sl t) [ρ k] xs := by
 have hhp : ∀ {n h'}, (s.drop k).hp n = some h' → n ≠ k ∧ s.hp n = some h' := fun {n h'} hn => by
  by_cases e : n = k
  ·subst e; rw [show (s.drop n).hp n = none from hset_same _ _ _] at hn; cases hn
  ·exact ⟨e, by rw [← hset_other s.hp none e]; exact hn⟩
 rcases h.heap k _ hk with ⟨h1, h2⟩ | ⟨b, q, cp, cur, e', h1, hh, h3, h4, h5, h6⟩
 ·subst h2
  exact ⟨none, 0, by rw [show ρ k = _ from h1]; rfl, Nat.le_refl _, by simp [maxLen], fun hp => absurd hp (by simp)⟩
 ·refine ⟨some ⟨b, q, none⟩, cp, by rw [show ρ k = _ from h1], h3, h4, fun _ => ⟨b, q, rfl, ⟨(Array.getElem?_eq_some_iff.1 hh).1, fun n h' hn => ?_, ?_⟩, fun i x hi => ⟨_, ?_, Rd.mono (fun c hc => ⟨⟨hc.1, fun n h' hn => hc.2.1 n h' (hhp hn).2, hc.2.2⟩, rfl⟩) (h6 i x hi)⟩⟩⟩
  ·obtain ⟨hne, hn0⟩ := hhp hn
   exact h.apart k n _ _ b (fun e => hne e.symm) hk hn0 (by rw [show ρ k = _ from h1]; rfl)
  ·exact w0.all b (h.fresh k _ b hk (by rw [show ρ k = _ from h1]; rfl)).1
  ·intro j v hv
   have := At.of_block hh (q + i * t.size) t.size j v hv
   rw [Nat.add_assoc] at this
   exact this
theorem ok_tell (h : Ok w0 ρ s a w) (d : Nat) {v : SV} (hv : SVc (cx w0 ρ s w) v (a.tmps.getD d undef)) : Ok w0 ρ (s.put (some d) v) a w := by
 refine { h with len := ?_, frame := ?_ }
 ·simp [St.put, lset_length, h.len]
 ·intro i
  show SVc (cx w0 ρ s w) (lget (lset s.fr d v) i) (a.tmps.getD i undef)
  by_cases e : d = i
  ·subst e
   rw [lget_lset_eq]
   split
   ·exact hv
   ·trivial
  ·rw [lget_lset_ne _ _ _ _ e]; exact h.frame i
theorem ev_row {x : Operand} {j : Nat} (h : ev s x = .one (.row j)) : ∃ d, x = .tmp d ∧ lget s.fr d = .one (.row j) := by
 cases x with
 | tmp d => exact ⟨d, rfl, h⟩
 | global g => cases h
 | func f => cases h
 | const v =>
  exfalso
  have h : constSV v = .one (.row j) := h
  cases v with
  | int k n =>
   simp only [constSV] at h
   cases hb : irB k n <;> rw [hb] at h <;> cases h
  | string b =>
   simp only [constSV] at h
   cases hb : Nat.ble b.size 9223372036854775807 <;> rw [hb] at h <;> cases h
  | _ => cases h
theorem ev_noRow {x : Operand} (h : ∀ d, x ≠ .tmp d) (j : Nat) (u : Ty) (xs : List u.D) : rowData j u xs (ev s x) = ev s x := by
 generalize hv : ev s x = v
 cases v with
 | one p =>
  cases p with
  | row i =>
   obtain ⟨d, rfl, _⟩ := ev_row hv
   exact absurd rfl (h d)
  | _ => rfl
 | _ => rfl
theorem lget_mapR {f : SV → SV} (hf : f (.one .any) = .one .any) : ∀ (l : List SV) (n : Nat), lget (l.map f) n = f (lget l n)
 | [], _ => hf.symm
 | _ :: _, 0 => rfl
 | _ :: l, n + 1 => lget_mapR hf l n
theorem ok_tellR {j : Nat} {u : Ty} {xs : List u.D} (h : Ok w0 ρ s a w) (hj : s.hp j = some (.row u xs)) : Ok w0 ρ { s.drop j with fr := s.fr.map (rowData j u xs) } a w := by
 have h1 := h.drop j
 refine { h1 with len := ?_, frame := ?_ }
 ·show (s.fr.map (rowData j u xs)).length = _
  rw [List.length_map]
  exact h.len
 ·intro i
  show SVc (cx w0 ρ (s.drop j) w) (lget (s.fr.map (rowData j u xs)) i) (a.tmps.getD i undef)
  rw [lget_mapR rfl]
  have hf1 := h1.frame i
  have hf := h.frame i
  change SVc (cx w0 ρ (s.drop j) w) (lget s.fr i) (a.tmps.getD i undef) at hf1
  generalize hv : lget s.fr i = v at hf hf1
  cases v with
  | one p =>
   cases p with
   | row n =>
    show SVc _ (bif Nat.beq n j then _ else _) _
    cases hb : Nat.beq n j with
    | false => exact hf1
    | true =>
     obtain rfl := Nat.eq_of_beq_eq_true hb
     have hval : a.tmps.getD i undef = ρ n := by
      have : [a.tmps.getD i undef] = [ρ n] := (SVc.one1 (p := .row n) rfl (by simp) hf).2.1
      injection this
     rw [hval]
     exact SVc.of1 (p := .d (.sl u) xs) rfl (drop_data h hj)
   | _ => exact hf1
  | _ => exact hf1
theorem buildSliceC_does {t : TypeId} {len : Nat} {parts : Array (Nat × Operand)} {k' : Nat} {p : Option Prop} {R : Act → World → Prop} (hE : EnvOk P E) (h : Ok w0 ρ s a w) (ho : o.op = .buildSlice t len parts)
  (hs : buildSliceC E s k' o.dst t len (parts.toList.map fun p => (p.1, ev s p.2)) = some (p, s')) (hR : Up w0 s' R) : Does P o a w R := by
 unfold buildSliceC at hs
 split at hs
 ·rename_i j hparts
  split at hs
  ·rename_i u xs hj
   refine buildSlice_does2 (p := p) (k' := k') (s2 := { s.drop j with fr := s.fr.map (rowData j u xs) }) hE (h.drop j) (ok_tellR h hj) rfl ho ?_ hR
   have e : ∀ x, ev { s.drop j with fr := s.fr.map (rowData j u xs) } x = rowData j u xs (ev s x) := fun x => by
    cases x with
    | tmp d => exact lget_mapR rfl _ _
    | _ => rw [ev_noRow (by intro d hd; cases hd)]; rfl
   rw [List.map_map] at hs
   simp only [e]
   exact hs
  ·cases hs
 ·cases hs
theorem make_does {t : TypeId} {l c : Operand} {k' : Nat} {p : Option Prop} {R : Act → World → Prop} (hE : EnvOk P E) (h : Ok w0 ρ s a w) (ho : o.op = .makeSlice t l c)
  (hs : makeS E s k' o.dst t (ev s l) (ev s c) = some (p, s')) (hp : vcP p) (hR : Up w0 s' R) : Does P o a w R := by
 unfold makeS at hs
 split at hs
 ·rename_i _ _ e _ _ kl n kc m hti hl hc
  have hk := (hE t _ hti).kind
  have el := asInt_c (h.ev l) hl
  have ec := asInt_c (h.ev c) hc
  split at hs
  ·rename_i sz by_ kd z u hei
   have hT := hE e _ hei
   obtain ⟨hu1, hu2, hu3, hu4⟩ := hT.ty
   cases hb : (!(Nat.beq u.size sz && Nat.blt 0 sz) || s.us k') with
   | true => rw [hb] at hs; cases hs
   | false =>
    rw [hb] at hs
    simp only [cond_false, Option.some.injEq, Prod.mk.injEq] at hs
    obtain ⟨rfl, rfl⟩ := hs
    simp only [Bool.or_eq_false_iff, Bool.not_eq_false', Bool.and_eq_true] at hb
    obtain ⟨⟨hb1, hb2⟩, hus⟩ := hb
    have hsz : u.size = sz := Nat.eq_of_beq_eq_true hb1
    subst hsz
    rw [Nat.blt_eq] at hb2
    obtain ⟨⟨hp1, hp2⟩, hp3, hp4⟩ := hp
    obtain ⟨i, zv, hi1, hi2, hi3, hi4, hi5⟩ := hT.info
    have hi3 : i.bytes = by_ := hi3
    obtain ⟨z', hz1, hz2⟩ := hT.run_zero w
    have hzz : z' = zv := by simp [zeroValue, typeInfo, hi1, hi4] at hz1; exact hz1.symm
    subst hzz
    have hrun := run_make (P := P) w t e i z' hk hi1 hi4 kl kc n m hp1 hp2 (by rw [hi3, Int.mul_comm]; omega) hp4
    rw [hi2] at hrun
    have hmade := made_arr (S := Free w0 ρ s.hp w) (w := w) (z := z'.cells) n.toNat (hz2.trans hu4.symm) hu3
    have hle : n.toNat * u.size ≤ m.toNat * u.size := Nat.mul_le_mul_right _ (by omega)
    have htake : (madeCells z'.cells (m.toNat * u.size)).toList.take (n.toNat * u.size) = (madeCells z'.cells (n.toNat * u.size)).toList := by
     apply List.ext_getElem?
     intro j
     rw [List.getElem?_take]
     by_cases hj : j < n.toNat * u.size
     ·rw [if_pos hj]
      have : j < m.toNat * u.size := by omega
      simp [madeCells, hj, this]
     ·rw [if_neg hj, List.getElem?_eq_none (by simp [madeCells]; omega)]
    have hfin := new_row (o := o) (k' := k') (e := e) (n := n.toNat) (cap := m.toNat) (R := R) (cells := madeCells z'.cells (m.toNat * u.size)) h hus (by rw [htake]; exact hmade) (by omega)
     (by simp only [maxLen]; omega) (size_madeCells _ _) hR
    exact Does.ran (m := Instr.makeSlice t (a.eval l) (a.eval c)) (by simp [execOp, ho]) (by rw [el, ec]; exact hrun) hfin
  ·cases hs
 ·cases hs

theorem xor_neg1 {n : Int} (h : IR .i64 n) : IntKind.i64.wrap (BitVec.ofInt 64 (-1) ^^^ BitVec.ofInt 64 n).toNat = -1 - n := by
 have e : BitVec.ofInt 64 (-1) ^^^ BitVec.ofInt 64 n = ~~~ (BitVec.ofInt 64 n) := by
  rw [show BitVec.ofInt 64 (-1) = BitVec.allOnes 64 from rfl]
  exact BitVec.allOnes_xor
 rw [e, BitVec.toNat_not, BitVec.toNat_ofInt]
 simp only [IR] at h
 simp only [IntKind.wrap, IntKind.bits, IntKind.signed]
 simp
 omega
theorem un_does {op : UnOp} {t : TypeId} {x : Operand} {p : Option Prop} {R : Act → World → Prop} (h : Ok w0 ρ s a w) (ho : o.op = .unOp op t x)
  (hs : unS s o.dst op (ev s x) = some (p, s')) (hp : vcP p) (hR : Up w0 s' R) : Does P o a w R := by
 have hexec : execOp a.eval o = (do pure (.value (← Op.unary op (a.eval x)))) := by simp [execOp, ho]
 unfold unS at hs
 split at hs
 ·rename_i b hx
  simp only [ok, Option.some.injEq, Prod.mk.injEq] at hs
  obtain ⟨_, rfl⟩ := hs
  have ex := asBool_c (h.ev x) (b := b) (by rw [hx]; rfl)
  exact does_value h hexec (by rw [ex]; rfl) (sv_lit (!b)) hR
 ·rename_i b hx
  simp only [ok, Option.some.injEq, Prod.mk.injEq] at hs
  obtain ⟨_, rfl⟩ := hs
  have ex := asBool_c (h.ev x) (b := b) (by rw [hx]; rfl)
  exact does_value h hexec (by rw [ex]; rfl) (sv_bool (!b)) hR
 ·rename_i k n hx
  simp only [Option.some.injEq, Prod.mk.injEq] at hs
  obtain ⟨rfl, rfl⟩ := hs
  have ex := asInt_c (h.ev x) (k := k) (n := n) (by rw [hx]; rfl)
  refine does_value (v := .int k (-n)) h hexec ?_ (sv_int hp) hR
  rw [ex]
  simp [Op.unary, Op.intArith, wrap_in hp]
 ·rename_i n hx
  simp only [ok, Option.some.injEq, Prod.mk.injEq] at hs
  obtain ⟨_, rfl⟩ := hs
  have ex := asInt_c (h.ev x) (k := .i64) (n := n) (by rw [hx]; rfl)
  have hn : IR .i64 n := asInt_ir (h.ev x) (k := .i64) (n := n) (by rw [hx]; rfl)
  refine does_value (v := .int .i64 (-1 - n)) h hexec ?_ (sv_int (by simp only [IR] at hn ⊢; omega)) hR
  rw [ex]
  have := xor_neg1 hn
  show (pure (.int .i64 (IntKind.i64.wrap (BitVec.ofInt 64 (-1) ^^^ BitVec.ofInt 64 n).toNat)) : Sem Value).run P w = _
  rw [this]; rfl
 ·cases hs

theorem IR_min {k : IntKind} {m n : Int} (hm : IR k m) (hn : IR k n) : IR k (bif false then max m n else min m n) := by
 simp only [cond_false]
 rcases Int.le_total m n with h | h
 ·rw [Int.min_eq_left h]; exact hm
 ·rw [Int.min_eq_right h]; exact hn
theorem IR_max {k : IntKind} {m n : Int} (hm : IR k m) (hn : IR k n) : IR k (bif true then max m n else min m n) := by
 simp only [cond_true]
 rcases Int.le_total m n with h | h
 ·rw [Int.max_eq_right h]; exact hn
 ·rw [Int.max_eq_left h]; exact hm
theorem max_does {args : Array Operand} {ts : Array TypeId} {x y : Operand} {mx : Bool} {p : Option Prop} {R : Act → World → Prop} (h : Ok w0 ρ s a w)
  (ho : o.op = .call { callee := .builtin (bif mx then .max else .min), args := args, argTypes := ts }) (ha : args.toList = [x, y])
  (hs : minmaxS s o.dst mx (ev s x) (ev s y) = some (p, s')) (hR : Up w0 s' R) : Does P o a w R := by
 have ea : args = #[x, y] := by apply Array.ext'; simpa using ha
 subst ea
 unfold minmaxS at hs
 split at hs
 ·rename_i k m k' n hx hy
  have ex := asInt_c (h.ev x) hx
  have ey := asInt_c (h.ev y) hy
  split at hs
  ·rename_i hk
   subst hk
   simp only [ok, Option.some.injEq, Prod.mk.injEq] at hs
   obtain ⟨_, rfl⟩ := hs
   cases mx
   ·refine does_value (m := Builtin.min_ ts o.type #[a.eval x, a.eval y]) h (by rw [exec_builtin ho]; simp [builtin]) ?_ (sv_int (IR_min (asInt_ir (h.ev x) hx) (asInt_ir (h.ev y) hy))) hR
    rw [ex, ey]
    simp only [Builtin.min_, List.foldlM, Builtin.min2, cond_false]
    simp
    by_cases hlt : n < m
    ·rw [if_pos hlt]; omega
    ·rw [if_neg hlt]; omega
   ·refine does_value (m := Builtin.max_ ts o.type #[a.eval x, a.eval y]) h (by rw [exec_builtin ho]; simp [builtin]) ?_ (sv_int (IR_max (asInt_ir (h.ev x) hx) (asInt_ir (h.ev y) hy))) hR
    rw [ex, ey]
    simp only [Builtin.max_, List.foldlM, Builtin.max2, cond_true]
    simp
    by_cases hlt : m < n
    ·rw [if_pos hlt]; omega
    ·rw [if_neg hlt]; omega
  ·cases hs
 ·cases hs

theorem max3_does {args : Array Operand} {ts : Array TypeId} {x y z : Operand} {mx : Bool} {p : Option Prop} {R : Act → World → Prop} (h : Ok w0 ρ s a w)
  (ho : o.op = .call { callee := .builtin (bif mx then .max else .min), args := args, argTypes := ts }) (ha : args.toList = [x, y, z])
  (hs : minmax3S s o.dst mx (ev s x) (ev s y) (ev s z) = some (p, s')) (hR : Up w0 s' R) : Does P o a w R := by
 have ea : args = #[x, y, z] := by apply Array.ext'; simpa using ha
 subst ea
 unfold minmax3S at hs
 split at hs
 ·rename_i k m k' n k'' r hx hy hz
  have ex := asInt_c (h.ev x) hx
  have ey := asInt_c (h.ev y) hy
  have ez := asInt_c (h.ev z) hz
  split at hs
  ·rename_i hk
   obtain ⟨hk1, hk2⟩ := hk
   subst hk1 hk2
   simp only [ok, Option.some.injEq, Prod.mk.injEq] at hs
   obtain ⟨_, rfl⟩ := hs
   cases mx
   ·refine does_value (m := Builtin.min_ ts o.type #[a.eval x, a.eval y, a.eval z]) h (by rw [exec_builtin ho]; simp [builtin]) ?_ (sv_int (IR_min (IR_min (asInt_ir (h.ev x) hx) (asInt_ir (h.ev y) hy)) (asInt_ir (h.ev z) hz))) hR
    rw [ex, ey, ez]
    simp only [Builtin.min_, List.foldlM, Builtin.min2, cond_false]
    simp
    repeat' split
    all_goals omega
   ·refine does_value (m := Builtin.max_ ts o.type #[a.eval x, a.eval y, a.eval z]) h (by rw [exec_builtin ho]; simp [builtin]) ?_ (sv_int (IR_max (IR_max (asInt_ir (h.ev x) hx) (asInt_ir (h.ev y) hy)) (asInt_ir (h.ev z) hz))) hR
    rw [ex, ey, ez]
    simp only [Builtin.max_, List.foldlM, Builtin.max2, cond_true]
    simp
    repeat' split
    all_goals omega
  ·cases hs
 ·cases hs

theorem tupC_get {c : Cx} : ∀ {es : List (Bool × List PV)} {vs : List Value} {i : Nat} {e : Bool × List PV}, tupC c es vs → es[i]? = some e → ∃ v, vs[i]? = some v ∧ aggC c e.1 e.2 v
 | [], _, i, e, _, h => by simp at h
 | e0 :: es, vs, 0, e, ⟨v, r, hv, h1, h2⟩, h => by
  simp at h; subst h
  exact ⟨v, by rw [hv]; rfl, h1⟩
 | e0 :: es, vs, i + 1, e, ⟨v, r, hv, h1, h2⟩, h => by
  obtain ⟨u, h3, h4⟩ := tupC_get (i := i) h2 (by simpa using h)
  exact ⟨u, by rw [hv]; simpa using h3, h4⟩

theorem boolC_c {c : Cx} {x : SV} {v : Value} {p : Option Prop} {u : Bool} (h : SVc c x v) (e : boolC x = some (p, u)) (hp : vcP p) : v = .bool u := by
 unfold boolC at e
 split at e <;> simp only [Option.some.injEq, Prod.mk.injEq, reduceCtorEq] at e <;> obtain ⟨rfl, rfl⟩ := e
 ·have : [v] = [.bool _] := SVc.one1 rfl (by simp) h
  simpa using this
 ·have : [v] = [.bool _] := SVc.one1 rfl (by simp) h
  simpa using this
 ·have : [v] = [.bool _] := SVc.one1 (p := .lit _) rfl (by simp) (h.1 hp)
  simpa using this
 ·have : [v] = [.bool _] := SVc.one1 (p := .d .bool _) rfl (by simp) (h.1 hp)
  simpa using this
theorem pickB_eq {b u v : Bool} {x y : SV} {p q : Option Prop} (hx : boolC x = some (p, u)) (hy : boolC y = some (q, v)) : pickB b u v x y = bif b then u else v := by
 unfold pickB
 split
 ·simp only [boolC, Option.some.injEq, Prod.mk.injEq] at hy
  obtain ⟨_, rfl⟩ := hy
  cases b <;> simp
 ·split
  ·simp only [boolC, Option.some.injEq, Prod.mk.injEq] at hx
   obtain ⟨_, rfl⟩ := hx
   cases b <;> simp
  ·rfl
theorem pick_does {c x y : Operand} {p : Option Prop} {R : Act → World → Prop} (h : Ok w0 ρ s a w) (ho : o.op = .pick c x y) (hs : pickS s o.dst (ev s c) (ev s x) (ev s y) = some (p, s')) (hp : vcP p)
  (hR : Up w0 s' R) : Does P o a w R := by
 unfold pickS at hs
 split at hs
 ·rename_i b hc
  simp only [ok, Option.some.injEq, Prod.mk.injEq] at hs
  obtain ⟨_, rfl⟩ := hs
  have ec := asBool_c (h.ev c) (b := b) (by rw [hc]; rfl)
  refine .inl ⟨if b then a.eval x else a.eval y, w, by simp [execOp, ho, ec, asBool], hR ρ _ _ (h.put o.dst ?_)⟩
  cases b
  ·exact h.ev y
  ·exact h.ev x
 ·rename_i b hc
  split at hs
  ·rename_i p1 u p2 v hx hy
   simp only [Option.some.injEq, Prod.mk.injEq] at hs
   obtain ⟨rfl, rfl⟩ := hs
   have ec := asBool_c (h.ev c) (b := b) (by rw [hc]; rfl)
   have hps : (b = true → vcP p1) ∧ (b = false → vcP p2) := by
    cases p1 <;> cases p2 <;> simp only [impO] at hp
    ·exact ⟨fun _ => trivial, fun _ => trivial⟩
    ·exact ⟨fun _ => trivial, hp⟩
    ·exact ⟨hp, fun _ => trivial⟩
    ·exact hp
   refine .inl ⟨if b then a.eval x else a.eval y, w, by simp [execOp, ho, ec, asBool], hR ρ _ _ (h.put o.dst ?_)⟩
   rw [pickB_eq hx hy]
   cases b
   ·rw [boolC_c (h.ev y) hy (hps.2 rfl)]; exact sv_bool v
   ·rw [boolC_c (h.ev x) hx (hps.1 rfl)]; exact sv_bool u
  ·cases hs
 ·cases hs

theorem nil_does {x : Operand} {R : Act → World → Prop} (h : Ok w0 ρ s a w) (ho : o.op = .nilCheck x) (hx : ∃ ad, a.eval x = .pointer (some ad)) (hR : Up w0 (s.put o.dst (ev s x)) R) : Does P o a w R := by
 obtain ⟨ad, e⟩ := hx
 exact .inl ⟨a.eval x, w, by simp [execOp, ho, e], hR ρ _ _ (h.put o.dst (h.ev x))⟩

theorem extract_does {x : Operand} {i : Nat} {v : Value} {sv : SV} {R : Act → World → Prop} (h : Ok w0 ρ s a w) (ho : o.op = .extract x i) {vs : Array Value} (hx : a.eval x = .tuple vs) (hv : vs.toList[i]? = some v)
  (hsv : SVc (cx w0 ρ s w) sv v) (hR : Up w0 (s.put o.dst sv) R) : Does P o a w R := by
 refine does_value (m := Instr.extract (a.eval x) i) h (by simp [execOp, ho]) ?_ hsv hR
 have hv' : vs[i]? = some v := by simpa using hv
 simp [Instr.extract, hx, hv']

theorem opS_does {wr : Nat → Bool} {k : Nat} {p : Option Prop} {R : Act → World → Prop} (hE : EnvOk P E) (h : Ok w0 ρ s a w) (hs : opS E wr s k o = some (p, s')) (hp : vcP p) (hR : Up w0 s' R) : Does P o a w R := by
 unfold opS at hs
 split at hs
 ·rename_i x e
  simp only [ok, Option.some.injEq, Prod.mk.injEq] at hs
  obtain ⟨_, rfl⟩ := hs
  exact move_does h (.inl e) hR
 ·rename_i x e
  simp only [ok, Option.some.injEq, Prod.mk.injEq] at hs
  obtain ⟨_, rfl⟩ := hs
  exact move_does h (.inr e) hR
 ·rename_i c x y e
  exact pick_does h e hs hp hR
 ·rename_i t e
  split at hs
  ·rename_i ti hti
   cases hus : s.us k with
   | true => rw [hus] at hs; cases hs
   | false =>
    rw [hus] at hs
    simp only [cond_false, ok, Option.some.injEq, Prod.mk.injEq] at hs
    obtain ⟨_, rfl⟩ := hs
    exact alloc_does hE h e hus hti hR
  ·cases hs
 ·rename_i t x e
  split at hs
  ·rename_i ps hps
   cases hus : s.us k with
   | true => rw [hus] at hs; cases hs
   | false =>
    rw [hus] at hs
    simp only [cond_false, ok, Option.some.injEq, Prod.mk.injEq] at hs
    obtain ⟨_, rfl⟩ := hs
    exact box_does h e hus hps hR
  ·cases hs
 ·rename_i t ps e
  exact build_does hE h e hs hR
 ·rename_i t n ps e
  cases hb : wrO wr 3000000 o.dst with
  | true => rw [hb] at hs; exact buildSliceC_does hE h e hs hR
  | false => rw [hb] at hs; exact buildSlice_does hE h e hs hR
 ·rename_i t x e
  exact load_does hE h e hs hR
 ·rename_i t x y e
  split at hs
  ·rename_i q s1 hst
   simp only [Option.some.injEq, Prod.mk.injEq] at hs
   obtain ⟨_, rfl⟩ := hs
   exact store_does hE h e hst hR
  ·cases hs
 ·rename_i x e
  have hx := h.ev x
  split at hs
  ·rename_i k' off hx'
   simp only [ok, Option.some.injEq, Prod.mk.injEq] at hs
   obtain ⟨_, rfl⟩ := hs
   rw [hx'] at hx
   obtain ⟨_, b, _, hl⟩ := SVc.one1 rfl (by simp) hx
   simp only [List.cons.injEq, and_true] at hl
   exact nil_does h e ⟨_, hl⟩ (by rw [hx']; exact hR)
  ·rename_i hx'
   simp only [ok, Option.some.injEq, Prod.mk.injEq] at hs
   obtain ⟨_, rfl⟩ := hs
   rw [hx'] at hx
   obtain ⟨_, _, b, _, hl⟩ := SVc.one1 rfl (by simp) hx
   simp only [List.cons.injEq, and_true] at hl
   exact nil_does h e ⟨_, hl⟩ (by rw [hx']; exact hR)
  ·rename_i hx'
   simp only [ok, Option.some.injEq, Prod.mk.injEq] at hs
   obtain ⟨_, rfl⟩ := hs
   rw [hx'] at hx
   obtain ⟨_, b, q, n, cp, _, _, hl⟩ := SVc.one1 rfl (by simp) hx
   simp only [List.cons.injEq, and_true] at hl
   exact nil_does h e ⟨_, hl⟩ (by rw [hx']; exact hR)
  ·rename_i hx'
   simp only [ok, Option.some.injEq, Prod.mk.injEq] at hs
   obtain ⟨_, rfl⟩ := hs
   rw [hx'] at hx
   obtain ⟨_, _, b, q, n, cp, _, _, hl⟩ := SVc.one1 rfl (by simp) hx
   simp only [List.cons.injEq, and_true] at hl
   exact nil_does h e ⟨_, hl⟩ (by rw [hx']; exact hR)
  ·rename_i hx'
   simp only [ok, Option.some.injEq, Prod.mk.injEq] at hs
   obtain ⟨_, rfl⟩ := hs
   rw [hx'] at hx
   obtain ⟨b, q, cs, hl, _⟩ := SVc.one1 rfl (by simp) hx
   simp only [List.cons.injEq, and_true] at hl
   exact nil_does h e ⟨_, hl⟩ (by rw [hx']; exact hR)
  ·cases hs
 ·rename_i op t x y t' e
  split at hs
  ·rename_i b hb
   simp only [ok, Option.some.injEq, Prod.mk.injEq] at hs
   obtain ⟨_, rfl⟩ := hs
   exact errNil_does hE h e hb hR
  ·exact bin_does hE h e hs hp hR
 ·rename_i op t x e
  exact un_does h e hs hp hR
 ·rename_i t u x e
  exact convert_does hE h e hs hp hR
 ·rename_i fn first caps e
  unfold makeFuncS at hs
  split at hs
  ·rename_i f hf
   have hf' : first = #[] := by apply Array.ext'; simpa using hf
   subst hf'
   split at hs
   ·rename_i ps hps
    cases hus : s.us k with
    | true => rw [hus] at hs; cases hs
    | false =>
     rw [hus] at hs
     simp only [cond_false, ok, Option.some.injEq, Prod.mk.injEq] at hs
     obtain ⟨_, rfl⟩ := hs
     exact clo_does h e hus hps hR
   ·cases hs
  ·cases hs
 ·rename_i t l c e
  exact make_does hE h e hs hp hR
 ·rename_i t r e
  split at hs
  ·exact makeMap_does h e hs hR
  ·cases hs
 ·rename_i t x y z e
  split at hs
  ·rename_i q s1 hs1
   simp only [Option.some.injEq, Prod.mk.injEq] at hs
   obtain ⟨_, rfl⟩ := hs
   exact insert_does hE h (by simp [execOp, e]) hs1 hR
  ·cases hs
 ·rename_i t x y z e
  split at hs
  ·rename_i q s1 hs1
   simp only [Option.some.injEq, Prod.mk.injEq] at hs
   obtain ⟨_, rfl⟩ := hs
   exact insert_does hE h (by simp [execOp, e]) hs1 hR
  ·cases hs
 ·rename_i t x y two e
  exact lookup_does hE h e hs hp hR
 ·rename_i t x lo hi mx e
  split at hs
  ·cases hA : isArrT E t with
   | true => rw [hA] at hs; exact bsl_does hE h e hs hR
   | false =>
    rw [hA] at hs
    simp only [cond_false] at hs
    cases hb : wrO wr 3000000 o.dst with
    | true => rw [hb] at hs; exact sub2_does hE h e hs hp hR
    | false => rw [hb] at hs; exact slice_does hE h e hs hp hR
  ·exact slice3R_does hE h e hs hp hR
 ·rename_i t x i e
  exact fieldAddr_does hE h e hs hR
 ·rename_i t x i e
  exact field_does hE h e hs hR
 ·rename_i t x i e
  exact indexAddr_does hE h e hs hp hR
 ·rename_i t x i e
  exact index_does hE h e hs hp hR
 ·rename_i x i e
  have hx := h.ev x
  split at hs
  ·rename_i es hx'
   rw [hx'] at hx
   obtain ⟨vs, hvs, htup⟩ := hx
   split at hs
   ·rename_i ps hi
    simp only [ok, Option.some.injEq, Prod.mk.injEq] at hs
    obtain ⟨_, rfl⟩ := hs
    obtain ⟨v, h1, h2⟩ := tupC_get htup hi
    exact extract_does (sv := .agg ps) h e hvs h1 h2 hR
   ·rename_i q hi
    obtain ⟨v, h1, h2⟩ := tupC_get htup hi
    cases hq : q.agg with
    | true => rw [hq] at hs; cases hs
    | false =>
     rw [hq] at hs
     simp only [cond_false, ok, Option.some.injEq, Prod.mk.injEq] at hs
     obtain ⟨_, rfl⟩ := hs
     obtain ⟨l1, l2, e1, h3, h4⟩ := h2
     rw [show l2 = [] from h4, List.append_nil] at e1
     exact extract_does h e hvs h1 (SVc.of1 hq (by rw [e1]; exact h3)) hR
   ·cases hs
  ·cases hs
 ·rename_i c e
  unfold builtS at hs
  split at hs
  ·rename_i b hcb
   have e' : o.op = .call { callee := .builtin b, args := c.args, argTypes := c.argTypes } := by rw [e, ← hcb]
   split at hs
   ·rename_i x t ha ht
    split at hs
    ·exact lenMap_does hE h e' ha ht hs hp hR
    ·exact len_does hE h e' ha ht hs hR
   ·rename_i x y t t' ha ht
    exact delete_does hE h e' ha ht hs hR
   ·rename_i x y t t' ha ht
    cases hb : Nat.beq t t' with
    | false => rw [hb] at hs; cases hs
    | true =>
     rw [hb] at hs
     have := Nat.eq_of_beq_eq_true hb
     subst this
     exact append2_does hE h e' ha ht hs hp hR
   ·rename_i x t ha ht
    exact clear_does hE h e' ha ht hs hR
   ·rename_i x y ha
    exact max_does (mx := true) h e' ha hs hR
   ·rename_i x y ha
    exact max_does (mx := false) h e' ha hs hR
   ·rename_i x y z ha
    exact max3_does (mx := true) h e' ha hs hR
   ·rename_i x y z ha
    exact max3_does (mx := false) h e' ha hs hR
   ·cases hs
  ·cases hs
 ·cases hs
end
end Go.Sx
