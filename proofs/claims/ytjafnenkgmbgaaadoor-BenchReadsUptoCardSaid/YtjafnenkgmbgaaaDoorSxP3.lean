/-
  Sx: a verified executor over the loaded code, part 3 of 5.
-/
import Derived.Test.YtjafnenkgmbgaaaDoorSxP2
import Derived.Maps.RangeRun
/-
  Sx, part N: struct and slice literals, make, and the small operations; then all operations together.
-/
namespace Go.Sx
open Go.RowKit

theorem splice_nil (l : List Value) (p : Nat) : splice l p [] = l := by simp [splice]
theorem splice_cons {l : List Value} {p : Nat} {v : Value} {vs : List Value} (h : p + (vs.length + 1) ≤ l.length) : splice (l.set p v) (p + 1) vs = splice l p (v :: vs) := by
  apply List.ext_getElem?
  intro k
  rw [splice_get (by simp; omega), splice_get (by simp; omega)]
  simp only [List.length_cons]
  by_cases h1 : k < p
  · rw [if_pos (by omega), if_pos h1, List.getElem?_set_ne (by omega)]
  · rw [if_neg h1]
    by_cases h2 : k = p
    · subst h2
      rw [if_pos (by omega), if_pos (by omega), List.getElem?_set_self (by omega)]; simp
    · rw [if_neg (by omega)]
      by_cases h3 : k < p + (vs.length + 1)
      · rw [if_pos (by omega), if_pos h3, show k - p = (k - (p + 1)) + 1 by omega]; rfl
      · rw [if_neg (by omega), if_neg h3, List.getElem?_set_ne (by omega)]
theorem foldl_splice (off : Nat) : ∀ (vs : List Value) (j : Nat) (cs : Array Value), off + j + vs.length ≤ cs.size →
    ((vs.zipIdx j).foldl (fun cs (x : Value × Nat) => cs.setIfInBounds (off + x.2) x.1) cs).toList = splice cs.toList (off + j) vs
  | [], j, cs, _ => by simp [splice_nil]
  | v :: vs, j, cs, h => by
    simp only [List.length_cons] at h
    rw [List.zipIdx_cons, List.foldl_cons, foldl_splice off vs (j + 1) _ (by simp; omega), Array.toList_setIfInBounds]
    rw [← Nat.add_assoc, splice_cons (by simp; omega)]
theorem fill_step (place : Nat → Option (Nat × Nat)) (cells : Array Value) (i off n : Nat) (v : Value) (rest : List (Nat × Value)) (hp : place i = some (off, n)) (hn : v.cells.size = n) (hle : off + n ≤ cells.size) :
    ∃ cells', cells'.toList = splice cells.toList off v.cells.toList ∧ Instr.fill place cells ((i, v) :: rest) = Instr.fill place cells' rest := by
  refine ⟨v.cells.zipIdx.foldl (fun cs (x : Value × Nat) => cs.setIfInBounds (off + x.2) x.1) cells, ?_, ?_⟩
  · rw [← Array.foldl_toList, Array.toList_zipIdx]
    have := foldl_splice off v.cells.toList 0 cells (by simp; omega)
    simpa using this
  · have h1 : (decide (v.cells.size ≠ n) || decide (off + v.cells.size > cells.size)) = false := by simp [hn]; omega
    simp only [Instr.fill, hp]
    rw [if_neg (by simpa using h1)]

section
variable {P : Program} {E : Env} {w0 : Base} {w : World} {ρ : Nat → Value} {s s' : St} {a : Act} {o : Oper}

theorem buildPs_c {place place' : Nat → Option (Nat × Nat)} (hpl : ∀ i x, place i = some x → place' i = some x) (h : Ok w0 ρ s a w) :
    ∀ (parts : List (Nat × Operand)) (ps ps' : List PV) (cells : Array Value), PsC (cx w0 ρ s w) ps cells.toList → buildPs place ps (parts.map fun p => (p.1, ev s p.2)) = some ps' →
      ∃ cells', Instr.fill place' cells (parts.map fun p => (p.1, a.eval p.2)) = some cells' ∧ PsC (cx w0 ρ s w) ps' cells'.toList
  | [], ps, ps', cells, hc, hb => by
    simp only [List.map_nil, buildPs, Option.some.injEq] at hb
    subst hb
    exact ⟨cells, rfl, hc⟩
  | (i, x) :: parts, ps, ps', cells, hc, hb => by
    simp only [List.map_cons, buildPs] at hb
    split at hb
    · rename_i off n qs hp hq
      split at hb
      · rename_i ps1 hset
        obtain ⟨h1, h2, h3⟩ := setPs_c hset hc (SVparts_c (h.ev x) hq)
        obtain ⟨cells1, h4, h5⟩ := fill_step place' cells i off n (a.eval x) (parts.map fun p => (p.1, a.eval p.2)) (hpl _ _ hp) (by simpa using h2) (by simpa using h3)
        have h6 : PsC (cx w0 ρ s w) ps1 cells1.toList := by rw [h4]; simpa only [splice, h2] using h1
        obtain ⟨cells', h7, h8⟩ := buildPs_c hpl h parts ps1 ps' cells1 h6 hb
        exact ⟨cells', by rw [List.map_cons, h5, h7], h8⟩
      · cases hb
    · cases hb

theorem places_ok : ∀ (fs : List Field), (∀ f ∈ fs, ∃ ti, TIok P f.type ti) → ∃ places, fs.mapM (fun f => (P.info? f.type).map fun i => (f.offset, i.size)) = some places ∧
    ∀ (i : Nat) f ti, fs[i]? = some f → TIok P f.type ti → places[i]? = some (f.offset, ti.size)
  | [], _ => ⟨[], rfl, fun i f ti h => by simp at h⟩
  | f :: fs, h => by
    obtain ⟨ti, hT⟩ := h f (by simp)
    obtain ⟨i0, z, hi1, hi2, _⟩ := hT.info
    obtain ⟨places, hp, hq⟩ := places_ok fs (fun g hg => h g (by simp [hg]))
    refine ⟨(f.offset, i0.size) :: places, by simp [List.mapM_cons, hi1, hp], fun i g tj hg hTj => ?_⟩
    cases i with
    | zero =>
      simp only [List.getElem?_cons_zero, Option.some.injEq] at hg ⊢
      subst hg
      obtain ⟨i1, z1, hj1, hj2, _⟩ := hTj.info
      rw [hi1] at hj1
      injection hj1 with hj1
      rw [hj1, hj2]
    | succ i => exact hq i g tj (by simpa using hg) hTj

theorem setNth_c {u : Ty} {n : Nat} (h : Ok w0 ρ s a w) : ∀ (parts : List (Nat × Operand)) (xs xs' : List u.D) (cells : Array Value), Rd (Free w0 ρ s.hp w) w (.arr n u) cells.toList xs →
    setNth u xs (parts.map fun p => (p.1, ev s p.2)) = some xs' → ∃ cells', Instr.fill (fun i => some (i * u.size, u.size)) cells (parts.map fun p => (p.1, a.eval p.2)) = some cells' ∧ Rd (Free w0 ρ s.hp w) w (.arr n u) cells'.toList xs'
  | [], xs, xs', cells, hc, hb => by
    simp only [List.map_nil, setNth, Option.some.injEq] at hb
    subst hb
    exact ⟨cells, rfl, hc⟩
  | (i, x) :: parts, xs, xs', cells, hc, hb => by
    simp only [List.map_cons, setNth] at hb
    split at hb
    · rename_i ps hp
      split at hb
      · rename_i y hy
        cases hlt : Nat.blt i xs.length with
        | false => rw [hlt] at hb; cases hb
        | true =>
          rw [hlt] at hb
          simp only [cond_true] at hb
          rw [Nat.blt_eq] at hlt
          have hr : Rd (Free w0 ρ s.hp w) w u (a.eval x).cells.toList y := rdAll_c (c := cx w0 ρ s w) hy (SVparts_c (h.ev x) hp)
          have hin : i < n := by rw [← hc.1]; exact hlt
          have hle : (i + 1) * u.size ≤ n * u.size := Nat.mul_le_mul_right _ hin
          rw [Nat.add_mul, Nat.one_mul] at hle
          have hcl := hc.2.1
          have hrl := hr.len
          obtain ⟨cells1, h4, h5⟩ := fill_step (fun i => some (i * u.size, u.size)) cells i (i * u.size) u.size (a.eval x) (parts.map fun p => (p.1, a.eval p.2)) rfl (by simpa using hrl) (by simp at hcl; omega)
          have hset := Rd.set hc hin hr
          rw [← h4] at hset
          obtain ⟨cells', h7, h8⟩ := setNth_c h parts (xs.set i y) xs' cells1 hset hb
          exact ⟨cells', by rw [List.map_cons, h5, h7], h8⟩
      · cases hb
    · cases hb

theorem build_does {t : TypeId} {parts : Array (Nat × Operand)} {p : Option Prop} {R : Act → World → Prop} (hE : EnvOk P E) (h : Ok w0 ρ s a w) (ho : o.op = .build t parts)
    (hs : buildS E s o.dst t (parts.toList.map fun p => (p.1, ev s p.2)) = some (p, s')) (hR : Up w0 s' R) : Does P o a w R := by
  unfold buildS at hs
  split at hs
  · rename_i sz by_ fs z ty hti
    have hT := hE t _ hti
    cases hall : fs.all (fun f => (E.info f.2).isSome) with
    | false => rw [hall] at hs; cases hs
    | true =>
    rw [hall] at hs
    simp only [Bool.not_true, cond_false] at hs
    split at hs
    · rename_i ps hb
      simp only [ok, Option.some.injEq, Prod.mk.injEq] at hs
      obtain ⟨_, rfl⟩ := hs
      obtain ⟨F, hF, hfs⟩ := hT.kind
      obtain ⟨it, zv, hi1, hi2, hi3, hi4, hi5⟩ := hT.info
      have hz : zv.cells.toList = cellsPs z := by rw [hi5]; rfl
      have hall' : ∀ f ∈ F.toList, ∃ ti, TIok P f.type ti := by
        intro f hf
        have hm : (f.offset, f.type) ∈ fs := by rw [← hfs]; exact List.mem_map.2 ⟨f, hf, rfl⟩
        have := List.all_eq_true.1 hall _ hm
        obtain ⟨ti, hti'⟩ := Option.isSome_iff_exists.1 this
        exact ⟨ti, hE _ _ hti'⟩
      obtain ⟨places, hp1, hp2⟩ := places_ok F.toList hall'
      have hpl : ∀ i x, fieldPlace? E fs i = some x → (places.toArray[·]?) i = some x := by
        intro i x hx
        unfold fieldPlace? at hx
        split at hx
        · rename_i off ft hfi
          split at hx
          · rename_i fi hfi2
            injection hx with hx
            subst hx
            rw [← hfs, List.getElem?_map, Option.map_eq_some_iff] at hfi
            obtain ⟨f, hf1, hf2⟩ := hfi
            simp only [Prod.mk.injEq] at hf2
            obtain ⟨rfl, rfl⟩ := hf2
            simpa using hp2 i f fi hf1 (hE _ _ hfi2)
          · cases hx
        · cases hx
      obtain ⟨cells', hf1, hf2⟩ := buildPs_c hpl h parts.toList z ps zv.cells (by rw [hz]; exact cellsPs_c hT.flat) hb
      refine does_value (m := Instr.build t (parts.map fun (i, x) => (i, a.eval x))) (sv := .agg ps) (v := .agg cells') h (by simp [execOp, ho]) ?_ ⟨cells', rfl, hf2⟩ hR
      refine run_build w t _ cells' ?_
      unfold Program.built
      simp only [hi1, hF, hi4, hp1]
      rw [Array.toList_map]
      exact hf1
    · cases hs
  · rename_i sz by_ n e m u xs ty hti
    have hT := hE t _ hti
    split at hs
    · rename_i ei hei
      have hTe := hE e _ hei
      cases hb : Nat.beq u.size ei.size with
      | false => rw [hb] at hs; cases hs
      | true =>
        rw [hb] at hs
        simp only [Bool.not_true, cond_false] at hs
        have hsz := Nat.eq_of_beq_eq_true hb
        split at hs
        · rename_i ys hset
          simp only [ok, Option.some.injEq, Prod.mk.injEq] at hs
          obtain ⟨_, rfl⟩ := hs
          have hk : P.underlying t = some (.array n e) := hT.kind
          obtain ⟨it, zv, hi1, hi2, hi3, hi4, hi5⟩ := hT.info
          obtain ⟨ie, _, he1, he2, _⟩ := hTe.info
          have hz : zv.cells.toList = cellsPs [.d (.arr m u) xs] := by rw [hi5]; rfl
          have hp : PsC (cx w0 ρ s w) [.d (.arr m u) xs] zv.cells.toList := by rw [hz]; exact cellsPs_c hT.flat
          obtain ⟨l1, l2, e1, h1, h2⟩ := hp
          have hl2 : l2 = [] := h2
          subst hl2
          rw [List.append_nil] at e1
          have hrd : Rd (Free w0 ρ s.hp w) w (.arr m u) zv.cells.toList xs := by rw [e1]; exact h1
          obtain ⟨cells', hf1, hf2⟩ := setNth_c h parts.toList xs ys zv.cells hrd hset
          refine does_value (m := Instr.build t (parts.map fun (i, x) => (i, a.eval x))) (sv := .agg [.d (.arr m u) ys]) (v := .agg cells') h (by simp [execOp, ho]) ?_ ⟨cells', rfl, PsC.single hf2⟩ hR
          refine run_build w t _ cells' ?_
          unfold Program.built
          simp only [hi1, hk, hi4, he1]
          rw [Array.toList_map, he2, ← hsz]
          exact hf1
        · cases hs
    · cases hs
  · cases hs

theorem new_row {R : Act → World → Prop} {k' : Nat} {u : Ty} {cells : Array Value} {zs : List u.D} {cap n : Nat} {e : TypeId} (h : Ok w0 ρ s a w) (hus : s.us k' = false)
    (hL : Rd (Free w0 ρ s.hp w) w (.arr n u) (cells.toList.take (n * u.size)) zs) (hc : n ≤ cap) (hm : cap ≤ maxLen) (hr : cells.size = cap * u.size)
    (hR : Up w0 ((s.new k' (.row u zs)).put o.dst (.one (.row k'))) R) :
    R (a.put o.dst (.slice (some ⟨w.heap.size, 0, none⟩) n cap)) (w.alloc (.cells cells e)) := by
  have hzl : zs.length = n := hL.1
  subst hzl
  have hmore := More.alloc w (.cells cells e)
  have hle := new_le (he := .row u zs) (v := .slice (some ⟨w.heap.size, 0, none⟩) zs.length cap) h hus hmore (fun b e => by injection e with e; subst e; exact ⟨Nat.le_refl _, by simp⟩)
  have hok := h.new (he := .row u zs) (v := .slice (some ⟨w.heap.size, 0, none⟩) zs.length cap) hus hmore
    (fun b e => by injection e with e; subst e; exact ⟨Nat.le_refl _, by simp⟩)
    (.inr ⟨w.heap.size, 0, cap, cells, e, rset_same _ _ _, heap_alloc_new w _, hc, hm, by rw [hr]; omega, fun i x hx => by
      have hLr : Rd _ _ (.arr zs.length u) (cells.toList.take (zs.length * u.size)) zs := Rd.mono hle.keep hL
      have h1 := hLr.2.2 i x hx
      have hi : i < zs.length := (List.getElem?_eq_some_iff.1 hx).1
      have hle2 : (i + 1) * u.size ≤ zs.length * u.size := Nat.mul_le_mul_right _ hi
      rw [Nat.add_mul, Nat.one_mul] at hle2
      simp only [Nat.zero_add]
      rw [List.drop_take, List.take_take, Nat.min_eq_left (by omega)] at h1
      exact h1⟩)
  have e3 : rset ρ k' (.slice (some ⟨w.heap.size, 0, none⟩) zs.length cap) k' = .slice (some ⟨w.heap.size, 0, none⟩) zs.length cap := rset_same _ _ _
  exact hR _ _ _ (hok.put o.dst (SVc.of1 (p := .row k') rfl ⟨uset_same _ _, by show [_] = [rset ρ k' _ k']; rw [e3], by show (rset ρ k' _ k').oneCell' = true; rw [e3]; rfl⟩))

theorem buildSlice_does2 {s2 : St} {t : TypeId} {len : Nat} {parts : Array (Nat × Operand)} {k' : Nat} {p : Option Prop} {R : Act → World → Prop} (hE : EnvOk P E) (h : Ok w0 ρ s a w) (h2 : Ok w0 ρ s2 a w) (hhp : s2.hp = s.hp) (ho : o.op = .buildSlice t len parts)
    (hs : buildSliceS E s k' o.dst t len (parts.toList.map fun p => (p.1, ev s2 p.2)) = some (p, s')) (hR : Up w0 s' R) : Does P o a w R := by
  unfold buildSliceS at hs
  split at hs
  · rename_i e _ _ hti
    have hk := (hE t _ hti).kind
    split at hs
    · rename_i sz by_ kd z u hei
      have hT := hE e _ hei
      obtain ⟨hu1, hu2, hu3, hu4⟩ := hT.ty
      cases hb : (!(Nat.beq u.size sz && Nat.blt 0 sz && Nat.ble (len * sz) 65536) || s.us k') with
      | true => rw [hb] at hs; cases hs
      | false =>
        rw [hb] at hs
        simp only [cond_false] at hs
        simp only [Bool.or_eq_false_iff, Bool.not_eq_false', Bool.and_eq_true] at hb
        obtain ⟨⟨⟨hb1, hb2⟩, hb3⟩, hus⟩ := hb
        have hsz : u.size = sz := Nat.eq_of_beq_eq_true hb1
        subst hsz
        rw [Nat.blt_eq] at hb2
        have hb3 := Nat.le_of_ble_eq_true hb3
        split at hs
        · rename_i xs hset
          simp only [ok, Option.some.injEq, Prod.mk.injEq] at hs
          obtain ⟨_, rfl⟩ := hs
          obtain ⟨z', hz1, hz2⟩ := hT.run_zero w
          have hmade := made_arr (S := Free w0 ρ s2.hp w) (w := w) (z := z'.cells) len (hz2.trans hu4.symm) hu3
          obtain ⟨cells', hf1, hf2⟩ := setNth_c h2 parts.toList _ xs _ hmade hset
          rw [hhp] at hf2
          have hcl : cells'.size = len * u.size := by simpa using hf2.2.1
          have hfin := new_row (o := o) (k' := k') (e := e) (n := len) (cap := len) (R := R) h hus (by rw [List.take_of_length_le (by simp; omega)]; exact hf2) (Nat.le_refl _)
            (by have : len * 1 ≤ len * u.size := Nat.mul_le_mul_left _ hb2; simp only [maxLen]; omega) hcl hR
          refine Does.ran (m := Instr.buildSlice t len (parts.map fun (i, x) => (i, a.eval x))) (by simp [execOp, ho]) ?_ hfin
          unfold Instr.buildSlice
          simp only [Sem.run_bind, run_underlying hk, Result.andThen_ok, hT.run_size]
          rw [if_neg (by simp; omega)]
          have hf0 : Instr.fill (fun i => some (i * u.size, u.size)) (madeCells z'.cells (len * u.size)) (parts.map fun (i, x) => (i, a.eval x)).toList = some cells' := by
            rw [Array.toList_map]; exact hf1
          by_cases h0 : len * u.size = 0
          · have hc0 : (Array.range (len * u.size)).map ((#[] : Array Value)[· % (#[] : Array Value).size]!) = madeCells z'.cells (len * u.size) := by rw [h0]; simp [madeCells]
            rw [if_pos h0]
            simp only [Sem.run_bind, Sem.run_pure, Result.andThen_ok, hc0, hf0, newRow_run]
          · rw [if_neg h0]
            have hc0 : (Array.range (len * u.size)).map (z'.cells[· % z'.cells.size]!) = madeCells z'.cells (len * u.size) := rfl
            simp only [Sem.run_bind, Sem.run_pure, Result.andThen_ok, hz1, hc0, hf0, newRow_run]
        · cases hs
    · cases hs
  · cases hs

theorem buildSlice_does {t : TypeId} {len : Nat} {parts : Array (Nat × Operand)} {k' : Nat} {p : Option Prop} {R : Act → World → Prop} (hE : EnvOk P E) (h : Ok w0 ρ s a w) (ho : o.op = .buildSlice t len parts)
    (hs : buildSliceS E s k' o.dst t len (parts.toList.map fun p => (p.1, ev s p.2)) = some (p, s')) (hR : Up w0 s' R) : Does P o a w R := buildSlice_does2 hE h h rfl ho hs hR
theorem drop_data {k : Nat} {t : Ty} {xs : List t.D} (h : Ok w0 ρ s a w) (hk : s.hp k = some (.row t xs)) : Rd (Free w0 ρ (s.drop k).hp w) w (.sl t) [ρ k] xs := by
  have hhp : ∀ {n h'}, (s.drop k).hp n = some h' → n ≠ k ∧ s.hp n = some h' := fun {n h'} hn => by
    by_cases e : n = k
    · subst e; rw [show (s.drop n).hp n = none from hset_same _ _ _] at hn; cases hn
    · exact ⟨e, by rw [← hset_other s.hp none e]; exact hn⟩
  rcases h.heap k _ hk with ⟨h1, h2⟩ | ⟨b, q, cp, cur, e', h1, hh, h3, h4, h5, h6⟩
  · subst h2
    exact ⟨none, 0, by rw [show ρ k = _ from h1]; rfl, Nat.le_refl _, by simp [maxLen], fun hp => absurd hp (by simp)⟩
  · refine ⟨some ⟨b, q, none⟩, cp, by rw [show ρ k = _ from h1], h3, h4, fun _ => ⟨b, q, rfl, ⟨(Array.getElem?_eq_some_iff.1 hh).1, fun n h' hn => ?_, ?_⟩, fun i x hi => ⟨_, ?_, Rd.mono (fun c hc => ⟨⟨hc.1, fun n h' hn => hc.2.1 n h' (hhp hn).2, hc.2.2⟩, rfl⟩) (h6 i x hi)⟩⟩⟩
    · obtain ⟨hne, hn0⟩ := hhp hn
      exact h.apart k n _ _ b (fun e => hne e.symm) hk hn0 (by rw [show ρ k = _ from h1]; rfl)
    · exact w0.all b (h.fresh k _ b hk (by rw [show ρ k = _ from h1]; rfl)).1
    · intro j v hv
      have := At.of_block hh (q + i * t.size) t.size j v hv
      rw [Nat.add_assoc] at this
      exact this
theorem ok_tell (h : Ok w0 ρ s a w) (d : Nat) {v : SV} (hv : SVc (cx w0 ρ s w) v (a.tmps.getD d undef)) : Ok w0 ρ (s.put (some d) v) a w := by
  refine { h with len := ?_, frame := ?_ }
  · simp [St.put, lset_length, h.len]
  · intro i
    show SVc (cx w0 ρ s w) (lget (lset s.fr d v) i) (a.tmps.getD i undef)
    by_cases e : d = i
    · subst e
      rw [lget_lset_eq]
      split
      · exact hv
      · trivial
    · rw [lget_lset_ne _ _ _ _ e]; exact h.frame i
theorem ev_row {x : Operand} {j : Nat} (h : ev s x = .one (.row j)) : ∃ d, x = .tmp d ∧ lget s.fr d = .one (.row j) := by
  cases x with
  | tmp d => exact ⟨d, rfl, h⟩
  | global g => cases h
  | func f => cases h
  | const v =>
    exfalso
    have h : constSV v = .one (.row j) := h
    cases v with
    | int k n =>
      simp only [constSV] at h
      cases hb : irB k n <;> rw [hb] at h <;> cases h
    | string b =>
      simp only [constSV] at h
      cases hb : Nat.ble b.size 9223372036854775807 <;> rw [hb] at h <;> cases h
    | _ => cases h
theorem buildSliceC_does {t : TypeId} {len : Nat} {parts : Array (Nat × Operand)} {k' : Nat} {p : Option Prop} {R : Act → World → Prop} (hE : EnvOk P E) (h : Ok w0 ρ s a w) (ho : o.op = .buildSlice t len parts)
    (hs : buildSliceC E s k' o.dst t len (parts.toList.map fun p => (p.1, ev s p.2)) = some (p, s')) (hR : Up w0 s' R) : Does P o a w R := by
  unfold buildSliceC at hs
  split at hs
  · rename_i i j hparts
    split at hs
    · rename_i u xs hj
      obtain ⟨x, hx1, hx2⟩ : ∃ x, parts.toList = [(i, x)] ∧ ev s x = .one (.row j) := by
        generalize parts.toList = l at hparts
        match l, hparts with
        | [], hp => cases hp
        | [(i', x)], hp =>
          simp only [List.map_cons, List.map_nil, List.cons.injEq, Prod.mk.injEq, and_true] at hp
          exact ⟨x, by rw [hp.1], hp.2⟩
        | _ :: _ :: _, hp => simp at hp
      obtain ⟨d, rfl, hd⟩ := ev_row hx2
      have h1 := h.drop j
      have hval : a.tmps.getD d undef = ρ j := by
        have hf := h.frame d
        rw [hd] at hf
        have : [a.tmps.getD d undef] = [ρ j] := (SVc.one1 (p := .row j) rfl (by simp) hf).2.1
        injection this
      have h2 := ok_tell h1 d (v := .one (.d (.sl u) xs)) (by
        rw [hval]
        exact SVc.of1 (p := .d (.sl u) xs) rfl (drop_data h hj))
      have hlen : d < (s.drop j).fr.length := by
        apply Decidable.byContradiction
        intro hn
        have hz : ∀ (l : List SV) (n : Nat), ¬ n < l.length → lget l n = .one .any := fun l => by
          induction l with
          | nil => intro n _; rfl
          | cons y l ih =>
            intro n hn
            cases n with
            | zero => simp at hn
            | succ n => exact ih n (by simpa using hn)
        have : lget s.fr d = .one .any := hz _ _ hn
        rw [this] at hd; cases hd
      refine buildSlice_does2 (p := p) (k' := k') (s2 := (s.drop j).put (some d) (.one (.d (.sl u) xs))) hE h1 h2 rfl ho ?_ hR
      rw [hx1]
      have e : ev ((s.drop j).put (some d) (.one (.d (.sl u) xs))) (.tmp d) = .one (.d (.sl u) xs) := by
        show lget (lset (s.drop j).fr d _) d = _
        rw [lget_lset_eq, if_pos hlen]
      simp only [List.map_cons, List.map_nil, e]
      exact hs
    · cases hs
  · cases hs
theorem make_does {t : TypeId} {l c : Operand} {k' : Nat} {p : Option Prop} {R : Act → World → Prop} (hE : EnvOk P E) (h : Ok w0 ρ s a w) (ho : o.op = .makeSlice t l c)
    (hs : makeS E s k' o.dst t (ev s l) (ev s c) = some (p, s')) (hp : vcP p) (hR : Up w0 s' R) : Does P o a w R := by
  unfold makeS at hs
  split at hs
  · rename_i _ _ e _ _ kl n kc m hti hl hc
    have hk := (hE t _ hti).kind
    have el := asInt_c (h.ev l) hl
    have ec := asInt_c (h.ev c) hc
    split at hs
    · rename_i sz by_ kd z u hei
      have hT := hE e _ hei
      obtain ⟨hu1, hu2, hu3, hu4⟩ := hT.ty
      cases hb : (!(Nat.beq u.size sz && Nat.blt 0 sz) || s.us k') with
      | true => rw [hb] at hs; cases hs
      | false =>
        rw [hb] at hs
        simp only [cond_false, Option.some.injEq, Prod.mk.injEq] at hs
        obtain ⟨rfl, rfl⟩ := hs
        simp only [Bool.or_eq_false_iff, Bool.not_eq_false', Bool.and_eq_true] at hb
        obtain ⟨⟨hb1, hb2⟩, hus⟩ := hb
        have hsz : u.size = sz := Nat.eq_of_beq_eq_true hb1
        subst hsz
        rw [Nat.blt_eq] at hb2
        obtain ⟨⟨hp1, hp2⟩, hp3, hp4⟩ := hp
        obtain ⟨i, zv, hi1, hi2, hi3, hi4, hi5⟩ := hT.info
        have hi3 : i.bytes = by_ := hi3
        obtain ⟨z', hz1, hz2⟩ := hT.run_zero w
        have hzz : z' = zv := by simp [zeroValue, typeInfo, hi1, hi4] at hz1; exact hz1.symm
        subst hzz
        have hrun := run_make (P := P) w t e i z' hk hi1 hi4 kl kc n m hp1 hp2 (by rw [hi3, Int.mul_comm]; omega) hp4
        rw [hi2] at hrun
        have hmade := made_arr (S := Free w0 ρ s.hp w) (w := w) (z := z'.cells) n.toNat (hz2.trans hu4.symm) hu3
        have hle : n.toNat * u.size ≤ m.toNat * u.size := Nat.mul_le_mul_right _ (by omega)
        have htake : (madeCells z'.cells (m.toNat * u.size)).toList.take (n.toNat * u.size) = (madeCells z'.cells (n.toNat * u.size)).toList := by
          apply List.ext_getElem?
          intro j
          rw [List.getElem?_take]
          by_cases hj : j < n.toNat * u.size
          · rw [if_pos hj]
            have : j < m.toNat * u.size := by omega
            simp [madeCells, hj, this]
          · rw [if_neg hj, List.getElem?_eq_none (by simp [madeCells]; omega)]
        have hfin := new_row (o := o) (k' := k') (e := e) (n := n.toNat) (cap := m.toNat) (R := R) (cells := madeCells z'.cells (m.toNat * u.size)) h hus (by rw [htake]; exact hmade) (by omega)
          (by simp only [maxLen]; omega) (size_madeCells _ _) hR
        exact Does.ran (m := Instr.makeSlice t (a.eval l) (a.eval c)) (by simp [execOp, ho]) (by rw [el, ec]; exact hrun) hfin
    · cases hs
  · cases hs

theorem xor_neg1 {n : Int} (h : IR .i64 n) : IntKind.i64.wrap (BitVec.ofInt 64 (-1) ^^^ BitVec.ofInt 64 n).toNat = -1 - n := by
  have e : BitVec.ofInt 64 (-1) ^^^ BitVec.ofInt 64 n = ~~~ (BitVec.ofInt 64 n) := by
    rw [show BitVec.ofInt 64 (-1) = BitVec.allOnes 64 from rfl]
    exact BitVec.allOnes_xor
  rw [e, BitVec.toNat_not, BitVec.toNat_ofInt]
  simp only [IR] at h
  simp only [IntKind.wrap, IntKind.bits, IntKind.signed]
  simp
  omega
theorem un_does {op : UnOp} {t : TypeId} {x : Operand} {p : Option Prop} {R : Act → World → Prop} (h : Ok w0 ρ s a w) (ho : o.op = .unOp op t x)
    (hs : unS s o.dst op (ev s x) = some (p, s')) (hp : vcP p) (hR : Up w0 s' R) : Does P o a w R := by
  have hexec : execOp a.eval o = (do pure (.value (← Op.unary op (a.eval x)))) := by simp [execOp, ho]
  unfold unS at hs
  split at hs
  · rename_i b hx
    simp only [ok, Option.some.injEq, Prod.mk.injEq] at hs
    obtain ⟨_, rfl⟩ := hs
    have ex := asBool_c (h.ev x) (b := b) (by rw [hx]; rfl)
    exact does_value h hexec (by rw [ex]; rfl) (sv_lit (!b)) hR
  · rename_i b hx
    simp only [ok, Option.some.injEq, Prod.mk.injEq] at hs
    obtain ⟨_, rfl⟩ := hs
    have ex := asBool_c (h.ev x) (b := b) (by rw [hx]; rfl)
    exact does_value h hexec (by rw [ex]; rfl) (sv_bool (!b)) hR
  · rename_i k n hx
    simp only [Option.some.injEq, Prod.mk.injEq] at hs
    obtain ⟨rfl, rfl⟩ := hs
    have ex := asInt_c (h.ev x) (k := k) (n := n) (by rw [hx]; rfl)
    refine does_value (v := .int k (-n)) h hexec ?_ (sv_int hp) hR
    rw [ex]
    simp [Op.unary, Op.intArith, wrap_in hp]
  · rename_i n hx
    simp only [ok, Option.some.injEq, Prod.mk.injEq] at hs
    obtain ⟨_, rfl⟩ := hs
    have ex := asInt_c (h.ev x) (k := .i64) (n := n) (by rw [hx]; rfl)
    have hn : IR .i64 n := asInt_ir (h.ev x) (k := .i64) (n := n) (by rw [hx]; rfl)
    refine does_value (v := .int .i64 (-1 - n)) h hexec ?_ (sv_int (by simp only [IR] at hn ⊢; omega)) hR
    rw [ex]
    have := xor_neg1 hn
    show (pure (.int .i64 (IntKind.i64.wrap (BitVec.ofInt 64 (-1) ^^^ BitVec.ofInt 64 n).toNat)) : Sem Value).run P w = _
    rw [this]; rfl
  · cases hs

theorem IR_min {k : IntKind} {m n : Int} (hm : IR k m) (hn : IR k n) : IR k (bif false then max m n else min m n) := by
  simp only [cond_false]
  rcases Int.le_total m n with h | h
  · rw [Int.min_eq_left h]; exact hm
  · rw [Int.min_eq_right h]; exact hn
theorem IR_max {k : IntKind} {m n : Int} (hm : IR k m) (hn : IR k n) : IR k (bif true then max m n else min m n) := by
  simp only [cond_true]
  rcases Int.le_total m n with h | h
  · rw [Int.max_eq_right h]; exact hn
  · rw [Int.max_eq_left h]; exact hm
theorem max_does {args : Array Operand} {ts : Array TypeId} {x y : Operand} {mx : Bool} {p : Option Prop} {R : Act → World → Prop} (h : Ok w0 ρ s a w)
    (ho : o.op = .call { callee := .builtin (bif mx then .max else .min), args := args, argTypes := ts }) (ha : args.toList = [x, y])
    (hs : minmaxS s o.dst mx (ev s x) (ev s y) = some (p, s')) (hR : Up w0 s' R) : Does P o a w R := by
  have ea : args = #[x, y] := by apply Array.ext'; simpa using ha
  subst ea
  unfold minmaxS at hs
  split at hs
  · rename_i k m k' n hx hy
    have ex := asInt_c (h.ev x) hx
    have ey := asInt_c (h.ev y) hy
    split at hs
    · rename_i hk
      subst hk
      simp only [ok, Option.some.injEq, Prod.mk.injEq] at hs
      obtain ⟨_, rfl⟩ := hs
      cases mx
      · refine does_value (m := Builtin.min_ ts o.type #[a.eval x, a.eval y]) h (by rw [exec_builtin ho]; simp [builtin]) ?_ (sv_int (IR_min (asInt_ir (h.ev x) hx) (asInt_ir (h.ev y) hy))) hR
        rw [ex, ey]
        simp only [Builtin.min_, List.foldlM, Builtin.min2, cond_false]
        simp
        by_cases hlt : n < m
        · rw [if_pos hlt]; omega
        · rw [if_neg hlt]; omega
      · refine does_value (m := Builtin.max_ ts o.type #[a.eval x, a.eval y]) h (by rw [exec_builtin ho]; simp [builtin]) ?_ (sv_int (IR_max (asInt_ir (h.ev x) hx) (asInt_ir (h.ev y) hy))) hR
        rw [ex, ey]
        simp only [Builtin.max_, List.foldlM, Builtin.max2, cond_true]
        simp
        by_cases hlt : m < n
        · rw [if_pos hlt]; omega
        · rw [if_neg hlt]; omega
    · cases hs
  · cases hs

theorem max3_does {args : Array Operand} {ts : Array TypeId} {x y z : Operand} {mx : Bool} {p : Option Prop} {R : Act → World → Prop} (h : Ok w0 ρ s a w)
    (ho : o.op = .call { callee := .builtin (bif mx then .max else .min), args := args, argTypes := ts }) (ha : args.toList = [x, y, z])
    (hs : minmax3S s o.dst mx (ev s x) (ev s y) (ev s z) = some (p, s')) (hR : Up w0 s' R) : Does P o a w R := by
  have ea : args = #[x, y, z] := by apply Array.ext'; simpa using ha
  subst ea
  unfold minmax3S at hs
  split at hs
  · rename_i k m k' n k'' r hx hy hz
    have ex := asInt_c (h.ev x) hx
    have ey := asInt_c (h.ev y) hy
    have ez := asInt_c (h.ev z) hz
    split at hs
    · rename_i hk
      obtain ⟨hk1, hk2⟩ := hk
      subst hk1 hk2
      simp only [ok, Option.some.injEq, Prod.mk.injEq] at hs
      obtain ⟨_, rfl⟩ := hs
      cases mx
      · refine does_value (m := Builtin.min_ ts o.type #[a.eval x, a.eval y, a.eval z]) h (by rw [exec_builtin ho]; simp [builtin]) ?_ (sv_int (IR_min (IR_min (asInt_ir (h.ev x) hx) (asInt_ir (h.ev y) hy)) (asInt_ir (h.ev z) hz))) hR
        rw [ex, ey, ez]
        simp only [Builtin.min_, List.foldlM, Builtin.min2, cond_false]
        simp
        repeat' split
        all_goals omega
      · refine does_value (m := Builtin.max_ ts o.type #[a.eval x, a.eval y, a.eval z]) h (by rw [exec_builtin ho]; simp [builtin]) ?_ (sv_int (IR_max (IR_max (asInt_ir (h.ev x) hx) (asInt_ir (h.ev y) hy)) (asInt_ir (h.ev z) hz))) hR
        rw [ex, ey, ez]
        simp only [Builtin.max_, List.foldlM, Builtin.max2, cond_true]
        simp
        repeat' split
        all_goals omega
    · cases hs
  · cases hs

theorem tupC_get {c : Cx} : ∀ {es : List (Bool × List PV)} {vs : List Value} {i : Nat} {e : Bool × List PV}, tupC c es vs → es[i]? = some e → ∃ v, vs[i]? = some v ∧ aggC c e.1 e.2 v
  | [], _, i, e, _, h => by simp at h
  | e0 :: es, vs, 0, e, ⟨v, r, hv, h1, h2⟩, h => by
    simp at h; subst h
    exact ⟨v, by rw [hv]; rfl, h1⟩
  | e0 :: es, vs, i + 1, e, ⟨v, r, hv, h1, h2⟩, h => by
    obtain ⟨u, h3, h4⟩ := tupC_get (i := i) h2 (by simpa using h)
    exact ⟨u, by rw [hv]; simpa using h3, h4⟩

theorem boolC_c {c : Cx} {x : SV} {v : Value} {p : Option Prop} {u : Bool} (h : SVc c x v) (e : boolC x = some (p, u)) (hp : vcP p) : v = .bool u := by
  unfold boolC at e
  split at e <;> simp only [Option.some.injEq, Prod.mk.injEq, reduceCtorEq] at e <;> obtain ⟨rfl, rfl⟩ := e
  · have : [v] = [.bool _] := SVc.one1 rfl (by simp) h
    simpa using this
  · have : [v] = [.bool _] := SVc.one1 rfl (by simp) h
    simpa using this
  · have : [v] = [.bool _] := SVc.one1 (p := .lit _) rfl (by simp) (h.1 hp)
    simpa using this
  · have : [v] = [.bool _] := SVc.one1 (p := .d .bool _) rfl (by simp) (h.1 hp)
    simpa using this
theorem pickB_eq {b u v : Bool} {x y : SV} {p q : Option Prop} (hx : boolC x = some (p, u)) (hy : boolC y = some (q, v)) : pickB b u v x y = bif b then u else v := by
  unfold pickB
  split
  · simp only [boolC, Option.some.injEq, Prod.mk.injEq] at hy
    obtain ⟨_, rfl⟩ := hy
    cases b <;> simp
  · split
    · simp only [boolC, Option.some.injEq, Prod.mk.injEq] at hx
      obtain ⟨_, rfl⟩ := hx
      cases b <;> simp
    · rfl
theorem pick_does {c x y : Operand} {p : Option Prop} {R : Act → World → Prop} (h : Ok w0 ρ s a w) (ho : o.op = .pick c x y) (hs : pickS s o.dst (ev s c) (ev s x) (ev s y) = some (p, s')) (hp : vcP p)
    (hR : Up w0 s' R) : Does P o a w R := by
  unfold pickS at hs
  split at hs
  · rename_i b hc
    simp only [ok, Option.some.injEq, Prod.mk.injEq] at hs
    obtain ⟨_, rfl⟩ := hs
    have ec := asBool_c (h.ev c) (b := b) (by rw [hc]; rfl)
    refine .inl ⟨if b then a.eval x else a.eval y, w, by simp [execOp, ho, ec, asBool], hR ρ _ _ (h.put o.dst ?_)⟩
    cases b
    · exact h.ev y
    · exact h.ev x
  · rename_i b hc
    split at hs
    · rename_i p1 u p2 v hx hy
      simp only [Option.some.injEq, Prod.mk.injEq] at hs
      obtain ⟨rfl, rfl⟩ := hs
      have ec := asBool_c (h.ev c) (b := b) (by rw [hc]; rfl)
      have hps : (b = true → vcP p1) ∧ (b = false → vcP p2) := by
        cases p1 <;> cases p2 <;> simp only [impO] at hp
        · exact ⟨fun _ => trivial, fun _ => trivial⟩
        · exact ⟨fun _ => trivial, hp⟩
        · exact ⟨hp, fun _ => trivial⟩
        · exact hp
      refine .inl ⟨if b then a.eval x else a.eval y, w, by simp [execOp, ho, ec, asBool], hR ρ _ _ (h.put o.dst ?_)⟩
      rw [pickB_eq hx hy]
      cases b
      · rw [boolC_c (h.ev y) hy (hps.2 rfl)]; exact sv_bool v
      · rw [boolC_c (h.ev x) hx (hps.1 rfl)]; exact sv_bool u
    · cases hs
  · cases hs

theorem nil_does {x : Operand} {R : Act → World → Prop} (h : Ok w0 ρ s a w) (ho : o.op = .nilCheck x) (hx : ∃ ad, a.eval x = .pointer (some ad)) (hR : Up w0 (s.put o.dst (ev s x)) R) : Does P o a w R := by
  obtain ⟨ad, e⟩ := hx
  exact .inl ⟨a.eval x, w, by simp [execOp, ho, e], hR ρ _ _ (h.put o.dst (h.ev x))⟩

theorem extract_does {x : Operand} {i : Nat} {v : Value} {sv : SV} {R : Act → World → Prop} (h : Ok w0 ρ s a w) (ho : o.op = .extract x i) {vs : Array Value} (hx : a.eval x = .tuple vs) (hv : vs.toList[i]? = some v)
    (hsv : SVc (cx w0 ρ s w) sv v) (hR : Up w0 (s.put o.dst sv) R) : Does P o a w R := by
  refine does_value (m := Instr.extract (a.eval x) i) h (by simp [execOp, ho]) ?_ hsv hR
  have hv' : vs[i]? = some v := by simpa using hv
  simp [Instr.extract, hx, hv']

theorem opS_does {wr : Nat → Bool} {k : Nat} {p : Option Prop} {R : Act → World → Prop} (hE : EnvOk P E) (h : Ok w0 ρ s a w) (hs : opS E wr s k o = some (p, s')) (hp : vcP p) (hR : Up w0 s' R) : Does P o a w R := by
  unfold opS at hs
  split at hs
  · rename_i x e
    simp only [ok, Option.some.injEq, Prod.mk.injEq] at hs
    obtain ⟨_, rfl⟩ := hs
    exact move_does h (.inl e) hR
  · rename_i x e
    simp only [ok, Option.some.injEq, Prod.mk.injEq] at hs
    obtain ⟨_, rfl⟩ := hs
    exact move_does h (.inr e) hR
  · rename_i c x y e
    exact pick_does h e hs hp hR
  · rename_i t e
    split at hs
    · rename_i ti hti
      cases hus : s.us k with
      | true => rw [hus] at hs; cases hs
      | false =>
        rw [hus] at hs
        simp only [cond_false, ok, Option.some.injEq, Prod.mk.injEq] at hs
        obtain ⟨_, rfl⟩ := hs
        exact alloc_does hE h e hus hti hR
    · cases hs
  · rename_i t x e
    split at hs
    · rename_i ps hps
      cases hus : s.us k with
      | true => rw [hus] at hs; cases hs
      | false =>
        rw [hus] at hs
        simp only [cond_false, ok, Option.some.injEq, Prod.mk.injEq] at hs
        obtain ⟨_, rfl⟩ := hs
        exact box_does h e hus hps hR
    · cases hs
  · rename_i t ps e
    exact build_does hE h e hs hR
  · rename_i t n ps e
    cases hb : wrO wr 3000000 o.dst with
    | true => rw [hb] at hs; exact buildSliceC_does hE h e hs hR
    | false => rw [hb] at hs; exact buildSlice_does hE h e hs hR
  · rename_i t x e
    exact load_does hE h e hs hp hR
  · rename_i t x y e
    split at hs
    · rename_i q s1 hst
      simp only [Option.some.injEq, Prod.mk.injEq] at hs
      obtain ⟨rfl, rfl⟩ := hs
      exact store_does hE h e hst hp hR
    · cases hs
  · rename_i x e
    have hx := h.ev x
    split at hs
    · rename_i k' off hx'
      simp only [ok, Option.some.injEq, Prod.mk.injEq] at hs
      obtain ⟨_, rfl⟩ := hs
      rw [hx'] at hx
      obtain ⟨_, b, _, hl⟩ := SVc.one1 rfl (by simp) hx
      simp only [List.cons.injEq, and_true] at hl
      exact nil_does h e ⟨_, hl⟩ (by rw [hx']; exact hR)
    · rename_i hx'
      simp only [ok, Option.some.injEq, Prod.mk.injEq] at hs
      obtain ⟨_, rfl⟩ := hs
      rw [hx'] at hx
      obtain ⟨_, _, b, _, hl⟩ := SVc.one1 rfl (by simp) hx
      simp only [List.cons.injEq, and_true] at hl
      exact nil_does h e ⟨_, hl⟩ (by rw [hx']; exact hR)
    · rename_i hx'
      simp only [ok, Option.some.injEq, Prod.mk.injEq] at hs
      obtain ⟨_, rfl⟩ := hs
      rw [hx'] at hx
      obtain ⟨_, b, q, n, cp, _, _, hl⟩ := SVc.one1 rfl (by simp) hx
      simp only [List.cons.injEq, and_true] at hl
      exact nil_does h e ⟨_, hl⟩ (by rw [hx']; exact hR)
    · rename_i hx'
      simp only [ok, Option.some.injEq, Prod.mk.injEq] at hs
      obtain ⟨_, rfl⟩ := hs
      rw [hx'] at hx
      obtain ⟨_, _, b, q, n, cp, _, _, hl⟩ := SVc.one1 rfl (by simp) hx
      simp only [List.cons.injEq, and_true] at hl
      exact nil_does h e ⟨_, hl⟩ (by rw [hx']; exact hR)
    · rename_i hx'
      simp only [ok, Option.some.injEq, Prod.mk.injEq] at hs
      obtain ⟨_, rfl⟩ := hs
      rw [hx'] at hx
      obtain ⟨_, _, b, _, hl⟩ := SVc.one1 rfl (by simp) hx
      simp only [List.cons.injEq, and_true] at hl
      exact nil_does h e ⟨_, hl⟩ (by rw [hx']; exact hR)
    · rename_i hx'
      simp only [ok, Option.some.injEq, Prod.mk.injEq] at hs
      obtain ⟨_, rfl⟩ := hs
      rw [hx'] at hx
      obtain ⟨b, q, cs, hl, _⟩ := SVc.one1 rfl (by simp) hx
      simp only [List.cons.injEq, and_true] at hl
      exact nil_does h e ⟨_, hl⟩ (by rw [hx']; exact hR)
    · rename_i hx'
      simp only [ok, Option.some.injEq, Prod.mk.injEq] at hs
      obtain ⟨_, rfl⟩ := hs
      rw [hx'] at hx
      obtain ⟨_, hl⟩ := SVc.one1 rfl (by simp) hx
      simp only [List.cons.injEq, and_true] at hl
      exact nil_does h e ⟨_, hl⟩ (by rw [hx']; exact hR)
    · rename_i hx'
      simp only [ok, Option.some.injEq, Prod.mk.injEq] at hs
      obtain ⟨_, rfl⟩ := hs
      rw [hx'] at hx
      obtain ⟨_, hl⟩ := SVc.one1 rfl (by simp) hx
      simp only [List.cons.injEq, and_true] at hl
      exact nil_does h e ⟨_, hl⟩ (by rw [hx']; exact hR)
    · rename_i pp aa hx'
      simp only [Option.some.injEq, Prod.mk.injEq] at hs
      obtain ⟨rfl, rfl⟩ := hs
      rw [hx'] at hx
      have hl := ref_ptr hx hp
      exact .inl ⟨a.eval x, w, by simp [execOp, e, hl], hR ρ _ _ (h.put o.dst (SVc.of1 (p := .opt pp aa 0) rfl ⟨hp, by rw [hl]⟩))⟩
    · cases hs
  · rename_i op t x y t' e
    split at hs
    · rename_i b hb
      simp only [ok, Option.some.injEq, Prod.mk.injEq] at hs
      obtain ⟨_, rfl⟩ := hs
      exact errNil_does hE h e hb hR
    · exact bin_does hE h e hs hp hR
  · rename_i op t x e
    exact un_does h e hs hp hR
  · rename_i t u x e
    exact convert_does hE h e hs hp hR
  · rename_i fn first caps e
    unfold makeFuncS at hs
    split at hs
    · rename_i f hf
      have hf' : first = #[] := by apply Array.ext'; simpa using hf
      subst hf'
      split at hs
      · rename_i ps hps
        cases hus : s.us k with
        | true => rw [hus] at hs; cases hs
        | false =>
          rw [hus] at hs
          simp only [cond_false, ok, Option.some.injEq, Prod.mk.injEq] at hs
          obtain ⟨_, rfl⟩ := hs
          exact clo_does h e hus hps hR
      · cases hs
    · cases hs
  · rename_i t l c e
    exact make_does hE h e hs hp hR
  · rename_i t r e
    split at hs
    · exact makeMap_does h e hs hR
    · cases hs
  · rename_i t x y z e
    split at hs
    · rename_i q s1 hs1
      simp only [Option.some.injEq, Prod.mk.injEq] at hs
      obtain ⟨_, rfl⟩ := hs
      exact insert_does hE h (by simp [execOp, e]) hs1 hR
    · cases hs
  · rename_i t x y z e
    split at hs
    · rename_i q s1 hs1
      simp only [Option.some.injEq, Prod.mk.injEq] at hs
      obtain ⟨_, rfl⟩ := hs
      exact insert_does hE h (by simp [execOp, e]) hs1 hR
    · cases hs
  · rename_i t x y two e
    exact lookup_does hE h e hs hp hR
  · rename_i t x lo hi mx e
    split at hs
    · cases hA : isArrT E t with
      | true => rw [hA] at hs; exact bsl_does hE h e hs hR
      | false =>
        rw [hA] at hs
        simp only [cond_false] at hs
        cases hb : wrO wr 3000000 o.dst with
        | true => rw [hb] at hs; exact sub2_does hE h e hs hp hR
        | false => rw [hb] at hs; exact slice_does hE h e hs hp hR
    · exact slice3R_does hE h e hs hp hR
  · rename_i t x i e
    exact fieldAddr_does hE h e hs hp hR
  · rename_i t x i e
    exact field_does hE h e hs hR
  · rename_i t x i e
    exact indexAddr_does hE h e hs hp hR
  · rename_i t x i e
    exact index_does hE h e hs hp hR
  · rename_i x i e
    have hx := h.ev x
    split at hs
    · rename_i es hx'
      rw [hx'] at hx
      obtain ⟨vs, hvs, htup⟩ := hx
      split at hs
      · rename_i ps hi
        simp only [ok, Option.some.injEq, Prod.mk.injEq] at hs
        obtain ⟨_, rfl⟩ := hs
        obtain ⟨v, h1, h2⟩ := tupC_get htup hi
        exact extract_does (sv := .agg ps) h e hvs h1 h2 hR
      · rename_i q hi
        obtain ⟨v, h1, h2⟩ := tupC_get htup hi
        cases hq : q.agg with
        | true => rw [hq] at hs; cases hs
        | false =>
          rw [hq] at hs
          simp only [cond_false, ok, Option.some.injEq, Prod.mk.injEq] at hs
          obtain ⟨_, rfl⟩ := hs
          obtain ⟨l1, l2, e1, h3, h4⟩ := h2
          rw [show l2 = [] from h4, List.append_nil] at e1
          exact extract_does h e hvs h1 (SVc.of1 hq (by rw [e1]; exact h3)) hR
      · cases hs
    · cases hs
  · rename_i c e
    unfold builtS at hs
    split at hs
    · rename_i b hcb
      have e' : o.op = .call { callee := .builtin b, args := c.args, argTypes := c.argTypes } := by rw [e, ← hcb]
      split at hs
      · rename_i x t ha ht
        split at hs
        · exact lenMap_does hE h e' ha ht hs hp hR
        · exact len_does hE h e' ha ht hs hR
      · rename_i x y t t' ha ht
        exact delete_does hE h e' ha ht hs hR
      · rename_i x y t t' ha ht
        cases hb : Nat.beq t t' with
        | false => rw [hb] at hs; cases hs
        | true =>
          rw [hb] at hs
          have := Nat.eq_of_beq_eq_true hb
          subst this
          exact append2_does hE h e' ha ht hs hp hR
      · rename_i x t ha ht
        exact clear_does hE h e' ha ht hs hR
      · rename_i x y t t' ha ht
        exact copy_does hE h e' ha ht hs hR
      · rename_i x y ha
        exact max_does (mx := true) h e' ha hs hR
      · rename_i x y ha
        exact max_does (mx := false) h e' ha hs hR
      · rename_i x y z ha
        exact max3_does (mx := true) h e' ha hs hR
      · rename_i x y z ha
        exact max3_does (mx := false) h e' ha hs hR
      · cases hs
    · cases hs
  · cases hs
end
end Go.Sx
/-
  Sx, part S: what one operation looks at, and what it changes.
-/
set_option linter.unusedSimpArgs false
namespace Go.Sx

def PV.names : PV → List Nat
  | .row k => [k]
  | .ptr k _ => [k]
  | .pel k _ _ _ _ _ => [k]
  | .rel k _ _ _ => [k]
  | .rea k _ _ _ _ _ _ _ => [k]
  | .pea k _ _ _ _ _ _ _ _ _ => [k]
  | .clo k => [k]
  | .sub k k' _ _ _ => [k, k']
  | .bsl k _ _ _ => [k]
  | .itr k _ => [k]
  | .opt p _ _ => [poolN p]
  | .oel p _ _ _ _ _ _ => [poolN p]
  | .orp k _ h => (match h with
    | none => [k]
    | some (_, k') => [k, k'])
  | _ => []
def psNames : List PV → List Nat
  | [] => []
  | p :: ps => p.names ++ psNames ps
def tupNames : List (Bool × List PV) → List Nat
  | [] => []
  | e :: es => psNames e.2 ++ tupNames es
def SV.names : SV → List Nat
  | .one p => p.names
  | .agg ps => psNames ps
  | .tup es => tupNames es
  | .cnd _ p => p.names

def apH : List (Nat × Option HE) → (Nat → Option HE) → (Nat → Option HE)
  | [], hp => hp
  | (k, h) :: r, hp => apH r (hset hp k h)
def apU : List Nat → (Nat → Bool) → (Nat → Bool)
  | [], us => us
  | k :: r, us => apU r (uset us k)
def ap (d : Option Nat) (v : SV) (hs : List (Nat × Option HE)) (un : List Nat) (s : St) : St :=
  ({ s with hp := apH hs s.hp, us := apU un s.us } : St).put d v

def Fr (s s' : St) (d : Option Nat) (W : List Nat) (r' : Res) (p : Option Prop) (u : St) : Prop :=
  ∃ v hs un, u = ap d v hs un s ∧ r' = some (p, ap d v hs un s') ∧ (∀ e ∈ hs, e.1 ∈ W) ∧ (∀ n ∈ un, n ∈ W)

theorem Fr.light {s s' : St} {d : Option Nat} {W : List Nat} {p : Option Prop} {v : SV} : Fr s s' d W (some (p, s'.put d v)) p (s.put d v) :=
  ⟨v, [], [], rfl, rfl, by simp, by simp⟩
theorem Fr.new {s s' : St} {d : Option Nat} {W : List Nat} {p : Option Prop} {v : SV} {k : Nat} {h : HE} (hk : k ∈ W) : Fr s s' d W (some (p, (s'.new k h).put d v)) p ((s.new k h).put d v) :=
  ⟨v, [(k, some h)], [k], rfl, rfl, by simpa using hk, by simpa using hk⟩
theorem Fr.renew {s s' : St} {d : Option Nat} {W : List Nat} {p : Option Prop} {v : SV} {j k : Nat} {h : HE} (hj : j ∈ W) (hk : k ∈ W) :
    Fr s s' d W (some (p, ((s'.drop j).new k h).put d v)) p (((s.drop j).new k h).put d v) :=
  ⟨v, [(j, none), (k, some h)], [k], rfl, rfl, by simp [hj, hk], by simpa using hk⟩
theorem Fr.upd {s s' : St} {d : Option Nat} {W : List Nat} {p : Option Prop} {v : SV} {k : Nat} {h : HE} (hk : k ∈ W) : Fr s s' d W (some (p, (s'.upd k h).put d v)) p ((s.upd k h).put d v) :=
  ⟨v, [(k, some h)], [], rfl, rfl, by simpa using hk, by simp⟩

section
variable {E : Env} {s s' : St} {dst : Option Nat} {k : Nat} {p : Option Prop} {u : St} {W : List Nat}

def adrNames : SV → List Nat
  | .one (.d (.ref p) _) => [poolN p]
  | v => v.names
theorem adr_sub {x : SV} {n : Nat} (h : n ∈ x.names) : n ∈ adrNames x := by
  unfold adrNames
  split
  · simp [SV.names, PV.names] at h
  · exact h
theorem locR_frame {x : SV} (hl : ∀ n ∈ adrNames x, s'.hp n = s.hp n) : locR s' x = locR s x := by
  unfold locR
  split
  · rw [hl _ (by simp [adrNames, SV.names, PV.names])]
  · rw [hl _ (by simp [adrNames])]
  · rw [hl _ (by simp [adrNames, SV.names, PV.names])]
  · rfl
theorem locS_frame {x : SV} (hl : ∀ n ∈ x.names, s'.hp n = s.hp n) : locS s' x = locS s x := by
  cases x with
  | one p => cases p <;> simp [SV.names, PV.names] at hl <;> simp [locS, hl]
  | _ => rfl
theorem slD_frame {x : SV} (hl : ∀ n ∈ x.names, s'.hp n = s.hp n) : slD s' x = slD s x := by
  cases x with
  | one p => cases p with
    | d t x => cases t <;> rfl
    | row k => simp [SV.names, PV.names] at hl; simp [slD, hl]
    | sub k k' sz a b => simp [SV.names, PV.names] at hl; simp [slD, hl.1]
    | bsl k off n sz => simp [SV.names, PV.names] at hl; simp [slD, hl]
    | _ => rfl
  | _ => rfl

theorem loadS_frame {t : TypeId} {x : SV} (hl : ∀ n ∈ adrNames x, s'.hp n = s.hp n) (h : loadS E s dst t x = some (p, u)) : Fr s s' dst W (loadS E s' dst t x) p u := by
  unfold loadS at h ⊢
  rw [locS_frame (fun n hn => hl n (adr_sub hn)), locR_frame hl]
  repeat' (split at h)
  all_goals (cases h <;> (try simp only [*]) <;> exact Fr.light)

theorem storeR_frame {x : SV} {n : Nat} {qs : List PV} (hl : ∀ n ∈ adrNames x, s'.hp n = s.hp n ∧ n ∈ W) (h : storeR s n qs x = some (p, u)) :
    ∃ hs, u = { s with hp := apH hs s.hp } ∧ storeR s' n qs x = some (p, { s' with hp := apH hs s'.hp }) ∧ ∀ e ∈ hs, e.1 ∈ W := by
  unfold storeR at h ⊢
  split at h
  · rename_i q a off
    have hk := hl (poolN q) (by simp [adrNames, SV.names, PV.names])
    try dsimp only at h ⊢
    rw [hk.1]
    repeat' (split at h)
    all_goals (cases h <;> (try simp only [*]) <;> exact ⟨[(poolN q, some _)], rfl, rfl, by simpa using hk.2⟩)
  · rename_i q a
    have hk := hl (poolN q) (by simp [adrNames])
    try dsimp only at h ⊢
    rw [hk.1]
    repeat' (split at h)
    all_goals (cases h <;> (try simp only [*]) <;> exact ⟨[(poolN q, some _)], rfl, rfl, by simpa using hk.2⟩)
  · rename_i q a off k sz i j
    have hk := hl (poolN q) (by simp [adrNames, SV.names, PV.names])
    try dsimp only at h ⊢
    rw [hk.1]
    repeat' (split at h)
    all_goals (cases h <;> (try simp only [*]) <;> exact ⟨[(poolN q, some _)], rfl, rfl, by simpa using hk.2⟩)
  · cases h
theorem storeS_frame {t : TypeId} {x y : SV} (hla : ∀ n ∈ adrNames x, s'.hp n = s.hp n ∧ n ∈ W) (h : storeS E s t x y = some (p, u)) :
    ∃ hs, u = { s with hp := apH hs s.hp } ∧ storeS E s' t x y = some (p, { s' with hp := apH hs s'.hp }) ∧ ∀ e ∈ hs, e.1 ∈ W := by
  have hl : ∀ n ∈ x.names, s'.hp n = s.hp n ∧ n ∈ W := fun n hn => hla n (adr_sub hn)
  unfold storeS at h ⊢
  split at h
  · cases x with
    | one q => cases q with
      | ptr k off =>
        have hk := hl k (by simp [SV.names, PV.names])
        dsimp only at h ⊢
        rw [hk.1]
        repeat' (split at h)
        all_goals (cases h <;> (try simp only [*]) <;> exact ⟨[(k, some _)], rfl, rfl, by simpa using hk.2⟩)
      | pel k off n sz i j =>
        have hk := hl k (by simp [SV.names, PV.names])
        dsimp only at h ⊢
        rw [hk.1]
        repeat' (split at h)
        all_goals (cases h <;> (try simp only [*]) <;> exact ⟨[(k, some _)], rfl, rfl, by simpa using hk.2⟩)
      | rel k sz i j =>
        have hk := hl k (by simp [SV.names, PV.names])
        dsimp only at h ⊢
        rw [hk.1]
        split at h
        · rename_i u' xs hx
          cases hb : Nat.beq u'.size sz with
          | false => rw [hb] at h; cases h
          | true =>
            rw [hb] at h
            simp only [cond_true] at h
            repeat' (split at h)
            all_goals (cases h <;> (try simp only [*]) <;> exact ⟨[(k, some _)], rfl, rfl, by simpa using hk.2⟩)
        · cases h
      | rea k sz i j n' sz' i' j' =>
        have hk := hl k (by simp [SV.names, PV.names])
        dsimp only at h ⊢
        rw [hk.1]
        split at h
        · rename_i u' xs hx
          cases hb : Nat.beq u'.size sz with
          | false => rw [hb] at h; cases h
          | true =>
            rw [hb] at h
            simp only [cond_true] at h
            repeat' (split at h)
            all_goals (cases h <;> (try simp only [*]) <;> exact ⟨[(k, some _)], rfl, rfl, by simpa using hk.2⟩)
        · cases h
      | pea k off n sz i j n' sz' i' j' =>
        have hk := hl k (by simp [SV.names, PV.names])
        dsimp only at h ⊢
        rw [hk.1]
        repeat' (split at h)
        all_goals (cases h <;> (try simp only [*]) <;> exact ⟨[(k, some _)], rfl, rfl, by simpa using hk.2⟩)
      | d t y => exact storeR_frame hla h
      | opt q a off => exact storeR_frame hla h
      | oel q a off n sz i j => exact storeR_frame hla h
      | _ => cases h
    | _ => cases h
  · cases h

theorem fieldAddrS_frame {t : TypeId} {x : SV} {i : Nat} (h : fieldAddrS E s dst t x i = some (p, u)) : Fr s s' dst W (fieldAddrS E s' dst t x i) p u := by
  unfold fieldAddrS at h ⊢
  split at h
  · rename_i fo fi hf
    cases hb : Nat.beq fi.size 0 with
    | true => rw [hb] at h; cases h
    | false =>
      rw [hb] at h
      simp only [cond_false] at h ⊢
      repeat' (split at h)
      all_goals (cases h <;> (try simp only [*]) <;> exact Fr.light)
  · cases h
theorem fieldS_frame {t : TypeId} {x : SV} {i : Nat} (h : fieldS E s dst t x i = some (p, u)) : Fr s s' dst W (fieldS E s' dst t x i) p u := by
  unfold fieldS at h ⊢
  split at h
  · rename_i fo fi ps hf hp
    cases hb : x.isAgg with
    | false => rw [hb] at h; cases h
    | true =>
      rw [hb] at h
      simp only [Bool.not_true, cond_false] at h
      repeat' (split at h)
      all_goals (cases h <;> (try simp only [*, Bool.not_true, cond_false]) <;> exact Fr.light)
  · cases h

theorem indexAddrS_frame {t : TypeId} {x ix : SV} {lit : Bool} (hl : ∀ j, x = .one (.row j) → s'.hp j = s.hp j) (h : indexAddrS E lit s dst t x ix = some (p, u)) : Fr s s' dst W (indexAddrS E lit s' dst t x ix) p u := by
  unfold indexAddrS at h ⊢
  split at h
  · cases lit <;> simp only [cond_true, cond_false] at h ⊢ <;> repeat' (split at h)
    all_goals (cases h <;> (try simp only [*]) <;> exact Fr.light)
  · split at h
    · rename_i ei k he
      have hk := hl k rfl
      split at h
      · rename_i uu xs hx
        cases hb : Nat.beq uu.size ei.size with
        | false => rw [hb] at h; cases h
        | true =>
          rw [hb] at h
          simp only [cond_true] at h
          cases h
          simp only [*, cond_true]
          exact Fr.light
      · cases h
    · rename_i ei uu xs he
      cases hb : Nat.beq uu.size ei.size with
      | false => rw [hb] at h; cases h
      | true =>
        rw [hb] at h
        simp only [cond_true] at h
        cases h
        simp only [*, cond_true]
        exact Fr.light
    · rename_i ei kk kk' sz a b he
      cases hb : Nat.beq sz ei.size with
      | false => rw [hb] at h; cases h
      | true =>
        rw [hb] at h
        simp only [cond_true] at h
        cases h
        simp only [*, cond_true]
        exact Fr.light
    · rename_i ei kk off n sz he
      cases hb : Nat.beq sz ei.size with
      | false => rw [hb] at h; cases h
      | true =>
        rw [hb] at h
        simp only [cond_true] at h
        cases h
        simp only [*, cond_true]
        exact Fr.light
    · cases h
  · cases h
theorem indexS_frame {t : TypeId} {x ix : SV} (h : indexS E s dst t x ix = some (p, u)) : Fr s s' dst W (indexS E s' dst t x ix) p u := by
  unfold indexS at h ⊢
  revert h
  cases asStr? x with
  | some l =>
    simp only []
    cases isStrT E t with
    | false => intro h; cases h
    | true =>
      simp only [cond_true]
      intro h
      split at h
      · cases h; (try simp only [*]); exact Fr.light
      · cases h
  | none =>
  simp only []
  intro h
  split at h
  · split at h
    · try simp only [*]
      generalize (x.isAgg && _ && _) = b at h ⊢
      cases b with
      | false => cases h
      | true =>
        simp only [cond_true] at h
        repeat' (split at h)
        all_goals (cases h <;> (try simp only [*, cond_true]) <;> exact Fr.light)
    · cases h
  · cases h
theorem lenS_frame {t : TypeId} {x : SV} (hl : ∀ n ∈ x.names, s'.hp n = s.hp n) (h : lenS E s dst t x = some (p, u)) : Fr s s' dst W (lenS E s' dst t x) p u := by
  unfold lenS at h ⊢
  rw [slD_frame hl]
  revert h
  cases asStr? x with
  | some l =>
    simp only []
    cases isStrT E t with
    | false => intro h; cases h
    | true => intro h; cases h; exact Fr.light
  | none =>
  simp only []
  intro h
  cases hb : isSliceT E t with
  | false => rw [hb] at h; cases h
  | true =>
    rw [hb] at h
    simp only [Bool.not_true, cond_false] at h ⊢
    split at h
    · cases h; exact Fr.light
    · repeat' (split at h)
      all_goals (cases h <;> (try simp only [*]) <;> exact Fr.light)
theorem sliceS_frame {t : TypeId} {x : SV} {lo hi : Option SV} (hl : ∀ n ∈ x.names, s'.hp n = s.hp n ∧ n ∈ W) (hu : s'.us k = s.us k) (hkW : k ∈ W)
    (h : sliceS E s k dst t x lo hi = some (p, u)) : Fr s s' dst W (sliceS E s' k dst t x lo hi) p u := by
  unfold sliceS at h ⊢
  rw [slD_frame fun n hn => (hl n hn).1]
  revert h
  cases asStr? x with
  | some l =>
    simp only []
    cases isStrT E t with
    | false => intro h; cases h
    | true =>
      simp only [cond_true]
      intro h
      split at h
      · cases h; (try simp only [*]); exact Fr.light
      · cases h
  | none =>
  simp only []
  intro h
  split at h
  · rename_i tt xs hx
    cases hb : sliceOf E t tt with
    | false => rw [hb] at h; cases h
    | true =>
      rw [hb] at h
      simp only [Bool.not_true, cond_false] at h ⊢
      split at h
      · rename_i l hh hlo hhi
        simp only [*]
        split at h
        · rename_i j
          have hj := hl j (by simp [SV.names, PV.names])
          cases hus : s.us k with
          | true => rw [hus] at h; cases h
          | false =>
            rw [hus] at h
            simp only [cond_false] at h ⊢
            cases h
            exact Fr.renew hj.2 hkW
        · cases h; exact Fr.light
        · cases h
      · cases h
  · cases h
theorem sliceS_light {t : TypeId} {x : SV} {lo hi : Option SV} (hl : ∀ n ∈ x.names, s'.hp n = s.hp n) (hr : ¬ ∃ j, x = .one (.row j))
    (h : sliceS E s k dst t x lo hi = some (p, u)) : Fr s s' dst W (sliceS E s' k dst t x lo hi) p u := by
  unfold sliceS at h ⊢
  rw [slD_frame hl]
  revert h
  cases asStr? x with
  | some l =>
    simp only []
    cases isStrT E t with
    | false => intro h; cases h
    | true =>
      simp only [cond_true]
      intro h
      split at h
      · cases h; (try simp only [*]); exact Fr.light
      · cases h
  | none =>
  simp only []
  intro h
  split at h
  · rename_i tt xs hx
    cases hb : sliceOf E t tt with
    | false => rw [hb] at h; cases h
    | true =>
      rw [hb] at h
      simp only [Bool.not_true, cond_false] at h ⊢
      split at h
      · rename_i l hh hlo hhi
        try simp only [*]
        split at h
        · exact absurd ⟨_, rfl⟩ hr
        · cases h; exact Fr.light
        · cases h
      · cases h
  · cases h
theorem Fr.use {s s' : St} {d : Option Nat} {W : List Nat} {p : Option Prop} {v : SV} {k : Nat} (hk : k ∈ W) : Fr s s' d W (some (p, ({ s' with us := uset s'.us k } : St).put d v)) p (({ s with us := uset s.us k } : St).put d v) :=
  ⟨v, [], [k], rfl, rfl, by simp, by simpa using hk⟩
theorem subS_frame {t : TypeId} {x : SV} {lo hi : Option SV} (hl : ∀ n ∈ x.names, s'.hp n = s.hp n) (hu : s'.us k = s.us k) (hkW : k ∈ W)
    (h : subS E s k dst t x lo hi = some (p, u)) : Fr s s' dst W (subS E s' k dst t x lo hi) p u := by
  unfold subS at h ⊢
  split at h
  · rename_i j
    have hj := hl j (by simp [SV.names, PV.names])
    simp only [hj]
    split at h
    · rename_i tt xs hx
      rw [hu]
      cases hb : (!(sliceOf E t tt) || s.us k) with
      | true => rw [hb] at h; cases h
      | false =>
        rw [hb] at h
        simp only [cond_false] at h
        split at h
        · cases h
          simp only [*, cond_false]
          exact Fr.use hkW
        · cases h
    · cases h
  · cases h
theorem bslS_frame {t : TypeId} {x : SV} {lo hi : Option SV} (h : bslS E s dst t x lo hi = some (p, u)) : Fr s s' dst W (bslS E s' dst t x lo hi) p u := by
  unfold bslS at h ⊢
  repeat' (split at h)
  all_goals (cases h <;> (try simp only [*]) <;> exact Fr.light)
theorem makeMapS_frame {t : TypeId} (hu : s'.us k = s.us k) (hkW : k ∈ W) (h : makeMapS E s k dst t = some (p, u)) : Fr s s' dst W (makeMapS E s' k dst t) p u := by
  unfold makeMapS at h ⊢
  rw [hu]
  split at h
  · cases hb : s.us k with
    | true => rw [hb] at h; cases h
    | false =>
      rw [hb] at h
      simp only [cond_false] at h ⊢
      split at h
      all_goals (cases h <;> (try simp only [*]) <;> exact Fr.new hkW)
  · cases h
theorem insertS_frame {t : TypeId} {x ix v : SV} (hl : ∀ n ∈ x.names, s'.hp n = s.hp n ∧ n ∈ W) (h : insertS E s t x ix v = some (p, u)) :
    ∃ hs, u = { s with hp := apH hs s.hp } ∧ insertS E s' t x ix v = some (p, { s' with hp := apH hs s'.hp }) ∧ ∀ e ∈ hs, e.1 ∈ W := by
  unfold insertS at h ⊢
  split at h
  · rename_i kk ei kk' i j hm hi
    have hj := hl j (by simp [SV.names, PV.names])
    cases hk : decide (kk = kk') with
    | false => rw [hk] at h; cases h
    | true =>
      rw [hk] at h
      simp only [cond_true, hj.1] at h ⊢
      split at h
      · rename_i kk2 uu xs hx
        cases hg : (decide (kk2 = kk') && !uu.agg) with
        | false => rw [hg] at h; cases h
        | true =>
          rw [hg] at h
          simp only [cond_true] at h ⊢
          split at h
          · cases h
          · rename_i q hq
            cases hqa : q.agg with
            | true => rw [hqa] at h; cases h
            | false =>
              rw [hqa] at h
              simp only [cond_false] at h
              split at h
              · rename_i y hy
                cases h
                refine ⟨[(j, some (.map kk2 uu (mput uu xs i y)))], rfl, ?_, by simpa using hj.2⟩
                try simp only [hm, hi, hk, cond_true, hx, hg]
                cases q <;> first | exact absurd rfl (hq) | (simp only [hqa, cond_false, hy]; rfl)
              · cases h
          · cases h
      · split at h
        case h_2 => cases h
        rename_i hx0 _ kk2 xs hx
        cases hg : decide (kk2 = kk') with
        | false => rw [hg] at h; cases h
        | true =>
          rw [hg] at h
          simp only [cond_true] at h ⊢
          split at h
          · cases h
          · rename_i q hq
            cases hqa : q.agg with
            | true => rw [hqa] at h; cases h
            | false =>
              rw [hqa] at h
              simp only [cond_false] at h
              cases h
              refine ⟨[(j, some (.pmap kk2 (pput xs i q)))], rfl, ?_, by simpa using hj.2⟩
              try simp only [hm, hi, hk, cond_true, hx0, hx, hg]
              cases q <;> first | exact absurd rfl (hq) | (simp only [hqa, cond_false]; rfl)
          · cases h
  · cases h
theorem lookupS_frame {t : TypeId} {x ix : SV} {two : Bool} (hl : ∀ n ∈ x.names, s'.hp n = s.hp n) (h : lookupS E s dst t x ix two = some (p, u)) : Fr s s' dst W (lookupS E s' dst t x ix two) p u := by
  unfold lookupS at h ⊢
  split at h
  · rename_i kk ei kk' i j hm hi
    have hj := hl j (by simp [SV.names, PV.names])
    cases hk : decide (kk = kk') with
    | false => rw [hk] at h; cases h
    | true =>
      rw [hk] at h
      simp only [cond_true, hj] at h ⊢
      split at h
      · rename_i kk2 uu xs hx
        cases hg : (decide (kk2 = kk') && !uu.agg && tyO uu ei.ty) with
        | false => rw [hg] at h; cases h
        | true =>
          rw [hg] at h
          cases two <;> (simp only [cond_true, cond_false] at h; cases h; simp only [hm, hi, hk, hx, hg, cond_true, cond_false]; exact Fr.light)
      · cases h
  · rename_i kk ei kk' i kk2 uu xs hm hi
    cases hg : (decide (kk = kk') && (decide (kk2 = kk') && !uu.agg && tyO uu ei.ty)) with
    | false => rw [hg] at h; cases h
    | true =>
      rw [hg] at h
      cases two <;> (simp only [cond_true, cond_false] at h; cases h; simp only [hm, hi, hg, cond_true, cond_false]; exact Fr.light)
  · cases h
theorem deleteS_frame {t : TypeId} {x ix : SV} (hl : ∀ n ∈ x.names, s'.hp n = s.hp n ∧ n ∈ W) (h : deleteS E s dst t x ix = some (p, u)) : Fr s s' dst W (deleteS E s' dst t x ix) p u := by
  unfold deleteS at h ⊢
  split at h
  · rename_i kk ei kk' i j hm hi
    have hj := hl j (by simp [SV.names, PV.names])
    cases hk : decide (kk = kk') with
    | false => rw [hk] at h; cases h
    | true =>
      rw [hk] at h
      simp only [cond_true, hj.1] at h ⊢
      split at h
      · rename_i kk2 uu xs hx
        cases hg : decide (kk2 = kk') with
        | false => rw [hg] at h; cases h
        | true =>
          rw [hg] at h
          simp only [cond_true] at h
          cases h
          simp only [hm, hi, hk, hx, hg, cond_true]
          exact Fr.upd hj.2
      · cases h
  · cases h
theorem lenMapS_frame {t : TypeId} {x : SV} (hl : ∀ n ∈ x.names, s'.hp n = s.hp n) (h : lenMapS E s dst t x = some (p, u)) : Fr s s' dst W (lenMapS E s' dst t x) p u := by
  unfold lenMapS at h ⊢
  split at h
  · rename_i q j hm
    have hj := hl j (by simp [SV.names, PV.names])
    simp only [hj] at h ⊢
    split at h
    · rename_i hx
      cases h
      try simp only [hm, hx]
      exact Fr.light
    · cases h
  · cases h
theorem appendS_frame {t : TypeId} {x y : SV} (hl : ∀ n ∈ x.names, s'.hp n = s.hp n ∧ n ∈ W) (hy : ∀ n ∈ y.names, s'.hp n = s.hp n) (hu : s'.us k = s.us k) (hkW : k ∈ W)
    (h : appendS E s k dst t x y = some (p, u)) : Fr s s' dst W (appendS E s' k dst t x y) p u := by
  unfold appendS at h ⊢
  rw [slD_frame hy]
  split at h
  · split at h
    · rename_i e _ _ _ _ _ sz by_ _ _ uu he
      dsimp only at h ⊢
      rw [hu]
      cases hb : (!(Nat.beq uu.size sz && Nat.blt 0 sz) || s.us k) with
      | true => rw [hb] at h; cases h
      | false =>
        rw [hb] at h
        simp only [cond_false] at h
        simp only [*, cond_false]
        split at h
        · cases h
        · rename_i ys hys
          split at h
          · cases h
            exact Fr.new hkW
          · rename_i j
            have hj := hl j (by simp [SV.names, PV.names])
            rw [hj.1]
            split at h
            · split at h
              · cases h
                try simp only [*]
                exact Fr.renew hj.2 hkW
              · cases h
            · cases h
          · cases h
    · cases h
  · cases h
theorem buildS_frame {t : TypeId} {ps : List (Nat × SV)} (h : buildS E s dst t ps = some (p, u)) : Fr s s' dst W (buildS E s' dst t ps) p u := by
  unfold buildS at h ⊢
  split at h
  · rename_i fs z _ _
    cases hb : fs.all (fun f => (E.info f.2).isSome) with
    | false => rw [hb] at h; cases h
    | true =>
      rw [hb] at h
      simp only [Bool.not_true, cond_false] at h
      simp only [*, Bool.not_true, cond_false]
      repeat' (split at h)
      all_goals (cases h <;> (try simp only [*]) <;> exact Fr.light)
  · split at h
    · rename_i ei he
      cases hb : Nat.beq _ ei.size with
      | false => rw [hb] at h; cases h
      | true =>
        rw [hb] at h
        simp only [Bool.not_true, cond_false] at h
        simp only [*, Bool.not_true, cond_false]
        split at h
        · cases h; (try simp only [*]); exact Fr.light
        · cases h
    · cases h
  · cases h
theorem buildSliceS_frame {t : TypeId} {len : Nat} {ps : List (Nat × SV)} (hu : s'.us k = s.us k) (hkW : k ∈ W) (h : buildSliceS E s k dst t len ps = some (p, u)) :
    Fr s s' dst W (buildSliceS E s' k dst t len ps) p u := by
  unfold buildSliceS at h ⊢
  rw [hu]
  split at h
  · split at h
    · rename_i sz _ _ _ uu he
      cases hb : (!(Nat.beq uu.size sz && Nat.blt 0 sz && Nat.ble (len * sz) 65536) || s.us k) with
      | true => rw [hb] at h; cases h
      | false =>
        rw [hb] at h
        simp only [cond_false] at h
        simp only [*, cond_false]
        repeat' (split at h)
        all_goals (cases h <;> (try simp only [*]) <;> exact Fr.new hkW)
    · cases h
  · cases h
theorem buildSliceC_frame {t : TypeId} {len : Nat} {ps : List (Nat × SV)} (hl : ∀ i j, ps = [(i, .one (.row j))] → s'.hp j = s.hp j ∧ j ∈ W) (hu : s'.us k = s.us k) (hkW : k ∈ W) (h : buildSliceC E s k dst t len ps = some (p, u)) :
    Fr s s' dst W (buildSliceC E s' k dst t len ps) p u := by
  unfold buildSliceC at h ⊢
  split at h
  · rename_i i j
    obtain ⟨h1, h2⟩ := hl i j rfl
    rw [h1]
    split at h
    · rename_i v xs hj
      unfold buildSliceS at h ⊢
      have hu' : (s'.drop j).us k = (s.drop j).us k := hu
      rw [hu']
      split at h
      · split at h
        · rename_i sz _ _ _ uu he
          cases hb : (!(Nat.beq uu.size sz && Nat.blt 0 sz && Nat.ble (len * sz) 65536) || (s.drop j).us k) with
          | true => rw [hb] at h; cases h
          | false =>
            rw [hb] at h
            simp only [cond_false] at h
            simp only [*, cond_false]
            repeat' (split at h)
            all_goals (cases h <;> (try simp only [*]) <;> exact Fr.renew h2 hkW)
        · cases h
      · cases h
    · cases h
  · cases h
theorem makeS_frame {t : TypeId} {l c : SV} (hu : s'.us k = s.us k) (hkW : k ∈ W) (h : makeS E s k dst t l c = some (p, u)) : Fr s s' dst W (makeS E s' k dst t l c) p u := by
  unfold makeS at h ⊢
  rw [hu]
  split at h
  · split at h
    · rename_i sz by_ _ _ uu he
      cases hb : (!(Nat.beq uu.size sz && Nat.blt 0 sz) || s.us k) with
      | true => rw [hb] at h; cases h
      | false =>
        rw [hb] at h
        simp only [cond_false] at h
        simp only [*, cond_false]
        cases h
        exact Fr.new hkW
    · cases h
  · cases h
theorem unS_frame {op : UnOp} {x : SV} (h : unS s dst op x = some (p, u)) : Fr s s' dst W (unS s' dst op x) p u := by
  unfold unS at h ⊢
  split at h
  all_goals (cases h <;> (try simp only [*]) <;> exact Fr.light)
theorem minmax3S_frame {mx : Bool} {x y z : SV} (h : minmax3S s dst mx x y z = some (p, u)) : Fr s s' dst W (minmax3S s' dst mx x y z) p u := by
  unfold minmax3S at h ⊢
  split at h
  · split at h
    · rename_i hk
      rw [if_pos hk]
      cases h; exact Fr.light
    · cases h
  · cases h
theorem slice3S_frame {t : TypeId} {x : SV} {lo hi : Option SV} {m : SV} (h : slice3S E s dst t x lo hi m = some (p, u)) : Fr s s' dst W (slice3S E s' dst t x lo hi m) p u := by
  unfold slice3S at h ⊢
  split at h
  · rename_i tt xs
    cases hb : sliceOf E t tt with
    | false => rw [hb] at h; cases h
    | true =>
      rw [hb] at h
      simp only [Bool.not_true, cond_false] at h ⊢
      split at h
      · cases h; exact Fr.light
      · cases h
  · cases h
theorem sub2S_frame {t : TypeId} {x : SV} {lo hi : Option SV} (hl : ∀ n ∈ x.names, s'.hp n = s.hp n) (hu : s'.us k = s.us k) (hkW : k ∈ W)
    (h : sub2S E s k dst t x lo hi = some (p, u)) : Fr s s' dst W (sub2S E s' k dst t x lo hi) p u := by
  unfold sub2S at h ⊢
  split at h
  · rename_i j j' sz a b
    have hj := hl j (by simp [SV.names, PV.names])
    simp only [hj]
    split at h
    · rename_i tt xs hx
      rw [hu]
      cases hb : (!(sliceOf E t tt && Nat.beq tt.size sz && Nat.beq a 0) || s.us k) with
      | true => rw [hb] at h; cases h
      | false =>
        rw [hb] at h
        simp only [cond_false] at h
        simp only [hx, hb, cond_false]
        split at h
        · cases h; (try simp only [*]); exact Fr.use hkW
        · cases h
    · cases h
  · exact subS_frame hl hu hkW h
theorem Fr.upduse {s s' : St} {d : Option Nat} {W : List Nat} {p : Option Prop} {v : SV} {j k : Nat} {h : HE} (hj : j ∈ W) (hk : k ∈ W) :
    Fr s s' d W (some (p, ({ s'.upd j h with us := uset s'.us k } : St).put d v)) p (({ s.upd j h with us := uset s.us k } : St).put d v) :=
  ⟨v, [(j, some h)], [k], rfl, rfl, by simpa using hj, by simpa using hk⟩
theorem slice3R_frame {t : TypeId} {x : SV} {lo hi : Option SV} {m : SV} (hl : ∀ n ∈ x.names, s'.hp n = s.hp n) (h : slice3R E s dst t x lo hi m = some (p, u)) : Fr s s' dst W (slice3R E s' dst t x lo hi m) p u := by
  unfold slice3R at h ⊢
  split at h
  · rename_i j
    have hj := hl j (by simp [SV.names, PV.names])
    simp only [hj]
    split at h
    · rename_i tt xs hx
      cases hb : sliceOf E t tt with
      | false => rw [hb] at h; cases h
      | true =>
        rw [hb] at h
        try simp only [hx, hb]
        simp only [Bool.not_true, cond_false] at h ⊢
        split at h
        · cases h; (try simp only [*]); exact Fr.light
        · cases h
    · cases h
  · exact slice3S_frame h
theorem copyS_frame {t : TypeId} {x y : SV} (hl : ∀ n ∈ x.names, s'.hp n = s.hp n ∧ n ∈ W) (hy : ∀ n ∈ y.names, s'.hp n = s.hp n) (h : copyS E s dst t x y = some (p, u)) : Fr s s' dst W (copyS E s' dst t x y) p u := by
  unfold copyS at h ⊢
  rw [slD_frame hy]
  split at h
  · rename_i e _ _ hti
    split at h
    · rename_i sz _ _ _ uu he
      split at h
      · rename_i u' ys0 hyy
        split at h
        · rename_i ys hys
          cases hb : (!(Nat.beq uu.size sz && Nat.blt 0 sz)) with
          | true => rw [hb] at h; cases h
          | false =>
            rw [hb] at h
            simp only [cond_false] at h
            split at h
            · rename_i j
              have hj := hl j (by simp [SV.names, PV.names])
              split at h
              · rename_i u2 xs0 hx
                split at h
                · rename_i xs hxs
                  cases h
                  simp only [hti, he, hyy, hys, hb, cond_false, hj.1, hx, hxs]
                  exact Fr.upd hj.2
                · cases h
              · cases h
            · rename_i j j' sz' a b
              have hj := hl j (by simp [SV.names, PV.names])
              split at h
              · rename_i u2 xs0 hx
                split at h
                · rename_i xs hxs
                  cases hz : Nat.beq sz' sz with
                  | false => rw [hz] at h; cases h
                  | true =>
                    rw [hz] at h
                    cases h
                    simp only [hti, he, hyy, hys, hb, cond_false, hj.1, hx, hxs, hz, cond_true]
                    exact Fr.upd hj.2
                · cases h
              · cases h
            · cases h
        · cases h
      · cases h
    · cases h
  · cases h
theorem clearS_frame {t : TypeId} {x : SV} (hl : ∀ n ∈ x.names, s'.hp n = s.hp n ∧ n ∈ W) (h : clearS E s dst t x = some (p, u)) : Fr s s' dst W (clearS E s' dst t x) p u := by
  unfold clearS at h ⊢
  split at h
  · rename_i j j' sz a b
    have hj := hl j (by simp [SV.names, PV.names])
    simp only [hj.1]
    split at h
    · split at h
      · rename_i sz2 _ _ _ uu he
        split at h
        · rename_i u2 xs hx
          split at h
          · rename_i xs2 hc
            try simp only [hx, hc]
            cases hb : (!(Nat.beq uu.size sz2 && Nat.beq sz sz2)) with
            | true => rw [hb] at h; cases h
            | false =>
              rw [hb] at h
              simp only [cond_false] at h
              simp only [*, cond_false]
              cases h
              exact Fr.upd hj.2
          · cases h
        · cases h
      · cases h
    · cases h
  · cases h
theorem append2S_frame {t : TypeId} {x y : SV} (hl : ∀ n ∈ x.names, s'.hp n = s.hp n ∧ n ∈ W) (hy : ∀ n ∈ y.names, s'.hp n = s.hp n) (hu : s'.us k = s.us k) (hkW : k ∈ W)
    (h : append2S E s k dst t x y = some (p, u)) : Fr s s' dst W (append2S E s' k dst t x y) p u := by
  unfold append2S at h ⊢
  split at h
  · rename_i j j' sz a b
    have hj := hl j (by simp [SV.names, PV.names])
    simp only [hj.1]
    rw [slD_frame hy]
    split at h
    · split at h
      · rename_i sz2 _ _ _ uu he
        split at h
        · rename_i u1 ys u2 xs hyy hx
          split at h
          · rename_i ys2 xs2 hc1 hc2
            try simp only [hx, hyy, hc1, hc2]
            rw [hu]
            cases hb : (!(Nat.beq uu.size sz2 && Nat.beq sz sz2 && Nat.beq a 0) || s.us k) with
            | true => rw [hb] at h; cases h
            | false =>
              rw [hb] at h
              simp only [cond_false] at h
              simp only [*, cond_false]
              cases h
              exact Fr.upduse hj.2 hkW
          · cases h
        · cases h
      · cases h
    · cases h
  · exact appendS_frame hl hy hu hkW h
theorem minmaxS_frame {mx : Bool} {x y : SV} (h : minmaxS s dst mx x y = some (p, u)) : Fr s s' dst W (minmaxS s' dst mx x y) p u := by
  unfold minmaxS at h ⊢
  repeat' (split at h)
  all_goals (cases h <;> (try simp only [*]) <;> exact Fr.light)
theorem binS_frame {wr : Bool} {op : BinOp} {t : TypeId} {x y : SV} (h : binS E wr s dst op t x y = some (p, u)) : Fr s s' dst W (binS E wr s' dst op t x y) p u := by
  unfold binS at h ⊢
  split at h
  · repeat' (split at h)
    all_goals (cases h <;> (try simp only [*]) <;> exact Fr.light)
  · split at h
    · cases hb : isBoolT E t with
      | false => rw [hb] at h; cases h
      | true =>
        rw [hb] at h
        simp only [Bool.not_true, cond_false] at h
        repeat' (split at h)
        all_goals (cases h <;> (try simp only [*, Bool.not_true, cond_false]) <;> exact Fr.light)
    · repeat' (split at h)
      all_goals (cases h <;> (try simp only [*]) <;> exact Fr.light)
theorem convertS_frame {wr : Bool} {t t' : TypeId} {x : SV} (hl : ∀ n ∈ x.names, s'.hp n = s.hp n) (h : convertS E wr s dst t t' x = some (p, u)) : Fr s s' dst W (convertS E wr s' dst t t' x) p u := by
  unfold convertS at h ⊢
  rw [slD_frame hl]
  revert h
  cases asInt? x with
  | some q =>
    simp only []
    intro h
    split at h
    · (try simp only [*])
      cases wr <;> cases h <;> exact Fr.light
    · cases h
  | none =>
    simp only []
    cases asStr? x with
    | some l =>
      simp only []
      cases isStrT E t with
      | false => intro h; cases h
      | true =>
        cases isStrT E t' with
        | true => intro h; cases h; exact Fr.light
        | false =>
          cases isBytesT E t' with
          | false => intro h; cases h
          | true => intro h; cases h; exact Fr.light
    | none =>
      simp only []
      cases isBytesT E t && isStrT E t' with
      | false => intro h; cases h
      | true =>
        simp only [cond_true]
        intro h
        repeat' (split at h)
        all_goals (cases h <;> (try simp only [*]) <;> exact Fr.light)

def optL : Option Operand → List Operand
  | none => []
  | some x => [x]
def opsOf : Op → List Operand
  | .move x => [x]
  | .assign x => [x]
  | .box _ x => [x]
  | .load _ x => [x]
  | .nilCheck x => [x]
  | .unOp _ _ x => [x]
  | .convert _ _ x => [x]
  | .fieldAddr _ x _ => [x]
  | .field _ x _ => [x]
  | .extract x _ => [x]
  | .pick c x y => [c, x, y]
  | .build _ ps => ps.toList.map (fun p => p.2)
  | .buildSlice _ _ ps => ps.toList.map (fun p => p.2)
  | .store _ x y => [x, y]
  | .binOp _ _ x y _ => [x, y]
  | .makeSlice _ x y => [x, y]
  | .insert _ x y z => [x, y, z]
  | .mapUpdate _ x y z => [x, y, z]
  | .lookup _ x y _ => [x, y]
  | .indexAddr _ x y => [x, y]
  | .index _ x y => [x, y]
  | .makeFunc _ _ caps => caps.toList
  | .slice _ x lo hi mx => x :: (optL lo ++ (optL hi ++ optL mx))
  | .call c => (match c.callee with
    | .value x => x :: c.args.toList
    | _ => c.args.toList)
  | _ => []
def namesOf (s : St) : List Operand → List Nat
  | [] => []
  | x :: r => (ev s x).names ++ namesOf s r
def opN (s : St) : Op → List Nat
  | .fieldAddr _ _ _ => []
  | .move _ => []
  | .assign _ => []
  | .nilCheck _ => []
  | .load _ x => adrNames (ev s x)
  | .store _ x y => adrNames (ev s x) ++ (ev s y).names
  | .indexAddr _ x _ => (match ev s x with
    | .one (.row j) => [j]
    | _ => [])
  | o => namesOf s (opsOf o)
def opF (s : St) (k : Nat) (o : Op) : List Nat := k :: opN s o
def opW (lz : Bool) (s : St) (k : Nat) : Op → List Nat
  | .alloc _ => [k]
  | .box _ _ => [k]
  | .buildSlice _ _ ps => bif lz then k :: namesOf s (ps.toList.map (fun p => p.2)) else [k]
  | .makeSlice _ _ _ => [k]
  | .makeFunc _ _ _ => [k]
  | .store _ x _ => adrNames (ev s x)
  | .makeMap _ _ => [k]
  | .insert _ x _ _ => (ev s x).names
  | .mapUpdate _ x _ _ => (ev s x).names
  | .slice _ x _ _ _ => (match ev s x with
    | .one (.row j) => bif lz then [k] else [k, j]
    | .one (.sub _ _ _ _ _) => [k]
    | _ => [])
  | .call c => (match c.callee with
    | .builtin .delete => (match c.args.toList with
      | x :: _ => (ev s x).names
      | [] => [])
    | .builtin .clear => (match c.args.toList with
      | x :: _ => (ev s x).names
      | [] => [])
    | .builtin .copy => (match c.args.toList with
      | x :: _ => (ev s x).names
      | [] => [])
    | .builtin .append => (match c.args.toList with
      | x :: _ => k :: (ev s x).names
      | [] => [k])
    | .value _ => [k]
    | _ => [])
  | _ => []

theorem mem_namesOf {s : St} : ∀ {l : List Operand} {x : Operand} {n : Nat}, x ∈ l → n ∈ (ev s x).names → n ∈ namesOf s l
  | y :: l, x, n, hx, hn => by
    unfold namesOf
    rcases List.mem_cons.1 hx with e | hx
    · exact List.mem_append_left _ (e ▸ hn)
    · exact List.mem_append_right _ (mem_namesOf hx hn)

theorem opS_frame {wr : Nat → Bool} {o : Oper} (hev : ∀ x ∈ opsOf o.op, ev s' x = ev s x) (hn : ∀ n ∈ opF s k o.op, s'.hp n = s.hp n ∧ s'.us n = s.us n)
    (h : opS E wr s k o = some (p, u)) : Fr s s' o.dst (opW (wrO wr 3000000 o.dst) s k o.op) (opS E wr s' k o) p u := by
  have hk := hn k (by simp [opF])
  have hnm0 : ∀ op, o.op = op → opN s op = namesOf s (opsOf op) → ∀ x ∈ opsOf op, ∀ n ∈ (ev s x).names, s'.hp n = s.hp n := fun op e e2 x hx n hxn =>
    (hn n (by rw [opF, e, e2]; exact List.mem_cons_of_mem _ (mem_namesOf hx hxn))).1
  unfold opS at h ⊢
  cases ho : o.op with
  | move x =>
    rw [ho] at hev h
    simp only [hev x (by simp [opsOf])] at h ⊢
    cases h; exact Fr.light
  | assign x =>
    rw [ho] at hev h
    simp only [hev x (by simp [opsOf])] at h ⊢
    cases h; exact Fr.light
  | pick c x y =>
    rw [ho] at hev h
    simp only [hev x (by simp [opsOf]), hev y (by simp [opsOf]), hev c (by simp [opsOf])] at h ⊢
    unfold pickS at h ⊢
    repeat' (split at h)
    all_goals (cases h <;> (try simp only [*]) <;> exact Fr.light)
  | alloc e =>
    rw [ho] at h
    simp only [] at h ⊢
    rw [hk.2]
    split at h
    · cases hu : s.us k with
      | true => rw [hu] at h; cases h
      | false => rw [hu] at h; cases h; (try simp only [*]); exact Fr.new (by simp [opW])
    · cases h
  | box t x =>
    rw [ho] at hev h
    simp only [hev x (by simp [opsOf])] at h ⊢
    rw [hk.2]
    split at h
    · cases hu : s.us k with
      | true => rw [hu] at h; cases h
      | false => rw [hu] at h; cases h; (try simp only [*]); exact Fr.new (by simp [opW])
    · cases h
  | build t ps =>
    rw [ho] at hev h
    have e : ps.toList.map (fun p => (p.1, ev s' p.2)) = ps.toList.map (fun p => (p.1, ev s p.2)) := List.map_congr_left fun q hq => by
      rw [hev q.2 (by simpa [opsOf] using ⟨q.1, by simpa using hq⟩)]
    simp only [e] at h ⊢
    exact buildS_frame h
  | buildSlice t n ps =>
    rw [ho] at hev h
    have e : ps.toList.map (fun p => (p.1, ev s' p.2)) = ps.toList.map (fun p => (p.1, ev s p.2)) := List.map_congr_left fun q hq => by
      rw [hev q.2 (by simpa [opsOf] using ⟨q.1, by simpa using hq⟩)]
    simp only [e] at h ⊢
    cases hb : wrO wr 3000000 o.dst with
    | false =>
      rw [hb] at h
      exact buildSliceS_frame hk.2 (by simp [opW]) h
    | true =>
      rw [hb] at h
      simp only [cond_true] at h ⊢
      refine buildSliceC_frame (fun i j hj => ?_) hk.2 (by simp [opW]) h
      have hnm : j ∈ namesOf s (ps.toList.map (fun p => p.2)) := by
        have hm : (i, SV.one (.row j)) ∈ ps.toList.map (fun p => (p.1, ev s p.2)) := by rw [hj]; simp
        obtain ⟨q, hq, he⟩ := List.mem_map.1 hm
        have he2 : ev s q.2 = .one (.row j) := congrArg Prod.snd he
        exact mem_namesOf (x := q.2) (List.mem_map.2 ⟨q, hq, rfl⟩) (by rw [he2]; simp [SV.names, PV.names])
      exact ⟨(hn j (by rw [opF, ho]; exact List.mem_cons_of_mem _ hnm)).1, by simp [opW, hnm]⟩
  | load t x =>
    rw [ho] at hev h
    simp only [hev x (by simp [opsOf])] at h ⊢
    exact loadS_frame (fun n hnn => (hn n (by rw [opF, ho]; exact List.mem_cons_of_mem _ hnn)).1) h
  | store t x y =>
    rw [ho] at hev h
    simp only [hev x (by simp [opsOf]), hev y (by simp [opsOf])] at h ⊢
    split at h
    · rename_i q t' hq
      cases h
      obtain ⟨hs, e1, e2, e3⟩ := storeS_frame (s' := s') (W := adrNames (ev s x)) (fun n hnn => ⟨(hn n (by rw [opF, ho]; exact List.mem_cons_of_mem _ (List.mem_append_left _ hnn))).1, hnn⟩) hq
      rw [e2, e1]
      exact ⟨.one .any, hs, [], rfl, rfl, by simpa [opW] using e3, by simp⟩
    · cases h
  | nilCheck x =>
    rw [ho] at hev h
    simp only [hev x (by simp [opsOf])] at h ⊢
    split at h
    all_goals (cases h <;> (try simp only [*]) <;> exact Fr.light)
  | binOp op t x y sh =>
    rw [ho] at hev h
    simp only [hev x (by simp [opsOf]), hev y (by simp [opsOf])] at h ⊢
    split at h
    · cases h; (try simp only [*]); exact Fr.light
    · exact binS_frame h
  | unOp op t x =>
    rw [ho] at hev h
    simp only [hev x (by simp [opsOf])] at h ⊢
    exact unS_frame h
  | convert t t' x =>
    rw [ho] at hev h
    have hnm := hnm0 _ ho rfl
    simp only [hev x (by simp [opsOf])] at h ⊢
    exact convertS_frame (hnm x (by simp [opsOf])) h
  | makeFunc fn first caps =>
    rw [ho] at hev h
    have e : caps.toList.map (ev s') = caps.toList.map (ev s) := List.map_congr_left fun q hq => hev q (by simpa [opsOf] using hq)
    simp only [makeFuncS, e] at h ⊢
    rw [hk.2]
    split at h
    · split at h
      · cases hu : s.us k with
        | true => rw [hu] at h; cases h
        | false => rw [hu] at h; cases h; (try simp only [*]); exact Fr.new (by simp [opW])
      · cases h
    · cases h
  | makeSlice t l c =>
    rw [ho] at hev h
    simp only [hev l (by simp [opsOf]), hev c (by simp [opsOf])] at h ⊢
    exact makeS_frame hk.2 (by simp [opW]) h
  | makeMap t r =>
    rw [ho] at h
    simp only [] at h ⊢
    cases r with
    | some _ => cases h
    | none => exact makeMapS_frame hk.2 (by simp [opW]) h
  | insert t x y z =>
    rw [ho] at hev h
    have hnm := hnm0 _ ho rfl
    simp only [hev x (by simp [opsOf]), hev y (by simp [opsOf]), hev z (by simp [opsOf])] at h ⊢
    split at h
    · rename_i q s1 hs1
      cases h
      obtain ⟨hs, e1, e2, e3⟩ := insertS_frame (W := (ev s x).names) (fun n hnn => ⟨hnm x (by simp [opsOf]) n hnn, hnn⟩) hs1
      subst e1
      rw [e2]
      exact ⟨.one .any, hs, [], rfl, rfl, by simpa [opW] using e3, by simp⟩
    · cases h
  | mapUpdate t x y z =>
    rw [ho] at hev h
    have hnm := hnm0 _ ho rfl
    simp only [hev x (by simp [opsOf]), hev y (by simp [opsOf]), hev z (by simp [opsOf])] at h ⊢
    split at h
    · rename_i q s1 hs1
      cases h
      obtain ⟨hs, e1, e2, e3⟩ := insertS_frame (W := (ev s x).names) (fun n hnn => ⟨hnm x (by simp [opsOf]) n hnn, hnn⟩) hs1
      subst e1
      rw [e2]
      exact ⟨.one .any, hs, [], rfl, rfl, by simpa [opW] using e3, by simp⟩
    · cases h
  | lookup t x y two =>
    rw [ho] at hev h
    have hnm := hnm0 _ ho rfl
    simp only [hev x (by simp [opsOf]), hev y (by simp [opsOf])] at h ⊢
    exact lookupS_frame (hnm x (by simp [opsOf])) h
  | slice t x lo hi mx =>
    rw [ho] at hev h
    have hnm := hnm0 _ ho rfl
    have e1 : lo.map (ev s') = lo.map (ev s) := by cases lo with
      | none => rfl
      | some z => simp only [Option.map_some]; rw [hev z (by simp [opsOf, optL])]
    have e2 : hi.map (ev s') = hi.map (ev s) := by cases hi with
      | none => rfl
      | some z => simp only [Option.map_some]; rw [hev z (by simp [opsOf, optL])]
    simp only [hev x (by simp [opsOf]), e1, e2] at h ⊢
    have hx := hnm x (by simp [opsOf])
    cases mx with
    | some m =>
      simp only [hev m (by simp [opsOf, optL])] at h ⊢
      exact slice3R_frame hx h
    | none =>
      simp only [opW]
      cases hA : isArrT E t with
      | true => simp only [hA, cond_true] at h ⊢; exact bslS_frame h
      | false =>
      simp only [hA, cond_false] at h ⊢
      cases hz : wrO wr 3000000 o.dst with
      | true =>
        simp only [hz, cond_true] at h ⊢
        have hr : (∃ j, ev s x = .one (.row j)) ∨ ∃ j j' z a b, ev s x = .one (.sub j j' z a b) := by
          unfold sub2S at h
          split at h
          · rename_i j j' z a b hj; exact .inr ⟨j, j', z, a, b, hj⟩
          · unfold subS at h
            split at h
            · rename_i j hj; exact .inl ⟨j, hj⟩
            · cases h
        rcases hr with ⟨j, hj⟩ | ⟨j, j', z, a, b, hj⟩
        · simp only [hj] at h hx ⊢
          exact sub2S_frame hx hk.2 (by simp) h
        · simp only [hj] at h hx ⊢
          exact sub2S_frame hx hk.2 (by simp) h
      | false =>
      simp only [hz, cond_false] at h ⊢
      by_cases hr : ∃ j, ev s x = .one (.row j)
      · obtain ⟨j, hj⟩ := hr
        simp only [hj] at h hx ⊢
        exact sliceS_frame (fun n hnn => ⟨hx n hnn, by simp [SV.names, PV.names] at hnn; simp [hnn]⟩) hk.2 (by simp) h
      · exact sliceS_light hx hr h
  | fieldAddr t x i =>
    rw [ho] at hev h
    simp only [hev x (by simp [opsOf])] at h ⊢
    exact fieldAddrS_frame h
  | field t x i =>
    rw [ho] at hev h
    simp only [hev x (by simp [opsOf])] at h ⊢
    exact fieldS_frame h
  | indexAddr t x i =>
    have hnr : ∀ j, ev s x = .one (.row j) → s'.hp j = s.hp j := fun j e => (hn j (by rw [opF, ho]; simp only [opN, e]; simp)).1
    rw [ho] at hev h
    simp only [hev x (by simp [opsOf]), hev i (by simp [opsOf])] at h ⊢
    exact indexAddrS_frame hnr h
  | index t x i =>
    rw [ho] at hev h
    simp only [hev x (by simp [opsOf]), hev i (by simp [opsOf])] at h ⊢
    exact indexS_frame h
  | extract x i =>
    rw [ho] at hev h
    simp only [hev x (by simp [opsOf])] at h ⊢
    split at h
    · split at h
      · cases h; (try simp only [*]); exact Fr.light
      · rename_i es _ q hq
        (try simp only [*])
        cases hg : q.agg with
        | true => rw [hg] at h; cases h
        | false => rw [hg] at h; cases h; exact Fr.light
      · cases h
    · cases h
  | call c =>
    rw [ho] at hev h
    have hnm := hnm0 _ ho rfl
    simp only [] at h ⊢
    unfold builtS at h ⊢
    split at h
    · rename_i b hc
      simp only [opsOf, hc] at hev hnm
      simp only [opW, hc]
      generalize c.args.toList = as at h hev hnm
      generalize c.argTypes.toList = ts at h
      split at h
      · rename_i x t
        simp only [hev x (by simp)] at h ⊢
        split at h
        · rename_i q hq
          try simp only [hq]
          exact lenMapS_frame (hnm x (by simp)) h
        · rename_i hq
          try simp only [hq]
          exact lenS_frame (hnm x (by simp)) h
      · rename_i x y t t'
        simp only [hev x (by simp), hev y (by simp)] at h ⊢
        exact deleteS_frame (fun n hnn => ⟨hnm x (by simp) n hnn, hnn⟩) h
      · rename_i x y t t'
        simp only [hev x (by simp), hev y (by simp)] at h ⊢
        cases ht : Nat.beq t t' with
        | false => rw [ht] at h; cases h
        | true =>
          rw [ht] at h
          simp only [cond_true] at h ⊢
          exact append2S_frame (fun n hnn => ⟨hnm x (by simp) n hnn, by simp [hnn]⟩) (hnm y (by simp)) hk.2 (by simp) h
      · rename_i x t
        simp only [hev x (by simp)] at h ⊢
        exact clearS_frame (fun n hnn => ⟨hnm x (by simp) n hnn, hnn⟩) h
      · rename_i x y t t'
        simp only [hev x (by simp), hev y (by simp)] at h ⊢
        exact copyS_frame (fun n hnn => ⟨hnm x (by simp) n hnn, hnn⟩) (hnm y (by simp)) h
      · rename_i x y
        simp only [hev x (by simp), hev y (by simp)] at h ⊢
        exact minmaxS_frame h
      · rename_i x y
        simp only [hev x (by simp), hev y (by simp)] at h ⊢
        exact minmaxS_frame h
      · rename_i x y z
        simp only [hev x (by simp), hev y (by simp), hev z (by simp)] at h ⊢
        exact minmax3S_frame h
      · rename_i x y z
        simp only [hev x (by simp), hev y (by simp), hev z (by simp)] at h ⊢
        exact minmax3S_frame h
      · cases h
    · cases h
  | _ => rw [ho] at h; cases h
end
end Go.Sx
/-
  Sx, part O: the executor for code: regions, calls, branches, loops.
-/
namespace Go.Sx

@[reducible] def HL : List Ty → Type
  | [] => Unit
  | t :: ts => t.D × HL ts

structure Ctr where
  as : List Ty
  rs : List Ty
  pre : HL as → Prop
  f : HL as → HL rs
  own : Bool

structure Holds (p : Prop) : Prop where
  out : p

structure Inv where
  slots : List (Nat × SV)
  heap : List (Nat × HE)
  nx : Nat
structure Ann where
  G : Type
  ok : St → G → Prop
  m : St → G → Nat
  inv : St → G → Inv
  pick : St → St → Option G
  lens : G → Prop
  told : ∀ (w0 : Base) (ρ : Nat → Value) (s0 s : St) (a : Act) (w : World) (g : G), Ok w0 ρ s a w → pick s0 s = some g → lens g

structure Prc where
  n : Nat
  G : Type
  inv : G → Inv
  pick : St → Option G
  lens : G → Prop
  told : ∀ (w0 : Base) (ρ : Nat → Value) (s : St) (a : Act) (w : World) (g : G), Ok w0 ρ s a w → pick s = some g → lens g
  pre : G → Prop
  rs : List Ty
  f : G → G × HL rs
structure Fx where
  E : Env
  wr : Nat → Nat → Bool
  K : Nat → Option Ctr
  KF : Nat → Nat → Option Ctr
  fn : Nat → Option Func
  loops : Nat → Nat → Option Ann
  cuts : Nat → Nat → List Ann
  PR : Nat → Option Prc
  KN : Nat → Option Ctr := fun _ => none
  KC : Nat → Nat → List Nat → Option Ctr := fun _ _ _ => none
  PO : Nat → Option (Prc × Nat) := fun _ => none

inductive AEx where
  | normal
  | exit (id : Nat)
  | ret

def noSl : Ty → Bool
  | .sl _ => false
  | .arr _ t => noSl t
  | .pair a b => noSl a && noSl b
  | .mp _ _ => false
  | _ => true

def PV.res (s : St) : PV → PV
  | .row k => (match s.hp k with
    | some (.row t xs) => .d (.sl t) xs
    | some (.map kk t xs) => .d (.mp kk t) xs
    | _ => .row k)
  | .sub k k' sz a b => (match slD s (.one (.sub k k' sz a b)) with
    | some ⟨t, xs⟩ => .d (.sl t) xs
    | none => .sub k k' sz a b)
  | .bsl k off n sz => (match slD s (.one (.bsl k off n sz)) with
    | some ⟨t, xs⟩ => .d (.sl t) xs
    | none => .bsl k off n sz)
  | p => p
def rdArg (s : St) (bor : Bool) (t : Ty) (v : SV) : Option t.D :=
  match v.parts with
  | some ps => bif Bool.xor v.isAgg t.agg then none else rdAll t (bif bor then ps.map (PV.res s) else ps)
  | none => none
def rdArgs (s : St) (bor : Bool) : (as : List Ty) → List SV → Option (HL as)
  | [], [] => some ()
  | t :: ts, v :: vs => (match rdArg s bor t v with
    | some x => (match rdArgs s bor ts vs with
      | some y => some (x, y)
      | none => none)
    | none => none)
  | _, _ => none
def tupR : (rs : List Ty) → HL rs → List (Bool × List PV)
  | [], _ => []
  | t :: ts, x => (t.agg, [.d t x.1]) :: tupR ts x.2
def resR : (rs : List Ty) → HL rs → SV
  | [t], x => .one (.d t x.1)
  | rs, x => .tup (tupR rs x)

def PV.frz (k : Nat) (t : Ty) (xs : List t.D) : PV → PV
  | .row k' => bif Nat.beq k' k then .d (.sl t) xs else .row k'
  | p => p
def SV.frz (k : Nat) (t : Ty) (xs : List t.D) : SV → SV
  | .one p => .one (p.frz k t xs)
  | .agg ps => .agg (ps.map (PV.frz k t xs))
  | .tup es => .tup (es.map fun e => (e.1, e.2.map (PV.frz k t xs)))
  | .cnd b p => .cnd b (p.frz k t xs)
def HE.frz (k : Nat) (t : Ty) (xs : List t.D) : HE → HE
  | .box ps => .box (ps.map (PV.frz k t xs))
  | .clo f ps => .clo f (ps.map (PV.frz k t xs))
  | h => h
def St.frz (s : St) (k : Nat) : St :=
  match s.hp k with
  | some (.row t xs) => { s with fr := s.fr.map (SV.frz k t xs), bk := s.bk.map (SV.frz k t xs), hp := fun n => bif Nat.beq n k then none else (match s.hp n with
      | some h => some (h.frz k t xs)
      | none => none) }
  | _ => s
def PV.rot (k : Nat) : PV → PV
  | .sub j k' sz a b => bif Nat.beq k' k then .row k' else .sub j k' sz a b
  | p => p
def SV.rot (k : Nat) : SV → SV
  | .one p => .one (p.rot k)
  | .agg ps => .agg (ps.map (PV.rot k))
  | .tup es => .tup (es.map fun e => (e.1, e.2.map (PV.rot k)))
  | .cnd b p => .cnd b (p.rot k)
def HE.rot (k : Nat) : HE → HE
  | .box ps => .box (ps.map (PV.rot k))
  | .clo f ps => .clo f (ps.map (PV.rot k))
  | h => h
def St.rot (s : St) (k : Nat) : St :=
  { s with fr := s.fr.map (SV.rot k), bk := s.bk.map (SV.rot k), hp := fun n => (match s.hp n with
      | some h => some (h.rot k)
      | none => none) }
def freeN (s : St) (k : Nat) : Bool := s.us k && (match s.hp k with
  | none => true
  | some _ => false)
def root1 (s : St) (k k' sz a b : Nat) : St :=
  match s.hp k with
  | some (.row t xs) => bif Nat.beq t.size sz && freeN s k' then St.rot ((s.drop k).upd k' (.row t ((xs.take b).drop a))) k' else s
  | _ => s
def rootL (sk : Nat → Bool) : Nat → List SV → St → St
  | _, [], s => s
  | i, .one (.sub k k' sz a b) :: r, s => rootL sk (i + 1) r (bif sk i then s else root1 s k k' sz a b)
  | i, _ :: r, s => rootL sk (i + 1) r s
def rootAll (sk : Nat → Bool) (s : St) : St := rootL sk 0 s.fr s

def rowsOf : List PV → List Nat
  | [] => []
  | .row k :: r => k :: rowsOf r
  | _ :: r => rowsOf r
def rowsOfArgs : List SV → List Nat
  | [] => []
  | v :: r => (match v.parts with
    | some ps => rowsOf ps ++ rowsOfArgs r
    | none => rowsOfArgs r)

def ownOk : List Ty → Bool
  | .sl _ :: _ => true
  | _ => false
def ownFl : List Ty → Bool
  | .sl t :: r => noSl t && r.all noSl
  | _ => true
def ownR (k : Nat) : (rs : List Ty) → HL rs → Option (SV × HE)
  | [.sl t], x => some (.one (.row k), .row t x.1)
  | .sl t :: u :: r, x => some (.tup ((false, [.row k]) :: tupR (u :: r) x.2), .row t x.1)
  | _, _ => none
def ctrS (c : Ctr) (k : Nat) (s : St) (args : List SV) (K : SV → St → Prop) : Prop :=
  bif c.own then
    bif ownOk c.rs && !(s.us k) then
      bif ownFl c.rs then (match rdArgs s true c.as args with
      | some x => (match ownR k c.rs (c.f x) with
        | some (v, he) => Holds (c.pre x) ∧ K v (s.new k he)
        | none => False)
      | none => False)
      else (match rowsOfArgs args with
      | [] => (match rdArgs s false c.as args with
        | some x => (match ownR k c.rs (c.f x) with
          | some (v, he) => Holds (c.pre x) ∧ K v (s.new k he)
          | none => False)
        | none => False)
      | _ => False)
    else False
  else bif c.rs.all noSl then
    (match rdArgs s true c.as args with
    | some x => Holds (c.pre x) ∧ K (resR c.rs (c.f x)) s
    | none => False)
  else
    (match rowsOfArgs args with
    | [] => (match rdArgs s false c.as args with
      | some x => Holds (c.pre x) ∧ K (resR c.rs (c.f x)) s
      | none => False)
    | _ => False)

def callee? (s : St) : Op → Option (Nat × List SV)
  | .call c => (match c.callee with
    | .value x => (match ev s x with
      | .one (.con (.func (.func f) fs cs)) => bif fs.isEmpty && cs.isEmpty then some (f, c.args.toList.map (ev s)) else none
      | .one (.clo k) => (match s.hp k with
        | some (.clo f ps) => some (f, c.args.toList.map (ev s) ++ ps.map SV.one)
        | _ => none)
      | _ => none)
    | _ => none)
  | _ => none

def ctrD (c : Ctr) (k : Nat) (s : St) (args : List SV) (d : Option Nat) : Res :=
  bif c.own then
    bif ownOk c.rs && !(s.us k) then
      bif ownFl c.rs then (match rdArgs s true c.as args with
      | some x => (match ownR k c.rs (c.f x) with
        | some (v, he) => some (some (Holds (c.pre x)), (s.new k he).put d v)
        | none => none)
      | none => none)
      else (match rowsOfArgs args with
      | [] => (match rdArgs s false c.as args with
        | some x => (match ownR k c.rs (c.f x) with
          | some (v, he) => some (some (Holds (c.pre x)), (s.new k he).put d v)
          | none => none)
        | none => none)
      | _ => none)
    else none
  else bif c.rs.all noSl then
    (match rdArgs s true c.as args with
    | some x => some (some (Holds (c.pre x)), s.put d (resR c.rs (c.f x)))
    | none => none)
  else
    (match rowsOfArgs args with
    | [] => (match rdArgs s false c.as args with
      | some x => some (some (Holds (c.pre x)), s.put d (resR c.rs (c.f x)))
      | none => none)
    | _ => none)
def callee1 (s : St) : Op → Option (Nat × List SV)
  | .call c => (match c.callee with
    | .value x => (match ev s x with
      | .one (.con (.func (.func g) fs cs)) => bif fs.isEmpty && cs.isEmpty then some (g, c.args.toList.map (ev s)) else none
      | _ => none)
    | _ => none)
  | _ => none
theorem callee1_some {s : St} {op : Op} {g : Nat} {args : List SV} (h : callee1 s op = some (g, args)) :
    ∃ c x, op = .call c ∧ c.callee = .value x ∧ args = c.args.toList.map (ev s) ∧ callee? s op = some (g, args) := by
  cases op with
  | call c =>
    simp only [callee1] at h
    cases hc : c.callee with
    | value x =>
      rw [hc] at h
      simp only [] at h
      split at h
      · rename_i g' fs cs hx
        cases hb : (fs.isEmpty && cs.isEmpty) with
        | false => rw [hb] at h; cases h
        | true =>
          rw [hb] at h
          simp only [cond_true, Option.some.injEq, Prod.mk.injEq] at h
          obtain ⟨rfl, rfl⟩ := h
          refine ⟨c, x, rfl, hc, rfl, ?_⟩
          simp only [callee?, hc, hx, hb, cond_true]
      · cases h
    | _ => rw [hc] at h; cases h
  | _ => simp [callee1] at h
def lastF : List SV → Option (Nat × List SV)
  | [] => none
  | x :: r => (match r with
    | [] => (match x with
      | .one (.con (.func (.func h) fs cs)) => bif fs.isEmpty && cs.isEmpty then some (h, []) else none
      | _ => none)
    | _ :: _ => (match lastF r with
      | some (h, l) => some (h, x :: l)
      | none => none))
def splitF (X : Fx) (g : Nat) (args : List SV) : Option (Ctr × List SV) := match lastF args with
  | some (h, l) => (match X.KF g h with
    | some c => some (c, l)
    | none => none)
  | none => none
def frzF (X : Fx) (f : Nat) (o : Oper) : Bool :=
  match o.op, o.dst with
  | .slice _ _ _ _ _, some d => X.wr f d
  | .move _, some d => X.wr f (23000000 + d)
  | _, _ => false
def poolMark (X : Fx) (f : Nat) (d : Nat) : Option Nat :=
  bif X.wr f (20000000 + d) then some 0 else bif X.wr f (21000000 + d) then some 1 else bif X.wr f (22000000 + d) then some 2 else none
def poolM (X : Fx) (f : Nat) (o : Oper) : Bool := match o.dst with
  | some d => (poolMark X f d).isSome
  | none => false
def stepD (X : Fx) (f : Nat) (s : St) (k : Nat) (o : Oper) : Res :=
  match callee1 s o.op with
  | some (g, args) => (match X.K g with
    | some c => ctrD c k s args o.dst
    | none => (match splitF X g args with
      | some (c, l) => ctrD c k s l o.dst
      | none => none))
  | none => bif frzF X f o || poolM X f o then none else opS X.E (X.wr f) s k o

def gateV (want : Bool) : SV → Option Bool
  | .one (.d .bool b) => some (bif want then b else !b)
  | .cnd b1 (.d .bool u) => some (b1 && (bif want then u else !u))
  | _ => none
def andO : Option Prop → Option Prop → Option Prop
  | none, q => q
  | some p, none => some p
  | some p, some q => some (p ∧ q)
def openS (s : St) : List Operand → St × Option Prop
  | [] => (s, none)
  | .tmp t :: r => (match lget s.fr t with
    | .cnd b p => (match openS (s.put (some t) (.one p)) r with
      | (s', C) => (s', andO (some (b = true)) C))
    | _ => openS s r)
  | _ :: r => openS s r
def lightO (X : Fx) (s : St) (k : Nat) (o : Oper) : Bool :=
  match callee1 s o.op with
  | some (g, _) => (match X.K g with
    | some c => !(c.own)
    | none => false)
  | none => (opW false s k o.op).isEmpty
def needOf : Op → List Operand
  | .pick c _ _ => [c]
  | o => opsOf o
def gop (X : Fx) (f : Nat) (s : St) (k : Nat) (o : Oper) (gb : Bool) : Option (Option Prop × St) :=
  match o.dst with
  | some d => (match openS s (needOf o.op) with
    | (s1, C) => bif lightO X s1 k o then (match stepD X f s1 k o with
      | some (p, s2) => (match lget s2.fr d with
        | .one q => (match andO C p with
          | some p => some (some (gb = true → p), s.put (some d) (.cnd gb q))
          | none => some (none, s.put (some d) (.cnd gb q)))
        | _ => none)
      | none => none) else none)
  | none => none

section
variable (X : Fx) (callK : Nat → Nat → List SV → St → (SV → St → Prop) → Prop) (f : Nat)

def nilCmp? (E : Env) (s : St) : Op → Option (Bool × ((t : Ty) × List t.D))
  | .binOp op t x y _ => (match ev s y with
    | .one (.con (.slice none 0 0)) => bif isSliceT E t then (match op with
      | .eql => (match slD s (ev s x) with
        | some d => some (false, d)
        | none => none)
      | .neq => (match slD s (ev s x) with
        | some d => some (true, d)
        | none => none)
      | _ => none) else none
    | _ => none)
  | _ => none
def allocP? (s : St) (o : Oper) : Option (Nat × ((u : Ty) × u.D)) :=
  match o.dst with
  | none => none
  | some d => (match poolMark X f d with
    | none => none
    | some p => (match o.op with
      | .alloc e => (match X.E.info e with
        | some ⟨_, _, _, _, some u⟩ => some (p, ⟨u, u.zero⟩)
        | _ => none)
      | .box _ x => (match (ev s x).parts, X.E.info (match o.op with | .box e _ => e | _ => 0) with
        | some ps, some ⟨_, _, _, _, some u⟩ => (match rdAll u ps with
          | some y => some (p, ⟨u, y⟩)
          | none => none)
        | _, _ => none)
      | _ => none))
def castM (kk : IntKind) (t : Ty) (kk' : IntKind) (u : Ty) (xs : List (Int × t.D)) : Option (List (Int × u.D)) := if h : kk = kk' ∧ t = u then some (h.2 ▸ xs) else none
def allocP (s : St) (d : Option Nat) (p : Nat) (u : Ty) (y : u.D) (K : St → Prop) : Prop :=
  match s.hp (poolN p) with
  | some (.pool t m) => (match castM .i64 t .i64 u m with
    | some m => ∀ a : Int, 0 ≤ a → mhas u m a = false → K ((s.upd (poolN p) (.pool u (mput u m a y))).put d (.one (.d (.ref p) a)))
    | none => False)
  | none => bif s.us (poolN p) then False else ∀ a : Int, 0 ≤ a → K ((s.new (poolN p) (.pool u [(a, y)])).put d (.one (.d (.ref p) a)))
  | _ => False
def rangeM? (E : Env) (s : St) : Op → Option (Nat × IntKind × ((t : Ty) × List (Int × t.D)))
  | .range t x => (match mapTy? E t, ev s x with
    | some _, .one (.row k) => (match mapOf (s.hp k) with
      | some (kk, m) => some (k, kk, m)
      | none => none)
    | _, _ => none)
  | _ => none
def nextM? (s : St) : Op → Option (Nat × Nat × IntKind × ((t : Ty) × List (Int × t.D) × Nat × List (Int × t.D)))
  | .next x false => (match ev s x with
    | .one (.itr k r) => (match s.hp k with
      | some (.mapit kk t xs r' rem _) => some (k, r, kk, ⟨t, xs, r', rem⟩)
      | _ => none)
    | _ => none)
  | _ => none
def nextM (s : St) (d : Option Nat) (k r : Nat) (kk : IntKind) (t : Ty) (xs : List (Int × t.D)) (r' : Nat) (rem : List (Int × t.D)) (K : St → Prop) : Prop :=
  r = r' ∧ (rem = [] → K ((s.upd k (.map kk t xs)).put d (.tup [(false, [.lit false])]))) ∧
    ∀ (i : Nat) (e : Int × t.D), rem[i]? = some e → K ((s.upd k (.mapit kk t xs r' (rem.eraseIdx i) (some e))).put d (.tup [(false, [.lit true]), (false, [.d (.int kk) e.1]), (false, [.d t e.2])]))
def entryM? (s : St) : Op → Option (Nat × Nat × IntKind × ((t : Ty) × (Int × t.D)))
  | .entry x => (match ev s x with
    | .one (.itr k r) => (match s.hp k with
      | some (.mapit kk t _ r' _ (some e)) => some (r, r', kk, ⟨t, e⟩)
      | _ => none)
    | _ => none)
  | _ => none
def orwAt (ps : List PV) (off : Nat) : Option (List PV × Nat × Nat × Option (Nat × Nat) × List PV) :=
  match takeN ps off with
  | some (pre, .orp ko n h :: post) => some (pre, ko, n, h, post)
  | _ => none
def orwBack (s : St) (u : Ty) (xss : List (List u.D)) : Option (Nat × Nat) → Option (St × List (List u.D))
  | none => some (s, xss)
  | some (i0, k0) => (match s.hp k0 with
    | some (.row u0 ys) => (match castD (.sl u0) (.sl u) ys with
      | some ys => some (s.drop k0, xss.set i0 ys)
      | none => none)
    | _ => none)
def elA : SV → Option (Nat × Nat × Nat)
  | .one (.pel kb off _ sz i j) => some (kb, off, i * sz + j)
  | .one (.pea kb off _ sz i j _ sz' i' j') => some (kb, off, i * sz + (j + (i' * sz' + j')))
  | _ => none
def orwLoad (E : Env) (t : TypeId) (s : St) (k : Nat) (d : Option Nat) (x : SV) (K : St → Prop) : Prop :=
  bif !(isSliceT E t) then False else match elA x with
  | some (kb, off, idx) => (match s.hp kb with
    | some (.box ps) => (match orwAt ps off with
      | some (pre, ko, n, h, post) => (match s.hp ko with
        | some (.orw u xss) => bif s.us k || s.us (k + 500000000) || Nat.beq u.size 0 then False else (match orwBack s u xss h with
          | some (s1, xss1) => idx < n ∧
              K (((((s1.drop ko).new (k + 500000000) (.orw u (xss1.set (idx) []))).new k (.row u (xss1.getD (idx) []))).upd kb
                (.box (pre ++ (.orp (k + 500000000) n (some (idx, k)) :: post)))).put d (.one (.row k)))
          | none => False)
        | _ => False)
      | none => False)
    | _ => False)
  | none => False
def orwVal (s : St) (u : Ty) : SV → Option (St × List u.D)
  | .one (.con (.slice none 0 0)) => some (s, [])
  | .one (.row kv) => (match s.hp kv with
    | some (.row u2 ys) => (match castD (.sl u2) (.sl u) ys with
      | some ys => some (s.drop kv, ys)
      | none => none)
    | _ => none)
  | _ => none
def orwStore (E : Env) (t : TypeId) (s : St) (k : Nat) (x v : SV) (K : St → Prop) : Prop :=
  bif !(isSliceT E t) then False else match elA x with
  | some (kb, off, idx) => (match s.hp kb with
    | some (.box ps) => (match orwAt ps off with
      | some (pre, ko, n, h, post) => (match s.hp ko with
        | some (.orw u xss) => bif s.us k || Nat.beq u.size 0 then False else (match orwVal s u v with
          | some (s1, ys) => (match h with
              | none => idx < n
              | some (i0, _) => i0 = idx) ∧
              K ((((s1.drop ko).new k (.orw u (xss.set (idx) ys))).upd kb (.box (pre ++ (.orp k n none :: post)))))
          | none => False)
        | _ => False)
      | none => False)
    | _ => False)
  | none => False
def frzAll (s : St) : List Nat → St
  | [] => s
  | k :: r => frzAll (s.frz k) r
def pre (s : St) (o : Oper) : St :=
  match callee? s o.op with
  | some (g, args) => (match X.K g with
    | some c => bif (bif c.own then !(ownFl c.rs) else !(c.rs.all noSl)) then frzAll s (rowsOfArgs args) else s
    | none => s)
  | none => (match o.op, o.dst with
    | .slice _ x _ _ _, some d => bif X.wr f d then frzAll s (rowsOfArgs [ev s x]) else s
    | .move x, some d => bif X.wr f (23000000 + d) then frzAll s (rowsOfArgs [ev s x]) else s
    | _, _ => s)
def op1c (s : St) (k : Nat) (o : Oper) (K : St → Prop) : Prop :=
  match rangeM? X.E s o.op with
  | some (j, kk, ⟨t, xs⟩) => ∀ r : Nat, K ((s.upd j (.mapit kk t xs r xs none)).put o.dst (.one (.itr j r)))
  | none => (match nextM? s o.op with
    | some (j, r, kk, ⟨t, xs, r', rem⟩) => nextM s o.dst j r kk t xs r' rem K
    | none => (match entryM? s o.op with
      | some (r, r', kk, ⟨t, e⟩) => r = r' ∧ K (s.put o.dst (.tup [(false, [.d (.int kk) e.1]), (false, [.d t e.2])]))
      | none => (match o.op with
        | .load t x => orwLoad X.E t s k o.dst (ev s x) K
        | .store t x y => orwStore X.E t s k (ev s x) (ev s y) (fun s => K (s.put o.dst (.one .any)))
        | _ => False)))
def op1b (s : St) (k : Nat) (o : Oper) (K : St → Prop) : Prop :=
  match callee? s o.op with
  | some (g, args) => callK k g args s (fun v s' => K (s'.put o.dst v))
  | none => bif poolM X f o then (match allocP? X f s o with
    | some (p, ⟨u, y⟩) => allocP s o.dst p u y K
    | none => False) else (match opS X.E (X.wr f) s k o with
    | some (some p, s') => p ∧ K s'
    | some (none, s') => K s'
    | none => (match nilCmp? X.E s o.op with
      | some (neg, ⟨_, xs⟩) => ∀ b : Bool, (b = true → xs = []) → K (s.put o.dst (.one (.d .bool (bif neg then !b else b))))
      | none => (match plook? X.E s o.op with
        | some (i, es, z) => lookG (fun p => K (s.put o.dst (.one p))) i z es
        | none => op1c X s k o K)))
def op1 (s : St) (k : Nat) (o : Oper) (K : St → Prop) : Prop := op1b X callK f (pre X f s o) k o K
def op1o (s : St) (k : Nat) (o : Oper) (K : St → Prop) : Prop :=
  match openS s (needOf o.op) with
  | (s1, none) => op1 X callK f s1 k o K
  | (s1, some C) => C ∧ op1 X callK f s1 k o K
def dstAt : List Oper → Nat → Option Nat
  | [], _ => none
  | o :: _, 0 => o.dst
  | _ :: r, n + 1 => dstAt r n
def gop1 (s : St) (k : Nat) (o : Oper) (gb : Bool) : Res := bif wrO (X.wr f) 10000000 o.dst then none else gop X f s k o gb
def ops (all : List Oper) (nb : Nat) : Nat → List Oper → St → (St → Prop) → Prop
  | _, [], s, K => K s
  | i, o :: r, s, K => (match o.guard with
    | none => op1 X callK f s (nb + i) o (fun s => ops all nb (i + 1) r s K)
    | some (j, want) => (match dstAt all j with
      | some d => (match lget s.fr d with
        | .one (.lit b) => bif Bool.xor b want then ops all nb (i + 1) r (s.put o.dst (.tup [])) K else op1o X callK f s (nb + i) o (fun s => ops all nb (i + 1) r s K)
        | .tup [] => ops all nb (i + 1) r (s.put o.dst (.tup [])) K
        | v => (match gateV want v with
          | some gb => (match gop1 X f s (nb + i) o gb with
            | some (some p, s') => p ∧ ops all nb (i + 1) r s' K
            | some (none, s') => ops all nb (i + 1) r s' K
            | none => (match v with
              | .one (.d .bool b) => (b = want → op1o X callK f (s.put (some d) (.one (.lit want))) (nb + i) o (fun s => ops all nb (i + 1) r s K)) ∧
                (b = !want → ops all nb (i + 1) r ((s.put (some d) (.one (.lit !want))).put o.dst (.tup [])) K)
              | _ => False))
          | none => False))
      | none => False))
end

abbrev Rec := Nat × List Nat × List Nat
def mget : List Nat → Nat → Nat
  | [], _ => 0
  | m :: _, 0 => m
  | _ :: r, n + 1 => mget r n
def ord (ms : List Nat) (i j : Nat) : Bool := bif Nat.blt i j then Nat.testBit (mget ms j) i else Nat.testBit (mget ms i) j
def disj : List Nat → List Nat → Bool
  | [], _ => true
  | n :: r, l => bif memN' n l then false else disj r l
where memN' (n : Nat) : List Nat → Bool
  | [] => false
  | k :: r => bif Nat.beq n k then true else memN' n r
def chk (ms : List Nat) (i : Nat) (F W : List Nat) : List Rec → Bool
  | [] => true
  | (j, F', W') :: r => bif ord ms i j || (disj W' F && (disj W F' && disj W W')) then chk ms i F W r else false
def lzO (X : Fx) (f : Nat) (o : Oper) : Bool := wrO (X.wr f) 3000000 o.dst
def dgo (X : Fx) (f nb : Nat) (ms : List Nat) (i : Nat) (o : Oper) (acc : List Rec) (s : St) (rest : List Rec → St → Prop) : Prop :=
  match stepD X f s (nb + i) o with
  | some (pp, t) => bif chk ms i (opF s (nb + i) o.op) (opW (lzO X f o) s (nb + i) o.op) acc then (match pp with
    | some p => p ∧ rest ((i, opF s (nb + i) o.op, opW (lzO X f o) s (nb + i) o.op) :: acc) t
    | none => rest ((i, opF s (nb + i) o.op, opW (lzO X f o) s (nb + i) o.op) :: acc) t) else False
  | none => False
def dskip (ms : List Nat) (i : Nat) (o : Oper) (acc : List Rec) (s : St) (rest : List Rec → St → Prop) : Prop :=
  bif chk ms i [] [] acc then rest ((i, [], []) :: acc) (s.put o.dst (.tup [])) else False
def drun (X : Fx) (f nb : Nat) (all : List Oper) (ms : List Nat) : List (Nat × Oper) → List Rec → St → (St → Prop) → Prop
  | [], _, s, K => K s
  | (i, o) :: r, acc, s, K => (match o.guard with
    | none => dgo X f nb ms i o acc s (fun acc s => drun X f nb all ms r acc s K)
    | some (j, want) => (match dstAt all j with
      | some d => (match lget s.fr d with
        | .one (.lit b) => bif Bool.xor b want then dskip ms i o acc s (fun acc s => drun X f nb all ms r acc s K) else dgo X f nb ms i o acc s (fun acc s => drun X f nb all ms r acc s K)
        | .one (.d .bool b) => (b = want → dgo X f nb ms i o acc (s.put (some d) (.one (.lit want))) (fun acc s => drun X f nb all ms r acc s K)) ∧
            (b = !want → dskip ms i o acc (s.put (some d) (.one (.lit !want))) (fun acc s => drun X f nb all ms r acc s K))
        | .tup [] => dskip ms i o acc s (fun acc s => drun X f nb all ms r acc s K)
        | _ => False)
      | none => False))

def maskOf (ms : List Nat) : List Edge → Nat
  | [] => 0
  | e :: r => bif Region.binds .any e then Nat.lor (Nat.lor (maskOf ms r) (2 ^ e.on)) (mget ms e.on) else maskOf ms r
def masks : List Oper → List Nat → List Nat
  | [], ms => ms
  | o :: r, ms => masks r (ms ++ [maskOf ms o.after.toList])
def gslot (all : List Oper) (o : Oper) : Option Nat := match o.guard with
  | some (j, _) => dstAt all j
  | none => none
def readsT (d : Nat) : List Operand → Bool
  | [] => false
  | .tmp t :: r => bif Nat.beq d t then true else readsT d r
  | _ :: r => readsT d r
def noread (d : Option Nat) (l : List Operand) : Bool := match d with
  | some d => !(readsT d l)
  | none => true
def neO (x y : Option Nat) : Bool := match x, y with
  | some a, some b => !(Nat.beq a b)
  | _, _ => true
def sapart (all : List Oper) (y x : Oper) : Bool :=
  noread y.dst (opsOf x.op) && (noread x.dst (opsOf y.op) && (noread (gslot all y) (opsOf x.op) && (noread (gslot all x) (opsOf y.op) &&
    (neO y.dst x.dst && (neO y.dst (gslot all x) && neO x.dst (gslot all y))))))
def numbered : Nat → List Oper → List (Nat × Oper)
  | _, [] => []
  | i, o :: r => (i, o) :: numbered (i + 1) r
def statJ (all : List Oper) (ms : List Nat) (j : Nat) (x : Oper) : List (Nat × Oper) → Bool
  | [] => true
  | (i, y) :: r => bif Nat.blt i j then
      (bif (bif Nat.testBit (mget ms j) i then x.after.toList.any (fun e => Region.binds .any e && (Nat.beq e.on i || (Nat.blt i e.on && Nat.testBit (mget ms e.on) i))) else sapart all y x)
        then statJ all ms j x r else false)
    else true
def statOk (all : List Oper) (ms : List Nat) (ns : List (Nat × Oper)) : List (Nat × Oper) → Bool
  | [] => true
  | (j, x) :: r => bif x.after.toList.all (fun e => bif Region.binds .any e then Nat.blt e.on j else true) && statJ all ms j x ns then statOk all ms ns r else false
def drawn (X : Fx) (f : Nat) (os : List Oper) (s : St) (K : St → Prop) : Prop :=
  match numbered 0 os, masks os [] with
  | ns, ms => bif statOk os ms ns ns then drun X f s.nx os ms ns [] { s with nx := s.nx + os.length } K else False

def splitBar (bp : Oper → Bool) : List (Nat × Oper) → List (Nat × Oper) × Option ((Nat × Oper) × List (Nat × Oper))
  | [] => ([], none)
  | e :: r => bif bp e.2 then ([], some (e, r)) else (match splitBar bp r with
    | (a, b) => (e :: a, b))
def noG (o : Oper) : Bool := match o.guard with
  | none => true
  | some _ => false
def barOk (ms : List Nat) (l m : List (Nat × Oper)) (p : Nat) : Bool := l.all (fun e => Nat.testBit (mget ms p) e.1) && m.all (fun e => Nat.testBit (mget ms e.1) p)
def barGo (X : Fx) (callK : Nat → Nat → List SV → St → (SV → St → Prop) → Prop) (f nb : Nat) (all : List Oper) (e : Nat × Oper) (s : St) (rest : St → Prop) : Prop :=
  match e.2.guard with
  | none => op1 X callK f s (nb + e.1) e.2 rest
  | some (j, want) => (match dstAt all j with
    | some d => (match lget s.fr d with
      | .one (.lit b) => bif Bool.xor b want then rest (s.put e.2.dst (.tup [])) else op1 X callK f s (nb + e.1) e.2 rest
      | .tup [] => rest (s.put e.2.dst (.tup []))
      | _ => False)
    | none => False)
def barM (X : Fx) (f : Nat) (o : Oper) : Bool := wrO (X.wr f) 8000000 o.dst || (match o.op with
  | .store t _ _ => X.wr f (29000000 + t)
  | _ => false)
def putF (e : Nat × Oper) : List (List (Nat × Oper) × List (Nat × Oper)) → List (List (Nat × Oper) × List (Nat × Oper))
  | [] => []
  | q :: r => (e :: q.1, q.2) :: putF e r
def putB (e : Nat × Oper) : List (List (Nat × Oper) × List (Nat × Oper)) → List (List (Nat × Oper) × List (Nat × Oper))
  | [] => []
  | q :: r => (q.1, e :: q.2) :: putB e r
def mustA (ms : List Nat) (p : Nat) (e : Nat × Oper) : Bool := Nat.blt e.1 p && Nat.testBit (mget ms p) e.1
def mustB (ms : List Nat) (p : Nat) (e : Nat × Oper) : Bool := Nat.blt p e.1 && Nat.testBit (mget ms e.1) p
def splitsU (ms : List Nat) (p : Nat) : List (Nat × Oper) → List (List (Nat × Oper) × List (Nat × Oper))
  | [] => [([], [])]
  | e :: l => (match splitsU ms p l with
    | qs => bif mustA ms p e then putF e qs else bif mustB ms p e then putB e qs else putB e qs ++ putF e qs)
def okSp (ms : List Nat) (u b : List (Nat × Oper)) : Bool := u.all (fun e => b.all (fun e' => bif Nat.blt e'.1 e.1 then !(Nat.testBit (mget ms e.1) e'.1) else true))
def okUs (ms : List Nat) : List (List (Nat × Oper) × List (Nat × Oper)) → List (List (Nat × Oper) × List (Nat × Oper))
  | [] => []
  | q :: r => bif okSp ms q.1 q.2 then q :: okUs ms r else okUs ms r
def allO {α : Type} (f : α → Prop) : List α → Prop
  | [] => True
  | x :: r => f x ∧ allO f r
def allS {α : Type} (f : α → Prop) : List α → Prop
  | [] => False
  | x :: r => f x ∧ allO f r
def sameTmp : Operand → Operand → Bool
  | .tmp a, .tmp b => Nat.beq a b
  | _, _ => false
def offTmp (d1 d2 : Nat) : Operand → Bool
  | .tmp a => !(Nat.beq a d1) && !(Nat.beq a d2)
  | _ => true
def fuseM (ms : List Nat) (a : List (Nat × Oper)) (e : Nat × Oper) : List (Nat × Oper) → Option (TypeId × Operand × Operand × Operand × Nat × Nat)
  | [x, y] => (match e.2.op, e.2.dst, e.2.guard, x.2.op, x.2.dst, x.2.guard, y.2.op, y.2.dst, y.2.guard with
    | .mapEntry t m k, some d1, none, .extract (.tmp d1') 1, some d2, none, .entryStore t' m' (.tmp d2') v, none, none =>
      bif (Nat.beq d1 d1' && Nat.beq d2 d2') && ((Nat.beq t t' && sameTmp m m') && ((offTmp d1 d2 m && offTmp d1 d2 v) && (!(Nat.beq d1 d2) &&
        (a.all (fun q => Nat.testBit (mget ms e.1) q.1) && (Nat.testBit (mget ms x.1) e.1 && (Nat.testBit (mget ms y.1) e.1 && Nat.testBit (mget ms y.1) x.1)))))) then some (t, m, k, v, d1, d2) else none
    | _, _, _, _, _, _, _, _, _ => none)
  | _ => none
def mapSet (E : Env) (t : TypeId) (m k v : Operand) (d1 d2 : Nat) (s : St) (K : St → Prop) : Prop := bif !(Nat.blt d1 s.fr.length && Nat.blt d2 s.fr.length) then False else match ev s m with
  | .one (.row n) => (match mapOf (s.hp n) with
    | some _ => (match insertS E s t (ev s m) (ev s k) (ev s v) with
      | some (none, s') => K ((s'.put (some d1) (.one .any)).put (some d2) (.one .any))
      | some (some p, s') => p ∧ K ((s'.put (some d1) (.one .any)).put (some d2) (.one .any))
      | none => False)
    | none => False)
  | _ => False
def drunB (X : Fx) (callK : Nat → Nat → List SV → St → (SV → St → Prop) → Prop) (f nb : Nat) (all : List Oper) (ms : List Nat) : Nat → List (Nat × Oper) → St → (St → Prop) → Prop
  | 0, l, s, K => drun X f nb all ms l [] s K
  | n + 1, l, s, K => (match splitBar (barM X f) l with
    | (a, some (e, b)) => match fuseM ms a e b with
      | some (t, m, k, v, d1, d2) => drun X f nb all ms a [] s (fun s1 => mapSet X.E t m k v d1 d2 s1 K)
      | none => bif barOk ms a b e.1 then drun X f nb all ms a [] s (fun s1 => barGo X callK f nb all e s1 (fun s2 => drunB X callK f nb all ms n b s2 K)) else
        allS (fun q => drun X f nb all ms q.1 [] s (fun s1 => barGo X callK f nb all e s1 (fun s2 => drunB X callK f nb all ms n q.2 s2 K))) (okUs ms (splitsU ms e.1 (a ++ b)))
    | (_, none) => drun X f nb all ms l [] s K)
def hoistV (E : Env) (s : St) (o : Oper) : Option (Option Prop × SV) := match o.op, o.guard with
  | .move x, none => some (none, ev s x)
  | .nilCheck x, none => (match ev s x with
    | .one (.ptr k off) => some (none, .one (.ptr k off))
    | .one (.pea k off n sz i j n' sz' i' j') => some (none, .one (.pea k off n sz i j n' sz' i' j'))
    | _ => none)
  | .fieldAddr t x i, none => (match field? E t i with
    | some (fo, fi) => bif Nat.beq fi.size 0 then none else (match ev s x with
      | .one (.ptr k off) => some (none, .one (.ptr k (off + fo)))
      | _ => none)
    | none => none)
  | .binOp .add _ x y _, none => (match asInt? (ev s x), asInt? (ev s y) with
    | some (k, m), some (k', n) => if k = k' then (match arith false .add k m n with
      | some (p, r) => some (p, .one (.d (.int k) r))
      | none => none) else none
    | _, _ => none)
  | _, _ => none
def hoistOk (all : List Oper) (listed : Array Bool) (i : Nat) (o : Oper) : Bool :=
  o.after.toList.all (fun e => !(Region.binds .any e) || listed.getD e.on false) && (Region.noSelect all.toArray && Region.free .any all.toArray listed i)
def hoistGo (X : Fx) (f : Nat) (all : List Oper) : List (Nat × Oper) → List (Nat × Oper) → Array Bool → St → (List (Nat × Oper) → St → Prop) → Prop
  | pre, [], _, s, K => K pre s
  | pre, (i, o) :: l, listed, s, K => bif wrO (X.wr f) 27000000 o.dst then (match hoistV X.E s o with
      | some (p, v) => bif hoistOk all listed i o then (match p with
          | none => hoistGo X f all pre l (listed.setIfInBounds i true) (s.put o.dst v) K
          | some q => q ∧ hoistGo X f all pre l (listed.setIfInBounds i true) (s.put o.dst v) K) else False
      | none => False)
    else hoistGo X f all (pre ++ [(i, o)]) l listed s K
def drawnB (X : Fx) (callK : Nat → Nat → List SV → St → (SV → St → Prop) → Prop) (f : Nat) (os : List Oper) (s : St) (K : St → Prop) : Prop :=
  match numbered 0 os, masks os [] with
  | ns, ms => bif statOk os ms ns ns then hoistGo X f os [] ns (Array.replicate os.length false) { s with nx := s.nx + os.length } (fun rest s1 => drunB X callK f s.nx os ms os.length rest s1 K) else False

def rowNames (s : St) : Nat → List Nat
  | 0 => []
  | n + 1 => (match s.hp n with
    | some (.row _ _) => n :: rowNames s n
    | _ => rowNames s n)
def rid : Code → Nat
  | .region id _ _ => id
  | .seq a b => (match a with
    | .skip => rid b
    | .label _ => rid b
    | _ => rid a)
  | .block _ b => rid b
  | .loop b => rid b
  | .scope b => rid b
  | _ => 1000000

def assoc : List (Nat × HE) → Nat → Option HE
  | [], _ => none
  | (k, h) :: r, n => bif Nat.beq n k then some h else assoc r n
def setSlots : List SV → List (Nat × SV) → List SV
  | fr, [] => fr
  | fr, (d, v) :: r => setSlots (lset fr d v) r
def anys : List SV → List SV
  | [] => []
  | _ :: r => .one .any :: anys r
def okPV (v : Inv) : PV → Bool
  | .row k => (assoc v.heap k).isSome
  | .ptr k _ => (assoc v.heap k).isSome
  | .clo k => (assoc v.heap k).isSome
  | .rel k _ _ _ => (assoc v.heap k).isSome
  | .pel k _ _ _ _ _ => (assoc v.heap k).isSome
  | .any => true
  | .d _ _ => true
  | .lit _ => true
  | .con _ => true
  | .itr _ _ => true
  | .opt _ _ _ => true
  | .orp k _ none => (assoc v.heap k).isSome
  | _ => false
def okPs (v : Inv) : List PV → Bool
  | [] => true
  | p :: ps => bif okPV v p then okPs v ps else false
def okSV (v : Inv) : SV → Bool
  | .one p => okPV v p
  | .agg ps => okPs v ps
  | .tup [] => true
  | _ => false
def filt (v : Inv) : List SV → List SV
  | [] => []
  | x :: r => (bif okSV v x then x else .one .any) :: filt v r
def Inv.st (s : St) (v : Inv) : St :=
  { fr := setSlots (anys s.fr) v.slots, hp := assoc v.heap, us := fun n => (assoc v.heap n).isSome, nx := v.nx, bk := filt v s.bk }

abbrev Ren := List (Nat × Nat)
def Ren.at (σ : Ren) (n : Nat) : Nat := match σ with
  | [] => n
  | (k, j) :: r => bif Nat.beq n k then j else Ren.at r n
def Ren.has (σ : Ren) (n : Nat) : Bool := match σ with
  | [] => false
  | (k, _) :: r => bif Nat.beq n k then true else Ren.has r n
def Ren.add (σ : Ren) (k j : Nat) : Ren := bif Ren.has σ k then σ else (k, j) :: σ
def mPV (σ : Ren) : PV → PV → Ren
  | .row j, .row k => σ.add k j
  | .ptr j _, .ptr k _ => σ.add k j
  | .clo j, .clo k => σ.add k j
  | .pel j _ _ _ _ _, .pel k _ _ _ _ _ => σ.add k j
  | .rel j _ _ _, .rel k _ _ _ => σ.add k j
  | .orp j _ _, .orp k _ _ => σ.add k j
  | _, _ => σ
def mPs : Ren → List PV → List PV → Ren
  | σ, p :: ps, q :: qs => mPs (mPV σ p q) ps qs
  | σ, _, _ => σ
def mSV (σ : Ren) : SV → SV → Ren
  | .one p, .one q => mPV σ p q
  | .agg ps, .agg qs => mPs σ ps qs
  | _, _ => σ
def mSlots (s : St) : Ren → List (Nat × SV) → Ren
  | σ, [] => σ
  | σ, (d, v) :: r => mSlots s (mSV σ (lget s.fr d) v) r
def mHeap (s : St) : Ren → List (Nat × HE) → Ren
  | σ, [] => σ
  | σ, (k, .box qs) :: r => (match s.hp (σ.at k) with
    | some (.box ps) => mHeap s (mPs σ ps qs) r
    | _ => mHeap s σ r)
  | σ, (k, .clo _ qs) :: r => (match s.hp (σ.at k) with
    | some (.clo _ ps) => mHeap s (mPs σ ps qs) r
    | _ => mHeap s σ r)
  | σ, _ :: r => mHeap s σ r
def nilSlots (s : St) (v : Inv) : Nat → List (Nat × SV) → St
  | _, [] => s
  | j, (d, .one (.row k)) :: r => (match lget s.fr d, assoc v.heap k with
    | .one (.con (.slice none 0 0)), some (.row t _) => bif s.us j then nilSlots s v (j + 1) r else nilSlots ((s.new j (.row t [])).put (some d) (.one (.row j))) v (j + 1) r
    | _, _ => nilSlots s v j r)
  | j, _ :: r => nilSlots s v j r
def nilPs (s : St) (v : Inv) (k : Nat) (pre : List PV) (j : Nat) : List PV → List PV → St
  | p :: ps, q :: qs => (match p, q with
    | .con (.slice none 0 0), .row n => (match assoc v.heap n with
      | some (.row t _) => bif s.us j then s else nilPs ((s.new j (.row t [])).upd k (.box (pre ++ (.row j :: ps)))) v k (pre ++ [.row j]) (j + 1) ps qs
      | _ => nilPs s v k (pre ++ [p]) j ps qs)
    | _, _ => nilPs s v k (pre ++ [p]) j ps qs)
  | _, _ => s
def nilHeap (s : St) (v : Inv) : Nat → List (Nat × HE) → St
  | _, [] => s
  | j, (k, .box qs) :: r => (match s.hp k with
    | some (.box ps) => nilHeap (nilPs s v k [] j ps qs) v (j + qs.length) r
    | _ => nilHeap s v j r)
  | j, _ :: r => nilHeap s v j r

def isNil : Value → Bool
  | .slice none 0 0 => true
  | _ => false
def packPs (s : St) (k j : Nat) (pre : List PV) : List PV → St
  | [] => s
  | q :: post => (match q with
    | .orp ko n (some (i0, k0)) => (match s.hp ko with
      | some (.orw u xss) => bif s.us j then s else (match orwBack s u xss (some (i0, k0)) with
        | some (s1, xss1) => ((s1.drop ko).new j (.orw u xss1)).upd k (.box (pre ++ (.orp j n none :: post)))
        | none => s)
      | _ => s)
    | _ => packPs s k j (pre ++ [q]) post)
def takeNil : Nat → List PV → Option (List PV)
  | 0, ps => some ps
  | n + 1, p :: ps => (match p with
    | .con v => bif isNil v then takeNil n ps else none
    | _ => none)
  | _ + 1, [] => none
def packNil (s : St) (k j : Nat) (r : List (Nat × HE)) : List PV → List PV → List PV → St
  | _, _, [] => s
  | pre, ps, q :: qs => (match q with
    | .orp j' n none => (match assoc r j', takeNil n ps with
      | some (.orw t _), some post => bif s.us j then s else (s.new j (.orw t (List.replicate n []))).upd k (.box (pre ++ (.orp j n none :: post)))
      | _, _ => s)
    | _ => (match ps with
      | p :: ps => packNil s k j r (pre ++ [p]) ps qs
      | [] => s))
def packNilAt (s : St) (k j : Nat) (r : List (Nat × HE)) (qs : List PV) : St := match s.hp k with
  | some (.box ps) => packNil s k j r [] ps qs
  | _ => s
def packHeap (s : St) : Nat → List (Nat × HE) → St
  | _, [] => s
  | j, (k, .box qs) :: r => (match s.hp k with
    | some (.box ps) => packHeap (packNilAt (packPs s k j [] ps) k (j + 300000) r qs) (j + 1) r
    | _ => packHeap s j r)
  | j, (k, .pool t _) :: r => (match s.hp k with
    | none => bif s.us k then packHeap s j r else packHeap (s.new k (.pool t [])) j r
    | _ => packHeap s j r)
  | j, _ :: r => packHeap s j r
def isNilP : Value → Bool
  | .pointer none => true
  | _ => false
def isNilI : Value → Bool
  | .nilIface => true
  | _ => false
def eqN (a b : Nat) : Prop := match Nat.beq a b with
  | true => True
  | false => False
def leNil (v : Value) : (t : Ty) → t.D → Prop
  | .sl _, y => (match isNil v with
    | true => y = []
    | false => False)
  | .ref _, y => (match isNilP v with
    | true => (y : Int) = -1
    | false => False)
  | .err, y => (match isNilI v with
    | true => (y : Bool) = false
    | false => False)
  | _, _ => False
def leRef (p : Nat) (a : Int) (off : Nat) : (t : Ty) → t.D → Prop
  | .ref q, y => eqN p q ∧ eqN off 0 ∧ a = y
  | _, _ => False
def leLit (b : Bool) : (t : Ty) → t.D → Prop
  | .bool, c => b = c
  | _, _ => False
def leD (t : Ty) (x : t.D) (u : Ty) (y : u.D) : Prop := match castD t u x with
  | some x' => x' = y
  | none => False
def lePV (σ : Ren) (p q : PV) : Prop :=
  match q with
  | .any => (match p.agg with
    | true => False
    | false => True)
  | .row k => (match p with
    | .row j => eqN (σ.at k) j
    | _ => False)
  | .ptr k o' => (match p with
    | .ptr j o => eqN (σ.at k) j ∧ eqN o o'
    | _ => False)
  | .clo k => (match p with
    | .clo j => eqN (σ.at k) j
    | _ => False)
  | .lit c => (match p with
    | .lit b => b = c
    | _ => False)
  | .con u => (match p with
    | .con v => v = u
    | _ => False)
  | .d u y => (match p with
    | .d t x => leD t x u y
    | .lit b => leLit b u y
    | .con v => leNil v u y
    | .opt q a off => leRef q a off u y
    | _ => False)
  | .itr k r => (match p with
    | .itr k' r' => eqN (σ.at k) k' ∧ r' = r
    | _ => False)
  | .opt q a off => (match p with
    | .opt q' a' off' => (eqN q' q ∧ eqN off' off) ∧ a' = a
    | _ => False)
  | .orp k n h => (match h with
    | some _ => False
    | none => (match p with
      | .orp k' n' none => eqN (σ.at k) k' ∧ eqN n' n
      | _ => False))
  | .rel k sz i j => (match p with
    | .rel k' sz' i' j' => (eqN (σ.at k) k' ∧ (eqN sz' sz ∧ eqN j' j)) ∧ i' = i
    | _ => False)
  | .pel k off n sz i j => (match p with
    | .pel k' off' n' sz' i' j' => (eqN (σ.at k) k' ∧ (eqN off' off ∧ (eqN n' n ∧ (eqN sz' sz ∧ eqN j' j)))) ∧ i' = i
    | _ => False)
  | _ => False
def lePs (σ : Ren) : List PV → List PV → Prop
  | [], [] => True
  | p :: ps, q :: qs => lePV σ p q ∧ lePs σ ps qs
  | _, _ => False
def leSV (σ : Ren) : SV → SV → Prop
  | _, .one .any => True
  | .one p, .one q => lePV σ p q
  | .agg ps, .agg qs => lePs σ ps qs
  | .one p, .agg qs => (match p.agg with
    | true => lePs σ p.parts qs
    | false => False)
  | .tup [], .tup [] => True
  | _, _ => False
def leHE (σ : Ren) : HE → HE → Prop
  | .box ps, .box qs => lePs σ ps qs
  | .clo f ps, .clo g qs => eqN f g ∧ lePs σ ps qs
  | .row t xs, .row u ys => (match castD (.sl t) (.sl u) xs with
    | some xs' => xs' = ys
    | none => False)
  | .map kk t xs, .map kk' u ys => (match castM kk t kk' u xs with
    | some xs' => xs' = ys
    | none => False)
  | .mapit kk t xs _ _ _, .map kk' u ys => (match castM kk t kk' u xs with
    | some xs' => xs' = ys
    | none => False)
  | .mapit kk t xs r rem _, .mapit kk' u ys r' rem' none => (match castM kk t kk' u xs, castM kk t kk' u rem with
    | some xs', some rem'' => r = r' ∧ xs' = ys ∧ rem'' = rem'
    | _, _ => False)
  | .pool t m, .pool u m' => (match castM .i64 t .i64 u m with
    | some m'' => m'' = m'
    | none => False)
  | .orw t xss, .orw u yss => (match castD (.sl (.sl t)) (.sl (.sl u)) xss with
    | some xss' => xss' = yss
    | none => False)
  | _, _ => False
def leSlots (σ : Ren) (s : St) : List (Nat × SV) → Prop
  | [] => True
  | (d, v) :: r => leSV σ (lget s.fr d) v ∧ leSlots σ s r
def leHeap (σ : Ren) (s : St) : List (Nat × HE) → Prop
  | [] => True
  | (k, h) :: r => (match s.hp (σ.at k) with
    | some h' => leHE σ h' h
    | none => False) ∧ leHeap σ s r
def memN (n : Nat) : List Nat → Bool
  | [] => false
  | k :: r => bif Nat.beq n k then true else memN n r
def injN (σ : Ren) : List (Nat × HE) → List Nat → Bool
  | [], _ => true
  | (k, _) :: r, seen => bif memN (σ.at k) seen then false else injN σ r (σ.at k :: seen)
def okSlots (v : Inv) : List (Nat × SV) → List Nat → Bool
  | [], _ => true
  | (d, x) :: r, seen => bif memN d seen then false else bif okSV v x then okSlots v r (d :: seen) else false
def okHeap (v : Inv) : List (Nat × HE) → List Nat → Bool
  | [], _ => true
  | (k, .box ps) :: r, seen => bif memN k seen then false else bif okPs v ps then okHeap v r (k :: seen) else false
  | (k, .clo _ ps) :: r, seen => bif memN k seen then false else bif okPs v ps then okHeap v r (k :: seen) else false
  | (k, .row _ _) :: r, seen => bif memN k seen then false else okHeap v r (k :: seen)
  | (k, .map _ _ _) :: r, seen => bif memN k seen then false else okHeap v r (k :: seen)
  | (k, .mapit _ _ _ _ _ _) :: r, seen => bif memN k seen then false else okHeap v r (k :: seen)
  | (k, .pool _ _) :: r, seen => bif memN k seen then false else okHeap v r (k :: seen)
  | (k, .orw _ _) :: r, seen => bif memN k seen then false else okHeap v r (k :: seen)
  | (_, .pmap _ _) :: _, _ => false
def leBk (σ : Ren) : List SV → List SV → Prop
  | [], [] => True
  | x :: r, y :: q => leSV σ x y ∧ leBk σ r q
  | _, _ => False
def sameLen : List SV → List SV → Bool
  | [], [] => true
  | _ :: r, _ :: q => sameLen r q
  | _, _ => false
def le (s : St) (v : Inv) (i : St) : Prop :=
  match nilHeap (nilSlots (packHeap s (s.nx + 1000000) v.heap) v s.nx v.slots) v (s.nx + v.slots.length) v.heap with
  | s' => (match mHeap s' (mHeap s' (mSlots s' [] v.slots) v.heap) v.heap with
    | σ => bif sameLen s'.fr i.fr && injN σ v.heap [] && okSlots v v.slots [] && okHeap v v.heap [] then leSlots σ s' v.slots ∧ (leHeap σ s' v.heap ∧ (match i.bk with
      | [] => True
      | y :: q => leBk σ s'.bk (y :: q))) else False)

def into (an : Ann) (s0 s : St) (R : an.G → Prop) : Prop :=
  match an.pick s0 s with
  | some g => (an.ok s0 g ∧ R g) ∧ le s (an.inv s0 g) (Inv.st s0 (an.inv s0 g))
  | none => ∃ g, ((an.ok s0 g ∧ an.lens g) ∧ R g) ∧ le s (an.inv s0 g) (Inv.st s0 (an.inv s0 g))

def intoAny (s0 s : St) : List Ann → Prop
  | [] => False
  | an :: r => (match r with
    | [] => into an s0 s (fun _ => True)
    | _ :: _ => into an s0 s (fun _ => True) ∨ intoAny s0 s r)
def fromAll (s0 : St) (k : St → Prop) : List Ann → Prop
  | [] => True
  | an :: r => (match r with
    | [] => ∀ g, an.ok s0 g → an.lens g → k (Inv.st s0 (an.inv s0 g))
    | _ :: _ => (∀ g, an.ok s0 g → an.lens g → k (Inv.st s0 (an.inv s0 g))) ∧ fromAll s0 k r)

section
variable (X : Fx) (callK : Nat → Nat → List SV → St → (SV → St → Prop) → Prop) (f : Nat)

def code : Code → St → (AEx → St → Prop) → Prop
  | .skip, s, Q => Q .normal s
  | .label _, s, Q => Q .normal s
  | .region id os draw, s, Q => (bif draw then (bif X.wr f (9000000 + id) then drawnB X callK f os.toList s (Q .normal) else
      drawn X f os.toList (bif X.wr f (2000000 + id) then frzAll s (rowNames s s.nx) else s) (fun s => Q .normal (bif X.wr f (4000000 + id) then rootAll (fun i => X.wr f (7000000 + i)) s else s))) else
      ops X callK f os.toList s.nx 0 os.toList { s with nx := s.nx + os.toList.length } (fun s => Q .normal (bif X.wr f (4000000 + id) then rootAll (fun i => X.wr f (7000000 + i)) s else s)))
  | .seq a b, s, Q => (match X.cuts f (rid b) with
    | [] => code a s (fun e s' => match e with
      | .normal => code b s' Q
      | .exit id => Q (.exit id) s'
      | .ret => Q .ret s')
    | an :: r => code a s (fun e s' => match e with
      | .normal => intoAny s s' (an :: r)
      | .exit id => Q (.exit id) s'
      | .ret => Q .ret s') ∧ fromAll s (fun s1 => code b s1 Q) (an :: r))
  | .cond c x y, s, Q => (match ev s c with
    | .one (.lit b) => bif b then code x s Q else code y s Q
    | .one (.d .bool b) => (match c with
      | .tmp d => (b = true → code x (s.put (some d) (.one (.lit true))) Q) ∧ (b = false → code y (s.put (some d) (.one (.lit false))) Q)
      | _ => False)
    | _ => False)
  | .block id c, s, Q => code c s (fun e s' => match e with
    | .normal => Q .normal s'
    | .exit id' => bif Nat.beq id' id then Q .normal s' else Q (.exit id') s'
    | .ret => Q .ret s')
  | .loop c, s, Q => (match X.loops f (rid c) with
    | none => False
    | some an => into an s s (fun _ => True) ∧ ∀ g, an.ok s g → an.lens g → code c (Inv.st s (an.inv s g)) (fun e s' => match e with
      | .normal => into an s s' (fun g' => an.m s g' < an.m s g)
      | .exit id => Q (.exit id) s'
      | .ret => Q .ret s'))
  | .exit id, s, Q => Q (.exit id) s
  | .ret, s, Q => Q .ret s
  | _, _, _ => False
end

def resPart (E : Env) (s : St) : ResultVar → Option SV
  | .tmp t => some (lget s.fr t)
  | .cell a t => (match E.info t, locS s (lget s.fr a) with
    | some ti, some (ps, j) => (match cut3 ps j ti.size with
      | some (_, m, _) => mkSV ti.kind.agg m
      | none => none)
    | _, _ => none)
def resParts (E : Env) (s : St) : List ResultVar → Option (List SV)
  | [] => some []
  | r :: rs => (match resPart E s r with
    | some v => (match resParts E s rs with
      | some vs => some (v :: vs)
      | none => none)
    | none => none)
def tupOf : List SV → Option (List (Bool × List PV))
  | [] => some []
  | .one .any :: _ => none
  | .one p :: r => (match tupOf r with
    | some es => some ((p.agg, [p]) :: es)
    | none => none)
  | .agg ps :: r => (match tupOf r with
    | some es => some ((true, ps) :: es)
    | none => none)
  | _ => none
def resS (E : Env) (s : St) (rs : List ResultVar) : Option SV :=
  match resParts E s rs with
  | some [v] => some v
  | some vs => (match tupOf vs with
    | some es => some (.tup es)
    | none => none)
  | none => none

def pad : Nat → List SV
  | 0 => []
  | n + 1 => .one .any :: pad n
def lenLe : List SV → List SV → Bool
  | [], _ => true
  | _ :: r, _ :: q => lenLe r q
  | _, _ => false
def takeL : List SV → List SV → List SV
  | _ :: r, x :: q => x :: takeL r q
  | _, _ => []
def dropL : List SV → List SV → List SV
  | _ :: r, _ :: q => dropL r q
  | _, q => q
def blank (n : Nat) : St := { fr := pad n, hp := fun _ => none, us := fun _ => false, nx := 0, bk := [] }
def Prc.st (p : Prc) (x : p.G) : St := Inv.st (blank p.n) (p.inv x)
def hpOf (l : List (Nat × HE)) : St := { fr := [], hp := assoc l, us := fun n => (assoc l n).isSome, nx := 0, bk := [] }
def trkHE (k : Nat) : HE → Option PV
  | .box _ => some (.ptr k 0)
  | .row _ _ => some (.row k)
  | .map _ _ _ => some (.row k)
  | .clo _ _ => some (.clo k)
  | _ => none
def trks : List (Nat × HE) → List (Nat × PV)
  | [] => []
  | (k, h) :: r => (match trkHE k h with
    | some p => (k, p) :: trks r
    | none => trks r)
def trkd (l : List (Nat × PV)) (k : Nat) : Bool := match l with
  | [] => false
  | (j, _) :: r => bif Nat.beq k j then true else trkd r k
def trkSVs : List (Nat × PV) → List SV
  | [] => []
  | (_, p) :: r => .one p :: trkSVs r
def enumS : Nat → List SV → List (Nat × SV)
  | _, [] => []
  | i, v :: r => (i, v) :: enumS (i + 1) r
def padTo : Nat → List SV → List SV
  | 0, _ => []
  | n + 1, [] => .one .any :: padTo n []
  | n + 1, x :: r => x :: padTo n r
def simpP (l : List (Nat × PV)) : PV → Bool
  | .any => true
  | .d _ _ => true
  | .lit _ => true
  | .con _ => true
  | .row k => trkd l k
  | .ptr k _ => trkd l k
  | .clo k => trkd l k
  | _ => false
def simpPs (l : List (Nat × PV)) : List PV → Bool
  | [] => true
  | p :: r => bif simpP l p then simpPs l r else false
def simpHE (l : List (Nat × PV)) : HE → Bool
  | .box ps => simpPs l ps
  | .clo _ ps => simpPs l ps
  | .row _ _ => true
  | .map _ _ _ => true
  | .pool _ _ => true
  | _ => false
def simpH (l : List (Nat × PV)) : List (Nat × HE) → Bool
  | [] => true
  | (_, h) :: r => bif simpHE l h then simpH l r else false
def distN : List (Nat × HE) → Bool
  | [] => true
  | (k, _) :: r => (match assoc r k with
    | none => distN r
    | some _ => false)
def sameNms : List (Nat × HE) → List (Nat × HE) → Bool
  | [], [] => true
  | (k, h) :: r, (j, h') :: q => bif Nat.beq k j then (match trkHE k h, trkHE j h' with
    | some _, some _ => sameNms r q
    | none, none => sameNms r q
    | _, _ => false) else false
  | _, _ => false
def PV.ren (σ : Ren) : PV → PV
  | .row k => .row (σ.at k)
  | .ptr k o => .ptr (σ.at k) o
  | .clo k => .clo (σ.at k)
  | p => p
def HE.ren (σ : Ren) : HE → HE
  | .box ps => .box (ps.map (PV.ren σ))
  | .clo f ps => .clo f (ps.map (PV.ren σ))
  | h => h
def over (σ : Ren) (hp : Nat → Option HE) : List (Nat × HE) → Nat → Option HE
  | [] => hp
  | (k, h) :: r => fun n => bif Nat.beq n (σ.at k) then some (h.ren σ) else over σ hp r n
def prcS (p : Prc) (args : List SV) (s : St) (K : SV → St → Prop) : Prop :=
  match p.pick { s with fr := args, bk := s.fr ++ s.bk } with
  | some g => bif p.rs.all noSl then Holds (p.pre g) ∧
    (match p.inv g, p.inv (p.f g).1 with
    | v, v' => (match nilHeap (nilSlots (packHeap { s with fr := args, bk := s.fr ++ s.bk } (s.nx + 1000000) v.heap) v s.nx v.slots) v (s.nx + v.slots.length) v.heap with
      | s' => (match mHeap s' (mHeap s' (mSlots s' [] v.slots) v.heap) v.heap with
        | σ => bif sameLen s'.fr (anys (pad p.n)) && (injN σ v.heap [] && (okSlots v v.slots [] && (okHeap v v.heap [] && (simpH (trks v.heap) v'.heap && (sameNms v.heap v'.heap && lenLe s.fr s'.bk))))) then
            (leSlots σ s' v.slots ∧ leHeap σ s' v.heap) ∧ K (resR p.rs (p.f g).2) { s' with fr := takeL s.fr s'.bk, bk := dropL s.fr s'.bk, hp := over σ s'.hp v'.heap } else False))) else False
  | none => False
def isRow : Option HE → Bool
  | some (.row _ _) => true
  | _ => false
def dropN (hp : Nat → Option HE) (k : Nat) : Nat → Option HE := fun n => bif Nat.beq n k then none else hp n
def prcO (p : Prc) (n0 k : Nat) (args : List SV) (s : St) (K : SV → St → Prop) : Prop :=
  match p.pick { s with fr := args, bk := s.fr ++ s.bk } with
  | some g => Holds (p.pre g) ∧
    (match p.inv g, p.inv (p.f g).1 with
    | v, v' => (match nilHeap (nilSlots (packHeap { s with fr := args, bk := s.fr ++ s.bk } (s.nx + 1000000) v.heap) v s.nx v.slots) v (s.nx + v.slots.length) v.heap with
      | s' => (match mHeap s' (mHeap s' (mSlots s' [] v.slots) v.heap) v.heap with
        | σ => bif (isRow (assoc v'.heap n0) && !(s'.us k)) && (sameLen s'.fr (anys (pad p.n)) && (injN σ v.heap [] && (okSlots v v.slots [] && (okHeap v v.heap [] && (simpH (trks v.heap) v'.heap && (sameNms v.heap v'.heap && lenLe s.fr s'.bk)))))) then
            (leSlots σ s' v.slots ∧ leHeap σ s' v.heap) ∧ K (.one (.row k)) { s' with fr := takeL s.fr s'.bk, bk := dropL s.fr s'.bk, us := uset s'.us k, hp := over ((n0, k) :: σ) (dropN s'.hp (σ.at n0)) v'.heap } else False)))
  | none => False
def constFs : List SV → Option (List Nat)
  | [] => some []
  | .one (.con (.func (.func h) fs cs)) :: r => bif fs.isEmpty && cs.isEmpty then (match constFs r with
    | some l => some (h :: l)
    | none => none) else none
  | _ => none
def splitX (X : Fx) (s : St) (g : Nat) (args : List SV) : Option (Ctr × List SV) := match args with
  | .one (.con (.slice none 0 0)) :: r => (match X.KN g with
    | some c => some (c, r)
    | none => none)
  | .one (.clo k) :: r => (match s.hp k with
    | some (.clo h [.ptr b 0]) => (match s.hp b with
      | some (.box [p]) => bif p.agg then none else (match constFs r with
        | some fs => (match X.KC g h fs with
          | some c => some (c, [.one p])
          | none => none)
        | none => none)
      | _ => none)
    | _ => none)
  | _ => none
def call (X : Fx) : Nat → Nat → Nat → List SV → St → (SV → St → Prop) → Prop
  | n, k, g, args, s, K => (match X.K g with
    | some c => ctrS c k s args K
    | none => (match splitF X g args with
    | some (c, l) => ctrS c k s l K
    | none => (match splitX X s g args with
    | some (c, l) => ctrS c k s l K
    | none => (match X.PR g with
    | some p => prcS p args s K
    | none => (match X.PO g with
    | some q => prcO q.1 q.2 k args s K
    | none => (match n with
      | 0 => False
      | n + 1 => (match X.fn g with
        | some fn => (match fn.body with
          | some c => bif Nat.ble args.length fn.ntmps then
              code X (call X n) g c { s with fr := args ++ pad (fn.ntmps - args.length), bk := s.fr ++ s.bk } (fun e s' => match e with
                | .exit _ => False
                | _ => (match resS X.E s' fn.results.toList with
                  | some v => bif lenLe s.fr s'.bk then K v { s' with fr := takeL s.fr s'.bk, bk := dropL s.fr s'.bk } else False
                  | none => False)) else False
          | none => False)
        | none => False)))))))

def argsV : (as : List Ty) → HL as → List SV
  | [], _ => []
  | t :: ts, x => .one (.d t x.1) :: argsV ts x.2
def start (n : Nat) (args : List SV) : St := { fr := args ++ pad (n - args.length), hp := fun _ => none, us := fun _ => false, nx := 0, bk := [] }
def rdRes (s : St) : (rs : List Ty) → SV → Option (HL rs)
  | [t], v => (match rdArg s true t v with
    | some x => some (x, ())
    | none => none)
  | rs, .tup es => go rs es
  | _, _ => none
where
  go : (rs : List Ty) → List (Bool × List PV) → Option (HL rs)
    | [], [] => some ()
    | t :: ts, e :: es => bif Bool.xor e.1 t.agg then none else (match rdAll t ((psParts e.2).map (PV.res s)) with
      | some x => (match go ts es with
        | some y => some (x, y)
        | none => none)
      | none => none)
    | _, _ => none
def rowOf (s : St) (t : Ty) : PV → Option (List t.D)
  | .row k => (match s.hp k with
    | some (.row u xs) => castD (.sl u) (.sl t) xs
    | _ => none)
  | .con (.slice none 0 0) => some []
  | _ => none
def restOk (p : PV) : PV → Bool
  | .row j => (match p with
    | .row k => !(Nat.beq j k)
    | _ => true)
  | .sub _ _ _ _ _ => false
  | .bsl _ _ _ _ => false
  | _ => true
def restOkE (p : PV) : List (Bool × List PV) → Bool
  | [] => true
  | e :: r => (psParts e.2).all (restOk p) && restOkE p r
def rdOwn (s : St) : (rs : List Ty) → SV → Option (HL rs)
  | [.sl t], .one p => (match rowOf s t p with
    | some x => some (x, ())
    | none => none)
  | .sl t :: u :: r, .tup ((false, [p]) :: es) => bif restOkE p es then (match rowOf s t p, rdRes.go s (u :: r) es with
    | some x, some y => some (x, y)
    | _, _ => none) else none
  | _, _ => none
def eqHL : (rs : List Ty) → HL rs → HL rs → Prop
  | [], _, _ => True
  | [_], x, y => x.1 = y.1
  | _ :: ts, x, y => x.1 = y.1 ∧ eqHL ts x.2 y.2
def vcF (X : Fx) (n g h : Nat) (fn : Func) (c : Ctr) (x : HL c.as) : Prop :=
  match fn.body with
  | some b => code X (call X n) g b (start fn.ntmps (argsV c.as x ++ [.one (.con (.func (.func h) #[] #[]))])) (fun e s' => match e with
      | .exit _ => False
      | _ => (match resS X.E s' fn.results.toList with
        | some v => (match (bif c.own then (bif ownOk c.rs then rdOwn s' c.rs v else none) else rdRes s' c.rs v) with
          | some y => eqHL c.rs y (c.f x)
          | none => False)
        | none => False))
  | none => False
def vc (X : Fx) (n g : Nat) (fn : Func) (c : Ctr) (x : HL c.as) : Prop :=
  match fn.body with
  | some b => code X (call X n) g b (start fn.ntmps (argsV c.as x)) (fun e s' => match e with
      | .exit _ => False
      | _ => (match resS X.E s' fn.results.toList with
        | some v => (match (bif c.own then (bif ownOk c.rs then rdOwn s' c.rs v else none) else rdRes s' c.rs v) with
          | some y => eqHL c.rs y (c.f x)
          | none => False)
        | none => False))
  | none => False
def leX (s : St) (v : Inv) : Prop :=
  match trkSVs (trks v.heap) with
  | ts => (match ({ s with fr := padTo ts.length s.bk, bk := [] } : St), ({ v with slots := enumS 0 ts } : Inv) with
    | s1, v1 => le s1 v1 (Inv.st s1 v1))
def vcPr (X : Fx) (n g : Nat) (fn : Func) (p : Prc) (x : p.G) : Prop :=
  match fn.body with
  | some b => bif p.rs.all noSl && (Nat.ble p.n fn.ntmps && (distN (p.inv x).heap && sameNms (p.inv x).heap (p.inv (p.f x).1).heap)) then
      code X (call X n) g b { p.st x with fr := (p.st x).fr ++ pad (fn.ntmps - p.n), bk := trkSVs (trks (p.inv x).heap) } (fun e s' => match e with
      | .exit _ => False
      | _ => (match resS X.E s' fn.results.toList with
        | some v => (match rdRes s' p.rs v with
          | some y => eqHL p.rs y (p.f x).2 ∧ leX s' (p.inv (p.f x).1)
          | none => False)
        | none => False)) else False
  | none => False
end Go.Sx
/-
  Sx, part NA: pools, iterations over maps, arrays of slices of our own.
-/
set_option linter.unusedSimpArgs false
namespace Go.Sx
open Go.RowKit
section
variable {P : Program} {X : Fx} {f : Nat} {E : Env} {w0 : Base} {w : World} {ρ : Nat → Value} {s s' : St} {a : Act} {o : Oper}
theorem mput_new {t : Ty} {a : Int} {y : t.D} : ∀ {m : List (Int × t.D)}, mhas t m a = false → mput t m a y = m ++ [(a, y)]
  | [], _ => rfl
  | e :: r, h => by
    by_cases h1 : e.1 = a
    · simp [mhas, mget?, h1] at h
    · have e1 : mput t (e :: r) a y = e :: mput t r a y := by simp [mput, h1]
      have h2 : mhas t r a = false := by simpa [mhas, mget?, h1] using h
      rw [e1, mput_new h2, List.cons_append]
theorem mhas_of_mem {t : Ty} {a : Int} : ∀ {m : List (Int × t.D)}, (∃ e ∈ m, e.1 = a) → mhas t m a = true
  | [], h => by obtain ⟨e, he, _⟩ := h; cases he
  | c :: r, h => by
    by_cases h1 : c.1 = a
    · simp [mhas, mget?, h1]
    · have h2 : mhas t r a = true := mhas_of_mem (by
        obtain ⟨e, he, hea⟩ := h
        rcases List.mem_cons.1 he with rfl | he
        · exact absurd hea h1
        · exact ⟨e, he, hea⟩)
      simpa [mhas, mget?, h1] using h2
theorem castM_eq {kk kk' : IntKind} {t u : Ty} {xs : List (Int × t.D)} {ys : List (Int × u.D)} (h : castM kk t kk' u xs = some ys) : kk = kk' ∧ ∃ e : t = u, e ▸ xs = ys := by
  unfold castM at h
  split at h
  · rename_i he
    obtain ⟨rfl, rfl⟩ := he
    simp only [Option.some.injEq] at h
    exact ⟨rfl, rfl, h⟩
  · cases h
theorem pool_alloc {K : St → Prop} {N : Act → World → Prop} {d : Option Nat} {p : Nat} {u : Ty} {y : u.D} {cs : Array Value} {e : TypeId} (h : Ok w0 ρ s a w) (hr : Rd (Free w0 ρ s.hp w) w u cs.toList y)
    (hK : allocP s d p u y K) (hN : ∀ ρ' s' a' w', Ok w0 ρ' s' a' w' → K s' → N a' w') : N (a.put d (.pointer (some ⟨w.heap.size, 0, none⟩))) (w.alloc (.cells cs e)) := by
  have hm := More.alloc w (.cells cs e)
  have hnew := heap_alloc_new w (.cells cs e)
  have hto : ((w.heap.size : Int)).toNat = w.heap.size := Int.toNat_natCast _
  have hsv : ∀ c : Cx, SVc c (.one (.d (.ref p) (w.heap.size : Int))) (.pointer (some ⟨w.heap.size, 0, none⟩)) := fun c => SVc.of1 (p := .d (.ref p) (w.heap.size : Int)) rfl (.inr ⟨Int.natCast_nonneg _, by rw [hto]⟩)
  unfold allocP at hK
  split at hK
  · rename_i t m hk
    split at hK
    · rename_i m' hc
      obtain ⟨_, rfl, hc⟩ := castM_eq hc
      have hc : m = m' := hc
      subst hc
      have hp := h.heap _ _ hk
      have hno : mhas t m (w.heap.size : Int) = false := by
        cases hh : mhas t m (w.heap.size : Int) with
        | false => rfl
        | true =>
          have := (h.fresh _ _ w.heap.size hk ⟨_, mhas_mem hh, rfl⟩).2
          omega
      have hmp := mput_new (y := y) hno
      have hB : ∀ b, Bk (.pool t (mput t m (w.heap.size : Int) y)) (ρ (poolN p)) b → Bk (.pool t m) (ρ (poolN p)) b ∨ (w.heap.size ≤ b ∧ b < (w.alloc (.cells cs e)).heap.size) := fun b hb => by
        rw [hmp] at hb
        obtain ⟨c, hc, hcb⟩ := hb
        rcases List.mem_append.1 hc with hc | hc
        · exact .inl ⟨c, hc, hcb⟩
        · have : c = ((w.heap.size : Int), y) := by simpa using hc
          subst this
          have : w.heap.size = b := Int.ofNat_inj.1 hcb
          subst this
          exact .inr ⟨Nat.le_refl _, by simp⟩
      have hle := upd_le (he := .pool t (mput t m (w.heap.size : Int) y)) h hk hB hm.below.size (fun b hb _ => hm.old hb)
      have hok : Ok w0 ρ (s.upd (poolN p) (.pool t (mput t m (w.heap.size : Int) y))) a (w.alloc (.cells cs e)) := by
        refine h.upd hk hB (h.belowS hm.below) (fun b hb _ => hm.old hb) ⟨?_, fun c hc => ?_⟩
        · rw [hmp, List.map_append, List.nodup_append]
          refine ⟨hp.1, by simp, fun x hx z hz => ?_⟩
          have : z = (w.heap.size : Int) := by simpa using hz
          subst this
          intro e2
          subst e2
          obtain ⟨c, hc, hc2⟩ := List.mem_map.1 hx
          have := mhas_of_mem (t := t) ⟨c, hc, hc2⟩
          rw [hno] at this; cases this
        · rw [hmp] at hc
          rcases List.mem_append.1 hc with hc | hc
          · obtain ⟨g0, ty, cs', g1, g2⟩ := hp.2 c hc
            have g0 : 0 ≤ c.1 := g0
            refine ⟨g0, ty, cs', (hm.old ?_).trans g1, Rd.mono hle.keep g2⟩
            exact (h.fresh _ _ c.1.toNat hk ⟨c, hc, (Int.toNat_of_nonneg g0).symm⟩).2
          · have : c = ((w.heap.size : Int), y) := by simpa using hc
            subst this
            exact ⟨Int.natCast_nonneg _, e, cs, by show (w.alloc (.cells cs e)).heap[((w.heap.size : Int)).toNat]? = _; rw [hto]; exact hnew, Rd.mono hle.keep hr⟩
      exact hN _ _ _ _ (hok.put d (hsv _)) (hK _ (Int.natCast_nonneg _) hno)
    · exact hK.elim
  · rename_i hk
    cases hus : s.us (poolN p) with
    | true => rw [hus] at hK; exact hK.elim
    | false =>
      rw [hus] at hK
      have hle := new_le (he := .pool u [((w.heap.size : Int), y)]) (v := undef) h hus hm (fun b hb => by
        obtain ⟨c, hc, hcb⟩ := hb
        have : c = ((w.heap.size : Int), y) := by simpa using hc
        subst this
        have : w.heap.size = b := Int.ofNat_inj.1 hcb
        subst this
        exact ⟨Nat.le_refl _, by simp⟩)
      have hok := h.new (he := .pool u [((w.heap.size : Int), y)]) (v := undef) hus hm (fun b hb => by
        obtain ⟨c, hc, hcb⟩ := hb
        have : c = ((w.heap.size : Int), y) := by simpa using hc
        subst this
        have : w.heap.size = b := Int.ofNat_inj.1 hcb
        subst this
        exact ⟨Nat.le_refl _, by simp⟩) ⟨by simp, fun c hc => by
          have : c = ((w.heap.size : Int), y) := by simpa using hc
          subst this
          exact ⟨Int.natCast_nonneg _, e, cs, by show (w.alloc (.cells cs e)).heap[((w.heap.size : Int)).toNat]? = _; rw [hto]; exact hnew, Rd.mono hle.keep hr⟩⟩
      exact hN _ _ _ _ (hok.put d (hsv _)) (hK _ (Int.natCast_nonneg _))
  · exact hK.elim
theorem allocP_does {K : St → Prop} {N : Act → World → Prop} {p : Nat} {u : Ty} {y : u.D} (hE : EnvOk P X.E) (h : Ok w0 ρ s a w) (hc : allocP? X f s o = some (p, ⟨u, y⟩))
    (hK : allocP s o.dst p u y K) (hN : ∀ ρ' s' a' w', Ok w0 ρ' s' a' w' → K s' → N a' w') : Does P o a w N := by
  unfold allocP? at hc
  split at hc
  · cases hc
  · rename_i d hd
    split at hc
    · cases hc
    · rename_i q hq
      split at hc
      · rename_i e ho
        split at hc
        · rename_i sz by_ kd zs u' hti
          simp only [Option.some.injEq, Prod.mk.injEq] at hc
          obtain ⟨rfl, hc⟩ := hc
          cases hc
          have hT := hE e _ hti
          obtain ⟨z, h1, h2⟩ := hT.run_zero w
          obtain ⟨_, _, g1, g2⟩ := hT.ty
          refine .inl ⟨.pointer (some ⟨w.heap.size, 0, none⟩), w.alloc (.cells z.cells e), by simp only [execOp, ho, Instr.alloc, Sem.run_bind, h1, newVar_run, Result.andThen_ok, Sem.run_pure], ?_⟩
          refine pool_alloc h ?_ hK hN
          rw [h2, ← g2]
          exact cellsD_rd g1
        · cases hc
      · rename_i e x ho
        split at hc
        · rename_i ps sz by_ kd zs u' hps hti
          split at hc
          · rename_i y' hy
            simp only [Option.some.injEq, Prod.mk.injEq] at hc
            obtain ⟨rfl, hc⟩ := hc
            cases hc
            refine .inl ⟨.pointer (some ⟨w.heap.size, 0, none⟩), w.alloc (.cells (a.eval x).cells e), by simp only [execOp, ho, Instr.box, Sem.run_bind, newVar_run, Result.andThen_ok, Sem.run_pure], ?_⟩
            exact pool_alloc h (rdAll_c (c := cx w0 ρ s w) hy (SVparts_c (h.ev x) hps)) hK hN
          · cases hc
        · cases hc
      · cases hc
theorem MapC.get {c : Cx} {kk : IntKind} {t : Ty} : ∀ {es : List MapEntry} {xs : List (Int × t.D)} {i : Nat} {e : MapEntry}, MapC c kk t es xs → es[i]? = some e → ∃ x, xs[i]? = some x ∧ MapC c kk t [e] [x]
  | [], [], _, _, _, h => by simp at h
  | e :: es, x :: xs, 0, e', h, he => by
    have : e = e' := by simpa using he
    subst this
    exact ⟨x, rfl, h.1, trivial⟩
  | e :: es, x :: xs, i + 1, e', h, he => by
    obtain ⟨y, h1, h2⟩ := MapC.get h.2 (i := i) (by simpa using he)
    exact ⟨y, by simpa using h1, h2⟩
  | [], _ :: _, _, _, h, _ => h.elim
  | _ :: _, [], _, _, h, _ => h.elim
theorem MapC.erase {c : Cx} {kk : IntKind} {t : Ty} : ∀ {es : List MapEntry} {xs : List (Int × t.D)} {i : Nat}, MapC c kk t es xs → MapC c kk t (es.eraseIdx i) (xs.eraseIdx i)
  | [], [], _, h => h
  | _ :: _, _ :: _, 0, h => h.2
  | _ :: _, _ :: _, i + 1, h => ⟨h.1, MapC.erase h.2⟩
  | [], _ :: _, _, h => h.elim
  | _ :: _, [], _, h => h.elim
theorem left_nil (es : List MapEntry) : leftOf es #[] = es := by
  unfold leftOf
  rw [List.filter_eq_self]
  intro e _
  simp
theorem filter_born : ∀ {l : List MapEntry} {i : Nat} {e : MapEntry}, l.Pairwise (fun a b => a.born ≠ b.born) → l[i]? = some e → l.filter (fun x => !(x.born == e.born)) = l.eraseIdx i
  | [], _, _, _, h => by simp at h
  | c :: l, 0, e, hp, h => by
    have : c = e := by simpa using h
    subst this
    rw [List.pairwise_cons] at hp
    have h1 : l.filter (fun x => !(x.born == c.born)) = l := by
      rw [List.filter_eq_self]
      intro x hx
      have := hp.1 x hx
      simp only [Bool.not_eq_true', beq_eq_false_iff_ne]
      exact fun e => this e.symm
    simp [List.filter_cons, h1]
  | c :: l, i + 1, e, hp, h => by
    rw [List.pairwise_cons] at hp
    have he : l[i]? = some e := by simpa using h
    have hne := hp.1 e (List.mem_iff_getElem?.2 ⟨i, he⟩)
    have ih := filter_born hp.2 he
    have hb : (c.born == e.born) = false := by rw [beq_eq_false_iff_ne]; exact hne
    rw [List.filter_cons, hb]
    simp only [Bool.not_false, if_true, List.eraseIdx_cons_succ]
    rw [ih]
theorem left_push {es : List MapEntry} {seen : Array Nat} {clock i : Nat} {e : MapEntry} (h : BornOk es clock) (he : (leftOf es seen)[i]? = some e) : leftOf es (seen.push e.born) = (leftOf es seen).eraseIdx i := by
  have hp : (leftOf es seen).Pairwise (fun a b => a.born ≠ b.born) := h.2.sublist List.filter_sublist
  rw [← filter_born hp he]
  unfold leftOf
  rw [List.filter_filter]
  refine List.filter_congr fun x _ => ?_
  simp [Bool.and_comm]
  rfl
theorem left_arr (es : Array MapEntry) (seen : Array Nat) : (Go.leftOf es seen).toList = leftOf es.toList seen := by
  unfold Go.leftOf leftOf
  rw [Array.toList_filter]
theorem setBlock_below {B : Nat → Prop} {r : Nat} {ob : Obj} (h : ¬ B r) : BelowS B w (Go.ChangeMaps.setBlock w r ob) :=
  ⟨rfl, rfl, rfl, by simp [Go.ChangeMaps.setBlock], fun n hn => by
    show (w.heap.setIfInBounds r ob)[n]? = _
    rw [Array.getElem?_setIfInBounds_ne (fun e => h (by rw [e]; exact hn))]⟩
theorem setBlock_other {r b : Nat} {ob : Obj} (h : b ≠ r) : (Go.ChangeMaps.setBlock w r ob).heap[b]? = w.heap[b]? := by
  show (w.heap.setIfInBounds r ob)[b]? = _
  rw [Array.getElem?_setIfInBounds_ne (fun e => h e.symm)]
theorem setBlock_same {r : Nat} {o1 ob : Obj} (h : w.heap[r]? = some o1) : (Go.ChangeMaps.setBlock w r ob).heap[r]? = some ob := by
  show (w.heap.setIfInBounds r ob)[r]? = _
  have hlt := (Array.getElem?_eq_some_iff.1 h).1
  simp [hlt]
theorem range_does {j : Nat} {kk : IntKind} {t : Ty} {xs : List (Int × t.D)} {N : Act → World → Prop} (hE : EnvOk P E) (h : Ok w0 ρ s a w) (hc : rangeM? E s o.op = some (j, kk, ⟨t, xs⟩))
    (hN : ∀ r, Up w0 ((s.upd j (.mapit kk t xs r xs none)).put o.dst (.one (.itr j r))) N) : Does P o a w N := by
  cases ho : o.op with
  | range ty x =>
    rw [ho] at hc
    unfold rangeM? at hc
    simp only at hc
    split at hc
    · rename_i kkei k hmt hx
      split at hc
      · rename_i kk' m hk
        simp only [Option.some.injEq, Prod.mk.injEq] at hc
        obtain ⟨rfl, rfl, hc⟩ := hc
        subst hc
        obtain ⟨kt, et, hu, _⟩ := mapTy_c hE hmt
        obtain ⟨h0, hk0, hB0, b, es, clock, hbk, hb, hmc, hbo⟩ := mapOf_c h hk
        have hv := h.ev x
        rw [hx] at hv
        obtain ⟨_, hv, _⟩ := SVc.one1 rfl (by simp) hv
        simp only [List.cons.injEq, and_true] at hv
        have hv : a.eval x = .map (some b) := hv.trans hbk
        have hrun : (Instr.range ty (a.eval x)).run P w = .ok (.pointer (some ⟨w.heap.size, 0, none⟩)) (w.alloc (.mapIter (some b) clock #[] clock)) := by
          unfold Instr.range
          rw [hv]
          simp only [Sem.run_bind, run_underlying hu, Result.andThen_ok, Go.MapKept.run_getObj_map hb, Sem.run_pure]
          rfl
        have hm := More.alloc w (.mapIter (some b) clock #[] clock)
        have hblt : b < w.heap.size := (Array.getElem?_eq_some_iff.1 hb).1
        have hB : ∀ b', Bk (.mapit kk' t xs w.heap.size xs none) (ρ k) b' → Bk h0 (ρ k) b' ∨ (w.heap.size ≤ b' ∧ b' < (w.alloc (.mapIter (some b) clock #[] clock)).heap.size) := fun b' hb' => by
          rcases hb' with hb' | rfl
          · exact .inl (hB0 _ _ hb')
          · exact .inr ⟨Nat.le_refl _, by simp⟩
        have hle := upd_le (he := .mapit kk' t xs w.heap.size xs none) h hk0 hB hm.below.size (fun b hb _ => hm.old hb)
        have hok : Ok w0 ρ (s.upd k (.mapit kk' t xs w.heap.size xs none)) a (w.alloc (.mapIter (some b) clock #[] clock)) :=
          h.upd hk0 hB (h.belowS hm.below) (fun b hb _ => hm.old hb) ⟨b, es, clock, #[], hbk, ⟨(hm.old hblt).trans hb, heap_alloc_new w _⟩, hmc.mono hle, hbo, by rw [left_nil]; exact hmc.mono hle, fun x hx => by cases hx⟩
        exact .inl ⟨_, _, by simp only [execOp, ho, Sem.run_bind, hrun, Result.andThen_ok, Sem.run_pure], hN w.heap.size _ _ _ (hok.put o.dst (SVc.of1 (p := .itr k w.heap.size) rfl rfl))⟩
      · cases hc
    · cases hc
  | _ => rw [ho] at hc; simp [rangeM?] at hc
theorem next_does {j r r' : Nat} {kk : IntKind} {t : Ty} {xs rem : List (Int × t.D)} {K : St → Prop} {N : Act → World → Prop} (h : Ok w0 ρ s a w) (hc : nextM? s o.op = some (j, r, kk, ⟨t, xs, r', rem⟩))
    (hK : nextM s o.dst j r kk t xs r' rem K) (hN : ∀ ρ' s' a' w', Ok w0 ρ' s' a' w' → K s' → N a' w') : Does P o a w N := by
  cases ho : o.op with
  | next x str =>
    rw [ho] at hc
    unfold nextM? at hc
    cases str with
    | true => simp at hc
    | false =>
      simp only at hc
      split at hc
      · rename_i k q hx
        split at hc
        · rename_i kk' t' xs' q' rem' cur hk
          simp only [Option.some.injEq, Prod.mk.injEq] at hc
          obtain ⟨rfl, rfl, rfl, hc⟩ := hc
          cases hc
          obtain ⟨e1, hK1, hK2⟩ := hK
          subst e1
          have hv := h.ev x
          rw [hx] at hv
          have hv := SVc.one1 rfl (by simp) hv
          have hv : [a.eval x] = [.pointer (some ⟨q, 0, none⟩)] := hv
          simp only [List.cons.injEq, and_true] at hv
          obtain ⟨b, es, clock, seen, hbk, ⟨hb, hr⟩, hmc, hbo, hrem, _⟩ := h.heap k _ hk
          have hbk : ρ k = .map (some b) := hbk
          have hb : w.heap[b]? = some (.map es clock) := hb
          have hr : w.heap[q]? = some (.mapIter (some b) clock seen clock) := hr
          have hbq : b ≠ q := fun e => by rw [e, hr] at hb; cases hb
          have hfr := h.fresh k _ q hk (.inr rfl)
          have hex : ∀ {v w'}, (Instr.next (.pointer (some ⟨q, 0, none⟩)) false o.type).run P w = .ok v w' → (execOp a.eval o).run P w = .ok (.value v) w' := fun hrun => by
            simp only [execOp, ho, hv, Sem.run_bind, hrun, Result.andThen_ok, Sem.run_pure]
          rcases run_next_at (P := P) w o.type q b clock clock seen es clock hr hb hbo.1 (Nat.le_refl _) with ⟨h0, hrun⟩ | ⟨e, he, w1, hw1, hrun⟩
          · have hl : (leftOf es.toList seen).length = 0 := by rw [← left_arr]; simpa using h0
            have hrem0 : rem = [] := List.eq_nil_of_length_eq_zero (by rw [← hrem.len]; exact hl)
            have hok : Ok w0 ρ (s.upd k (.map kk' t xs)) a w := h.upd hk (fun b hb => .inl (.inl hb)) (BelowS.refl _ _) (fun _ _ _ => rfl)
              ⟨b, es, clock, hbk, hb, hmc.mono (upd_le (he := .map kk' t xs) h hk (fun b hb => .inl (.inl hb)) (Nat.le_refl _) (fun _ _ _ => rfl)), hbo⟩
            exact .inl ⟨_, _, hex hrun, hN _ _ _ _ (hok.put o.dst (v := .tup [(false, [.lit false])]) ⟨_, rfl, .bool false, [], rfl, PsC.single (p := .lit false) rfl, rfl⟩) (hK1 hrem0)⟩
          · rw [left_arr] at he
            obtain ⟨i, hi⟩ := List.mem_iff_getElem?.1 he
            obtain ⟨y, hy, hye⟩ := hrem.get hi
            have hmore : More w w1 := by
              rcases hw1 with e | e
              · rw [e]; exact More.refl _
              · rw [e]; exact More.drew _
            have hsame : ∀ n : Nat, w1.heap[n]? = w.heap[n]? := by
              rcases hw1 with e | e
              · rw [e]; exact fun _ => rfl
              · rw [e]; exact fun _ => rfl
            have hbel : BelowS w0.old w (Go.ChangeMaps.setBlock w1 q (.mapIter (some b) clock (seen.push e.born) clock)) := (h.belowS hmore.below).trans (setBlock_below hfr.1)
            have hB : ∀ b', Bk (.mapit kk' t xs q (rem.eraseIdx i) (some y)) (ρ k) b' → Bk (.mapit kk' t xs q rem cur) (ρ k) b' ∨ (w.heap.size ≤ b' ∧ b' < (Go.ChangeMaps.setBlock w1 q (.mapIter (some b) clock (seen.push e.born) clock)).heap.size) := fun b' hb' => .inl hb'
            have hold : ∀ b', b' < w.heap.size → ¬ Bk (.mapit kk' t xs q rem cur) (ρ k) b' → (Go.ChangeMaps.setBlock w1 q (.mapIter (some b) clock (seen.push e.born) clock)).heap[b']? = w.heap[b']? := fun b' _ hne => by
              rw [setBlock_other (fun e => hne (.inr e)), hsame]
            have hle := upd_le (he := .mapit kk' t xs q (rem.eraseIdx i) (some y)) h hk hB hbel.size hold
            have hok := h.upd (he := .mapit kk' t xs q (rem.eraseIdx i) (some y)) hk hB hbel hold ⟨b, es, clock, seen.push e.born, hbk, ⟨(setBlock_other hbq).trans ((hsame b).trans hb), setBlock_same ((hsame q).trans hr)⟩, hmc.mono hle, hbo, by
              rw [left_push hbo hi]
              exact hrem.erase.mono hle, fun x hx => by
                injection hx with hx
                subst hx
                exact ⟨e, (List.mem_filter.1 he).1, ⟨seen, rfl⟩, hye.mono hle⟩⟩
            have hye' := hye.mono hle
            refine .inl ⟨_, _, hex hrun, hN _ _ _ _ (hok.put o.dst (v := .tup [(false, [.lit true]), (false, [.d (.int kk') y.1]), (false, [.d t y.2])]) ⟨_, rfl, .bool true, _, rfl, PsC.single (p := .lit true) rfl, _, _, rfl, PsC.single (p := .d (.int kk') y.1) ?_, _, [], rfl, PsC.single (p := .d t y.2) ?_, rfl⟩) (hK2 i y hy)⟩
            · exact ⟨by rw [hye'.1.1], hye'.1.2.1⟩
            · exact hye'.1.2.2
        · cases hc
      · cases hc
  | _ => rw [ho] at hc; simp [nextM?] at hc
theorem entry_does {r r' : Nat} {kk : IntKind} {t : Ty} {e : Int × t.D} {N : Act → World → Prop} (h : Ok w0 ρ s a w) (hc : entryM? s o.op = some (r, r', kk, ⟨t, e⟩)) (hr : r = r')
    (hN : Up w0 (s.put o.dst (.tup [(false, [.d (.int kk) e.1]), (false, [.d t e.2])])) N) : Does P o a w N := by
  cases ho : o.op with
  | entry x =>
    rw [ho] at hc
    unfold entryM? at hc
    simp only at hc
    split at hc
    · rename_i k q hx
      split at hc
      · rename_i kk' t' xs' q' rem' e' hk
        simp only [Option.some.injEq, Prod.mk.injEq] at hc
        obtain ⟨rfl, rfl, rfl, hc⟩ := hc
        cases hc
        subst hr
        have hv := h.ev x
        rw [hx] at hv
        have hv := SVc.one1 rfl (by simp) hv
        have hv : [a.eval x] = [.pointer (some ⟨q, 0, none⟩)] := hv
        simp only [List.cons.injEq, and_true] at hv
        obtain ⟨b, es, clock, seen, hbk, ⟨hb, hr⟩, hmc, hbo, hrem, hcur⟩ := h.heap k _ hk
        obtain ⟨me, hme, ⟨seen0, rfl⟩, hmc1⟩ := hcur _ rfl
        have hrun := run_entry_at (P := P) w q b clock seen0 es clock me hr hb hme (List.pairwise_map.2 hbo.2)
        refine does_value (m := Instr.entry (a.eval x)) h (by simp [execOp, ho]) (by rw [hv]; exact hrun) (sv := .tup [(false, [.d (.int kk') e.1]), (false, [.d t e.2])])
          ⟨_, rfl, _, _, rfl, PsC.single (p := .d (.int kk') e.1) ⟨by rw [hmc1.1.1], hmc1.1.2.1⟩, _, [], rfl, PsC.single (p := .d t e.2) hmc1.1.2.2, rfl⟩ hN
      · cases hc
    · cases hc
  | _ => rw [ho] at hc; simp [entryM?] at hc
theorem orwAt_c {c : Cx} {ps pre post : List PV} {off ko n : Nat} {g : Option (Nat × Nat)} {l : List Value} (ha : orwAt ps off = some (pre, ko, n, g, post)) (hl : PsC c ps l) :
    ps = pre ++ (.orp ko n g :: post) ∧ psSize pre = off ∧ ∃ hd q tl, l = hd ++ (q ++ tl) ∧ hd.length = off ∧ q.length = n ∧ PsC c pre hd ∧ PVc c (.orp ko n g) q ∧ PsC c post tl := by
  unfold orwAt at ha
  split at ha
  · rename_i pr k' n' h' po htk
    simp only [Option.some.injEq, Prod.mk.injEq] at ha
    obtain ⟨rfl, rfl, rfl, rfl, rfl⟩ := ha
    obtain ⟨he, hs⟩ := takeN_eq htk
    subst he
    obtain ⟨h1, h2⟩ := hl.split
    obtain ⟨q, tl, e, h3, h4⟩ := h2
    refine ⟨rfl, hs, l.take (psSize pr), q, tl, ?_, ?_, h3.len, h1, h3, h4⟩
    · rw [← e, List.take_append_drop]
    · rw [h1.len, hs]
  · cases ha
theorem RowC.mono {c c' : Cx} (h : c.le c') {t : Ty} {v : Value} {xs : List t.D} (hb : ∀ b, blkOf v = some b → c'.w.heap[b]? = c.w.heap[b]?) (hr : RowC c t v xs) : RowC c' t v xs := by
  rcases hr with hr | ⟨b, o, cp, cur, e, g1, g2, g3, g4, g5, g6⟩
  · exact .inl hr
  · exact .inr ⟨b, o, cp, cur, e, g1, (hb b (by rw [g1]; rfl)).trans g2, g3, g4, g5, fun i x hi => Rd.mono h.keep (g6 i x hi)⟩
def HeadsC (c : Cx) (u : Ty) (q : List Value) (xss : List (List u.D)) : Prop :=
  q.length = xss.length ∧ (∀ (i : Nat) v xs, q[i]? = some v → xss[i]? = some xs → RowC c u v xs) ∧ q.Pairwise fun v v' => ∀ b, blkOf v = some b → blkOf v' ≠ some b
theorem HeadsC.apart {c : Cx} {u : Ty} {q : List Value} {xss : List (List u.D)} (h : HeadsC c u q xss) {i j b : Nat} {v v' : Value} (hne : i ≠ j) (hi : q[i]? = some v) (hj : q[j]? = some v') (hb : blkOf v = some b) : blkOf v' ≠ some b := by
  obtain ⟨hil, rfl⟩ := List.getElem?_eq_some_iff.1 hi
  obtain ⟨hjl, rfl⟩ := List.getElem?_eq_some_iff.1 hj
  have hp := List.pairwise_iff_getElem.1 h.2.2
  rcases Nat.lt_or_gt_of_ne hne with hlt | hgt
  · exact hp i j hil hjl hlt b hb
  · intro hb'
    exact hp j i hjl hil hgt b hb' hb
theorem HeadsC.mk' {c : Cx} {u : Ty} {q : List Value} {xss : List (List u.D)} (hl : q.length = xss.length) (hr : ∀ (i : Nat) v xs, q[i]? = some v → xss[i]? = some xs → RowC c u v xs)
    (ha : ∀ (i j b : Nat) v v', i ≠ j → q[i]? = some v → q[j]? = some v' → blkOf v = some b → blkOf v' ≠ some b) : HeadsC c u q xss :=
  ⟨hl, hr, List.pairwise_iff_getElem.2 fun i j hi hj hlt b => ha i j b _ _ (by omega) (List.getElem?_eq_getElem hi) (List.getElem?_eq_getElem hj)⟩
theorem HeadsC.set {c : Cx} {u : Ty} {q : List Value} {xss : List (List u.D)} {i : Nat} {v : Value} {ys : List u.D} (h : HeadsC c u q xss) (hv : RowC c u v ys)
    (ha : ∀ (m b : Nat) v', m ≠ i → q[m]? = some v' → blkOf v = some b → blkOf v' ≠ some b) : HeadsC c u (q.set i v) (xss.set i ys) := by
  refine HeadsC.mk' (by simp [h.1]) (fun m x xs hx hxs => ?_) (fun m m' b x x' hne hx hx' hb => ?_)
  · by_cases e : i = m
    · subst e
      have hlt : i < q.length := by have := (List.getElem?_eq_some_iff.1 hx).1; simpa using this
      have hlt' : i < xss.length := by rw [← h.1]; exact hlt
      rw [List.getElem?_set_self hlt] at hx
      rw [List.getElem?_set_self hlt'] at hxs
      injection hx with hx
      injection hxs with hxs
      subst hx; subst hxs
      exact hv
    · rw [List.getElem?_set_ne e] at hx hxs
      exact h.2.1 m x xs hx hxs
  · by_cases e : i = m
    · subst e
      have hlt : i < q.length := by have := (List.getElem?_eq_some_iff.1 hx).1; simpa using this
      rw [List.getElem?_set_self hlt] at hx
      rw [List.getElem?_set_ne hne] at hx'
      injection hx with hx
      subst hx
      exact ha m' b x' (fun e => hne e.symm) hx' hb
    · rw [List.getElem?_set_ne e] at hx
      by_cases e' : i = m'
      · subst e'
        have hlt : i < q.length := by have := (List.getElem?_eq_some_iff.1 hx').1; simpa using this
        rw [List.getElem?_set_self hlt] at hx'
        injection hx' with hx'
        subst hx'
        intro hb'
        exact ha m b x hne hx hb' hb
      · rw [List.getElem?_set_ne e'] at hx'
        exact h.apart hne hx hx' hb
theorem HeadsC.mono {c c' : Cx} (h : c.le c') {u : Ty} {q : List Value} {xss : List (List u.D)} (hb : ∀ v ∈ q, ∀ b, blkOf v = some b → c'.w.heap[b]? = c.w.heap[b]?) (hq : HeadsC c u q xss) : HeadsC c' u q xss :=
  ⟨hq.1, fun i v xs hv hx => (hq.2.1 i v xs hv hx).mono h (hb v (List.mem_iff_getElem?.2 ⟨i, hv⟩)), hq.2.2⟩
theorem rowC_of (h : Ok w0 ρ s a w) {k : Nat} {u : Ty} {xs : List u.D} (hk : s.hp k = some (.row u xs)) : RowC (cx w0 ρ s w) u (ρ k) xs := h.heap k _ hk
theorem orw_open (h : Ok w0 ρ s a w) {ko n : Nat} {u : Ty} {xss xss1 : List (List u.D)} {g : Option (Nat × Nat)} {q : List Value} {s1 : St} (hk : s.hp ko = some (.orw u xss)) (hq : PVc (cx w0 ρ s w) (.orp ko n g) q)
    (hb : orwBack s u xss g = some (s1, xss1)) : HeadsC (cx w0 ρ s w) u q xss1 ∧ q.length = n ∧ (∀ v ∈ q, v.oneCell' = true) ∧
      (∀ v ∈ q, ∀ b, blkOf v = some b → ∃ n0 h0, (n0 = ko ∨ ∃ i0, g = some (i0, n0)) ∧ s.hp n0 = some h0 ∧ Bk h0 (ρ n0) b) ∧
      s1 = (match g with | none => s | some (_, k0) => s.drop k0) ∧ ∀ i0 k0, g = some (i0, k0) → ∃ ys, s.hp k0 = some (.row u ys) := by
  have hq1 := PVc.one hq
  have hql := PVc.len hq
  obtain ⟨vs, hvs, hvl, hrow, hpw⟩ := h.heap ko _ hk
  have hvs : ρ ko = .tuple vs.toArray := hvs
  have hH : HeadsC (cx w0 ρ s w) u vs xss := ⟨hvl, hrow, hpw⟩
  have hvo : ∀ v ∈ vs, ∀ b, blkOf v = some b → Bk (.orw u xss) (ρ ko) b := fun v hv b hb => ⟨_, hvs, v, by simpa using hv, hb⟩
  obtain ⟨_, vs', hvs', ⟨hvl', _⟩, hg⟩ := hq
  have hvs' : ρ ko = .tuple vs'.toArray := hvs'
  have hee : vs = vs' := by
    rw [hvs] at hvs'
    injection hvs' with e
    simpa using congrArg Array.toList e
  subst hee
  cases g with
  | none =>
    simp only [orwBack, Option.some.injEq, Prod.mk.injEq] at hb
    obtain ⟨rfl, rfl⟩ := hb
    have hg : q = vs := hg
    subst hg
    exact ⟨hH, hvl', hq1, fun v hv b hb => ⟨ko, _, .inl rfl, hk, hvo v hv b hb⟩, rfl, fun _ _ e => by cases e⟩
  | some e =>
    obtain ⟨i0, k0⟩ := e
    simp only [orwBack] at hb
    split at hb
    · rename_i u0 ys hk0
      split at hb
      · rename_i ys' hc
        simp only [Option.some.injEq, Prod.mk.injEq] at hb
        obtain ⟨rfl, rfl⟩ := hb
        obtain ⟨e2, e3⟩ := castD_eq hc
        injection e2 with e2
        subst e2
        have e3 : ys = ys' := e3
        subst e3
        obtain ⟨⟨_, hi0⟩, _, hg⟩ := hg
        have hg : q = vs.set i0 (ρ k0) := hg
        subst hg
        have hr0 := rowC_of h hk0
        have hko : ko ≠ k0 := fun e => by rw [e, hk0] at hk; cases hk
        refine ⟨hH.set hr0 (fun m b v' hm hv' hb hb' => ?_), hql, hq1, fun v hv b hb => ?_, rfl, fun _ _ e => by cases e; exact ⟨ys, hk0⟩⟩
        · exact h.apart ko k0 _ _ b hko hk hk0 (hvo v' (List.mem_iff_getElem?.2 ⟨m, hv'⟩) b hb') hb
        · rcases List.mem_or_eq_of_mem_set hv with hv | hv
          · exact ⟨ko, _, .inl rfl, hk, hvo v hv b hb⟩
          · rw [hv] at hb
            exact ⟨k0, _, .inr ⟨i0, rfl⟩, hk0, hb⟩
      · cases hb
    · cases hb
theorem set_set_self {q : List Value} {i : Nat} {v x : Value} (h : q[i]? = some v) : (q.set i x).set i v = q := by
  rw [List.set_set]
  obtain ⟨hl, rfl⟩ := List.getElem?_eq_some_iff.1 h
  exact List.set_getElem_self hl
theorem sliceT_ti {t : TypeId} (hE : EnvOk P E) (h : isSliceT E t = true) : ∃ ti, TIok P t ti ∧ ti.kind.agg = false ∧ ti.size = 1 := by
  unfold isSliceT at h
  split at h
  · rename_i sz by_ e z ty hti
    have hT := hE t _ hti
    refine ⟨_, hT, rfl, ?_⟩
    rcases hT.one with h1 | h1
    · cases h1
    · exact h1
  · cases h
theorem elA_c {c : Cx} {x : SV} {v : Value} {kb off idx : Nat} (h : elA x = some (kb, off, idx)) (hv : SVc c x v) : ∃ b, c.ρ kb = .pointer (some ⟨b, 0, none⟩) ∧ v = .pointer (some ⟨b, off + idx, none⟩) := by
  unfold elA at h
  split at h
  · cases h
    obtain ⟨_, _, b, hb, hl⟩ := SVc.one1 rfl (by simp) hv
    simp only [List.cons.injEq, and_true] at hl
    exact ⟨b, hb, hl⟩
  · cases h
    obtain ⟨_, _, b, hb, hl⟩ := SVc.one1 rfl (by simp) hv
    simp only [List.cons.injEq, and_true] at hl
    exact ⟨b, hb, hl⟩
  · cases h
theorem orwLoad_does {t : TypeId} {x : Operand} {k : Nat} {K : St → Prop} {N : Act → World → Prop} (h : Ok w0 ρ s a w) (ho : o.op = .load t x)
    (hE : EnvOk P E) (hK : orwLoad E t s k o.dst (ev s x) K) (hN : ∀ ρ' s' a' w', Ok w0 ρ' s' a' w' → K s' → N a' w') : Does P o a w N := by
  unfold orwLoad at hK
  cases hsl : isSliceT E t with
  | false => rw [hsl] at hK; exact hK.elim
  | true =>
  rw [hsl] at hK
  simp only [Bool.not_true, cond_false] at hK
  obtain ⟨ti, hT, hag, hsz⟩ := sliceT_ti hE hsl
  split at hK
  · rename_i kb off idx hx
    split at hK
    · rename_i ps hkb
      split at hK
      · rename_i pre ko n g post hat
        split at hK
        · rename_i u xss hko
          cases hus : (s.us k || s.us (k + 500000000) || Nat.beq u.size 0) with
          | true => rw [hus] at hK; exact hK.elim
          | false =>
            rw [hus] at hK
            simp only [cond_false] at hK
            simp only [Bool.or_eq_false_iff] at hus
            obtain ⟨⟨hus1, hus2⟩, _⟩ := hus
            split at hK
            · rename_i s1 xss1 hbk
              obtain ⟨hlt, hK⟩ := hK
              generalize hk1 : k + 500000000 = k1 at hK hus2
              have hkk1 : k ≠ k1 := by omega
              obtain ⟨b, hρb, hl⟩ := elA_c hx (h.ev x)
              obtain ⟨b', e, cs, hρb', hheap, hps⟩ := h.heap kb _ hkb
              have hρb : ρ kb = .pointer (some ⟨b, 0, none⟩) := hρb
              have hρb' : ρ kb = .pointer (some ⟨b', 0, none⟩) := hρb'
              have hbb : b' = b := by rw [hρb] at hρb'; injection hρb' with e; injection e with e; injection e with e; exact e.symm
              subst hbb
              have hheap : w.heap[b']? = some (.cells cs e (0, 0)) := hheap
              obtain ⟨hpse, hpre, hd, q, tl, hcs, hdl, hql, hp1, hp2, hp3⟩ := orwAt_c hat hps
              obtain ⟨hH, _, hq1, hown, hs1, hg0⟩ := orw_open h hko hp2 hbk
              have hqi : q[idx]? = some q[idx] := List.getElem?_eq_getElem (by omega)
              generalize q[idx] = v at hqi
              have hvm : v ∈ q := List.mem_iff_getElem?.2 ⟨idx, hqi⟩
              -- the load
              have hcell : w.cell? ⟨b', off + idx, none⟩ = some v := by
                rw [cell_of_block hheap]
                have : cs.toList[off + idx]? = some v := by
                  rw [hcs, List.getElem?_append_right (by omega), hdl, Nat.add_sub_cancel_left, List.getElem?_append_left (by omega)]
                  exact hqi
                simpa using this
              have hrun : (execOp a.eval o).run P w = .ok (.value v) w := by
                simp only [execOp, ho, hl, Sem.run_bind]
                have hat1 : At w b' (off + idx) [v] := fun m z hz => by
                  cases m with
                  | zero =>
                    have : v = z := by simpa using hz
                    rw [← this]; exact hcell
                  | succ m => simp at hz
                have := loadAt_run hT (w := w) hat1 (by rw [hsz]; rfl)
                rw [hag] at this
                rw [this]
                rfl
              -- names
              have hub := h.used kb _ hkb
              have huo := h.used ko _ hko
              have hkbk : kb ≠ k := fun e => by rw [e, hus1] at hub; cases hub
              have hkbk1 : kb ≠ k1 := fun e => by rw [e, hus2] at hub; cases hub
              have hkok : ko ≠ k := fun e => by rw [e, hus1] at huo; cases huo
              have hkok1 : ko ≠ k1 := fun e => by rw [e, hus2] at huo; cases huo
              have hkbo : kb ≠ ko := fun e => by rw [e, hko] at hkb; cases hkb
              have hk0 : ∀ i0 k0, g = some (i0, k0) → k0 ≠ k ∧ k0 ≠ k1 ∧ k0 ≠ kb ∧ k0 ≠ ko := fun i0 k0 hg => by
                obtain ⟨ys, hy⟩ := hg0 i0 k0 hg
                have hu0 := h.used k0 _ hy
                refine ⟨fun e => ?_, fun e => ?_, fun e => ?_, fun e => ?_⟩
                · rw [e, hus1] at hu0; cases hu0
                · rw [e, hus2] at hu0; cases hu0
                · rw [e, hkb] at hy; cases hy
                · rw [e, hko] at hy; cases hy
              have hg0' : ∀ i0 n0, g = some (i0, n0) → (s.drop n0).hp n0 = none := fun _ _ _ => drop_at
              have hs1hp : ∀ n0, (∀ i0, g ≠ some (i0, n0)) → s1.hp n0 = s.hp n0 := fun n0 hne => by
                rw [hs1]
                cases g with
                | none => rfl
                | some e => exact drop_hp (fun e2 => hne e.1 (by rw [e2]))
              have hs1k0 : ∀ i0 n0, g = some (i0, n0) → s1.hp n0 = none := fun i0 n0 hg => by
                subst hg
                rw [hs1]; exact drop_at
              have hs1us : s1.us = s.us := by rw [hs1]; cases g <;> rfl
              have hs1fr : s1.fr = s.fr := by rw [hs1]; cases g <;> rfl
              have hs1bk : s1.bk = s.bk := by rw [hs1]; cases g <;> rfl
              generalize hs' : ((((s1.drop ko).new k1 (.orw u (xss1.set idx []))).new k (.row u (xss1.getD idx []))).upd kb (.box (pre ++ (.orp k1 n (some (idx, k)) :: post)))) = s' at hK
              have ekb : s'.hp kb = some (.box (pre ++ (.orp k1 n (some (idx, k)) :: post))) := by rw [← hs']; exact upd_at
              have ek : s'.hp k = some (.row u (xss1.getD idx [])) := by rw [← hs', upd_hp (fun e => hkbk e.symm)]; exact new_at
              have ek1 : s'.hp k1 = some (.orw u (xss1.set idx [])) := by rw [← hs', upd_hp (fun e => hkbk1 e.symm), new_hp (fun e => hkk1 e.symm)]; exact new_at
              have eko : s'.hp ko = none := by rw [← hs', upd_hp (fun e => hkbo e.symm), new_hp hkok, new_hp hkok1]; exact drop_at
              have ek0 : ∀ i0 n0, g = some (i0, n0) → s'.hp n0 = none := fun i0 n0 hg => by
                obtain ⟨g1, g2, g3, g4⟩ := hk0 i0 n0 hg
                rw [← hs', upd_hp g3, new_hp g1, new_hp g2, drop_hp g4]; exact hs1k0 i0 n0 hg
              have esame : ∀ n0, ¬ (n0 = kb ∨ n0 = ko ∨ n0 = k ∨ n0 = k1 ∨ ∃ i0, g = some (i0, n0)) → s'.hp n0 = s.hp n0 := fun n0 hn => by
                rw [← hs', upd_hp (fun e => hn (.inl e)), new_hp (fun e => hn (.inr (.inr (.inl e)))), new_hp (fun e => hn (.inr (.inr (.inr (.inl e))))), drop_hp (fun e => hn (.inr (.inl e)))]
                exact hs1hp n0 (fun i0 e => hn (.inr (.inr (.inr (.inr ⟨i0, e⟩)))))
              have eus : ∀ n0, s.us n0 = true → s'.us n0 = true := fun n0 hn => by rw [← hs']; exact uset_of (uset_of (by show s1.us n0 = true; rw [hs1us]; exact hn))
              have eusk : s'.us k = true := by rw [← hs']; exact uset_same _ _
              have eusk1 : s'.us k1 = true := by rw [← hs']; exact uset_of (uset_same _ _)
              have efr : s'.fr = s.fr := by rw [← hs']; exact hs1fr
              have ebk : s'.bk = s.bk := by rw [← hs']; exact hs1bk
              generalize hρ' : rset (rset ρ k1 (.tuple (q.set idx (.slice none 0 0)).toArray)) k v = ρ'
              have rk : ρ' k = v := by rw [← hρ']; exact rset_same _ _ _
              have rk1 : ρ' k1 = .tuple (q.set idx (.slice none 0 0)).toArray := by rw [← hρ', rset_other _ _ (fun e => hkk1 e.symm)]; exact rset_same _ _ _
              have rold : ∀ n0, s.us n0 = true → ρ' n0 = ρ n0 := fun n0 hn => by
                rw [← hρ', rset_other _ _ (fun e => by rw [e, hus1] at hn; cases hn), rset_other _ _ (fun e => by rw [e, hus2] at hn; cases hn)]
              -- whose blocks they are
              have hset : ∀ z ∈ q.set idx (.slice none 0 0), ∀ b, blkOf z = some b → z ∈ q := fun z hz b hb => by
                rcases List.mem_or_eq_of_mem_set hz with hz | hz
                · exact hz
                · rw [hz] at hb; cases hb
              have hkbl : ∀ z ∈ q, ∀ b, blkOf z = some b → ¬ Bk (.box ps) (ρ kb) b := fun z hz b hb hB => by
                obtain ⟨n0, h0, hn0, g1, g2⟩ := hown z hz b hb
                refine h.apart kb n0 _ _ b (fun e => ?_) hkb g1 hB g2
                rcases hn0 with e2 | ⟨i0, e2⟩
                · exact hkbo (e.trans e2)
                · exact (hk0 i0 n0 e2).2.2.1 e.symm
              have hok : Ok w0 ρ' s' a w := by
                refine h.step (fun n0 => n0 = kb ∨ n0 = ko ∨ n0 = k ∨ n0 = k1 ∨ ∃ i0, g = some (i0, n0)) efr ebk eus rold (BelowS.refl _ _) esame (fun _ _ _ => rfl) ?_ ?_ ?_ ?_
                · intro n0 he b hT hn hB
                  refine .inl ?_
                  rcases hT with rfl | rfl | rfl | rfl | ⟨i0, hg⟩
                  · rw [ekb] at hn; injection hn with hn; subst hn
                    exact ⟨n0, _, .inl rfl, hkb, by rw [rold _ hub] at hB; exact hB⟩
                  · rw [eko] at hn; cases hn
                  · rw [ek] at hn; injection hn with hn; subst hn
                    rw [rk] at hB
                    obtain ⟨n1, h1, g0, g1, g2⟩ := hown v hvm b hB
                    exact ⟨n1, h1, g0.elim (fun e => .inr (.inl e)) (fun e => .inr (.inr (.inr (.inr e)))), g1, g2⟩
                  · rw [ek1] at hn; injection hn with hn; subst hn
                    obtain ⟨vs, hvs, z, hz, hzb⟩ := hB
                    rw [rk1] at hvs
                    injection hvs with hvs
                    subst hvs
                    have hz : z ∈ q.set idx (.slice none 0 0) := by simpa using hz
                    obtain ⟨n1, h1, g0, g1, g2⟩ := hown z (hset z hz b hzb) b hzb
                    exact ⟨n1, h1, g0.elim (fun e => .inr (.inl e)) (fun e => .inr (.inr (.inr (.inr e)))), g1, g2⟩
                  · rw [ek0 i0 n0 hg] at hn; cases hn
                · intro n0 he hT hn
                  rcases hT with rfl | rfl | rfl | rfl | ⟨i0, hg⟩
                  · exact eus _ hub
                  · exact eus _ huo
                  · exact eusk
                  · exact eusk1
                  · rw [ek0 i0 n0 hg] at hn; cases hn
                · have hkk : ∀ b, Bk (.row u (xss1.getD idx [])) (ρ' k) b → ¬ Bk (.orw u (xss1.set idx [])) (ρ' k1) b := fun b hB hB' => by
                    rw [rk] at hB
                    obtain ⟨vs, hvs, z, hz, hzb⟩ := hB'
                    rw [rk1] at hvs
                    injection hvs with hvs
                    subst hvs
                    have hz : z ∈ q.set idx (.slice none 0 0) := by simpa using hz
                    obtain ⟨m, hm⟩ := List.mem_iff_getElem?.1 hz
                    by_cases e : idx = m
                    · subst e
                      have hlt2 : idx < q.length := by omega
                      rw [List.getElem?_set_self hlt2] at hm
                      injection hm with hm
                      subst hm
                      cases hzb
                    · rw [List.getElem?_set_ne e] at hm
                      exact hH.apart e hqi hm hB hzb
                  have hbk1 : ∀ b, Bk (.box (pre ++ (.orp k1 n (some (idx, k)) :: post))) (ρ' kb) b → ¬ Bk (.orw u (xss1.set idx [])) (ρ' k1) b := fun b hB hB' => by
                    rw [rold _ hub] at hB
                    obtain ⟨vs, hvs, z, hz, hzb⟩ := hB'
                    rw [rk1] at hvs
                    injection hvs with hvs
                    subst hvs
                    have hz : z ∈ q.set idx (.slice none 0 0) := by simpa using hz
                    exact hkbl z (hset z hz b hzb) b hzb hB
                  have hbk2 : ∀ b, Bk (.box (pre ++ (.orp k1 n (some (idx, k)) :: post))) (ρ' kb) b → ¬ Bk (.row u (xss1.getD idx [])) (ρ' k) b := fun b hB hB' => by
                    rw [rold _ hub] at hB
                    rw [rk] at hB'
                    exact hkbl v hvm b hB' hB
                  intro n0 n1 he he' b hne hT hT' hn hn' hB hB'
                  rcases hT with rfl | rfl | rfl | rfl | ⟨i0, hg⟩
                  · rw [ekb] at hn; injection hn with hn; subst hn
                    rcases hT' with rfl | rfl | rfl | rfl | ⟨i0, hg⟩
                    · exact hne rfl
                    · rw [eko] at hn'; cases hn'
                    · rw [ek] at hn'; injection hn' with hn'; subst hn'; exact hbk2 b hB hB'
                    · rw [ek1] at hn'; injection hn' with hn'; subst hn'; exact hbk1 b hB hB'
                    · rw [ek0 i0 n1 hg] at hn'; cases hn'
                  · rw [eko] at hn; cases hn
                  · rw [ek] at hn; injection hn with hn; subst hn
                    rcases hT' with rfl | rfl | rfl | rfl | ⟨i0, hg⟩
                    · rw [ekb] at hn'; injection hn' with hn'; subst hn'; exact hbk2 b hB' hB
                    · rw [eko] at hn'; cases hn'
                    · exact hne rfl
                    · rw [ek1] at hn'; injection hn' with hn'; subst hn'; exact hkk b hB hB'
                    · rw [ek0 i0 n1 hg] at hn'; cases hn'
                  · rw [ek1] at hn; injection hn with hn; subst hn
                    rcases hT' with rfl | rfl | rfl | rfl | ⟨i0, hg⟩
                    · rw [ekb] at hn'; injection hn' with hn'; subst hn'; exact hbk1 b hB' hB
                    · rw [eko] at hn'; cases hn'
                    · rw [ek] at hn'; injection hn' with hn'; subst hn'; exact hkk b hB' hB
                    · exact hne rfl
                    · rw [ek0 i0 n1 hg] at hn'; cases hn'
                  · rw [ek0 i0 n0 hg] at hn; cases hn
                · intro n0 he hT hn hle
                  rcases hT with rfl | rfl | rfl | rfl | ⟨i0, hg⟩
                  · rw [ekb] at hn; injection hn with hn; subst hn
                    refine ⟨b', e, cs, by show ρ' n0 = _; rw [rold _ hub]; exact hρb, hheap, ?_⟩
                    rw [hcs]
                    refine (hp1.mono hle).append (ps := pre) (qs := .orp k1 n (some (idx, k)) :: post) ⟨q, tl, rfl, ?_, hp3.mono hle⟩
                    refine ⟨eusk1, q.set idx (.slice none 0 0), rk1, ⟨by rw [List.length_set]; exact hql, fun z hz => ?_⟩, ⟨eusk, hlt⟩, by show (ρ' k).oneCell' = true; rw [rk]; exact hq1 v hvm, ?_⟩
                    · rcases List.mem_or_eq_of_mem_set hz with hz | hz
                      · exact hq1 z hz
                      · rw [hz]; rfl
                    · show q = (q.set idx (.slice none 0 0)).set idx (ρ' k)
                      rw [rk, set_set_self hqi]
                  · rw [eko] at hn; cases hn
                  · rw [ek] at hn; injection hn with hn; subst hn
                    have hxi : idx < xss1.length := by rw [← hH.1]; omega
                    have hx1 : xss1[idx]? = some (xss1.getD idx []) := by simp [List.getD, hxi]
                    have := (hH.2.1 idx v _ hqi hx1).mono hle (fun _ _ => rfl)
                    show RowC _ u (ρ' n0) _
                    rw [rk]; exact this
                  · rw [ek1] at hn; injection hn with hn; subst hn
                    have hH2 := (hH.set (i := idx) (v := .slice none 0 0) (ys := []) (.inl ⟨rfl, rfl⟩) (fun m b v' _ _ hb => by cases hb)).mono hle (fun _ _ _ _ => rfl)
                    exact ⟨_, rk1, hH2⟩
                  · rw [ek0 i0 n0 hg] at hn; cases hn
              exact .inl ⟨v, w, hrun, hN _ _ _ _ (hok.put o.dst (SVc.of1 (p := .row k) rfl ⟨eusk, by show [v] = [ρ' k]; rw [rk], by show (ρ' k).oneCell' = true; rw [rk]; exact hq1 v hvm⟩)) hK⟩
            · exact hK.elim
        · exact hK.elim
      · exact hK.elim
    · exact hK.elim
  · exact hK.elim
theorem orwVal_c (h : Ok w0 ρ s a w) {u : Ty} {sv : SV} {v : Value} {ys : List u.D} {s1 : St} (hv : SVc (cx w0 ρ s w) sv v) (hx : orwVal s u sv = some (s1, ys)) :
    v.oneCell' = true ∧ RowC (cx w0 ρ s w) u v ys ∧ ((s1 = s ∧ blkOf v = none) ∨ ∃ kv, s1 = s.drop kv ∧ s.hp kv = some (.row u ys) ∧ ρ kv = v) := by
  unfold orwVal at hx
  split at hx
  · simp only [Option.some.injEq, Prod.mk.injEq] at hx
    obtain ⟨rfl, rfl⟩ := hx
    have hv := SVc.one1 rfl (by simp) hv
    have hv : [v] = [.slice none 0 0] := hv.1
    simp only [List.cons.injEq, and_true] at hv
    subst hv
    exact ⟨rfl, .inl ⟨rfl, rfl⟩, .inl ⟨rfl, rfl⟩⟩
  · rename_i kv
    split at hx
    · rename_i u2 ys0 hk
      split at hx
      · rename_i ys' hc
        simp only [Option.some.injEq, Prod.mk.injEq] at hx
        obtain ⟨rfl, rfl⟩ := hx
        obtain ⟨e2, e3⟩ := castD_eq hc
        injection e2 with e2
        subst e2
        have e3 : ys0 = ys' := e3
        subst e3
        obtain ⟨_, h1, h2⟩ := SVc.one1 rfl (by simp) hv
        simp only [List.cons.injEq, and_true] at h1
        have h1 : v = ρ kv := h1
        subst h1
        exact ⟨h2, rowC_of h hk, .inr ⟨kv, rfl, hk, rfl⟩⟩
      · cases hx
    · cases hx
  · cases hx
theorem orwStore_does {t : TypeId} {x y : Operand} {k : Nat} {K : St → Prop} {N : Act → World → Prop} (h : Ok w0 ρ s a w) (ho : o.op = .store t x y)
    (hE : EnvOk P E) (hK : orwStore E t s k (ev s x) (ev s y) (fun s => K (s.put o.dst (.one .any)))) (hN : ∀ ρ' s' a' w', Ok w0 ρ' s' a' w' → K s' → N a' w') : Does P o a w N := by
  unfold orwStore at hK
  cases hsl : isSliceT E t with
  | false => rw [hsl] at hK; exact hK.elim
  | true =>
  rw [hsl] at hK
  simp only [Bool.not_true, cond_false] at hK
  obtain ⟨ti, hT, hag, hsz⟩ := sliceT_ti hE hsl
  split at hK
  · rename_i kb off idx hx
    split at hK
    · rename_i ps hkb
      split at hK
      · rename_i pre ko n g post hat
        split at hK
        · rename_i u xss hko
          cases hus : (s.us k || Nat.beq u.size 0) with
          | true => rw [hus] at hK; exact hK.elim
          | false =>
            rw [hus] at hK
            simp only [cond_false] at hK
            simp only [Bool.or_eq_false_iff] at hus
            obtain ⟨hus1, _⟩ := hus
            split at hK
            · rename_i s1 ys hvv
              obtain ⟨hcond, hK⟩ := hK
              obtain ⟨b, hρb, hl⟩ := elA_c hx (h.ev x)
              obtain ⟨b', e, cs, hρb', hheap, hps⟩ := h.heap kb _ hkb
              have hρb : ρ kb = .pointer (some ⟨b, 0, none⟩) := hρb
              have hρb' : ρ kb = .pointer (some ⟨b', 0, none⟩) := hρb'
              have hbb : b' = b := by rw [hρb] at hρb'; injection hρb' with e; injection e with e; injection e with e; exact e.symm
              subst hbb
              have hheap : w.heap[b']? = some (.cells cs e (0, 0)) := hheap
              obtain ⟨hpse, hpre, hd, q, tl, hcs, hdl, hql, hp1, hp2, hp3⟩ := orwAt_c hat hps
              obtain ⟨vs, hvs, hH⟩ := h.heap ko _ hko
              have hvs : ρ ko = .tuple vs.toArray := hvs
              have hH : HeadsC (cx w0 ρ s w) u vs xss := hH
              obtain ⟨_, vs', hvs', ⟨hvl', hv1⟩, hg⟩ := hp2
              have hvs' : ρ ko = .tuple vs'.toArray := hvs'
              have hee : vs = vs' := by
                rw [hvs] at hvs'
                injection hvs' with e
                simpa using congrArg Array.toList e
              subst hee
              obtain ⟨hone, hrow, hwho⟩ := orwVal_c h (h.ev y) hvv
              generalize hval : a.eval y = v at hone hrow hwho
              -- the cells behind it
              have hqs : idx < n ∧ q.set idx v = vs.set idx v := by
                cases g with
                | none => exact ⟨hcond, by rw [show q = vs from hg]⟩
                | some e =>
                  obtain ⟨i0, k0⟩ := e
                  have hi : i0 = idx := hcond
                  subst hi
                  obtain ⟨⟨_, hi0⟩, _, hg⟩ := hg
                  exact ⟨hi0, by rw [show q = vs.set i0 _ from hg, List.set_set]⟩
              obtain ⟨hlt, hqs⟩ := hqs
              have hcells : v.cells.toList = [v] := by cases v <;> first | rfl | cases hone
              have hsplice : splice cs.toList (off + idx) [v] = hd ++ (vs.set idx v ++ tl) := by
                rw [← hqs, hcs]
                unfold splice
                rw [List.take_append, List.drop_append, hdl]
                have e1 : hd.take (off + idx) = hd := List.take_of_length_le (by omega)
                have e2 : hd.drop (off + idx + [v].length) = [] := List.drop_of_length_le (by simp; omega)
                rw [e1, e2, List.nil_append, show off + idx - off = idx by omega, show off + idx + [v].length - off = idx + 1 by simp; omega]
                rw [List.take_append_of_le_length (by omega), List.drop_append_of_le_length (by omega), List.append_assoc, List.set_eq_take_append_cons_drop, if_pos (by omega)]
                simp
              have hwn := setRow_heap w b' cs (splice cs.toList (off + idx) [v]).toArray e _ hheap
              have hother := fun bb (hne : bb ≠ b') => setRow_other w b' bb (splice cs.toList (off + idx) [v]).toArray hne
              have hcl : off + idx + 1 ≤ cs.size := by
                have : cs.toList.length = cs.size := by simp
                rw [← this, hcs, List.length_append, List.length_append, hdl, hql]
                omega
              have hrun0 := storeAt_run hT (w := w) (b := b') (q := off + idx) (v := v) hheap (by rw [hcells, hsz]; rfl) (by rw [hsz]; exact hcl) (by rw [hcells]; simpa using hone)
              rw [hcells] at hrun0
              generalize hw' : w.setRow b' (splice cs.toList (off + idx) [v]).toArray = w' at hrun0 hwn hother
              have hrun : (execOp a.eval o).run P w = .ok .skip w' := by
                simp only [execOp, ho, hl, hval, Sem.run_bind, hrun0, Result.andThen_ok, Sem.run_pure]
              have hub := h.used kb _ hkb
              have huo := h.used ko _ hko
              have hkbk : kb ≠ k := fun e => by rw [e, hus1] at hub; cases hub
              have hkok : ko ≠ k := fun e => by rw [e, hus1] at huo; cases huo
              have hkbo : kb ≠ ko := fun e => by rw [e, hko] at hkb; cases hkb
              have hbelow : BelowS w0.old w w' := by rw [← hw']; exact setRow_below w b' _ _ (h.fresh kb _ b' hkb (by show blkOf (ρ kb) = _; rw [hρb]; rfl)).1
              have hvo : ∀ z ∈ vs, ∀ bb, blkOf z = some bb → Bk (.orw u xss) (ρ ko) bb := fun z hz bb hb => ⟨_, hvs, z, by simpa using hz, hb⟩
              -- which row it is
              obtain ⟨V, hs1, hV, hVk⟩ : ∃ V : Nat → Prop, (∀ n0, (¬ V n0 → s1.hp n0 = s.hp n0) ∧ (V n0 → s1.hp n0 = none)) ∧ (s1.us = s.us ∧ s1.fr = s.fr ∧ s1.bk = s.bk) ∧
                  ((∀ n0, V n0 → ∃ ys, s.hp n0 = some (.row u ys) ∧ ρ n0 = v) ∧ ∀ bb, blkOf v = some bb → ∃ n0, V n0) := by
                rcases hwho with ⟨rfl, hb⟩ | ⟨kv, rfl, hkv, hρv⟩
                · exact ⟨fun _ => False, fun _ => ⟨fun _ => rfl, fun hf => hf.elim⟩, ⟨rfl, rfl, rfl⟩, fun _ hf => hf.elim, fun bb hbb => by rw [hb] at hbb; cases hbb⟩
                · exact ⟨fun n0 => n0 = kv, fun n0 => ⟨fun hn => drop_hp hn, fun e => by rw [e]; exact drop_at⟩, ⟨rfl, rfl, rfl⟩, fun n0 e => ⟨ys, by rw [e]; exact hkv, by rw [e]; exact hρv⟩, fun _ _ => ⟨kv, rfl⟩⟩
              obtain ⟨hs1us, hs1fr, hs1bk⟩ := hV
              obtain ⟨hVr, hVb⟩ := hVk
              have hVne : ∀ n0, V n0 → n0 ≠ kb ∧ n0 ≠ ko ∧ n0 ≠ k := fun n0 hn => by
                obtain ⟨ys', hy, _⟩ := hVr n0 hn
                have hu0 := h.used n0 _ hy
                refine ⟨fun e => ?_, fun e => ?_, fun e => ?_⟩
                · rw [e, hkb] at hy; cases hy
                · rw [e, hko] at hy; cases hy
                · rw [e, hus1] at hu0; cases hu0
              generalize hs' : (((s1.drop ko).new k (.orw u (xss.set idx ys))).upd kb (.box (pre ++ (.orp k n none :: post)))) = s' at hK
              have ekb : s'.hp kb = some (.box (pre ++ (.orp k n none :: post))) := by rw [← hs']; exact upd_at
              have ek : s'.hp k = some (.orw u (xss.set idx ys)) := by rw [← hs', upd_hp (fun e => hkbk e.symm)]; exact new_at
              have eko : s'.hp ko = none := by rw [← hs', upd_hp (fun e => hkbo e.symm), new_hp hkok]; exact drop_at
              have eV : ∀ n0, V n0 → s'.hp n0 = none := fun n0 hn => by
                obtain ⟨g1, g2, g3⟩ := hVne n0 hn
                rw [← hs', upd_hp g1, new_hp g3, drop_hp g2]; exact (hs1 n0).2 hn
              have esame : ∀ n0, ¬ (n0 = kb ∨ n0 = ko ∨ n0 = k ∨ V n0) → s'.hp n0 = s.hp n0 := fun n0 hn => by
                rw [← hs', upd_hp (fun e => hn (.inl e)), new_hp (fun e => hn (.inr (.inr (.inl e)))), drop_hp (fun e => hn (.inr (.inl e)))]
                exact (hs1 n0).1 (fun e => hn (.inr (.inr (.inr e))))
              have eus : ∀ n0, s.us n0 = true → s'.us n0 = true := fun n0 hn => by rw [← hs']; exact uset_of (by show s1.us n0 = true; rw [hs1us]; exact hn)
              have eusk : s'.us k = true := by rw [← hs']; exact uset_same _ _
              have efr : s'.fr = s.fr := by rw [← hs']; exact hs1fr
              have ebk : s'.bk = s.bk := by rw [← hs']; exact hs1bk
              generalize hρ' : rset ρ k (.tuple (vs.set idx v).toArray) = ρ'
              have rk : ρ' k = .tuple (vs.set idx v).toArray := by rw [← hρ']; exact rset_same _ _ _
              have rold : ∀ n0, s.us n0 = true → ρ' n0 = ρ n0 := fun n0 hn => by
                rw [← hρ', rset_other _ _ (fun e => by rw [e, hus1] at hn; cases hn)]
              have hown : ∀ z ∈ vs.set idx v, ∀ bb, blkOf z = some bb → ∃ n0 h0, (n0 = ko ∨ V n0) ∧ s.hp n0 = some h0 ∧ Bk h0 (ρ n0) bb := fun z hz bb hb => by
                rcases List.mem_or_eq_of_mem_set hz with hz | hz
                · exact ⟨ko, _, .inl rfl, hko, hvo z hz bb hb⟩
                · rw [hz] at hb
                  obtain ⟨n0, hn0⟩ := hVb bb hb
                  obtain ⟨ys', g1, g2⟩ := hVr n0 hn0
                  exact ⟨n0, _, .inr hn0, g1, by show blkOf (ρ n0) = _; rw [g2]; exact hb⟩
              have hapart : ∀ bb, Bk (.box (pre ++ (.orp k n none :: post))) (ρ' kb) bb → ¬ Bk (.orw u (xss.set idx ys)) (ρ' k) bb := fun bb hB hB' => by
                rw [rold _ hub] at hB
                obtain ⟨vs2, hvs2, z, hz, hzb⟩ := hB'
                rw [rk] at hvs2
                injection hvs2 with hvs2
                subst hvs2
                have hz : z ∈ vs.set idx v := by simpa using hz
                obtain ⟨n0, h0, hn0, g1, g2⟩ := hown z hz bb hzb
                refine h.apart kb n0 _ _ bb (fun e => ?_) hkb g1 hB g2
                rcases hn0 with e2 | e2
                · exact hkbo (e.trans e2)
                · exact (hVne n0 e2).1 e.symm
              have hH2 : HeadsC (cx w0 ρ s w) u (vs.set idx v) (xss.set idx ys) := hH.set hrow fun m bb v' hm hv' hb hb' => by
                obtain ⟨n0, hn0⟩ := hVb bb hb
                obtain ⟨ys', g1, g2⟩ := hVr n0 hn0
                exact h.apart n0 ko _ _ bb (hVne n0 hn0).2.1 g1 hko (by show blkOf (ρ n0) = _; rw [g2]; exact hb) (hvo v' (List.mem_iff_getElem?.2 ⟨m, hv'⟩) bb hb')
              have hok : Ok w0 ρ' s' a w' := by
                refine h.step (fun n0 => n0 = kb ∨ n0 = ko ∨ n0 = k ∨ V n0) efr ebk eus rold hbelow esame (fun bb _ hn => ?_) ?_ ?_ ?_ ?_
                · exact hother bb (fun e => hn kb _ (.inl rfl) hkb (by show blkOf (ρ kb) = _; rw [hρb, e]; rfl))
                · intro n0 he bb hT hn hB
                  refine .inl ?_
                  rcases hT with rfl | rfl | rfl | hT
                  · rw [ekb] at hn; injection hn with hn; subst hn
                    exact ⟨n0, _, .inl rfl, hkb, by rw [rold _ hub] at hB; exact hB⟩
                  · rw [eko] at hn; cases hn
                  · rw [ek] at hn; injection hn with hn; subst hn
                    obtain ⟨vs2, hvs2, z, hz, hzb⟩ := hB
                    rw [rk] at hvs2
                    injection hvs2 with hvs2
                    subst hvs2
                    have hz : z ∈ vs.set idx v := by simpa using hz
                    obtain ⟨n1, h1, g0, g1, g2⟩ := hown z hz bb hzb
                    exact ⟨n1, h1, g0.elim (fun e => .inr (.inl e)) (fun e => .inr (.inr (.inr e))), g1, g2⟩
                  · rw [eV n0 hT] at hn; cases hn
                · intro n0 he hT hn
                  rcases hT with rfl | rfl | rfl | hT
                  · exact eus _ hub
                  · exact eus _ huo
                  · exact eusk
                  · rw [eV n0 hT] at hn; cases hn
                · intro n0 n1 he he' bb hne hT hT' hn hn' hB hB'
                  rcases hT with rfl | rfl | rfl | hT
                  · rw [ekb] at hn; injection hn with hn; subst hn
                    rcases hT' with rfl | rfl | rfl | hT'
                    · exact hne rfl
                    · rw [eko] at hn'; cases hn'
                    · rw [ek] at hn'; injection hn' with hn'; subst hn'; exact hapart bb hB hB'
                    · rw [eV n1 hT'] at hn'; cases hn'
                  · rw [eko] at hn; cases hn
                  · rw [ek] at hn; injection hn with hn; subst hn
                    rcases hT' with rfl | rfl | rfl | hT'
                    · rw [ekb] at hn'; injection hn' with hn'; subst hn'; exact hapart bb hB' hB
                    · rw [eko] at hn'; cases hn'
                    · exact hne rfl
                    · rw [eV n1 hT'] at hn'; cases hn'
                  · rw [eV n0 hT] at hn; cases hn
                · intro n0 he hT hn hle
                  rcases hT with rfl | rfl | rfl | hT
                  · rw [ekb] at hn; injection hn with hn; subst hn
                    refine ⟨b', e, _, by show ρ' n0 = _; rw [rold _ hub]; exact hρb, hwn, ?_⟩
                    show PsC _ _ (splice cs.toList (off + idx) [v])
                    rw [hsplice]
                    refine (hp1.mono hle).append (ps := pre) (qs := .orp k n none :: post) ⟨vs.set idx v, tl, rfl, ?_, hp3.mono hle⟩
                    refine ⟨eusk, vs.set idx v, rk, ⟨by rw [List.length_set]; exact hvl', fun z hz => ?_⟩, rfl⟩
                    rcases List.mem_or_eq_of_mem_set hz with hz | hz
                    · exact hv1 z hz
                    · rw [hz]; exact hone
                  · rw [eko] at hn; cases hn
                  · rw [ek] at hn; injection hn with hn; subst hn
                    exact ⟨_, rk, hH2.mono hle (fun z hz bb hb => hother bb (fun e => by
                      obtain ⟨n1, h1, g0, g1, g2⟩ := hown z hz bb hb
                      refine h.apart kb n1 _ _ bb (fun e => ?_) hkb g1 (by show blkOf (ρ kb) = _; rw [hρb, e]; rfl) g2
                      rcases g0 with e2 | e2
                      · exact hkbo (e.trans e2)
                      · exact (hVne n1 e2).1 e.symm))⟩
                  · rw [eV n0 hT] at hn; cases hn
              exact .inr ⟨w', hrun, hN _ _ _ _ (hok.put o.dst (SVc_any _)) hK⟩
            · exact hK.elim
        · exact hK.elim
      · exact hK.elim
    · exact hK.elim
  · exact hK.elim
end
end Go.Sx
