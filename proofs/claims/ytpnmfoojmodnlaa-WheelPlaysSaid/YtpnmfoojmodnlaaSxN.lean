/-
  Sx, part N: struct and slice literals, make, and the small operations; then all operations together.
-/
import Derived.Test.YtpnmfoojmodnlaaSxMC
namespace Go.Sx
open Go.RowKit

theorem splice_nil (l : List Value) (p : Nat) : splice l p [] = l := by simp [splice]
theorem splice_cons {l : List Value} {p : Nat} {v : Value} {vs : List Value} (h : p + (vs.length + 1) ≤ l.length) : splice (l.set p v) (p + 1) vs = splice l p (v :: vs) := by
  apply List.ext_getElem?
  intro k
  rw [splice_get (by simp; omega), splice_get (by simp; omega)]
  simp only [List.length_cons]
  by_cases h1 : k < p
  · rw [if_pos (by omega), if_pos h1, List.getElem?_set_ne (by omega)]
  · rw [if_neg h1]
    by_cases h2 : k = p
    · subst h2
      rw [if_pos (by omega), if_pos (by omega), List.getElem?_set_self (by omega)]; simp
    · rw [if_neg (by omega)]
      by_cases h3 : k < p + (vs.length + 1)
      · rw [if_pos (by omega), if_pos h3, show k - p = (k - (p + 1)) + 1 by omega]; rfl
      · rw [if_neg (by omega), if_neg h3, List.getElem?_set_ne (by omega)]
theorem foldl_splice (off : Nat) : ∀ (vs : List Value) (j : Nat) (cs : Array Value), off + j + vs.length ≤ cs.size →
    ((vs.zipIdx j).foldl (fun cs (x : Value × Nat) => cs.setIfInBounds (off + x.2) x.1) cs).toList = splice cs.toList (off + j) vs
  | [], j, cs, _ => by simp [splice_nil]
  | v :: vs, j, cs, h => by
    simp only [List.length_cons] at h
    rw [List.zipIdx_cons, List.foldl_cons, foldl_splice off vs (j + 1) _ (by simp; omega), Array.toList_setIfInBounds]
    rw [← Nat.add_assoc, splice_cons (by simp; omega)]
theorem fill_step (place : Nat → Option (Nat × Nat)) (cells : Array Value) (i off n : Nat) (v : Value) (rest : List (Nat × Value)) (hp : place i = some (off, n)) (hn : v.cells.size = n) (hle : off + n ≤ cells.size) :
    ∃ cells', cells'.toList = splice cells.toList off v.cells.toList ∧ Instr.fill place cells ((i, v) :: rest) = Instr.fill place cells' rest := by
  refine ⟨v.cells.zipIdx.foldl (fun cs (x : Value × Nat) => cs.setIfInBounds (off + x.2) x.1) cells, ?_, ?_⟩
  · rw [← Array.foldl_toList, Array.toList_zipIdx]
    have := foldl_splice off v.cells.toList 0 cells (by simp; omega)
    simpa using this
  · have h1 : (decide (v.cells.size ≠ n) || decide (off + v.cells.size > cells.size)) = false := by simp [hn]; omega
    simp only [Instr.fill, hp]
    rw [if_neg (by simpa using h1)]

section
variable {P : Program} {E : Env} {w0 : Base} {w : World} {ρ : Nat → Value} {s s' : St} {a : Act} {o : Oper}

theorem buildPs_c {place place' : Nat → Option (Nat × Nat)} (hpl : ∀ i x, place i = some x → place' i = some x) (h : Ok w0 ρ s a w) :
    ∀ (parts : List (Nat × Operand)) (ps ps' : List PV) (cells : Array Value), PsC (cx w0 ρ s w) ps cells.toList → buildPs place ps (parts.map fun p => (p.1, ev s p.2)) = some ps' →
      ∃ cells', Instr.fill place' cells (parts.map fun p => (p.1, a.eval p.2)) = some cells' ∧ PsC (cx w0 ρ s w) ps' cells'.toList
  | [], ps, ps', cells, hc, hb => by
    simp only [List.map_nil, buildPs, Option.some.injEq] at hb
    subst hb
    exact ⟨cells, rfl, hc⟩
  | (i, x) :: parts, ps, ps', cells, hc, hb => by
    simp only [List.map_cons, buildPs] at hb
    split at hb
    · rename_i off n qs hp hq
      split at hb
      · rename_i ps1 hset
        obtain ⟨h1, h2, h3⟩ := setPs_c hset hc (SVparts_c (h.ev x) hq)
        obtain ⟨cells1, h4, h5⟩ := fill_step place' cells i off n (a.eval x) (parts.map fun p => (p.1, a.eval p.2)) (hpl _ _ hp) (by simpa using h2) (by simpa using h3)
        have h6 : PsC (cx w0 ρ s w) ps1 cells1.toList := by rw [h4]; simpa only [splice, h2] using h1
        obtain ⟨cells', h7, h8⟩ := buildPs_c hpl h parts ps1 ps' cells1 h6 hb
        exact ⟨cells', by rw [List.map_cons, h5, h7], h8⟩
      · cases hb
    · cases hb

theorem places_ok : ∀ (fs : List Field), (∀ f ∈ fs, ∃ ti, TIok P f.type ti) → ∃ places, fs.mapM (fun f => (P.info? f.type).map fun i => (f.offset, i.size)) = some places ∧
    ∀ (i : Nat) f ti, fs[i]? = some f → TIok P f.type ti → places[i]? = some (f.offset, ti.size)
  | [], _ => ⟨[], rfl, fun i f ti h => by simp at h⟩
  | f :: fs, h => by
    obtain ⟨ti, hT⟩ := h f (by simp)
    obtain ⟨i0, z, hi1, hi2, _⟩ := hT.info
    obtain ⟨places, hp, hq⟩ := places_ok fs (fun g hg => h g (by simp [hg]))
    refine ⟨(f.offset, i0.size) :: places, by simp [List.mapM_cons, hi1, hp], fun i g tj hg hTj => ?_⟩
    cases i with
    | zero =>
      simp only [List.getElem?_cons_zero, Option.some.injEq] at hg ⊢
      subst hg
      obtain ⟨i1, z1, hj1, hj2, _⟩ := hTj.info
      rw [hi1] at hj1
      injection hj1 with hj1
      rw [hj1, hj2]
    | succ i => exact hq i g tj (by simpa using hg) hTj

theorem setNth_c {u : Ty} {n : Nat} (h : Ok w0 ρ s a w) : ∀ (parts : List (Nat × Operand)) (xs xs' : List u.D) (cells : Array Value), Rd (Free w0 ρ s.hp w) w (.arr n u) cells.toList xs →
    setNth u xs (parts.map fun p => (p.1, ev s p.2)) = some xs' → ∃ cells', Instr.fill (fun i => some (i * u.size, u.size)) cells (parts.map fun p => (p.1, a.eval p.2)) = some cells' ∧ Rd (Free w0 ρ s.hp w) w (.arr n u) cells'.toList xs'
  | [], xs, xs', cells, hc, hb => by
    simp only [List.map_nil, setNth, Option.some.injEq] at hb
    subst hb
    exact ⟨cells, rfl, hc⟩
  | (i, x) :: parts, xs, xs', cells, hc, hb => by
    simp only [List.map_cons, setNth] at hb
    split at hb
    · rename_i ps hp
      split at hb
      · rename_i y hy
        cases hlt : Nat.blt i xs.length with
        | false => rw [hlt] at hb; cases hb
        | true =>
          rw [hlt] at hb
          simp only [cond_true] at hb
          rw [Nat.blt_eq] at hlt
          have hr : Rd (Free w0 ρ s.hp w) w u (a.eval x).cells.toList y := rdAll_c (c := cx w0 ρ s w) hy (SVparts_c (h.ev x) hp)
          have hin : i < n := by rw [← hc.1]; exact hlt
          have hle : (i + 1) * u.size ≤ n * u.size := Nat.mul_le_mul_right _ hin
          rw [Nat.add_mul, Nat.one_mul] at hle
          have hcl := hc.2.1
          have hrl := hr.len
          obtain ⟨cells1, h4, h5⟩ := fill_step (fun i => some (i * u.size, u.size)) cells i (i * u.size) u.size (a.eval x) (parts.map fun p => (p.1, a.eval p.2)) rfl (by simpa using hrl) (by simp at hcl; omega)
          have hset := Rd.set hc hin hr
          rw [← h4] at hset
          obtain ⟨cells', h7, h8⟩ := setNth_c h parts (xs.set i y) xs' cells1 hset hb
          exact ⟨cells', by rw [List.map_cons, h5, h7], h8⟩
      · cases hb
    · cases hb

theorem build_does {t : TypeId} {parts : Array (Nat × Operand)} {p : Option Prop} {R : Act → World → Prop} (hE : EnvOk P E) (h : Ok w0 ρ s a w) (ho : o.op = .build t parts)
    (hs : buildS E s o.dst t (parts.toList.map fun p => (p.1, ev s p.2)) = some (p, s')) (hR : Up w0 s' R) : Does P o a w R := by
  unfold buildS at hs
  split at hs
  · rename_i sz by_ fs z ty hti
    have hT := hE t _ hti
    cases hall : fs.all (fun f => (E.info f.2).isSome) with
    | false => rw [hall] at hs; cases hs
    | true =>
    rw [hall] at hs
    simp only [Bool.not_true, cond_false] at hs
    split at hs
    · rename_i ps hb
      simp only [ok, Option.some.injEq, Prod.mk.injEq] at hs
      obtain ⟨_, rfl⟩ := hs
      obtain ⟨F, hF, hfs⟩ := hT.kind
      obtain ⟨it, zv, hi1, hi2, hi3, hi4, hi5⟩ := hT.info
      have hz : zv.cells.toList = cellsPs z := by rw [hi5]; rfl
      have hall' : ∀ f ∈ F.toList, ∃ ti, TIok P f.type ti := by
        intro f hf
        have hm : (f.offset, f.type) ∈ fs := by rw [← hfs]; exact List.mem_map.2 ⟨f, hf, rfl⟩
        have := List.all_eq_true.1 hall _ hm
        obtain ⟨ti, hti'⟩ := Option.isSome_iff_exists.1 this
        exact ⟨ti, hE _ _ hti'⟩
      obtain ⟨places, hp1, hp2⟩ := places_ok F.toList hall'
      have hpl : ∀ i x, fieldPlace? E fs i = some x → (places.toArray[·]?) i = some x := by
        intro i x hx
        unfold fieldPlace? at hx
        split at hx
        · rename_i off ft hfi
          split at hx
          · rename_i fi hfi2
            injection hx with hx
            subst hx
            rw [← hfs, List.getElem?_map, Option.map_eq_some_iff] at hfi
            obtain ⟨f, hf1, hf2⟩ := hfi
            simp only [Prod.mk.injEq] at hf2
            obtain ⟨rfl, rfl⟩ := hf2
            simpa using hp2 i f fi hf1 (hE _ _ hfi2)
          · cases hx
        · cases hx
      obtain ⟨cells', hf1, hf2⟩ := buildPs_c hpl h parts.toList z ps zv.cells (by rw [hz]; exact cellsPs_c hT.flat) hb
      refine does_value (m := Instr.build t (parts.map fun (i, x) => (i, a.eval x))) (sv := .agg ps) (v := .agg cells') h (by simp [execOp, ho]) ?_ ⟨cells', rfl, hf2⟩ hR
      refine run_build w t _ cells' ?_
      unfold Program.built
      simp only [hi1, hF, hi4, hp1]
      rw [Array.toList_map]
      exact hf1
    · cases hs
  · rename_i sz by_ n e m u xs ty hti
    have hT := hE t _ hti
    split at hs
    · rename_i ei hei
      have hTe := hE e _ hei
      cases hb : Nat.beq u.size ei.size with
      | false => rw [hb] at hs; cases hs
      | true =>
        rw [hb] at hs
        simp only [Bool.not_true, cond_false] at hs
        have hsz := Nat.eq_of_beq_eq_true hb
        split at hs
        · rename_i ys hset
          simp only [ok, Option.some.injEq, Prod.mk.injEq] at hs
          obtain ⟨_, rfl⟩ := hs
          have hk : P.underlying t = some (.array n e) := hT.kind
          obtain ⟨it, zv, hi1, hi2, hi3, hi4, hi5⟩ := hT.info
          obtain ⟨ie, _, he1, he2, _⟩ := hTe.info
          have hz : zv.cells.toList = cellsPs [.d (.arr m u) xs] := by rw [hi5]; rfl
          have hp : PsC (cx w0 ρ s w) [.d (.arr m u) xs] zv.cells.toList := by rw [hz]; exact cellsPs_c hT.flat
          obtain ⟨l1, l2, e1, h1, h2⟩ := hp
          have hl2 : l2 = [] := h2
          subst hl2
          rw [List.append_nil] at e1
          have hrd : Rd (Free w0 ρ s.hp w) w (.arr m u) zv.cells.toList xs := by rw [e1]; exact h1
          obtain ⟨cells', hf1, hf2⟩ := setNth_c h parts.toList xs ys zv.cells hrd hset
          refine does_value (m := Instr.build t (parts.map fun (i, x) => (i, a.eval x))) (sv := .agg [.d (.arr m u) ys]) (v := .agg cells') h (by simp [execOp, ho]) ?_ ⟨cells', rfl, PsC.single hf2⟩ hR
          refine run_build w t _ cells' ?_
          unfold Program.built
          simp only [hi1, hk, hi4, he1]
          rw [Array.toList_map, he2, ← hsz]
          exact hf1
        · cases hs
    · cases hs
  · cases hs

/-- A row in a new block. -/
theorem new_row {R : Act → World → Prop} {k' : Nat} {u : Ty} {cells : Array Value} {zs : List u.D} {cap n : Nat} {e : TypeId} (h : Ok w0 ρ s a w) (hus : s.us k' = false)
    (hL : Rd (Free w0 ρ s.hp w) w (.arr n u) (cells.toList.take (n * u.size)) zs) (hc : n ≤ cap) (hm : cap ≤ maxLen) (hr : cells.size = cap * u.size)
    (hR : Up w0 ((s.new k' (.row u zs)).put o.dst (.one (.row k'))) R) :
    R (a.put o.dst (.slice (some ⟨w.heap.size, 0, none⟩) n cap)) (w.alloc (.cells cells e)) := by
  have hzl : zs.length = n := hL.1
  subst hzl
  have hmore := More.alloc w (.cells cells e)
  have hle := new_le (he := .row u zs) (v := .slice (some ⟨w.heap.size, 0, none⟩) zs.length cap) h hus hmore (fun b e => by injection e with e; subst e; exact ⟨Nat.le_refl _, by simp⟩)
  have hok := h.new (he := .row u zs) (v := .slice (some ⟨w.heap.size, 0, none⟩) zs.length cap) hus hmore
    (fun b e => by injection e with e; subst e; exact ⟨Nat.le_refl _, by simp⟩)
    (.inr ⟨w.heap.size, 0, cap, cells, e, rset_same _ _ _, heap_alloc_new w _, hc, hm, by rw [hr]; omega, fun i x hx => by
      have hLr : Rd _ _ (.arr zs.length u) (cells.toList.take (zs.length * u.size)) zs := Rd.mono hle.keep hL
      have h1 := hLr.2.2 i x hx
      have hi : i < zs.length := (List.getElem?_eq_some_iff.1 hx).1
      have hle2 : (i + 1) * u.size ≤ zs.length * u.size := Nat.mul_le_mul_right _ hi
      rw [Nat.add_mul, Nat.one_mul] at hle2
      simp only [Nat.zero_add]
      rw [List.drop_take, List.take_take, Nat.min_eq_left (by omega)] at h1
      exact h1⟩)
  have e3 : rset ρ k' (.slice (some ⟨w.heap.size, 0, none⟩) zs.length cap) k' = .slice (some ⟨w.heap.size, 0, none⟩) zs.length cap := rset_same _ _ _
  exact hR _ _ _ (hok.put o.dst (SVc.of1 (p := .row k') rfl ⟨uset_same _ _, by show [_] = [rset ρ k' _ k']; rw [e3], by show (rset ρ k' _ k').oneCell' = true; rw [e3]; rfl⟩))

theorem buildSlice_does2 {s2 : St} {t : TypeId} {len : Nat} {parts : Array (Nat × Operand)} {k' : Nat} {p : Option Prop} {R : Act → World → Prop} (hE : EnvOk P E) (h : Ok w0 ρ s a w) (h2 : Ok w0 ρ s2 a w) (hhp : s2.hp = s.hp) (ho : o.op = .buildSlice t len parts)
    (hs : buildSliceS E s k' o.dst t len (parts.toList.map fun p => (p.1, ev s2 p.2)) = some (p, s')) (hR : Up w0 s' R) : Does P o a w R := by
  unfold buildSliceS at hs
  split at hs
  · rename_i e _ _ hti
    have hk := (hE t _ hti).kind
    split at hs
    · rename_i sz by_ kd z u hei
      have hT := hE e _ hei
      obtain ⟨hu1, hu2, hu3, hu4⟩ := hT.ty
      cases hb : (!(Nat.beq u.size sz && Nat.blt 0 sz && Nat.ble (len * sz) 65536) || s.us k') with
      | true => rw [hb] at hs; cases hs
      | false =>
        rw [hb] at hs
        simp only [cond_false] at hs
        simp only [Bool.or_eq_false_iff, Bool.not_eq_false', Bool.and_eq_true] at hb
        obtain ⟨⟨⟨hb1, hb2⟩, hb3⟩, hus⟩ := hb
        have hsz : u.size = sz := Nat.eq_of_beq_eq_true hb1
        subst hsz
        rw [Nat.blt_eq] at hb2
        have hb3 := Nat.le_of_ble_eq_true hb3
        split at hs
        · rename_i xs hset
          simp only [ok, Option.some.injEq, Prod.mk.injEq] at hs
          obtain ⟨_, rfl⟩ := hs
          obtain ⟨z', hz1, hz2⟩ := hT.run_zero w
          have hmade := made_arr (S := Free w0 ρ s2.hp w) (w := w) (z := z'.cells) len (hz2.trans hu4.symm) hu3
          obtain ⟨cells', hf1, hf2⟩ := setNth_c h2 parts.toList _ xs _ hmade hset
          rw [hhp] at hf2
          have hcl : cells'.size = len * u.size := by simpa using hf2.2.1
          have hfin := new_row (o := o) (k' := k') (e := e) (n := len) (cap := len) (R := R) h hus (by rw [List.take_of_length_le (by simp; omega)]; exact hf2) (Nat.le_refl _)
            (by have : len * 1 ≤ len * u.size := Nat.mul_le_mul_left _ hb2; simp only [maxLen]; omega) hcl hR
          refine Does.ran (m := Instr.buildSlice t len (parts.map fun (i, x) => (i, a.eval x))) (by simp [execOp, ho]) ?_ hfin
          unfold Instr.buildSlice
          simp only [Sem.run_bind, run_underlying hk, Result.andThen_ok, hT.run_size]
          rw [if_neg (by simp; omega)]
          have hf0 : Instr.fill (fun i => some (i * u.size, u.size)) (madeCells z'.cells (len * u.size)) (parts.map fun (i, x) => (i, a.eval x)).toList = some cells' := by
            rw [Array.toList_map]; exact hf1
          by_cases h0 : len * u.size = 0
          · have hc0 : (Array.range (len * u.size)).map ((#[] : Array Value)[· % (#[] : Array Value).size]!) = madeCells z'.cells (len * u.size) := by rw [h0]; simp [madeCells]
            rw [if_pos h0]
            simp only [Sem.run_bind, Sem.run_pure, Result.andThen_ok, hc0, hf0, newRow_run]
          · rw [if_neg h0]
            have hc0 : (Array.range (len * u.size)).map (z'.cells[· % z'.cells.size]!) = madeCells z'.cells (len * u.size) := rfl
            simp only [Sem.run_bind, Sem.run_pure, Result.andThen_ok, hz1, hc0, hf0, newRow_run]
        · cases hs
    · cases hs
  · cases hs

theorem buildSlice_does {t : TypeId} {len : Nat} {parts : Array (Nat × Operand)} {k' : Nat} {p : Option Prop} {R : Act → World → Prop} (hE : EnvOk P E) (h : Ok w0 ρ s a w) (ho : o.op = .buildSlice t len parts)
    (hs : buildSliceS E s k' o.dst t len (parts.toList.map fun p => (p.1, ev s p.2)) = some (p, s')) (hR : Up w0 s' R) : Does P o a w R := buildSlice_does2 hE h h rfl ho hs hR
/-- A slice of our own, once its name is given up, reads as data. -/
theorem drop_data {k : Nat} {t : Ty} {xs : List t.D} (h : Ok w0 ρ s a w) (hk : s.hp k = some (.row t xs)) : Rd (Free w0 ρ (s.drop k).hp w) w (.sl t) [ρ k] xs := by
  have hhp : ∀ {n h'}, (s.drop k).hp n = some h' → n ≠ k ∧ s.hp n = some h' := fun {n h'} hn => by
    by_cases e : n = k
    · subst e; rw [show (s.drop n).hp n = none from hset_same _ _ _] at hn; cases hn
    · exact ⟨e, by rw [← hset_other s.hp none e]; exact hn⟩
  rcases h.heap k _ hk with ⟨h1, h2⟩ | ⟨b, q, cp, cur, e', h1, hh, h3, h4, h5, h6⟩
  · subst h2
    exact ⟨none, 0, by rw [show ρ k = _ from h1]; rfl, Nat.le_refl _, by simp [maxLen], fun hp => absurd hp (by simp)⟩
  · refine ⟨some ⟨b, q, none⟩, cp, by rw [show ρ k = _ from h1], h3, h4, fun _ => ⟨b, q, rfl, ⟨(Array.getElem?_eq_some_iff.1 hh).1, fun n h' hn => ?_, ?_⟩, fun i x hi => ⟨_, ?_, Rd.mono (fun c hc => ⟨⟨hc.1, fun n h' hn => hc.2.1 n h' (hhp hn).2, hc.2.2⟩, rfl⟩) (h6 i x hi)⟩⟩⟩
    · obtain ⟨hne, hn0⟩ := hhp hn
      exact h.apart k n _ _ b (fun e => hne e.symm) hk hn0 (by rw [show ρ k = _ from h1]; rfl)
    · exact w0.all b (h.fresh k _ b hk (by rw [show ρ k = _ from h1]; rfl)).1
    · intro j v hv
      have := At.of_block hh (q + i * t.size) t.size j v hv
      rw [Nat.add_assoc] at this
      exact this
theorem ok_tell (h : Ok w0 ρ s a w) (d : Nat) {v : SV} (hv : SVc (cx w0 ρ s w) v (a.tmps.getD d undef)) : Ok w0 ρ (s.put (some d) v) a w := by
  refine { h with len := ?_, frame := ?_ }
  · simp [St.put, lset_length, h.len]
  · intro i
    show SVc (cx w0 ρ s w) (lget (lset s.fr d v) i) (a.tmps.getD i undef)
    by_cases e : d = i
    · subst e
      rw [lget_lset_eq]
      split
      · exact hv
      · trivial
    · rw [lget_lset_ne _ _ _ _ e]; exact h.frame i
theorem ev_row {x : Operand} {j : Nat} (h : ev s x = .one (.row j)) : ∃ d, x = .tmp d ∧ lget s.fr d = .one (.row j) := by
  cases x with
  | tmp d => exact ⟨d, rfl, h⟩
  | global g => cases h
  | func f => cases h
  | const v =>
    exfalso
    have h : constSV v = .one (.row j) := h
    cases v with
    | int k n =>
      simp only [constSV] at h
      cases hb : irB k n <;> rw [hb] at h <;> cases h
    | string b =>
      simp only [constSV] at h
      cases hb : Nat.ble b.size 9223372036854775807 <;> rw [hb] at h <;> cases h
    | _ => cases h
theorem buildSliceC_does {t : TypeId} {len : Nat} {parts : Array (Nat × Operand)} {k' : Nat} {p : Option Prop} {R : Act → World → Prop} (hE : EnvOk P E) (h : Ok w0 ρ s a w) (ho : o.op = .buildSlice t len parts)
    (hs : buildSliceC E s k' o.dst t len (parts.toList.map fun p => (p.1, ev s p.2)) = some (p, s')) (hR : Up w0 s' R) : Does P o a w R := by
  unfold buildSliceC at hs
  split at hs
  · rename_i i j hparts
    split at hs
    · rename_i u xs hj
      obtain ⟨x, hx1, hx2⟩ : ∃ x, parts.toList = [(i, x)] ∧ ev s x = .one (.row j) := by
        generalize parts.toList = l at hparts
        match l, hparts with
        | [], hp => cases hp
        | [(i', x)], hp =>
          simp only [List.map_cons, List.map_nil, List.cons.injEq, Prod.mk.injEq, and_true] at hp
          exact ⟨x, by rw [hp.1], hp.2⟩
        | _ :: _ :: _, hp => simp at hp
      obtain ⟨d, rfl, hd⟩ := ev_row hx2
      have h1 := h.drop j
      have hval : a.tmps.getD d undef = ρ j := by
        have hf := h.frame d
        rw [hd] at hf
        have : [a.tmps.getD d undef] = [ρ j] := (SVc.one1 (p := .row j) rfl (by simp) hf).2.1
        injection this
      have h2 := ok_tell h1 d (v := .one (.d (.sl u) xs)) (by
        rw [hval]
        exact SVc.of1 (p := .d (.sl u) xs) rfl (drop_data h hj))
      have hlen : d < (s.drop j).fr.length := by
        apply Decidable.byContradiction
        intro hn
        have hz : ∀ (l : List SV) (n : Nat), ¬ n < l.length → lget l n = .one .any := fun l => by
          induction l with
          | nil => intro n _; rfl
          | cons y l ih =>
            intro n hn
            cases n with
            | zero => simp at hn
            | succ n => exact ih n (by simpa using hn)
        have : lget s.fr d = .one .any := hz _ _ hn
        rw [this] at hd; cases hd
      refine buildSlice_does2 (p := p) (k' := k') (s2 := (s.drop j).put (some d) (.one (.d (.sl u) xs))) hE h1 h2 rfl ho ?_ hR
      rw [hx1]
      have e : ev ((s.drop j).put (some d) (.one (.d (.sl u) xs))) (.tmp d) = .one (.d (.sl u) xs) := by
        show lget (lset (s.drop j).fr d _) d = _
        rw [lget_lset_eq, if_pos hlen]
      simp only [List.map_cons, List.map_nil, e]
      exact hs
    · cases hs
  · cases hs
theorem make_does {t : TypeId} {l c : Operand} {k' : Nat} {p : Option Prop} {R : Act → World → Prop} (hE : EnvOk P E) (h : Ok w0 ρ s a w) (ho : o.op = .makeSlice t l c)
    (hs : makeS E s k' o.dst t (ev s l) (ev s c) = some (p, s')) (hp : vcP p) (hR : Up w0 s' R) : Does P o a w R := by
  unfold makeS at hs
  split at hs
  · rename_i _ _ e _ _ kl n kc m hti hl hc
    have hk := (hE t _ hti).kind
    have el := asInt_c (h.ev l) hl
    have ec := asInt_c (h.ev c) hc
    split at hs
    · rename_i sz by_ kd z u hei
      have hT := hE e _ hei
      obtain ⟨hu1, hu2, hu3, hu4⟩ := hT.ty
      cases hb : (!(Nat.beq u.size sz && Nat.blt 0 sz) || s.us k') with
      | true => rw [hb] at hs; cases hs
      | false =>
        rw [hb] at hs
        simp only [cond_false, Option.some.injEq, Prod.mk.injEq] at hs
        obtain ⟨rfl, rfl⟩ := hs
        simp only [Bool.or_eq_false_iff, Bool.not_eq_false', Bool.and_eq_true] at hb
        obtain ⟨⟨hb1, hb2⟩, hus⟩ := hb
        have hsz : u.size = sz := Nat.eq_of_beq_eq_true hb1
        subst hsz
        rw [Nat.blt_eq] at hb2
        obtain ⟨⟨hp1, hp2⟩, hp3, hp4⟩ := hp
        obtain ⟨i, zv, hi1, hi2, hi3, hi4, hi5⟩ := hT.info
        have hi3 : i.bytes = by_ := hi3
        obtain ⟨z', hz1, hz2⟩ := hT.run_zero w
        have hzz : z' = zv := by simp [zeroValue, typeInfo, hi1, hi4] at hz1; exact hz1.symm
        subst hzz
        have hrun := run_make (P := P) w t e i z' hk hi1 hi4 kl kc n m hp1 hp2 (by rw [hi3, Int.mul_comm]; omega) hp4
        rw [hi2] at hrun
        have hmade := made_arr (S := Free w0 ρ s.hp w) (w := w) (z := z'.cells) n.toNat (hz2.trans hu4.symm) hu3
        have hle : n.toNat * u.size ≤ m.toNat * u.size := Nat.mul_le_mul_right _ (by omega)
        have htake : (madeCells z'.cells (m.toNat * u.size)).toList.take (n.toNat * u.size) = (madeCells z'.cells (n.toNat * u.size)).toList := by
          apply List.ext_getElem?
          intro j
          rw [List.getElem?_take]
          by_cases hj : j < n.toNat * u.size
          · rw [if_pos hj]
            have : j < m.toNat * u.size := by omega
            simp [madeCells, hj, this]
          · rw [if_neg hj, List.getElem?_eq_none (by simp [madeCells]; omega)]
        have hfin := new_row (o := o) (k' := k') (e := e) (n := n.toNat) (cap := m.toNat) (R := R) (cells := madeCells z'.cells (m.toNat * u.size)) h hus (by rw [htake]; exact hmade) (by omega)
          (by simp only [maxLen]; omega) (size_madeCells _ _) hR
        exact Does.ran (m := Instr.makeSlice t (a.eval l) (a.eval c)) (by simp [execOp, ho]) (by rw [el, ec]; exact hrun) hfin
    · cases hs
  · cases hs

theorem xor_neg1 {n : Int} (h : IR .i64 n) : IntKind.i64.wrap (BitVec.ofInt 64 (-1) ^^^ BitVec.ofInt 64 n).toNat = -1 - n := by
  have e : BitVec.ofInt 64 (-1) ^^^ BitVec.ofInt 64 n = ~~~ (BitVec.ofInt 64 n) := by
    rw [show BitVec.ofInt 64 (-1) = BitVec.allOnes 64 from rfl]
    exact BitVec.allOnes_xor
  rw [e, BitVec.toNat_not, BitVec.toNat_ofInt]
  simp only [IR] at h
  simp only [IntKind.wrap, IntKind.bits, IntKind.signed]
  simp
  omega
theorem un_does {op : UnOp} {t : TypeId} {x : Operand} {p : Option Prop} {R : Act → World → Prop} (h : Ok w0 ρ s a w) (ho : o.op = .unOp op t x)
    (hs : unS s o.dst op (ev s x) = some (p, s')) (hp : vcP p) (hR : Up w0 s' R) : Does P o a w R := by
  have hexec : execOp a.eval o = (do pure (.value (← Op.unary op (a.eval x)))) := by simp [execOp, ho]
  unfold unS at hs
  split at hs
  · rename_i b hx
    simp only [ok, Option.some.injEq, Prod.mk.injEq] at hs
    obtain ⟨_, rfl⟩ := hs
    have ex := asBool_c (h.ev x) (b := b) (by rw [hx]; rfl)
    exact does_value h hexec (by rw [ex]; rfl) (sv_lit (!b)) hR
  · rename_i b hx
    simp only [ok, Option.some.injEq, Prod.mk.injEq] at hs
    obtain ⟨_, rfl⟩ := hs
    have ex := asBool_c (h.ev x) (b := b) (by rw [hx]; rfl)
    exact does_value h hexec (by rw [ex]; rfl) (sv_bool (!b)) hR
  · rename_i k n hx
    simp only [Option.some.injEq, Prod.mk.injEq] at hs
    obtain ⟨rfl, rfl⟩ := hs
    have ex := asInt_c (h.ev x) (k := k) (n := n) (by rw [hx]; rfl)
    refine does_value (v := .int k (-n)) h hexec ?_ (sv_int hp) hR
    rw [ex]
    simp [Op.unary, Op.intArith, wrap_in hp]
  · rename_i n hx
    simp only [ok, Option.some.injEq, Prod.mk.injEq] at hs
    obtain ⟨_, rfl⟩ := hs
    have ex := asInt_c (h.ev x) (k := .i64) (n := n) (by rw [hx]; rfl)
    have hn : IR .i64 n := asInt_ir (h.ev x) (k := .i64) (n := n) (by rw [hx]; rfl)
    refine does_value (v := .int .i64 (-1 - n)) h hexec ?_ (sv_int (by simp only [IR] at hn ⊢; omega)) hR
    rw [ex]
    have := xor_neg1 hn
    show (pure (.int .i64 (IntKind.i64.wrap (BitVec.ofInt 64 (-1) ^^^ BitVec.ofInt 64 n).toNat)) : Sem Value).run P w = _
    rw [this]; rfl
  · cases hs

theorem IR_min {k : IntKind} {m n : Int} (hm : IR k m) (hn : IR k n) : IR k (bif false then max m n else min m n) := by
  simp only [cond_false]
  rcases Int.le_total m n with h | h
  · rw [Int.min_eq_left h]; exact hm
  · rw [Int.min_eq_right h]; exact hn
theorem IR_max {k : IntKind} {m n : Int} (hm : IR k m) (hn : IR k n) : IR k (bif true then max m n else min m n) := by
  simp only [cond_true]
  rcases Int.le_total m n with h | h
  · rw [Int.max_eq_right h]; exact hn
  · rw [Int.max_eq_left h]; exact hm
theorem max_does {args : Array Operand} {ts : Array TypeId} {x y : Operand} {mx : Bool} {p : Option Prop} {R : Act → World → Prop} (h : Ok w0 ρ s a w)
    (ho : o.op = .call { callee := .builtin (bif mx then .max else .min), args := args, argTypes := ts }) (ha : args.toList = [x, y])
    (hs : minmaxS s o.dst mx (ev s x) (ev s y) = some (p, s')) (hR : Up w0 s' R) : Does P o a w R := by
  have ea : args = #[x, y] := by apply Array.ext'; simpa using ha
  subst ea
  unfold minmaxS at hs
  split at hs
  · rename_i k m k' n hx hy
    have ex := asInt_c (h.ev x) hx
    have ey := asInt_c (h.ev y) hy
    split at hs
    · rename_i hk
      subst hk
      simp only [ok, Option.some.injEq, Prod.mk.injEq] at hs
      obtain ⟨_, rfl⟩ := hs
      cases mx
      · refine does_value (m := Builtin.min_ ts o.type #[a.eval x, a.eval y]) h (by rw [exec_builtin ho]; simp [builtin]) ?_ (sv_int (IR_min (asInt_ir (h.ev x) hx) (asInt_ir (h.ev y) hy))) hR
        rw [ex, ey]
        simp only [Builtin.min_, List.foldlM, Builtin.min2, cond_false]
        simp
        by_cases hlt : n < m
        · rw [if_pos hlt]; omega
        · rw [if_neg hlt]; omega
      · refine does_value (m := Builtin.max_ ts o.type #[a.eval x, a.eval y]) h (by rw [exec_builtin ho]; simp [builtin]) ?_ (sv_int (IR_max (asInt_ir (h.ev x) hx) (asInt_ir (h.ev y) hy))) hR
        rw [ex, ey]
        simp only [Builtin.max_, List.foldlM, Builtin.max2, cond_true]
        simp
        by_cases hlt : m < n
        · rw [if_pos hlt]; omega
        · rw [if_neg hlt]; omega
    · cases hs
  · cases hs

theorem max3_does {args : Array Operand} {ts : Array TypeId} {x y z : Operand} {mx : Bool} {p : Option Prop} {R : Act → World → Prop} (h : Ok w0 ρ s a w)
    (ho : o.op = .call { callee := .builtin (bif mx then .max else .min), args := args, argTypes := ts }) (ha : args.toList = [x, y, z])
    (hs : minmax3S s o.dst mx (ev s x) (ev s y) (ev s z) = some (p, s')) (hR : Up w0 s' R) : Does P o a w R := by
  have ea : args = #[x, y, z] := by apply Array.ext'; simpa using ha
  subst ea
  unfold minmax3S at hs
  split at hs
  · rename_i k m k' n k'' r hx hy hz
    have ex := asInt_c (h.ev x) hx
    have ey := asInt_c (h.ev y) hy
    have ez := asInt_c (h.ev z) hz
    split at hs
    · rename_i hk
      obtain ⟨hk1, hk2⟩ := hk
      subst hk1 hk2
      simp only [ok, Option.some.injEq, Prod.mk.injEq] at hs
      obtain ⟨_, rfl⟩ := hs
      cases mx
      · refine does_value (m := Builtin.min_ ts o.type #[a.eval x, a.eval y, a.eval z]) h (by rw [exec_builtin ho]; simp [builtin]) ?_ (sv_int (IR_min (IR_min (asInt_ir (h.ev x) hx) (asInt_ir (h.ev y) hy)) (asInt_ir (h.ev z) hz))) hR
        rw [ex, ey, ez]
        simp only [Builtin.min_, List.foldlM, Builtin.min2, cond_false]
        simp
        repeat' split
        all_goals omega
      · refine does_value (m := Builtin.max_ ts o.type #[a.eval x, a.eval y, a.eval z]) h (by rw [exec_builtin ho]; simp [builtin]) ?_ (sv_int (IR_max (IR_max (asInt_ir (h.ev x) hx) (asInt_ir (h.ev y) hy)) (asInt_ir (h.ev z) hz))) hR
        rw [ex, ey, ez]
        simp only [Builtin.max_, List.foldlM, Builtin.max2, cond_true]
        simp
        repeat' split
        all_goals omega
    · cases hs
  · cases hs

theorem tupC_get {c : Cx} : ∀ {es : List (Bool × List PV)} {vs : List Value} {i : Nat} {e : Bool × List PV}, tupC c es vs → es[i]? = some e → ∃ v, vs[i]? = some v ∧ aggC c e.1 e.2 v
  | [], _, i, e, _, h => by simp at h
  | e0 :: es, vs, 0, e, ⟨v, r, hv, h1, h2⟩, h => by
    simp at h; subst h
    exact ⟨v, by rw [hv]; rfl, h1⟩
  | e0 :: es, vs, i + 1, e, ⟨v, r, hv, h1, h2⟩, h => by
    obtain ⟨u, h3, h4⟩ := tupC_get (i := i) h2 (by simpa using h)
    exact ⟨u, by rw [hv]; simpa using h3, h4⟩

theorem boolC_c {c : Cx} {x : SV} {v : Value} {p : Option Prop} {u : Bool} (h : SVc c x v) (e : boolC x = some (p, u)) (hp : vcP p) : v = .bool u := by
  unfold boolC at e
  split at e <;> simp only [Option.some.injEq, Prod.mk.injEq, reduceCtorEq] at e <;> obtain ⟨rfl, rfl⟩ := e
  · have : [v] = [.bool _] := SVc.one1 rfl (by simp) h
    simpa using this
  · have : [v] = [.bool _] := SVc.one1 rfl (by simp) h
    simpa using this
  · have : [v] = [.bool _] := SVc.one1 (p := .lit _) rfl (by simp) (h.1 hp)
    simpa using this
  · have : [v] = [.bool _] := SVc.one1 (p := .d .bool _) rfl (by simp) (h.1 hp)
    simpa using this
theorem pickB_eq {b u v : Bool} {x y : SV} {p q : Option Prop} (hx : boolC x = some (p, u)) (hy : boolC y = some (q, v)) : pickB b u v x y = bif b then u else v := by
  unfold pickB
  split
  · simp only [boolC, Option.some.injEq, Prod.mk.injEq] at hy
    obtain ⟨_, rfl⟩ := hy
    cases b <;> simp
  · split
    · simp only [boolC, Option.some.injEq, Prod.mk.injEq] at hx
      obtain ⟨_, rfl⟩ := hx
      cases b <;> simp
    · rfl
theorem pick_does {c x y : Operand} {p : Option Prop} {R : Act → World → Prop} (h : Ok w0 ρ s a w) (ho : o.op = .pick c x y) (hs : pickS s o.dst (ev s c) (ev s x) (ev s y) = some (p, s')) (hp : vcP p)
    (hR : Up w0 s' R) : Does P o a w R := by
  unfold pickS at hs
  split at hs
  · rename_i b hc
    simp only [ok, Option.some.injEq, Prod.mk.injEq] at hs
    obtain ⟨_, rfl⟩ := hs
    have ec := asBool_c (h.ev c) (b := b) (by rw [hc]; rfl)
    refine .inl ⟨if b then a.eval x else a.eval y, w, by simp [execOp, ho, ec, asBool], hR ρ _ _ (h.put o.dst ?_)⟩
    cases b
    · exact h.ev y
    · exact h.ev x
  · rename_i b hc
    split at hs
    · rename_i p1 u p2 v hx hy
      simp only [Option.some.injEq, Prod.mk.injEq] at hs
      obtain ⟨rfl, rfl⟩ := hs
      have ec := asBool_c (h.ev c) (b := b) (by rw [hc]; rfl)
      have hps : (b = true → vcP p1) ∧ (b = false → vcP p2) := by
        cases p1 <;> cases p2 <;> simp only [impO] at hp
        · exact ⟨fun _ => trivial, fun _ => trivial⟩
        · exact ⟨fun _ => trivial, hp⟩
        · exact ⟨hp, fun _ => trivial⟩
        · exact hp
      refine .inl ⟨if b then a.eval x else a.eval y, w, by simp [execOp, ho, ec, asBool], hR ρ _ _ (h.put o.dst ?_)⟩
      rw [pickB_eq hx hy]
      cases b
      · rw [boolC_c (h.ev y) hy (hps.2 rfl)]; exact sv_bool v
      · rw [boolC_c (h.ev x) hx (hps.1 rfl)]; exact sv_bool u
    · cases hs
  · cases hs

theorem nil_does {x : Operand} {R : Act → World → Prop} (h : Ok w0 ρ s a w) (ho : o.op = .nilCheck x) (hx : ∃ ad, a.eval x = .pointer (some ad)) (hR : Up w0 (s.put o.dst (ev s x)) R) : Does P o a w R := by
  obtain ⟨ad, e⟩ := hx
  exact .inl ⟨a.eval x, w, by simp [execOp, ho, e], hR ρ _ _ (h.put o.dst (h.ev x))⟩

theorem extract_does {x : Operand} {i : Nat} {v : Value} {sv : SV} {R : Act → World → Prop} (h : Ok w0 ρ s a w) (ho : o.op = .extract x i) {vs : Array Value} (hx : a.eval x = .tuple vs) (hv : vs.toList[i]? = some v)
    (hsv : SVc (cx w0 ρ s w) sv v) (hR : Up w0 (s.put o.dst sv) R) : Does P o a w R := by
  refine does_value (m := Instr.extract (a.eval x) i) h (by simp [execOp, ho]) ?_ hsv hR
  have hv' : vs[i]? = some v := by simpa using hv
  simp [Instr.extract, hx, hv']

/-- Each operation does what the executor says. -/
theorem opS_does {wr : Nat → Bool} {k : Nat} {p : Option Prop} {R : Act → World → Prop} (hE : EnvOk P E) (h : Ok w0 ρ s a w) (hs : opS E wr s k o = some (p, s')) (hp : vcP p) (hR : Up w0 s' R) : Does P o a w R := by
  unfold opS at hs
  split at hs
  · rename_i x e
    simp only [ok, Option.some.injEq, Prod.mk.injEq] at hs
    obtain ⟨_, rfl⟩ := hs
    exact move_does h (.inl e) hR
  · rename_i x e
    simp only [ok, Option.some.injEq, Prod.mk.injEq] at hs
    obtain ⟨_, rfl⟩ := hs
    exact move_does h (.inr e) hR
  · rename_i c x y e
    exact pick_does h e hs hp hR
  · rename_i t e
    split at hs
    · rename_i ti hti
      cases hus : s.us k with
      | true => rw [hus] at hs; cases hs
      | false =>
        rw [hus] at hs
        simp only [cond_false, ok, Option.some.injEq, Prod.mk.injEq] at hs
        obtain ⟨_, rfl⟩ := hs
        exact alloc_does hE h e hus hti hR
    · cases hs
  · rename_i t x e
    split at hs
    · rename_i ps hps
      cases hus : s.us k with
      | true => rw [hus] at hs; cases hs
      | false =>
        rw [hus] at hs
        simp only [cond_false, ok, Option.some.injEq, Prod.mk.injEq] at hs
        obtain ⟨_, rfl⟩ := hs
        exact box_does h e hus hps hR
    · cases hs
  · rename_i t ps e
    exact build_does hE h e hs hR
  · rename_i t n ps e
    cases hb : wrO wr 3000000 o.dst with
    | true => rw [hb] at hs; exact buildSliceC_does hE h e hs hR
    | false => rw [hb] at hs; exact buildSlice_does hE h e hs hR
  · rename_i t x e
    exact load_does hE h e hs hp hR
  · rename_i t x y e
    split at hs
    · rename_i q s1 hst
      simp only [Option.some.injEq, Prod.mk.injEq] at hs
      obtain ⟨rfl, rfl⟩ := hs
      exact store_does hE h e hst hp hR
    · cases hs
  · rename_i x e
    have hx := h.ev x
    split at hs
    · rename_i k' off hx'
      simp only [ok, Option.some.injEq, Prod.mk.injEq] at hs
      obtain ⟨_, rfl⟩ := hs
      rw [hx'] at hx
      obtain ⟨_, b, _, hl⟩ := SVc.one1 rfl (by simp) hx
      simp only [List.cons.injEq, and_true] at hl
      exact nil_does h e ⟨_, hl⟩ (by rw [hx']; exact hR)
    · rename_i hx'
      simp only [ok, Option.some.injEq, Prod.mk.injEq] at hs
      obtain ⟨_, rfl⟩ := hs
      rw [hx'] at hx
      obtain ⟨_, _, b, _, hl⟩ := SVc.one1 rfl (by simp) hx
      simp only [List.cons.injEq, and_true] at hl
      exact nil_does h e ⟨_, hl⟩ (by rw [hx']; exact hR)
    · rename_i hx'
      simp only [ok, Option.some.injEq, Prod.mk.injEq] at hs
      obtain ⟨_, rfl⟩ := hs
      rw [hx'] at hx
      obtain ⟨_, b, q, n, cp, _, _, hl⟩ := SVc.one1 rfl (by simp) hx
      simp only [List.cons.injEq, and_true] at hl
      exact nil_does h e ⟨_, hl⟩ (by rw [hx']; exact hR)
    · rename_i hx'
      simp only [ok, Option.some.injEq, Prod.mk.injEq] at hs
      obtain ⟨_, rfl⟩ := hs
      rw [hx'] at hx
      obtain ⟨_, _, b, q, n, cp, _, _, hl⟩ := SVc.one1 rfl (by simp) hx
      simp only [List.cons.injEq, and_true] at hl
      exact nil_does h e ⟨_, hl⟩ (by rw [hx']; exact hR)
    · rename_i hx'
      simp only [ok, Option.some.injEq, Prod.mk.injEq] at hs
      obtain ⟨_, rfl⟩ := hs
      rw [hx'] at hx
      obtain ⟨_, _, b, _, hl⟩ := SVc.one1 rfl (by simp) hx
      simp only [List.cons.injEq, and_true] at hl
      exact nil_does h e ⟨_, hl⟩ (by rw [hx']; exact hR)
    · rename_i hx'
      simp only [ok, Option.some.injEq, Prod.mk.injEq] at hs
      obtain ⟨_, rfl⟩ := hs
      rw [hx'] at hx
      obtain ⟨b, q, cs, hl, _⟩ := SVc.one1 rfl (by simp) hx
      simp only [List.cons.injEq, and_true] at hl
      exact nil_does h e ⟨_, hl⟩ (by rw [hx']; exact hR)
    · rename_i hx'
      simp only [ok, Option.some.injEq, Prod.mk.injEq] at hs
      obtain ⟨_, rfl⟩ := hs
      rw [hx'] at hx
      obtain ⟨_, hl⟩ := SVc.one1 rfl (by simp) hx
      simp only [List.cons.injEq, and_true] at hl
      exact nil_does h e ⟨_, hl⟩ (by rw [hx']; exact hR)
    · rename_i hx'
      simp only [ok, Option.some.injEq, Prod.mk.injEq] at hs
      obtain ⟨_, rfl⟩ := hs
      rw [hx'] at hx
      obtain ⟨_, hl⟩ := SVc.one1 rfl (by simp) hx
      simp only [List.cons.injEq, and_true] at hl
      exact nil_does h e ⟨_, hl⟩ (by rw [hx']; exact hR)
    · rename_i pp aa hx'
      simp only [Option.some.injEq, Prod.mk.injEq] at hs
      obtain ⟨rfl, rfl⟩ := hs
      rw [hx'] at hx
      have hl := ref_ptr hx hp
      exact .inl ⟨a.eval x, w, by simp [execOp, e, hl], hR ρ _ _ (h.put o.dst (SVc.of1 (p := .opt pp aa 0) rfl ⟨hp, by rw [hl]⟩))⟩
    · cases hs
  · rename_i op t x y t' e
    split at hs
    · rename_i b hb
      simp only [ok, Option.some.injEq, Prod.mk.injEq] at hs
      obtain ⟨_, rfl⟩ := hs
      exact errNil_does hE h e hb hR
    · exact bin_does hE h e hs hp hR
  · rename_i op t x e
    exact un_does h e hs hp hR
  · rename_i t u x e
    exact convert_does hE h e hs hp hR
  · rename_i fn first caps e
    unfold makeFuncS at hs
    split at hs
    · rename_i f hf
      have hf' : first = #[] := by apply Array.ext'; simpa using hf
      subst hf'
      split at hs
      · rename_i ps hps
        cases hus : s.us k with
        | true => rw [hus] at hs; cases hs
        | false =>
          rw [hus] at hs
          simp only [cond_false, ok, Option.some.injEq, Prod.mk.injEq] at hs
          obtain ⟨_, rfl⟩ := hs
          exact clo_does h e hus hps hR
      · cases hs
    · cases hs
  · rename_i t l c e
    exact make_does hE h e hs hp hR
  · rename_i t r e
    split at hs
    · exact makeMap_does h e hs hR
    · cases hs
  · rename_i t x y z e
    split at hs
    · rename_i q s1 hs1
      simp only [Option.some.injEq, Prod.mk.injEq] at hs
      obtain ⟨_, rfl⟩ := hs
      exact insert_does hE h (by simp [execOp, e]) hs1 hR
    · cases hs
  · rename_i t x y z e
    split at hs
    · rename_i q s1 hs1
      simp only [Option.some.injEq, Prod.mk.injEq] at hs
      obtain ⟨_, rfl⟩ := hs
      exact insert_does hE h (by simp [execOp, e]) hs1 hR
    · cases hs
  · rename_i t x y two e
    exact lookup_does hE h e hs hp hR
  · rename_i t x lo hi mx e
    split at hs
    · cases hA : isArrT E t with
      | true => rw [hA] at hs; exact bsl_does hE h e hs hR
      | false =>
        rw [hA] at hs
        simp only [cond_false] at hs
        cases hb : wrO wr 3000000 o.dst with
        | true => rw [hb] at hs; exact sub2_does hE h e hs hp hR
        | false => rw [hb] at hs; exact slice_does hE h e hs hp hR
    · exact slice3R_does hE h e hs hp hR
  · rename_i t x i e
    exact fieldAddr_does hE h e hs hp hR
  · rename_i t x i e
    exact field_does hE h e hs hR
  · rename_i t x i e
    exact indexAddr_does hE h e hs hp hR
  · rename_i t x i e
    exact index_does hE h e hs hp hR
  · rename_i x i e
    have hx := h.ev x
    split at hs
    · rename_i es hx'
      rw [hx'] at hx
      obtain ⟨vs, hvs, htup⟩ := hx
      split at hs
      · rename_i ps hi
        simp only [ok, Option.some.injEq, Prod.mk.injEq] at hs
        obtain ⟨_, rfl⟩ := hs
        obtain ⟨v, h1, h2⟩ := tupC_get htup hi
        exact extract_does (sv := .agg ps) h e hvs h1 h2 hR
      · rename_i q hi
        obtain ⟨v, h1, h2⟩ := tupC_get htup hi
        cases hq : q.agg with
        | true => rw [hq] at hs; cases hs
        | false =>
          rw [hq] at hs
          simp only [cond_false, ok, Option.some.injEq, Prod.mk.injEq] at hs
          obtain ⟨_, rfl⟩ := hs
          obtain ⟨l1, l2, e1, h3, h4⟩ := h2
          rw [show l2 = [] from h4, List.append_nil] at e1
          exact extract_does h e hvs h1 (SVc.of1 hq (by rw [e1]; exact h3)) hR
      · cases hs
    · cases hs
  · rename_i c e
    unfold builtS at hs
    split at hs
    · rename_i b hcb
      have e' : o.op = .call { callee := .builtin b, args := c.args, argTypes := c.argTypes } := by rw [e, ← hcb]
      split at hs
      · rename_i x t ha ht
        split at hs
        · exact lenMap_does hE h e' ha ht hs hp hR
        · exact len_does hE h e' ha ht hs hR
      · rename_i x y t t' ha ht
        exact delete_does hE h e' ha ht hs hR
      · rename_i x y t t' ha ht
        cases hb : Nat.beq t t' with
        | false => rw [hb] at hs; cases hs
        | true =>
          rw [hb] at hs
          have := Nat.eq_of_beq_eq_true hb
          subst this
          exact append2_does hE h e' ha ht hs hp hR
      · rename_i x t ha ht
        exact clear_does hE h e' ha ht hs hR
      · rename_i x y t t' ha ht
        exact copy_does hE h e' ha ht hs hR
      · rename_i x y ha
        exact max_does (mx := true) h e' ha hs hR
      · rename_i x y ha
        exact max_does (mx := false) h e' ha hs hR
      · rename_i x y z ha
        exact max3_does (mx := true) h e' ha hs hR
      · rename_i x y z ha
        exact max3_does (mx := false) h e' ha hs hR
      · cases hs
    · cases hs
  · cases hs
end
end Go.Sx
