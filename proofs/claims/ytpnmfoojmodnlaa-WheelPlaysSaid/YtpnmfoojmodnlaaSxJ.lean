/-
  Sx, part J: new boxes and closures, addresses of fields and elements, slices of slices, lengths.
-/
import Derived.Test.YtpnmfoojmodnlaaSxI
namespace Go.Sx
open Go.RowKit

section
variable {P : Program} {E : Env} {w0 : Base} {w : World} {ρ : Nat → Value} {s s' : St} {a : Act} {o : Oper}

theorem newVar_run (t : TypeId) (v : Value) : (newVar t v).run P w = .ok ⟨w.heap.size, 0, none⟩ (w.alloc (.cells v.cells t)) := rfl
theorem newRow_run (t : TypeId) (cs : Array Value) : (newRow t cs).run P w = .ok ⟨w.heap.size, 0, none⟩ (w.alloc (.cells cs t)) := rfl

theorem TIok.run_zero {t : TypeId} {ti : TI} (h : TIok P t ti) (w : World) : ∃ z, (zeroValue t).run P w = .ok z w ∧ z.cells.toList = cellsPs ti.zero := by
  obtain ⟨i, z, h1, _, _, h4, h5⟩ := h.info
  refine ⟨z, by simp [zeroValue, typeInfo, h1, h4], ?_⟩
  have hone : ∀ v ∈ cellsPs ti.zero, v.oneCell' = true := (cellsPs_c (c := ⟨fun _ => undef, fun _ => false, fun _ => False, w⟩) h.flat).one
  cases hg : ti.kind.agg
  · rw [hg] at h5
    have hs : ti.size = 1 := by
      rcases h.one with h1 | h1
      · rw [hg] at h1; cases h1
      · exact h1
    have hl := h.size
    rw [hs] at hl
    match hc : cellsPs ti.zero, hl with
    | [v], _ =>
      rw [hc] at h5 hone
      simp only [cond_false, List.headD_cons] at h5
      rw [h5]
      have := hone v (by simp)
      cases v <;> first | rfl | cases this
  · rw [hg] at h5; rw [h5]; rfl

/-- A new box. -/
theorem new_box {R : Act → World → Prop} {k : Nat} {ps : List PV} {t : TypeId} {cs : Array Value} (h : Ok w0 ρ s a w) (hk : s.us k = false) (hp : PsC (cx w0 ρ s w) ps cs.toList)
    (hR : Up w0 ((s.new k (.box ps)).put o.dst (.one (.ptr k 0))) R) : R (a.put o.dst (.pointer (some ⟨w.heap.size, 0, none⟩))) (w.alloc (.cells cs t)) := by
  have hm := More.alloc w (.cells cs t)
  have hle := new_le (he := .box ps) (v := .pointer (some ⟨w.heap.size, 0, none⟩)) h hk hm (fun b e => by injection e with e; subst e; exact ⟨Nat.le_refl _, by simp⟩)
  have hok := h.new (he := .box ps) (v := .pointer (some ⟨w.heap.size, 0, none⟩)) hk hm
    (fun b e => by injection e with e; subst e; exact ⟨Nat.le_refl _, by simp⟩)
    ⟨w.heap.size, t, cs, rset_same _ _ _, heap_alloc_new w _, hp.mono hle⟩
  exact hR _ _ _ (hok.put o.dst (SVc.of1 rfl ⟨uset_same _ _, w.heap.size, rset_same _ _ _, rfl⟩))

theorem box_does {e : TypeId} {x : Operand} {k : Nat} {ps : List PV} {R : Act → World → Prop} (h : Ok w0 ρ s a w) (ho : o.op = .box e x) (hk : s.us k = false)
    (hp : (ev s x).parts = some ps) (hR : Up w0 ((s.new k (.box ps)).put o.dst (.one (.ptr k 0))) R) : Does P o a w R := by
  refine .inl ⟨.pointer (some ⟨w.heap.size, 0, none⟩), w.alloc (.cells (a.eval x).cells e), ?_, new_box h hk (SVparts_c (h.ev x) hp) hR⟩
  simp only [execOp, ho, Instr.box, Sem.run_bind, newVar_run, Result.andThen_ok, Sem.run_pure]
theorem alloc_does {e : TypeId} {k : Nat} {ti : TI} {R : Act → World → Prop} (hE : EnvOk P E) (h : Ok w0 ρ s a w) (ho : o.op = .alloc e) (hk : s.us k = false)
    (hi : E.info e = some ti) (hR : Up w0 ((s.new k (.box (psParts ti.zero))).put o.dst (.one (.ptr k 0))) R) : Does P o a w R := by
  obtain ⟨z, h1, h2⟩ := (hE e ti hi).run_zero w
  refine .inl ⟨.pointer (some ⟨w.heap.size, 0, none⟩), w.alloc (.cells z.cells e), ?_, new_box h hk (by rw [h2]; exact psParts_c (cellsPs_c (hE e ti hi).flat)) hR⟩
  simp only [execOp, ho, Instr.alloc, Sem.run_bind, h1, newVar_run, Result.andThen_ok, Sem.run_pure]

theorem oneParts_c (h0 : Ok w0 ρ s a w) : ∀ {xs : List Operand} {ps : List PV}, oneParts (xs.map (ev s)) = some ps → PsC (cx w0 ρ s w) ps (xs.map a.eval) ∧ ps.length = xs.length ∧ ∀ p ∈ ps, p.agg = false
  | [], ps, h => by injection h with h; subst h; exact ⟨rfl, rfl, by simp⟩
  | x :: xs, ps, h => by
    have hx := h0.ev x
    rw [List.map_cons] at h
    cases hsv : ev s x with
    | agg _ => rw [hsv] at h; cases h
    | tup _ => rw [hsv] at h; cases h
    | cnd _ _ => rw [hsv] at h; cases h
    | one p =>
      rw [hsv] at h hx
      have hn : p ≠ .any := fun e => by subst e; cases h
      have h' : (bif p.agg then none else (match oneParts (xs.map (ev s)) with
        | some ps => some (p :: ps)
        | none => none)) = some ps := by cases p <;> first | exact h | exact absurd rfl hn
      cases hg : p.agg with
      | true => rw [hg] at h'; cases h'
      | false =>
        rw [hg] at h'
        simp only [cond_false] at h'
        split at h'
        · rename_i qs hq
          injection h' with h'
          subst h'
          obtain ⟨h1, h2, h3⟩ := oneParts_c h0 hq
          exact ⟨⟨[a.eval x], _, rfl, SVc.one1 hg hn hx, h1⟩, by simp [h2], by simpa using ⟨hg, h3⟩⟩
        · cases h'

theorem clo_does {f : FuncId} {caps : Array Operand} {k : Nat} {ps : List PV} {R : Act → World → Prop} (h : Ok w0 ρ s a w) (ho : o.op = .makeFunc (.func f) #[] caps) (hk : s.us k = false)
    (hp : oneParts (caps.toList.map (ev s)) = some ps) (hR : Up w0 ((s.new k (.clo f ps)).put o.dst (.one (.clo k))) R) : Does P o a w R := by
  have hc := oneParts_c h hp
  have hle := new_le (he := .clo f ps) (v := .func (.func f) #[] (caps.map a.eval)) h hk (More.refl w) (fun b e => by cases e)
  have hok := h.new (he := .clo f ps) (v := .func (.func f) #[] (caps.map a.eval)) hk (More.refl w) (fun b e => by cases e)
    ⟨_, rset_same _ _ _, by simpa using hc.1.mono hle, by simpa using hc.2.1, hc.2.2⟩
  have hv : PVc (cx w0 (rset ρ k (.func (.func f) #[] (caps.map a.eval))) (s.new k (.clo f ps)) w) (.clo k) [.func (.func f) #[] (caps.map a.eval)] := by
    have e : rset ρ k (.func (.func f) #[] (caps.map a.eval)) k = .func (.func f) #[] (caps.map a.eval) := rset_same _ _ _
    exact ⟨uset_same _ _, by show [_] = [rset ρ k _ k]; rw [e], by show (rset ρ k _ k).oneCell' = true; rw [e]; rfl⟩
  refine .inl ⟨.func (.func f) #[] (caps.map a.eval), w, ?_, hR _ _ _ (hok.put o.dst (SVc.of1 rfl hv))⟩
  simp [execOp, ho, Instr.makeFunc]

theorem field?_c {t : TypeId} {i fo : Nat} {fi : TI} (hE : EnvOk P E) (h : field? E t i = some (fo, fi)) :
    ∃ (F : Array Field) (f : Field), P.underlying t = some (.struct F) ∧ F[i]? = some f ∧ f.offset = fo ∧ TIok P f.type fi := by
  unfold field? at h
  split at h
  · rename_i e
    split at h
    · rename_i off ft hf
      split at h
      · rename_i fi' hfi
        simp only [Option.some.injEq, Prod.mk.injEq] at h
        obtain ⟨rfl, rfl⟩ := h
        obtain ⟨F, hF, hfs⟩ := (hE _ _ e).kind
        rw [← hfs] at hf
        rw [List.getElem?_map, Option.map_eq_some_iff] at hf
        obtain ⟨f, hf1, hf2⟩ := hf
        simp only [Prod.mk.injEq] at hf2
        obtain ⟨rfl, rfl⟩ := hf2
        exact ⟨F, f, hF, by simpa using hf1, rfl, hE _ _ hfi⟩
      · cases h
    · cases h
  · cases h

/-- A type of no cells has no fields' places here. -/
theorem fieldAt_run {t : TypeId} {i fo : Nat} {fi : TI} (hE : EnvOk P E) (h : field? E t i = some (fo, fi)) (hz : fi.size ≠ 0) (b q : Nat) :
    (Instr.fieldAt t (.pointer (some ⟨b, q, none⟩)) i).run P w = .ok (.pointer (some ⟨b, q + fo, none⟩)) w := by
  obtain ⟨F, f, hF, hf, rfl, hT⟩ := field?_c hE h
  unfold Instr.fieldAt Instr.sureAddr fieldPlace
  simp only [Sem.run_bind, run_underlying hF, Result.andThen_ok, hf, Sem.run_pure, hT.run_size, if_neg hz, Addr.add_lit]

theorem subD_c {c : Cx} : ∀ {t u : Ty} {x : t.D} {y : u.D} {off n : Nat} {l : List Value}, subD t x off n = some ⟨u, y⟩ → Rd c.S c.w t l x → Rd c.S c.w u ((l.drop off).take u.size) y
  | .pair a b, u, x, y, off, n, l, h, hl => by
    unfold subD at h
    cases h1 : (Nat.beq off 0 && Nat.beq n (a.size + b.size)) with
    | true =>
      rw [h1] at h
      simp only [cond_true, Option.some.injEq, Sigma.mk.injEq] at h
      obtain ⟨rfl, h⟩ := h
      have h := eq_of_heq h
      subst h
      simp only [Bool.and_eq_true] at h1
      rw [Nat.eq_of_beq_eq_true h1.1, List.drop_zero, List.take_of_length_le (by rw [hl.len]; exact Nat.le_refl _)]
      exact hl
    | false =>
      rw [h1] at h
      simp only [cond_false] at h
      obtain ⟨l1, l2, e, h2, h3⟩ := hl
      have hl1 := h2.len
      cases h4 : Nat.blt off a.size with
      | true =>
        rw [h4] at h
        simp only [cond_true] at h
        have ih := subD_c h h2
        have : off < a.size := by rw [Nat.blt_eq] at h4; exact h4
        have hle := ih.len
        rw [List.length_take, List.length_drop, hl1] at hle
        have e5 : ((l.drop off).take u.size) = ((l1.drop off).take u.size) := by
          rw [e, List.drop_append_of_le_length (by omega), List.take_append_of_le_length (by rw [List.length_drop]; omega)]
        rw [e5]; exact ih
      | false =>
        rw [h4] at h
        simp only [cond_false] at h
        have ih := subD_c h h3
        have hge : a.size ≤ off := by
          rcases Nat.lt_or_ge off a.size with hlt | hge
          · have : Nat.blt off a.size = true := by rw [Nat.blt_eq]; exact hlt
            rw [this] at h4; cases h4
          · exact hge
        have e5 : l.drop off = l2.drop (off - a.size) := by
          rw [e, List.drop_append, hl1, List.drop_of_length_le (by omega), List.nil_append]
        rw [e5]; exact ih
  | .int k, u, x, y, off, n, l, h, hl => subD_leaf h hl
  | .bool, u, x, y, off, n, l, h, hl => subD_leaf h hl
  | .str, u, x, y, off, n, l, h, hl => subD_leaf h hl
  | .sl t, u, x, y, off, n, l, h, hl => subD_leaf h hl
  | .arr m t, u, x, y, off, n, l, h, hl => subD_leaf h hl
  | .ref p, u, x, y, off, n, l, h, hl => subD_leaf (t := .ref p) h hl
  | .err, u, x, y, off, n, l, h, hl => subD_leaf (t := .err) h hl
  | .mp kk t, u, x, y, off, n, l, h, hl => subD_leaf (t := .mp kk t) h hl
where
  subD_leaf {c : Cx} {t u : Ty} {x : t.D} {y : u.D} {off n : Nat} {l : List Value} (h : (bif Nat.beq off 0 && Nat.beq n t.size then some (⟨t, x⟩ : (u : Ty) × u.D) else none) = some ⟨u, y⟩) (hl : Rd c.S c.w t l x) :
      Rd c.S c.w u ((l.drop off).take u.size) y := by
    cases h1 : (Nat.beq off 0 && Nat.beq n t.size) with
    | false => rw [h1] at h; cases h
    | true =>
      rw [h1] at h
      simp only [cond_true, Option.some.injEq, Sigma.mk.injEq] at h
      obtain ⟨rfl, h⟩ := h
      have h := eq_of_heq h
      subst h
      simp only [Bool.and_eq_true] at h1
      rw [Nat.eq_of_beq_eq_true h1.1, List.drop_zero, List.take_of_length_le (by rw [hl.len]; exact Nat.le_refl _)]
      exact hl

theorem ref_ptr {c : Cx} {p : Nat} {i : Int} {v : Value} (h : SVc c (.one (.d (.ref p) i)) v) (h0 : 0 ≤ i) : v = .pointer (some ⟨i.toNat, 0, none⟩) := by
  rcases (SVc.one1 rfl (by simp) h : Rd _ _ (.ref p) [v] i) with ⟨h1, _⟩ | ⟨_, h2⟩
  · have h1 : i = -1 := h1
    omega
  · simpa using h2
theorem fieldAddr_does {t : TypeId} {x : Operand} {i : Nat} {p : Option Prop} {R : Act → World → Prop} (hE : EnvOk P E) (h : Ok w0 ρ s a w) (ho : o.op = .fieldAddr t x i)
    (hs : fieldAddrS E s o.dst t (ev s x) i = some (p, s')) (hp : vcP p) (hR : Up w0 s' R) : Does P o a w R := by
  unfold fieldAddrS at hs
  split at hs
  · rename_i fo fi hf
    cases hz : Nat.beq fi.size 0 with
    | true => rw [hz] at hs; cases hs
    | false =>
    rw [hz] at hs
    simp only [cond_false] at hs
    have hz' : fi.size ≠ 0 := fun e => by rw [e] at hz; cases hz
    have hrun := fieldAt_run (w := w) hE hf hz'
    have hx := h.ev x
    split at hs
    · rename_i k off e
      simp only [ok, Option.some.injEq, Prod.mk.injEq] at hs
      obtain ⟨_, rfl⟩ := hs
      rw [e] at hx
      obtain ⟨hu, b, hb, hl⟩ := SVc.one1 rfl (by simp) hx
      simp only [List.cons.injEq, and_true] at hl
      refine does_value (m := Instr.fieldAt t (a.eval x) i) h (by simp [execOp, ho]) (by rw [hl]; exact hrun _ _) (SVc.of1 (p := .ptr k (off + fo)) rfl ⟨hu, b, hb, rfl⟩) hR
    · rename_i k off n sz ix j e
      simp only [ok, Option.some.injEq, Prod.mk.injEq] at hs
      obtain ⟨_, rfl⟩ := hs
      rw [e] at hx
      obtain ⟨hu, hi, b, hb, hl⟩ := SVc.one1 rfl (by simp) hx
      simp only [List.cons.injEq, and_true] at hl
      refine does_value (m := Instr.fieldAt t (a.eval x) i) h (by simp [execOp, ho]) (by rw [hl]; exact hrun _ _) (SVc.of1 (p := .pel k off n sz ix (j + fo)) rfl ⟨hu, hi, b, hb, by simp [Nat.add_assoc]⟩) hR
    · rename_i k sz ix j e
      simp only [ok, Option.some.injEq, Prod.mk.injEq] at hs
      obtain ⟨_, rfl⟩ := hs
      rw [e] at hx
      obtain ⟨hu, b, q, n, cp, hb, hi, hl⟩ := SVc.one1 rfl (by simp) hx
      simp only [List.cons.injEq, and_true] at hl
      refine does_value (m := Instr.fieldAt t (a.eval x) i) h (by simp [execOp, ho]) (by rw [hl]; exact hrun _ _) (SVc.of1 (p := .rel k sz ix (j + fo)) rfl ⟨hu, b, q, n, cp, hb, hi, by simp [Nat.add_assoc]⟩) hR
    · rename_i k sz ix j n' sz' ix' j' e
      simp only [ok, Option.some.injEq, Prod.mk.injEq] at hs
      obtain ⟨_, rfl⟩ := hs
      rw [e] at hx
      obtain ⟨hu, hi', b, q, n, cp, hb, hi, hl⟩ := SVc.one1 rfl (by simp) hx
      simp only [List.cons.injEq, and_true] at hl
      refine does_value (m := Instr.fieldAt t (a.eval x) i) h (by simp [execOp, ho]) (by rw [hl]; exact hrun _ _) (SVc.of1 (p := .rea k sz ix j n' sz' ix' (j' + fo)) rfl ⟨hu, hi', b, q, n, cp, hb, hi, by simp [Nat.add_assoc]⟩) hR
    · rename_i k off n sz ix j n' sz' ix' j' e
      simp only [ok, Option.some.injEq, Prod.mk.injEq] at hs
      obtain ⟨_, rfl⟩ := hs
      rw [e] at hx
      obtain ⟨hu, hi', b, hb, hl⟩ := SVc.one1 rfl (by simp) hx
      simp only [List.cons.injEq, and_true] at hl
      refine does_value (m := Instr.fieldAt t (a.eval x) i) h (by simp [execOp, ho]) (by rw [hl]; exact hrun _ _) (SVc.of1 (p := .pea k off n sz ix j n' sz' ix' (j' + fo)) rfl ⟨hu, hi', b, hb, by simp [Nat.add_assoc]⟩) hR
    · rename_i u y e
      split at hs
      · rename_i v z hv
        simp only [ok, Option.some.injEq, Prod.mk.injEq] at hs
        obtain ⟨_, rfl⟩ := hs
        rw [e] at hx
        obtain ⟨b, q, cs, hl, hS, hr, hc⟩ := SVc.one1 rfl (by simp) hx
        simp only [List.cons.injEq, and_true] at hl
        have hat : At w b q cs := hc
        refine does_value (m := Instr.fieldAt t (a.eval x) i) h (by simp [execOp, ho]) (by rw [hl]; exact hrun _ _) (SVc.of1 (p := .dpl v z) rfl ⟨b, q + fo, _, rfl, hS, subD_c (c := cx w0 ρ s w) hv hr, hat.sub fo v.size⟩) hR
      · cases hs
    · rename_i q j off e
      simp only [ok, Option.some.injEq, Prod.mk.injEq] at hs
      obtain ⟨_, rfl⟩ := hs
      rw [e] at hx
      obtain ⟨h0, hl⟩ := SVc.one1 rfl (by simp) hx
      simp only [List.cons.injEq, and_true] at hl
      exact does_value (m := Instr.fieldAt t (a.eval x) i) h (by simp [execOp, ho]) (by rw [hl]; exact hrun _ _) (SVc.of1 (p := .opt q j (off + fo)) rfl ⟨h0, rfl⟩) hR
    · rename_i q jj off n sz ix j e
      simp only [ok, Option.some.injEq, Prod.mk.injEq] at hs
      obtain ⟨_, rfl⟩ := hs
      rw [e] at hx
      obtain ⟨h0, hl⟩ := SVc.one1 rfl (by simp) hx
      simp only [List.cons.injEq, and_true] at hl
      exact does_value (m := Instr.fieldAt t (a.eval x) i) h (by simp [execOp, ho]) (by rw [hl]; exact hrun _ _) (SVc.of1 (p := .oel q jj off n sz ix (j + fo)) rfl ⟨h0, by simp [Nat.add_assoc]⟩) hR
    · rename_i q j e
      simp only [Option.some.injEq, Prod.mk.injEq] at hs
      obtain ⟨rfl, rfl⟩ := hs
      rw [e] at hx
      have hl := ref_ptr hx hp
      exact does_value (m := Instr.fieldAt t (a.eval x) i) h (by simp [execOp, ho]) (by rw [hl]; exact hrun _ _) (SVc.of1 (p := .opt q j fo) rfl ⟨hp, by simp⟩) hR
    · cases hs
  · cases hs
end
end Go.Sx
