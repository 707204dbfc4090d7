/-
  Sx, part K: fields and elements of values, addresses of elements, lengths, slices of slices, and the small operations.
-/
import Derived.Test.YtpnmfoojmodnlaaSxJ
namespace Go.Sx
open Go.RowKit

section
variable {P : Program} {E : Env} {w0 : Base} {w : World} {ρ : Nat → Value} {s s' : St} {a : Act} {o : Oper}

theorem isAgg_c {c : Cx} {x : SV} {v : Value} (h : SVc c x v) (hx : x.isAgg = true) : ∃ cs, v = .agg cs := by
  cases x with
  | agg ps => obtain ⟨cs, e, _⟩ := h; exact ⟨cs, e⟩
  | tup es => cases hx
  | cnd b p => cases hx
  | one p =>
    cases p with
    | d t y =>
      have h' : aggC c t.agg [.d t y] v := h
      rw [show t.agg = true from hx] at h'
      obtain ⟨cs, e, _⟩ := h'
      exact ⟨cs, e⟩
    | orp k n g =>
      have h : aggC c true [.orp k n g] v := h
      obtain ⟨cs, e, _⟩ := h
      exact ⟨cs, e⟩
    | _ => cases hx

theorem part_run {t : TypeId} {ti : TI} (h : TIok P t ti) {cs : Array Value} {off : Nat} (hle : off + ti.size ≤ cs.size) :
    (part t cs off).run P w = .ok (bif ti.kind.agg then .agg ((cs.toList.drop off).take ti.size).toArray else ((cs.toList.drop off).take ti.size).headD undef) w := by
  unfold part
  simp only [Sem.run_bind, h.run_agg, Result.andThen_ok]
  cases hg : ti.kind.agg
  · have h1 : ti.size = 1 := by
      rcases h.one with h1 | h1
      · rw [hg] at h1; cases h1
      · exact h1
    have hlt : off < cs.size := by omega
    have e1 : cs[off]? = some cs[off] := Array.getElem?_eq_getElem hlt
    have e2 : ((cs.toList.drop off).take ti.size).headD undef = cs[off] := by
      rw [h1]
      have : cs.toList.drop off = cs[off] :: cs.toList.drop (off + 1) := by
        rw [← Array.getElem_toList hlt]; exact List.drop_eq_getElem_cons (by simpa using hlt)
      rw [this]; rfl
    rw [e2]
    simp [e1]
  · simp only [if_true, Sem.run_bind, h.run_size, Result.andThen_ok, Sem.run_pure, cond_true]
    congr 1
    congr 1
    apply Array.ext'
    rw [Array.toList_extract]
    simp [List.extract_eq_take_drop]

theorem field_does {t : TypeId} {x : Operand} {i : Nat} {p : Option Prop} {R : Act → World → Prop} (hE : EnvOk P E) (h : Ok w0 ρ s a w) (ho : o.op = .field t x i)
    (hs : fieldS E s o.dst t (ev s x) i = some (p, s')) (hR : Up w0 s' R) : Does P o a w R := by
  unfold fieldS at hs
  split at hs
  · rename_i fo fi ps hf hps
    cases hg : (ev s x).isAgg with
    | false => rw [hg] at hs; cases hs
    | true =>
      rw [hg] at hs
      simp only [Bool.not_true, cond_false] at hs
      split at hs
      · rename_i pre m post hc
        split at hs
        · rename_i v hv
          simp only [ok, Option.some.injEq, Prod.mk.injEq] at hs
          obtain ⟨_, rfl⟩ := hs
          obtain ⟨cs, hcs⟩ := isAgg_c (h.ev x) hg
          have hp := SVparts_c (h.ev x) hps
          rw [hcs] at hp
          obtain ⟨h1, h2⟩ := cut3_c hc hp
          obtain ⟨F, f, hF, hf', rfl, hT⟩ := field?_c hE hf
          refine does_value (m := Instr.field t (a.eval x) i) h (by simp [execOp, ho]) ?_ (mkSV_c hv h1) hR
          unfold Instr.field
          simp only [Sem.run_bind, run_underlying hF, Result.andThen_ok, hf', hcs, asAgg, Sem.run_pure]
          exact part_run hT (by simpa [Value.cells] using h2)
        · cases hs
      · cases hs
  · cases hs

theorem index_does {t : TypeId} {x y : Operand} {p : Option Prop} {R : Act → World → Prop} (hE : EnvOk P E) (h : Ok w0 ρ s a w) (ho : o.op = .index t x y)
    (hs : indexS E s o.dst t (ev s x) (ev s y) = some (p, s')) (hp : vcP p) (hR : Up w0 s' R) : Does P o a w R := by
  unfold indexS at hs
  split at hs
  · rename_i l hl
    obtain ⟨ex, bx⟩ := asStr_c (h.ev x) hl
    cases hT : isStrT E t with
    | false => rw [hT] at hs; cases hs
    | true =>
      rw [hT] at hs
      simp only [cond_true] at hs
      split at hs
      · rename_i k i hi
        have ey := asInt_c (h.ev y) hi
        simp only [Option.some.injEq, Prod.mk.injEq] at hs
        obtain ⟨rfl, rfl⟩ := hs
        have hp : 0 ≤ i ∧ i < (l.length : Int) := hp
        have hlt : i.toNat < l.length := by omega
        have hb := bx.2 l[i.toNat] (List.getElem_mem hlt)
        have en : nth (.int .u8) l i.toNat = l[i.toNat] := by simp [nth, hlt]
        refine does_value (m := Instr.index t (a.eval x) (a.eval y)) h (by simp [execOp, ho]) ?_ (sv_int (k := .u8) (n := nth (.int .u8) l i.toNat) (by rw [en]; exact hb)) hR
        rw [en]
        unfold Instr.index
        have hget : (mkStr l)[i.toNat]? = some (UInt8.ofNat l[i.toNat].toNat) := by
          have : i.toNat < (mkStr l).size := by rw [mkStr_size]; exact hlt
          rw [getElem?_pos (mkStr l) i.toNat this]
          simp only [mkStr, ByteArray.getElem_eq_getElem_data, List.getElem_toArray, List.getElem_map]
        simp only [Sem.run_bind, ey, asIntOf, Sem.run_pure, Result.andThen_ok, run_underlying (isStrT_c hE hT), ex, if_pos hp.1, hget]
        congr 2
        simp only [UInt8.toNat_ofNat']
        omega
      · cases hs
  rename_i hnl
  split at hs
  · rename_i sz by_ n e z ty k i hti hi
    have ey := asInt_c (h.ev y) hi
    split at hs
    · rename_i ei m u xs hei hps
      cases hb : ((ev s x).isAgg && Nat.beq m n && Nat.beq u.size ei.size) with
      | false => rw [hb] at hs; cases hs
      | true =>
        rw [hb] at hs
        simp only [cond_true] at hs
        split at hs
        · rename_i v hv
          simp only [Option.some.injEq, Prod.mk.injEq] at hs
          obtain ⟨rfl, rfl⟩ := hs
          simp only [Bool.and_eq_true] at hb
          have e1 := Nat.eq_of_beq_eq_true hb.1.2
          have e2 := Nat.eq_of_beq_eq_true hb.2
          subst e1
          obtain ⟨cs, hcs⟩ := isAgg_c (h.ev x) hb.1.1
          have hq := SVparts_c (h.ev x) hps
          rw [hcs] at hq
          obtain ⟨l1, l2, e3, h3, h4⟩ := hq
          have h4 : l2 = [] := h4
          rw [h4, List.append_nil] at e3
          have e3 : cs.toList = l1 := e3
          obtain ⟨hx1, hx2, hx3⟩ := h3
          have hilt : i.toNat < m := by omega
          have hr := hx3 i.toNat (nth u xs i.toNat) (nth_some (by omega))
          have hle : (i.toNat + 1) * u.size ≤ m * u.size := Nat.mul_le_mul_right _ hilt
          rw [Nat.add_mul, Nat.one_mul] at hle
          have hk := (hE t _ hti).kind
          refine does_value (m := Instr.index t (a.eval x) (a.eval y)) h (by simp [execOp, ho]) ?_ (mkSV_c hv (explode_c hr)) hR
          unfold Instr.index
          simp only [Sem.run_bind, ey, asIntOf, Sem.run_pure, Result.andThen_ok, run_underlying hk, hcs, if_pos hp, (hE e ei hei).run_size]
          rw [← e2, part_run (hE e ei hei) (by rw [← e2]; have := congrArg List.length e3; simp at this; omega), e3, ← e2]
        · cases hs
    · cases hs
  · cases hs

theorem slD_cS {sv : SV} {v : Value} {t : Ty} {xs : List t.D} (h : Ok w0 ρ s a w) (hv : SVc (cx w0 ρ s w) sv v) (e : slD s sv = some ⟨t, xs⟩) :
    ∃ A c, v = .slice A xs.length c ∧ xs.length ≤ c ∧ c ≤ maxLen ∧ (0 < xs.length → ∃ b q, A = some ⟨b, q, none⟩ ∧ (b < w.heap.size ∧ w0.S b) ∧
      ∀ (i : Nat) x, xs[i]? = some x → ∃ l, At w b (q + i * t.size) l ∧ Rd (Free w0 ρ s.hp w) w t l x) := by
  unfold slD at e
  split at e
  · simp only [Option.some.injEq, Sigma.mk.injEq] at e
    obtain ⟨rfl, e⟩ := e
    have e := eq_of_heq e
    subst e
    obtain ⟨A, c, h1, h2, h3, h4⟩ := SVc.one1 rfl (by simp) hv
    simp only [List.cons.injEq, and_true] at h1
    refine ⟨A, c, h1, h2, h3, fun hp => ?_⟩
    obtain ⟨b, q, e1, hS, hx⟩ := h4 hp
    refine ⟨b, q, e1, ⟨hS.1, hS.2.2⟩, fun i x hi => ?_⟩
    obtain ⟨l, hl, hr⟩ := hx i x hi
    exact ⟨l, fun j v hv => by rw [Nat.add_assoc]; exact hl j v hv, hr⟩
  · rename_i k
    split at e
    · rename_i t' xs' hk
      simp only [Option.some.injEq, Sigma.mk.injEq] at e
      obtain ⟨rfl, e⟩ := e
      have e := eq_of_heq e
      subst e
      obtain ⟨_, h1, _⟩ := SVc.one1 rfl (by simp) hv
      simp only [List.cons.injEq, and_true] at h1
      rcases h.heap k _ hk with ⟨h2, rfl⟩ | ⟨b, q, cp, cur, e, h2, hh, h3, h4, h5, h6⟩
      · exact ⟨none, 0, by rw [h1]; exact h2, Nat.le_refl _, by simp [maxLen], fun hp => absurd hp (by simp)⟩
      · refine ⟨some ⟨b, q, none⟩, cp, by rw [h1]; exact h2, h3, h4, fun _ => ⟨b, q, rfl, ⟨(Array.getElem?_eq_some_iff.1 hh).1, w0.all b (h.fresh k _ b hk (by rw [show ρ k = _ from h2]; rfl)).1⟩, fun i x hi => ⟨_, At.of_block hh _ _, h6 i x hi⟩⟩⟩
    · cases e
  · rename_i k k' sz x y
    split at e
    · rename_i t' xs' hk
      cases hz : Nat.beq t'.size sz with
      | false => rw [hz] at e; cases e
      | true =>
        rw [hz] at e
        simp only [cond_true, Option.some.injEq, Sigma.mk.injEq] at e
        obtain ⟨rfl, e⟩ := e
        have e := eq_of_heq e
        subst e
        have ez := Nat.eq_of_beq_eq_true hz
        subst ez
        obtain ⟨_, _, h1, A, n, cp, h2, _, ⟨hxy, hyn⟩, h3⟩ := SVc.one1 rfl (by simp) hv
        simp only [List.cons.injEq, and_true] at h1
        rw [h3] at h1
        rcases h.heap k _ hk with ⟨h4, rfl⟩ | ⟨b, q, cp', cur, e, h4, hh, h5, h6, h7, h8⟩
        · rw [h4] at h2
          cases h2
          have hy : y = 0 := by omega
          subst hy
          exact ⟨none, 0, by rw [h1]; simp, by simp, by simp [maxLen], fun hp => absurd hp (by simp)⟩
        · rw [h4] at h2
          cases h2
          have hln : ((xs'.take y).drop x).length = y - x := by rw [List.length_drop, List.length_take]; omega
          refine ⟨_, cp - x, by rw [hln]; exact h1, by rw [hln]; omega, by omega, fun hp => ?_⟩
          rw [hln] at hp
          have hne : ¬ cp = x := by omega
          rw [if_neg hne]
          refine ⟨b, q + x * t'.size, by simp [Addr.add_lit], ⟨(Array.getElem?_eq_some_iff.1 hh).1, w0.all b (h.fresh k _ b hk (by rw [show ρ k = _ from h4]; rfl)).1⟩, fun i z hi => ?_⟩
          have hi' : xs'[x + i]? = some z := by
            rw [List.getElem?_drop, List.getElem?_take] at hi
            split at hi
            · exact hi
            · cases hi
          have := h8 (x + i) z hi'
          rw [show q + (x + i) * t'.size = q + x * t'.size + i * t'.size from by rw [Nat.add_mul, Nat.add_assoc]] at this
          exact ⟨_, At.of_block hh _ _, this⟩
    · cases e
  · rename_i k off n sz
    split at e
    · rename_i ps hk
      cases hn : Nat.ble n 65536 with
      | false => rw [hn] at e; cases e
      | true =>
        rw [hn] at e
        simp only [cond_true] at e
        have hn := Nat.le_of_ble_eq_true hn
        obtain ⟨_, b, h1, h2⟩ := SVc.one1 rfl (by simp) hv
        simp only [List.cons.injEq, and_true] at h2
        obtain ⟨b', ty, cs, h3, hh, hps⟩ := h.heap k _ hk
        rw [h1] at h3
        cases h3
        have hln := arrAt_len e hps
        refine ⟨_, n, by rw [hln]; exact h2, by omega, by simp only [maxLen]; omega, fun hp => ⟨b, off, rfl, ⟨(Array.getElem?_eq_some_iff.1 hh).1, w0.all b (h.fresh k _ b hk (by rw [show ρ k = _ from h1]; rfl)).1⟩, fun i z hi => ?_⟩⟩
        have hi' : i < xs.length := (List.getElem?_eq_some_iff.1 hi).1
        obtain ⟨_, e0, hr⟩ := arrAt_c (i := i) e hps (by omega)
        have ez : nth t xs i = z := by rw [nth_some hi'] at hi; exact Option.some.inj hi
        rw [ez] at hr
        exact ⟨_, At.of_block hh _ _, hr⟩
    · cases e
  · cases e

theorem slD_c {sv : SV} {v : Value} {t : Ty} {xs : List t.D} (h : Ok w0 ρ s a w) (hv : SVc (cx w0 ρ s w) sv v) (e : slD s sv = some ⟨t, xs⟩) :
    ∃ A c, v = .slice A xs.length c ∧ xs.length ≤ c ∧ c ≤ maxLen ∧ (0 < xs.length → ∃ b q, A = some ⟨b, q, none⟩ ∧ b < w.heap.size ∧
      ∀ (i : Nat) x, xs[i]? = some x → ∃ l, At w b (q + i * t.size) l ∧ Rd (Free w0 ρ s.hp w) w t l x) := by
  obtain ⟨A, c, h1, h2, h3, h4⟩ := slD_cS h hv e
  refine ⟨A, c, h1, h2, h3, fun hp => ?_⟩
  obtain ⟨b, q, e1, e2, e3⟩ := h4 hp
  exact ⟨b, q, e1, e2.1, e3⟩

theorem exec_builtin {b : Builtin} {args : Array Operand} {ts : Array TypeId} (ho : o.op = .call { callee := .builtin b, args := args, argTypes := ts }) :
    execOp a.eval o = builtin b ts o.type (args.map fun | .const _ => true | _ => false) (args.map a.eval) := by
  simp only [execOp, ho, resolve]
  rfl

theorem isSliceT_c {t : TypeId} (hE : EnvOk P E) (h : isSliceT E t = true) : ∃ e, P.underlying t = some (.slice e) := by
  unfold isSliceT at h
  split at h
  · rename_i e; exact ⟨_, (hE _ _ e).kind⟩
  · cases h
theorem len_does {args : Array Operand} {ts : Array TypeId} {x : Operand} {t : TypeId} {p : Option Prop} {R : Act → World → Prop} (hE : EnvOk P E) (h : Ok w0 ρ s a w)
    (ho : o.op = .call { callee := .builtin .len, args := args, argTypes := ts }) (ha : args.toList = [x]) (ht : ts.toList = [t])
    (hs : lenS E s o.dst t (ev s x) = some (p, s')) (hR : Up w0 s' R) : Does P o a w R := by
  have ea : args = #[x] := by apply Array.ext'; simpa using ha
  have et : ts = #[t] := by apply Array.ext'; simpa using ht
  subst ea; subst et
  unfold lenS at hs
  split at hs
  · rename_i l hx
    obtain ⟨hv, hb⟩ := asStr_c (h.ev x) hx
    cases hT : isStrT E t with
    | false => rw [hT] at hs; cases hs
    | true =>
      rw [hT] at hs
      simp only [cond_true, ok, Option.some.injEq, Prod.mk.injEq] at hs
      obtain ⟨_, rfl⟩ := hs
      refine does_value (m := Builtin.len_ #[t] o.type (#[x].map a.eval)) h (exec_builtin ho) ?_ (sv_int (k := .i64) (n := (l.length : Int)) ⟨by omega, by have := hb.1; omega⟩) hR
      simp [Builtin.len_, run_underlying (isStrT_c hE hT), hv, goInt, mkStr_size]
  rename_i hxs
  cases hT : isSliceT E t with
  | false => rw [hT] at hs; cases hs
  | true =>
    rw [hT] at hs
    simp only [Bool.not_true, cond_false] at hs
    obtain ⟨e, hu⟩ := isSliceT_c hE hT
    have hrun : ∀ A n c, a.eval x = .slice A n c → (Builtin.len_ #[t] o.type (#[x].map a.eval)).run P w = .ok (.int .i64 (n : Int)) w := by
      intro A n c hv
      simp [Builtin.len_, run_underlying hu, hv, goInt]
    split at hs
    · rename_i hx
      simp only [ok, Option.some.injEq, Prod.mk.injEq] at hs
      obtain ⟨_, rfl⟩ := hs
      have hv := h.ev x
      rw [hx] at hv
      obtain ⟨h1, _⟩ := SVc.one1 rfl (by simp) hv
      simp only [List.cons.injEq, and_true] at h1
      exact does_value (m := Builtin.len_ #[t] o.type (#[x].map a.eval)) h (exec_builtin ho) (hrun _ _ _ h1) (sv_int (k := .i64) (n := 0) ⟨by omega, by omega⟩) hR
    · split at hs
      · rename_i u xs hx
        simp only [ok, Option.some.injEq, Prod.mk.injEq] at hs
        obtain ⟨_, rfl⟩ := hs
        obtain ⟨A, c, h1, h2, h3, _⟩ := slD_c h (h.ev x) hx
        exact does_value (m := Builtin.len_ #[t] o.type (#[x].map a.eval)) h (exec_builtin ho) (hrun _ _ _ h1) (sv_int (k := .i64) (n := (xs.length : Int)) ⟨by omega, by simp only [maxLen] at h3; omega⟩) hR
      · cases hs
end
end Go.Sx
