/-
  Sx, part H: each operation does what the executor says: loads and stores.
-/
import Derived.Test.YtpnmfoojmodnlaaSxGA
namespace Go.Sx
open Go.RowKit

/-- The cells l lie in block b from cell o on. -/
def At (w : World) (b o : Nat) (l : List Value) : Prop := ∀ (j : Nat) v, l[j]? = some v → w.cell? ⟨b, o + j, none⟩ = some v

theorem cell_of_block {w : World} {b : Nat} {cs : Array Value} {e : TypeId} {fr : Nat × Nat} (h : w.heap[b]? = some (.cells cs e fr)) (o : Nat) : w.cell? ⟨b, o, none⟩ = cs[o]? := by
  simp [World.cell?, h]
theorem At.of_block {w : World} {b : Nat} {cs : Array Value} {e : TypeId} {fr : Nat × Nat} (h : w.heap[b]? = some (.cells cs e fr)) (o n : Nat) : At w b o ((cs.toList.drop o).take n) := by
  intro j v hv
  rw [cell_of_block h]
  rw [List.getElem?_take] at hv
  split at hv
  · rw [List.getElem?_drop] at hv; simpa using hv
  · cases hv
theorem At.sub {w : World} {b o : Nat} {l : List Value} (h : At w b o l) (i n : Nat) : At w b (o + i) ((l.drop i).take n) := by
  intro j v hv
  rw [List.getElem?_take] at hv
  split at hv
  · rw [List.getElem?_drop] at hv; rw [Nat.add_assoc]; exact h _ _ hv
  · cases hv

section
variable {P : Program} {E : Env} {w0 : Base} {w : World} {ρ : Nat → Value} {s s' : St} {a : Act} {o : Oper}

theorem mkSV_c {c : Cx} {g : Bool} {ps : List PV} {sv : SV} {l : List Value} (h : mkSV g ps = some sv) (hl : PsC c ps l) :
    SVc c sv (bif g then .agg l.toArray else l.headD undef) := by
  unfold mkSV at h
  cases g
  · simp only [cond_false] at h
    split at h
    · rename_i p
      cases hp : p.agg with
      | true => rw [hp] at h; cases h
      | false =>
        rw [hp] at h
        simp only [cond_false, Option.some.injEq] at h
        subst h
        obtain ⟨x, y, e, h1, h2⟩ := hl
        rw [show y = [] from h2, List.append_nil] at e
        subst e
        have hsz : p.size = 1 := by
          cases p with
          | d t x => cases t <;> first | rfl | cases hp
          | orp k n g => cases hp
          | _ => rfl
        have hlen := h1.len
        rw [hsz] at hlen
        match l, hlen with
        | [v], _ => exact SVc.of1 hp h1
    · cases h
  · simp only [cond_true, Option.some.injEq] at h
    subst h
    exact ⟨_, rfl, hl⟩

theorem loadAt_run {t : TypeId} {ti : TI} (h : TIok P t ti) {b q : Nat} {l : List Value} (hl : At w b q l) (hn : l.length = ti.size) :
    (Instr.loadAt t (.pointer (some ⟨b, q, none⟩))).run P w = .ok (bif ti.kind.agg then .agg l.toArray else l.headD undef) w := by
  unfold Instr.loadAt Instr.sureAddr loadVar
  simp only [Sem.run_bind, Sem.run_pure, Result.andThen_ok, h.run_agg]
  have hadd : ∀ (j : Nat) v, l[j]? = some v → w.cell? ((⟨b, q, none⟩ : Addr).add j) = some v := fun j v hv => by rw [Addr.add_lit]; exact hl j v hv
  cases hg : ti.kind.agg
  · have h1 : ti.size = 1 := by
      rcases h.one with h1 | h1
      · rw [hg] at h1; cases h1
      · exact h1
    rw [h1] at hn
    match l, hn with
    | [v], _ =>
      have := hl 0 v rfl
      simp only [Nat.add_zero] at this
      simp [load, this, Sem.run]
  · simp only [if_true, Sem.run_bind, h.run_size, Result.andThen_ok, cond_true]
    rw [← hn, run_loadCells_list w ⟨b, q, none⟩ l hadd]
    simp only [Result.andThen_ok, Sem.run_pure]

/-- An element of an array among parts. -/
theorem arrAt_c {c : Cx} {ps : List PV} {off n sz i : Nat} {u : Ty} {xs : List u.D} {l : List Value} (ha : arrAt ps off n sz = some ⟨u, xs⟩) (hl : PsC c ps l) (hi : i < n) :
    ∃ _ : Unit, sz = u.size ∧ Rd c.S c.w u ((l.drop (off + i * u.size)).take u.size) (nth u xs i) := by
  unfold arrAt at ha
  split at ha
  · rename_i pre m t xs' rest htk
    cases hmn : (Nat.beq m n && Nat.beq t.size sz) with
    | false => rw [hmn] at ha; cases ha
    | true =>
      rw [hmn] at ha
      simp only [cond_true, Option.some.injEq, Sigma.mk.injEq] at ha
      obtain ⟨rfl, ha⟩ := ha
      have ha := eq_of_heq ha
      subst ha
      simp only [Bool.and_eq_true] at hmn
      have e1 := Nat.eq_of_beq_eq_true hmn.1
      have e2 := Nat.eq_of_beq_eq_true hmn.2
      subst e1; subst e2
      obtain ⟨hps, hsz⟩ := takeN_eq htk
      rw [hps] at hl
      have h2 := hl.split.2
      rw [hsz] at h2
      obtain ⟨x1, x2, e3, h3, _⟩ := h2
      obtain ⟨hxl, hxc, hxr⟩ := h3
      have hr := hxr i (nth t xs' i) (nth_some (by rw [hxl]; exact hi))
      refine ⟨(), rfl, ?_⟩
      have hile : (i + 1) * t.size ≤ m * t.size := Nat.mul_le_mul_right _ hi
      rw [Nat.add_mul, Nat.one_mul] at hile
      rw [← List.drop_drop, e3, List.drop_append_of_le_length (by omega), List.take_append_of_le_length (by rw [List.length_drop]; omega)]
      exact hr
  · cases ha

theorem arrAt_len {c : Cx} {ps : List PV} {off n sz : Nat} {u : Ty} {xs : List u.D} {l : List Value} (ha : arrAt ps off n sz = some ⟨u, xs⟩) (hl : PsC c ps l) : xs.length = n := by
  unfold arrAt at ha
  split at ha
  · rename_i pre m t xs' rest htk
    cases hmn : (Nat.beq m n && Nat.beq t.size sz) with
    | false => rw [hmn] at ha; cases ha
    | true =>
      rw [hmn] at ha
      simp only [cond_true, Option.some.injEq, Sigma.mk.injEq] at ha
      obtain ⟨rfl, ha⟩ := ha
      have ha := eq_of_heq ha
      subst ha
      simp only [Bool.and_eq_true] at hmn
      have e1 := Nat.eq_of_beq_eq_true hmn.1
      subst e1
      obtain ⟨hps, hsz⟩ := takeN_eq htk
      rw [hps] at hl
      have h2 := hl.split.2
      obtain ⟨x1, x2, e3, h3, _⟩ := h2
      exact h3.1
  · cases ha
/-- Where a pointer points to. -/
theorem locS_c {x : SV} {v : Value} {ps : List PV} {j : Nat} (h : Ok w0 ρ s a w) (hv : SVc (cx w0 ρ s w) x v) (hx : locS s x = some (ps, j)) :
    ∃ b q l, v = .pointer (some ⟨b, q + j, none⟩) ∧ PsC (cx w0 ρ s w) ps l ∧ At w b q l := by
  unfold locS at hx
  split at hx
  · rename_i k off
    split at hx
    · rename_i qs hk
      simp only [Option.some.injEq, Prod.mk.injEq] at hx
      obtain ⟨rfl, rfl⟩ := hx
      obtain ⟨_, b, hb, hl⟩ := SVc.one1 rfl (by simp) hv
      obtain ⟨b', e, cs, hb', hh, hp⟩ := h.heap k _ hk
      have : b' = b := by
        have : (cx w0 ρ s w).ρ k = .pointer (some ⟨b, 0, none⟩) := hb
        rw [hb'] at this; injection this with this; injection this with this; injection this
      subst this
      simp only [List.cons.injEq, and_true] at hl
      refine ⟨b', 0, cs.toList, by rw [hl, Nat.zero_add], hp, ?_⟩
      have := At.of_block hh 0 cs.size
      rw [List.drop_zero, List.take_of_length_le (by simp)] at this
      exact this
    · cases hx
  · rename_i k off n sz i j'
    split at hx
    · rename_i qs hk
      split at hx
      · rename_i u xs ha
        simp only [Option.some.injEq, Prod.mk.injEq] at hx
        obtain ⟨rfl, rfl⟩ := hx
        obtain ⟨_, hi, b, hb, hl⟩ := SVc.one1 rfl (by simp) hv
        obtain ⟨b', e, cs, hb', hh, hp⟩ := h.heap k _ hk
        have : b' = b := by
          have : (cx w0 ρ s w).ρ k = .pointer (some ⟨b, 0, none⟩) := hb
          rw [hb'] at this; injection this with this; injection this with this; injection this
        subst this
        simp only [List.cons.injEq, and_true] at hl
        unfold arrAt at ha
        split at ha
        · rename_i pre m t xs' rest htk
          cases hmn : (Nat.beq m n && Nat.beq t.size sz) with
          | false => rw [hmn] at ha; cases ha
          | true =>
            rw [hmn] at ha
            simp only [cond_true, Option.some.injEq, Sigma.mk.injEq] at ha
            obtain ⟨rfl, ha⟩ := ha
            have ha := eq_of_heq ha
            subst ha
            simp only [Bool.and_eq_true] at hmn
            have e1 := Nat.eq_of_beq_eq_true hmn.1
            have e2 := Nat.eq_of_beq_eq_true hmn.2
            subst e1; subst e2
            obtain ⟨hps, hsz⟩ := takeN_eq htk
            rw [hps] at hp
            have h2 := hp.split.2
            rw [hsz] at h2
            obtain ⟨x1, x2, e3, h3, _⟩ := h2
            obtain ⟨hxl, hxc, hxr⟩ := h3
            have hr := hxr i (nth t xs' i) (nth_some (by rw [hxl]; exact hi))
            refine ⟨b', off + i * t.size, _, by rw [hl, Nat.add_assoc], explode_c hr, ?_⟩
            have hat := At.of_block hh off x1.length
            have hx1 : (cs.toList.drop off).take x1.length = x1 := by rw [e3]; simp
            rw [hx1] at hat
            exact hat.sub (i * t.size) t.size
        · cases ha
      · cases hx
    · cases hx
  · rename_i k sz i j'
    split at hx
    · rename_i u xs hk
      cases hsz : Nat.beq u.size sz with
      | false => rw [hsz] at hx; cases hx
      | true =>
        rw [hsz] at hx
        simp only [cond_true, Option.some.injEq, Prod.mk.injEq] at hx
        obtain ⟨rfl, rfl⟩ := hx
        have e2 := Nat.eq_of_beq_eq_true hsz
        subst e2
        obtain ⟨_, b, q, n, cp, hb, hi, hl⟩ := SVc.one1 rfl (by simp) hv
        rcases h.heap k _ hk with ⟨hb', _⟩ | ⟨b', q', cp', cur, e, hb', hh, _, _, _, hr⟩
        · rw [hb'] at hb; cases hb
        · rw [hb'] at hb
          simp only [Value.slice.injEq, Option.some.injEq, Addr.mk.injEq, and_true] at hb
          obtain ⟨⟨rfl, rfl⟩, rfl, rfl⟩ := hb
          simp only [List.cons.injEq, and_true] at hl
          have hr' := hr i (nth u xs i) (nth_some hi)
          exact ⟨b', q' + i * u.size, _, by rw [hl, Nat.add_assoc], explode_c hr', At.of_block hh _ _⟩
    · cases hx
  · rename_i k sz i j2 n' sz' i' j'
    split at hx
    · rename_i u xs hk
      cases hsz : Nat.beq u.size sz with
      | false => rw [hsz] at hx; cases hx
      | true =>
        rw [hsz] at hx
        simp only [cond_true] at hx
        split at hx
        · rename_i v ys ha
          simp only [Option.some.injEq, Prod.mk.injEq] at hx
          obtain ⟨rfl, rfl⟩ := hx
          have e2 := Nat.eq_of_beq_eq_true hsz
          subst e2
          obtain ⟨_, hi', b, q, n, cp, hb, hi, hl⟩ := SVc.one1 rfl (by simp) hv
          rcases h.heap k _ hk with ⟨hb', _⟩ | ⟨b', q', cp', cur, e, hb', hh, _, _, _, hr⟩
          · rw [hb'] at hb; cases hb
          · rw [hb'] at hb
            simp only [Value.slice.injEq, Option.some.injEq, Addr.mk.injEq, and_true] at hb
            obtain ⟨⟨rfl, rfl⟩, rfl, rfl⟩ := hb
            simp only [List.cons.injEq, and_true] at hl
            have hr' := hr i (nth u xs i) (nth_some hi)
            obtain ⟨x1, e3, hxr⟩ := arrAt_c ha (explode_c hr') hi'
            refine ⟨b', q' + i * u.size + (j2 + i' * v.size), _, ?_, explode_c hxr, ?_⟩
            · rw [hl, e3]; simp [Nat.add_assoc]
            · have hat := At.of_block hh (q' + i * u.size) u.size
              exact hat.sub (j2 + i' * v.size) v.size
        · cases hx
    · cases hx
  · rename_i u x'
    simp only [Option.some.injEq, Prod.mk.injEq] at hx
    obtain ⟨rfl, rfl⟩ := hx
    obtain ⟨b, q, cs, hl, hS, hr, hc⟩ := SVc.one1 rfl (by simp) hv
    simp only [List.cons.injEq, and_true] at hl
    exact ⟨b, q, cs, by rw [hl]; rfl, explode_c hr, hc⟩
  · rename_i k off n sz i j2 n' sz' i' j'
    split at hx
    · rename_i qs hk
      split at hx
      · rename_i u xs ha
        split at hx
        · rename_i v ys ha2
          simp only [Option.some.injEq, Prod.mk.injEq] at hx
          obtain ⟨rfl, rfl⟩ := hx
          obtain ⟨_, hi, b, hb, hl⟩ := SVc.one1 rfl (by simp) hv
          obtain ⟨b', e, cs, hb', hh, hp⟩ := h.heap k _ hk
          have : b' = b := by
            have : (cx w0 ρ s w).ρ k = .pointer (some ⟨b, 0, none⟩) := hb
            rw [hb'] at this; injection this with this; injection this with this; injection this
          subst this
          simp only [List.cons.injEq, and_true] at hl
          obtain ⟨_, e0, hr⟩ := arrAt_c ha hp hi.1
          subst e0
          obtain ⟨_, e3, hxr⟩ := arrAt_c ha2 (explode_c hr) hi.2
          subst e3
          refine ⟨b', off + i * u.size + (j2 + i' * v.size), _, by rw [hl]; simp [Nat.add_assoc], explode_c hxr, ?_⟩
          have hat := At.of_block hh (off + i * u.size) u.size
          exact hat.sub (j2 + i' * v.size) v.size
        · cases hx
      · cases hx
    · cases hx
  · cases hx

theorem mget_mem {t : Ty} {a : Int} {y : t.D} : ∀ {m : List (Int × t.D)}, mget? t m a = some y → (a, y) ∈ m
  | [], h => by cases h
  | e :: r, h => by
    unfold mget? at h
    cases hd : decide (e.1 = a) with
    | true =>
      rw [hd] at h
      simp only [cond_true, Option.some.injEq] at h
      have := of_decide_eq_true hd
      subst this; subst h
      exact List.mem_cons_self
    | false =>
      rw [hd] at h
      exact List.mem_cons_of_mem _ (mget_mem h)
theorem mhas_mem {t : Ty} {a : Int} {m : List (Int × t.D)} (h : mhas t m a = true) : (a, mval t m a) ∈ m := by
  unfold mhas at h
  unfold mval
  cases hg : mget? t m a with
  | none => rw [hg] at h; cases h
  | some y => exact mget_mem hg
theorem pool_obj (h : Ok w0 ρ s a w) {k : Nat} {u : Ty} {m : List (Int × u.D)} {i : Int} (hk : s.hp k = some (.pool u m)) (hc : mhas u m i = true) :
    0 ≤ i ∧ ∃ ty cs, w.heap[i.toNat]? = some (.cells cs ty (0, 0)) ∧ Rd (Free w0 ρ s.hp w) w u cs.toList (mval u m i) :=
  (h.heap k _ hk).2 _ (mhas_mem hc)
theorem locR_c {x : SV} {v : Value} {ps : List PV} {j : Nat} {c : Prop} (h : Ok w0 ρ s a w) (hv : SVc (cx w0 ρ s w) x v) (hx : locR s x = some (ps, j, c)) (hc : c) :
    ∃ b q l, v = .pointer (some ⟨b, q + j, none⟩) ∧ PsC (cx w0 ρ s w) ps l ∧ At w b q l := by
  unfold locR at hx
  split at hx
  · rename_i p i off
    split at hx
    · rename_i u m hk
      simp only [Option.some.injEq, Prod.mk.injEq] at hx
      obtain ⟨rfl, rfl, rfl⟩ := hx
      obtain ⟨_, ty, cs, hh, hr⟩ := pool_obj h hk hc
      obtain ⟨_, hl⟩ := SVc.one1 rfl (by simp) hv
      simp only [List.cons.injEq, and_true] at hl
      have hat := At.of_block hh 0 cs.toList.length
      simp only [List.drop_zero, List.take_length] at hat
      exact ⟨_, 0, cs.toList, by rw [hl, Nat.zero_add], explode_c hr, hat⟩
    · cases hx
  · rename_i p i
    split at hx
    · rename_i u m hk
      simp only [Option.some.injEq, Prod.mk.injEq] at hx
      obtain ⟨rfl, rfl, rfl⟩ := hx
      obtain ⟨h0, ty, cs, hh, hr⟩ := pool_obj h hk hc
      have hl : v = .pointer (some ⟨Int.toNat i, 0, none⟩) := by
        rcases (SVc.one1 rfl (by simp) hv : Rd _ _ (.ref p) [v] i) with ⟨h1, _⟩ | ⟨_, h2⟩
        · have h1 : (i : Int) = -1 := h1
          have h2 : ∀ z : Int, z = -1 → ¬ 0 ≤ z := by omega
          exact absurd h0 (h2 _ h1)
        · simpa using h2
      have hat := At.of_block hh 0 cs.toList.length
      simp only [List.drop_zero, List.take_length] at hat
      exact ⟨_, 0, cs.toList, hl, explode_c hr, hat⟩
    · cases hx
  · rename_i p i off n sz i' j'
    split at hx
    · rename_i u m hk
      split at hx
      · rename_i v' ys ha
        simp only [Option.some.injEq, Prod.mk.injEq] at hx
        obtain ⟨rfl, rfl, rfl⟩ := hx
        obtain ⟨_, ty, cs, hh, hr⟩ := pool_obj h hk hc
        obtain ⟨⟨_, hi⟩, hl⟩ := SVc.one1 rfl (by simp) hv
        simp only [List.cons.injEq, and_true] at hl
        obtain ⟨_, e3, hxr⟩ := arrAt_c (c := cx w0 ρ s w) ha (explode_c hr) hi
        refine ⟨_, off + i' * v'.size, _, by rw [hl, e3, Nat.add_assoc], explode_c hxr, ?_⟩
        exact At.of_block hh (off + i' * v'.size) v'.size
      · cases hx
    · cases hx
  · cases hx
theorem load_does {t : TypeId} {x : Operand} {p : Option Prop} {R : Act → World → Prop} (hE : EnvOk P E) (h : Ok w0 ρ s a w) (ho : o.op = .load t x)
    (hs : loadS E s o.dst t (ev s x) = some (p, s')) (hp : vcP p) (hR : Up w0 s' R) : Does P o a w R := by
  unfold loadS at hs
  split at hs
  · rename_i ti ps j hi hx
    split at hs
    · rename_i pre m post hc
      split at hs
      · rename_i v hv
        simp only [ok, Option.some.injEq, Prod.mk.injEq] at hs
        obtain ⟨_, rfl⟩ := hs
        obtain ⟨b, q, l, e, hl, hat⟩ := locS_c h (h.ev x) hx
        obtain ⟨h1, h2⟩ := cut3_c hc hl
        have hn : ((l.drop j).take ti.size).length = ti.size := by rw [List.length_take, List.length_drop]; omega
        refine does_value (m := Instr.loadAt t (a.eval x)) h (by simp [execOp, ho]) ?_ (mkSV_c hv h1) hR
        rw [e]
        exact loadAt_run (hE t ti hi) (hat.sub j ti.size) hn
      · cases hs
    · cases hs
  · rename_i ti hi hx
    split at hs
    · rename_i ps j c hx
      split at hs
      · rename_i pre m post hc
        split at hs
        · rename_i v hv
          simp only [Option.some.injEq, Prod.mk.injEq] at hs
          obtain ⟨rfl, rfl⟩ := hs
          obtain ⟨b, q, l, e, hl, hat⟩ := locR_c h (h.ev x) hx hp
          obtain ⟨h1, h2⟩ := cut3_c hc hl
          have hn : ((l.drop j).take ti.size).length = ti.size := by rw [List.length_take, List.length_drop]; omega
          refine does_value (m := Instr.loadAt t (a.eval x)) h (by simp [execOp, ho]) ?_ (mkSV_c hv h1) hR
          rw [e]
          exact loadAt_run (hE t ti hi) (hat.sub j ti.size) hn
        · cases hs
      · cases hs
    · cases hs
  · cases hs
end
end Go.Sx
