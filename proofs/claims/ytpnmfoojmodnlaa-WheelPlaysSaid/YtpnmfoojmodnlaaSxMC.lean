/-
  Sx, part MC: views of a slice of our own: appended to in place, cleared, sliced on.
-/
import Derived.Test.YtpnmfoojmodnlaaSxMB
set_option linter.unusedSimpArgs false
namespace Go.Sx
open Go.RowKit

section
variable {P : Program} {E : Env} {w0 : Base} {w : World} {ρ : Nat → Value} {s s' : St} {a : Act} {o : Oper}

theorem made_arr {S : Nat → Prop} {u : Ty} {z : Array Value} (n : Nat) (hz : z.toList = cellsD u u.zero) (hf : flatD u u.zero = true) :
    Rd S w (.arr n u) (madeCells z (n * u.size)).toList (List.replicate n u.zero) := by
  have hzl : z.size = u.size := by rw [← cellsD_len hf, ← hz]; simp
  refine ⟨by simp, by simp [madeCells], fun i x hx => ?_⟩
  rw [List.getElem?_replicate] at hx
  split at hx
  case isFalse => cases hx
  rename_i hi
  injection hx with hx
  subst hx
  have hle : (i + 1) * u.size ≤ n * u.size := Nat.mul_le_mul_right _ hi
  rw [Nat.add_mul, Nat.one_mul] at hle
  have e : ((madeCells z (n * u.size)).toList.drop (i * u.size)).take u.size = cellsD u u.zero := by
    rw [← hz]
    apply List.ext_getElem?
    intro k
    rw [piece_get]
    by_cases hk : k < u.size
    · have hlt : i * u.size + k < n * u.size := by omega
      have hmod : (i * u.size + k) % z.size = k := by rw [hzl, Nat.mul_comm, Nat.mul_add_mod, Nat.mod_eq_of_lt hk]
      rw [if_pos hk]
      have hkz : k < z.size := by omega
      simp [madeCells, hlt, hmod, hkz]
    · rw [if_neg hk, List.getElem?_eq_none (by simp; omega)]
  rw [e]
  exact cellsD_rd hf


/-- Elements written in place. -/
theorem row_splice {S : Nat → Prop} {w : World} {u : Ty} {xs zs : List u.D} {cur news : List Value} {q cp i0 : Nat} (hcp : xs.length ≤ cp) (hfit : q + cp * u.size ≤ cur.length)
    (hi : i0 + zs.length ≤ xs.length) (hr : ∀ (i : Nat) x, xs[i]? = some x → Rd S w u ((cur.drop (q + i * u.size)).take u.size) x) (hn : Rd S w (.arr zs.length u) news zs) :
    ∀ (i : Nat) x, (xs.take i0 ++ (zs ++ xs.drop (i0 + zs.length)))[i]? = some x → Rd S w u (((splice cur (q + i0 * u.size) news).drop (q + i * u.size)).take u.size) x := by
  intro i x hx
  have hnl : news.length = zs.length * u.size := hn.2.1
  have hle0 : (i0 + zs.length) * u.size ≤ cp * u.size := Nat.mul_le_mul_right _ (by omega)
  rw [Nat.add_mul] at hle0
  have hsp : q + i0 * u.size + news.length ≤ cur.length := by omega
  have htl : (xs.take i0).length = i0 := by rw [List.length_take]; omega
  rcases Nat.lt_or_ge i i0 with h1 | h1
  · rw [List.getElem?_append_left (by omega), List.getElem?_take, if_pos h1] at hx
    have hle : (i + 1) * u.size ≤ i0 * u.size := Nat.mul_le_mul_right _ h1
    rw [Nat.add_mul, Nat.one_mul] at hle
    rw [splice_piece_out hsp (.inl (by omega))]
    exact hr i x hx
  · rw [List.getElem?_append_right (by omega), htl] at hx
    rcases Nat.lt_or_ge (i - i0) zs.length with h2 | h2
    · rw [List.getElem?_append_left h2] at hx
      have hpc := hn.2.2 _ x hx
      have hle : (i - i0 + 1) * u.size ≤ zs.length * u.size := Nat.mul_le_mul_right _ h2
      rw [Nat.add_mul, Nat.one_mul, Nat.sub_mul] at hle
      have hle3 : i0 * u.size ≤ i * u.size := Nat.mul_le_mul_right _ h1
      rw [Nat.sub_mul] at hpc
      have e5 : ((splice cur (q + i0 * u.size) news).drop (q + i * u.size)).take u.size = (news.drop (i * u.size - i0 * u.size)).take u.size := by
        apply List.ext_getElem?
        intro j
        rw [piece_get, piece_get]
        by_cases hj : j < u.size
        · rw [if_pos hj, if_pos hj, splice_get hsp, if_neg (by omega), if_pos (by omega)]
          congr 1; omega
        · rw [if_neg hj, if_neg hj]
      rw [e5]; exact hpc
    · rw [List.getElem?_append_right h2, List.getElem?_drop] at hx
      rw [show i0 + zs.length + (i - i0 - zs.length) = i from by omega] at hx
      have hle : (i0 + zs.length) * u.size ≤ i * u.size := Nat.mul_le_mul_right _ (by omega)
      rw [Nat.add_mul] at hle
      rw [splice_piece_out hsp (.inr (by omega))]
      exact hr i x hx
theorem row_splice_len {u : Ty} {xs zs : List u.D} {i0 : Nat} (hi : i0 + zs.length ≤ xs.length) : (xs.take i0 ++ (zs ++ xs.drop (i0 + zs.length))).length = xs.length := by
  simp only [List.length_append, List.length_take, List.length_drop]
  omega
/-- The same in the world: a row of our own keeps its name. -/
theorem Ok.rowSet (h : Ok w0 ρ s a w) {k b q cp i0 : Nat} {u : Ty} {xs zs : List u.D} {cur : Array Value} {e : TypeId} {news : List Value} (hk : s.hp k = some (.row u xs)) (hρ : ρ k = .slice (some ⟨b, q, none⟩) xs.length cp)
    (hb : w.heap[b]? = some (.cells cur e (0, 0))) (h1 : xs.length ≤ cp) (h2 : cp ≤ maxLen) (h3 : q + cp * u.size ≤ cur.size)
    (hr : ∀ (i : Nat) x, xs[i]? = some x → Rd (Free w0 ρ s.hp w) w u ((cur.toList.drop (q + i * u.size)).take u.size) x) (hn : Rd (Free w0 ρ s.hp w) w (.arr zs.length u) news zs) (hi : i0 + zs.length ≤ xs.length) :
    Ok w0 ρ (s.upd k (.row u (xs.take i0 ++ (zs ++ xs.drop (i0 + zs.length))))) a (w.setRow b (splice cur.toList (q + i0 * u.size) news).toArray) := by
  have hbk : blkOf (ρ k) = some b := by rw [hρ]; rfl
  have hbz := h.fresh k _ b hk (by exact hbk)
  have hold : ∀ b', b' < w.heap.size → ¬ Bk (.row u xs) (ρ k) b' → (w.setRow b (splice cur.toList (q + i0 * u.size) news).toArray).heap[b']? = w.heap[b']? := fun b' _ hne =>
    setRow_other w b b' _ (fun e => hne (by rw [e]; exact hbk))
  have hle := upd_le (he := .row u (xs.take i0 ++ (zs ++ xs.drop (i0 + zs.length)))) h hk (fun b hb => .inl hb) (by simp) hold
  have hnl : news.length = zs.length * u.size := hn.2.1
  have hcur : cur.toList.length = cur.size := by simp
  have hmul : (i0 + zs.length) * u.size ≤ cp * u.size := Nat.mul_le_mul_right _ (by omega)
  rw [Nat.add_mul] at hmul
  refine h.upd hk (fun b hb => .inl hb) (setRow_below w b _ _ hbz.1) hold (.inr ⟨b, q, cp, _, e, by rw [row_splice_len hi]; exact hρ, setRow_heap w b cur _ e _ hb, by rw [row_splice_len hi]; exact h1, h2, by
    simp only [List.size_toArray]; rw [splice_length (by omega), hcur]; exact h3, ?_⟩)
  exact row_splice h1 (by rw [hcur]; exact h3) hi (fun i x hx => Rd.mono hle.keep (hr i x hx)) (Rd.mono hle.keep hn)

theorem bounds_run2 {lo hi : Option Operand} {n c : Nat} {l h : Int} (h0 : Ok w0 ρ s a w) (hl : boundOf 0 (lo.map (ev s)) = some l) (hh : boundOf (n : Int) (hi.map (ev s)) = some h)
    (hb : (0 ≤ l ∧ l ≤ h) ∧ h ≤ (c : Int)) : (Instr.sliceBounds true n c (lo.map a.eval) (hi.map a.eval) none).run P w = .ok (l.toNat, h.toNat, c) w := by
  unfold Instr.sliceBounds
  have hb1 : ∀ x, boundOf (n : Int) ((some x : Option Operand).map (ev s)) = some h → ∃ k, a.eval x = .int k h := fun x e => by
    simp only [Option.map_some, boundOf] at e
    split at e
    · rename_i k i e1
      injection e with e
      subst e
      exact ⟨k, asInt_c (h0.ev x) e1⟩
    · cases e
  have hb2 : ∀ x, boundOf 0 ((some x : Option Operand).map (ev s)) = some l → ∃ k, a.eval x = .int k l := fun x e => by
    simp only [Option.map_some, boundOf] at e
    split at e
    · rename_i k i e1
      injection e with e
      subst e
      exact ⟨k, asInt_c (h0.ev x) e1⟩
    · cases e
  cases hi with
  | none =>
    simp only [Option.map_none, boundOf, Option.some.injEq] at hh
    subst hh
    cases lo with
    | none =>
      simp only [Option.map_none, boundOf, Option.some.injEq] at hl
      subst hl
      simp
    | some x =>
      obtain ⟨k, ex⟩ := hb2 x hl
      simp only [Option.map_some, Option.map_none, ex, Sem.run_bind, Sem.run_pure, Result.andThen_ok]
      rw [sliceBound_run k l n _ (by omega)]
      simp
  | some y =>
    obtain ⟨k, ey⟩ := hb1 y hh
    cases lo with
    | none =>
      simp only [Option.map_none, boundOf, Option.some.injEq] at hl
      subst hl
      simp only [Option.map_some, Option.map_none, ey, Sem.run_bind, Sem.run_pure, Result.andThen_ok]
      rw [sliceBound_run k h c _ (by omega)]
      simp
    | some x =>
      obtain ⟨k', ex⟩ := hb2 x hl
      simp only [Option.map_some, ex, ey, Sem.run_bind, Sem.run_pure, Result.andThen_ok]
      rw [sliceBound_run k h c _ (by omega)]
      simp only [Result.andThen_ok]
      rw [sliceBound_run k' l h.toNat _ (by omega)]
      simp

theorem sliceAt_run2 {t e : TypeId} {ei : TI} {A : Option Addr} {lo hi : Option Operand} {n c : Nat} {l h : Int} {x : Value} (h0 : Ok w0 ρ s a w) (hk : P.underlying t = some (.slice e)) (hT : TIok P e ei)
    (hx : x = .slice A n c) (hl : boundOf 0 (lo.map (ev s)) = some l) (hh : boundOf (n : Int) (hi.map (ev s)) = some h) (hb : (0 ≤ l ∧ l ≤ h) ∧ h ≤ (c : Int)) :
    (Instr.sliceAt t x (lo.map a.eval) (hi.map a.eval) none).run P w = .ok (.slice (if c = l.toNat then A else A.map (·.add (l.toNat * ei.size))) (h.toNat - l.toNat) (c - l.toNat)) w := by
  subst hx
  unfold Instr.sliceAt
  simp only [Sem.run_bind, run_underlying hk, Result.andThen_ok]
  unfold Instr.slice
  simp only [Sem.run_bind, run_underlying hk, Result.andThen_ok, bounds_run2 h0 hl hh hb, hT.run_size, Sem.run_pure]

theorem view0 {A : Option Addr} {cp sz n : Nat} (hA : n = 0 ∨ ∃ bl o, A = some ⟨bl, o, none⟩) (hA0 : n = 0 → A = none ∨ ∃ bl o, A = some ⟨bl, o, none⟩) : (if cp = 0 then A else A.map (·.add (0 * sz))) = A := by
  by_cases hc : cp = 0
  · rw [if_pos hc]
  · rw [if_neg hc, Nat.zero_mul]
    have : A = none ∨ ∃ bl o, A = some ⟨bl, o, none⟩ := by
      rcases hA with h | h
      · exact hA0 h
      · exact .inr h
    rcases this with rfl | ⟨bl, o, rfl⟩
    · rfl
    · simp [Addr.add_lit]
theorem row_form (h : Ok w0 ρ s a w) {k : Nat} {u : Ty} {xs : List u.D} (hk : s.hp k = some (.row u xs)) :
    (ρ k = .slice none 0 0 ∧ xs = []) ∨ ∃ b q cp cur e, ρ k = .slice (some ⟨b, q, none⟩) xs.length cp ∧ w.heap[b]? = some (.cells cur e (0, 0)) ∧ xs.length ≤ cp ∧ cp ≤ maxLen ∧
        q + cp * u.size ≤ cur.size ∧ ∀ (i : Nat) x, xs[i]? = some x → Rd (Free w0 ρ s.hp w) w u ((cur.toList.drop (q + i * u.size)).take u.size) x := h.heap k _ hk

/-- A slicing of a view that begins where its slice begins. -/
theorem sub2_does {t : TypeId} {x : Operand} {lo hi : Option Operand} {k : Nat} {p : Option Prop} {R : Act → World → Prop} (hE : EnvOk P E) (h : Ok w0 ρ s a w) (ho : o.op = .slice t x lo hi none)
    (hs : sub2S E s k o.dst t (ev s x) (lo.map (ev s)) (hi.map (ev s)) = some (p, s')) (hp : vcP p) (hR : Up w0 s' R) : Does P o a w R := by
  unfold sub2S at hs
  split at hs
  · rename_i kk k1 sz a1 b1 hxx
    have hexec : execOp a.eval o = (do pure (.value (← Instr.sliceAt t (a.eval x) (lo.map a.eval) (hi.map a.eval) none))) := by simp [execOp, ho]
    split at hs
    · rename_i t' xs' hkk
      cases hg : (!(sliceOf E t t' && Nat.beq t'.size sz && Nat.beq a1 0) || s.us k) with
      | true => rw [hg] at hs; cases hs
      | false =>
        rw [hg] at hs
        simp only [cond_false] at hs
        simp only [Bool.or_eq_false_iff, Bool.not_eq_false', Bool.and_eq_true] at hg
        obtain ⟨⟨⟨hg1, hg2⟩, hg3⟩, hus⟩ := hg
        have hz2 := Nat.eq_of_beq_eq_true hg2
        have ha0 := Nat.eq_of_beq_eq_true hg3
        subst hz2; subst ha0
        obtain ⟨e, ei, hk, hT, hz⟩ := sliceOf_c hE hg1
        split at hs
        · rename_i l hh hl0 hh0
          simp only [Option.some.injEq, Prod.mk.injEq] at hs
          obtain ⟨rfl, rfl⟩ := hs
          have hp : (0 ≤ l ∧ l ≤ hh) ∧ hh ≤ (xs'.length : Int) := hp
          have hx := h.ev x
          rw [hxx] at hx
          obtain ⟨hu, hu1, h1, A, n, cp, h2, ⟨hA, hnc⟩, ⟨_, hbn⟩, h3⟩ := SVc.one1 rfl (by simp) hx
          simp only [List.cons.injEq, and_true] at h1
          have h2 : ρ kk = .slice A n cp := h2
          have hform : n = xs'.length ∧ (A = none ∨ ∃ bl o, A = some ⟨bl, o, none⟩) := by
            rcases row_form h hkk with ⟨h4, rfl⟩ | ⟨b, q, cp', cur, e', h4, _⟩
            · rw [h4] at h2; cases h2; exact ⟨rfl, .inl rfl⟩
            · rw [h4] at h2; cases h2; exact ⟨rfl, .inr ⟨b, q, rfl⟩⟩
          obtain ⟨hn, hA2⟩ := hform
          rw [view0 hA (fun _ => hA2), Nat.sub_zero, Nat.sub_zero] at h3
          have h3 : ρ k1 = .slice A b1 cp := h3
          have hrun := sliceAt_run2 (lo := lo) (hi := hi) h hk hT (A := A) (n := b1) (c := cp) (x := a.eval x) (by rw [h1]; exact h3) hl0 hh0 (by omega)
          have hne : kk ≠ k := fun e => by have hu : s.us kk = true := hu; rw [e, hus] at hu; cases hu
          generalize hv : Value.slice (if cp = l.toNat then A else A.map (·.add (l.toNat * ei.size))) (hh.toNat - l.toNat) (cp - l.toNat) = v at hrun
          have e3 : rset ρ k v k = v := rset_same _ _ _
          have e4 : rset ρ k v kk = .slice A n cp := by rw [rset_other _ _ hne]; exact h2
          exact .inl ⟨v, w, by rw [hexec]; simp only [Sem.run_bind, hrun, Result.andThen_ok, Sem.run_pure], hR _ _ _ ((h.use (k := k) (v := v) hus).put o.dst (SVc.of1 (p := .sub kk k t'.size l.toNat hh.toNat) rfl
            ⟨uset_of hu, uset_same _ _, by show [v] = [rset ρ k v k]; rw [e3], A, n, cp, e4, ⟨hA, hnc⟩, ⟨by omega, by omega⟩, by show rset ρ k v k = _; rw [e3, ← hv, hz]⟩))⟩
        · cases hs
    · cases hs
  · exact sub_does hE h ho hs hp hR

/-- append to a view, in place. -/
theorem append2_does {args : Array Operand} {ts : Array TypeId} {x y : Operand} {t : TypeId} {k' : Nat} {p : Option Prop} {R : Act → World → Prop} (hE : EnvOk P E) (h : Ok w0 ρ s a w)
    (ho : o.op = .call { callee := .builtin .append, args := args, argTypes := ts }) (ha : args.toList = [x, y]) (ht : ts.toList = [t, t])
    (hs : append2S E s k' o.dst t (ev s x) (ev s y) = some (p, s')) (hp : vcP p) (hR : Up w0 s' R) : Does P o a w R := by
  unfold append2S at hs
  split at hs
  · rename_i kk k1 sz' a1 b1 hxx
    have ea : args = #[x, y] := by apply Array.ext'; simpa using ha
    have et : ts = #[t, t] := by apply Array.ext'; simpa using ht
    subst ea; subst et
    have hexec : execOp a.eval o = (do pure (.value (← Builtin.append_ #[t, t] o.type #[a.eval x, a.eval y]))) := by rw [exec_builtin ho]; simp [builtin]
    split at hs
    · rename_i e _ _ hti
      have hk := (hE t _ hti).kind
      split at hs
      · rename_i sz by_ kd z u hei
        have hT := hE e _ hei
        split at hs
        · rename_i u' ys0 u2 xs0 hyy hkk
          split at hs
          · rename_i ys xs hys hxs
            obtain ⟨e2, e3⟩ := castD_eq hys
            injection e2 with e2
            subst e2
            have e3 : ys0 = ys := e3
            subst e3
            obtain ⟨e2, e3⟩ := castD_eq hxs
            injection e2 with e2
            subst e2
            have e3 : xs0 = xs := e3
            subst e3
            cases hb : (!(Nat.beq u2.size sz && Nat.beq sz' sz && Nat.beq a1 0) || s.us k') with
            | true => rw [hb] at hs; cases hs
            | false =>
              rw [hb] at hs
              simp only [cond_false, Option.some.injEq, Prod.mk.injEq] at hs
              obtain ⟨rfl, rfl⟩ := hs
              have hp : b1 + ys0.length ≤ xs0.length := hp
              simp only [Bool.or_eq_false_iff, Bool.not_eq_false', Bool.and_eq_true] at hb
              obtain ⟨⟨⟨hb1, hb2⟩, hb3⟩, hus⟩ := hb
              have hsz := Nat.eq_of_beq_eq_true hb1
              have hsz' := Nat.eq_of_beq_eq_true hb2
              have ha0 := Nat.eq_of_beq_eq_true hb3
              subst hsz; subst hsz'; subst ha0
              obtain ⟨A2, c2, news, hy1, hy2, hy3, hrd, hy5⟩ := slD_flat h (h.ev y) hyy
              have hsrc : Src w ys0.length (a.eval y) news := ⟨⟨A2, c2, hy1, hy5⟩, fun h0 => by
                have := hrd.2.1
                rw [h0] at this
                exact List.eq_nil_of_length_eq_zero (by simpa using this)⟩
              have hnl : news.length = ys0.length * u2.size := hrd.2.1
              have hn1 := Rd.one hrd
              have hx := h.ev x
              rw [hxx] at hx
              obtain ⟨hu, hu1, h1, A, n, cp, h2, ⟨hA, hnc⟩, ⟨_, hbn⟩, h3⟩ := SVc.one1 rfl (by simp) hx
              simp only [List.cons.injEq, and_true] at h1
              have h2 : ρ kk = .slice A n cp := h2
              have hne : kk ≠ k' := fun e => by have hu : s.us kk = true := hu; rw [e, hus] at hu; cases hu
              rcases row_form h hkk with ⟨h4, rfl⟩ | ⟨b, q, cp', cur, e', h4, hheap, h5, h6, h7, h8⟩
              · -- nothing and nothing
                rw [h4] at h2
                cases h2
                have hy0 : ys0 = [] := List.eq_nil_of_length_eq_zero (by simp only [List.length_nil] at hp; omega)
                have hb0 : b1 = 0 := by simp only [List.length_nil] at hp; omega
                subst hy0; subst hb0
                have hx0 : a.eval x = .slice none 0 0 := by rw [h1]; exact h3
                have hrun := run_append_none (ty := o.type) hk hT hsrc
                have hupd : Ok w0 ρ (s.upd kk (.row u2 [])) a w := by
                  refine h.upd hkk (fun b hb => .inl hb) (BelowS.refl _ _) (fun _ _ _ => rfl) (.inl ⟨h4, rfl⟩)
                have hok := hupd.use (k := k') (v := .slice none 0 0) hus
                have e3 : rset ρ k' (.slice none 0 0) k' = .slice none 0 0 := rset_same _ _ _
                refine Does.ran (hexec.trans (by rw [hx0])) hrun (hR _ _ _ (hok.put o.dst (SVc.of1 (p := .sub kk k' u2.size 0 (0 + ([] : List u2.D).length)) rfl
                  ⟨uset_of hu, uset_same _ _, by show [_] = [rset ρ k' _ k']; rw [e3], none, 0, 0, by show rset ρ k' _ kk = _; rw [rset_other _ _ hne]; exact h4, ⟨.inl rfl, Nat.le_refl _⟩, ⟨by simp, by simp⟩, by show rset ρ k' _ k' = _; rw [e3]; simp⟩)))
              · rw [h4] at h2
                cases h2
                rw [view0 hA (fun _ => .inr ⟨b, q, rfl⟩), Nat.sub_zero, Nat.sub_zero] at h3
                have hx0 : a.eval x = .slice (some ⟨b, q, none⟩) b1 cp := by rw [h1]; exact h3
                have hmul : (b1 + ys0.length) * u2.size ≤ cp * u2.size := Nat.mul_le_mul_right _ (by omega)
                rw [Nat.add_mul] at hmul
                have hrun := run_append_room' (ty := o.type) (e' := e') hk hT hx0 hheap hsrc hnl hn1 (by omega) (by show q + b1 * u2.size + news.length ≤ cur.size; omega)
                have hok1 := h.rowSet hkk h4 hheap h5 h6 h7 h8 hrd hp
                have hok := hok1.use (k := k') (v := .slice (some ⟨b, q, none⟩) (b1 + ys0.length) cp) hus
                have e3 : rset ρ k' (.slice (some ⟨b, q, none⟩) (b1 + ys0.length) cp) k' = .slice (some ⟨b, q, none⟩) (b1 + ys0.length) cp := rset_same _ _ _
                refine Does.ran hexec hrun (hR _ _ _ (hok.put o.dst (SVc.of1 (p := .sub kk k' u2.size 0 (b1 + ys0.length)) rfl
                  ⟨uset_of hu, uset_same _ _, by show [_] = [rset ρ k' _ k']; rw [e3], some ⟨b, q, none⟩, xs0.length, cp, by show rset ρ k' _ kk = _; rw [rset_other _ _ hne]; exact h4, ⟨.inr ⟨b, q, rfl⟩, h5⟩, ⟨by omega, hp⟩, by
                    show rset ρ k' _ k' = _
                    rw [e3, view0 (n := xs0.length) (.inr ⟨b, q, rfl⟩) (fun _ => .inr ⟨b, q, rfl⟩), Nat.sub_zero, Nat.sub_zero]⟩)))
          · cases hs
        · cases hs
      · cases hs
    · cases hs
  · exact append_does hE h ho ha ht hs hp hR

/-- clear of a view -/
theorem clear_does {args : Array Operand} {ts : Array TypeId} {x : Operand} {t : TypeId} {p : Option Prop} {R : Act → World → Prop} (hE : EnvOk P E) (h : Ok w0 ρ s a w)
    (ho : o.op = .call { callee := .builtin .clear, args := args, argTypes := ts }) (ha : args.toList = [x]) (ht : ts.toList = [t])
    (hs : clearS E s o.dst t (ev s x) = some (p, s')) (hR : Up w0 s' R) : Does P o a w R := by
  have ea : args = #[x] := by apply Array.ext'; simpa using ha
  have et : ts = #[t] := by apply Array.ext'; simpa using ht
  subst ea; subst et
  unfold clearS at hs
  split at hs
  · rename_i kk k1 sz' a1 b1 hxx
    have hexec : execOp a.eval o = (do pure (.value (← Builtin.clear_ #[t] o.type #[a.eval x]))) := by rw [exec_builtin ho]; simp [builtin]
    split at hs
    · rename_i e _ _ hti
      have hk := (hE t _ hti).kind
      split at hs
      · rename_i sz by_ kd z u hei
        have hT := hE e _ hei
        obtain ⟨hu1, hu2, hu3, hu4⟩ := hT.ty
        split at hs
        · rename_i u2 xs0 hkk
          split at hs
          · rename_i xs hxs
            obtain ⟨e2, e3⟩ := castD_eq hxs
            injection e2 with e2
            subst e2
            have e3 : xs0 = xs := e3
            subst e3
            cases hb : (!(Nat.beq u2.size sz && Nat.beq sz' sz)) with
            | true => rw [hb] at hs; cases hs
            | false =>
              rw [hb] at hs
              simp only [cond_false, ok, Option.some.injEq, Prod.mk.injEq] at hs
              obtain ⟨_, rfl⟩ := hs
              simp only [Bool.not_eq_false', Bool.and_eq_true] at hb
              have hsz := Nat.eq_of_beq_eq_true hb.1
              have hsz' := Nat.eq_of_beq_eq_true hb.2
              subst hsz; subst hsz'
              have hx := h.ev x
              rw [hxx] at hx
              obtain ⟨hu, _, h1, A, n, cp, h2, ⟨hA, hnc⟩, ⟨hab, hbn⟩, h3⟩ := SVc.one1 rfl (by simp) hx
              simp only [List.cons.injEq, and_true] at h1
              have h2 : ρ kk = .slice A n cp := h2
              have hx0 := h1.trans h3
              have hkeep : b1 - a1 = 0 → xs0.take a1 ++ (List.replicate (b1 - a1) u2.zero ++ xs0.drop (a1 + (b1 - a1))) = xs0 := fun h0 => by
                rw [h0, List.replicate_zero, List.nil_append, Nat.add_zero, List.take_append_drop]
              rcases Nat.eq_zero_or_pos (b1 - a1) with h0 | hpos
              · -- nothing is cleared
                rw [hkeep h0] at hR
                have hrun : (Builtin.clear_ #[t] o.type #[a.eval x]).run P w = .ok (.tuple #[]) w := by
                  rw [hx0, h0]
                  unfold Builtin.clear_
                  simp only [List.getElem?_toArray, List.getElem?_cons_zero, Sem.run_bind, run_underlying hk, Result.andThen_ok]
                  generalize (if cp = a1 then A else A.map (·.add (a1 * u2.size))) = B
                  cases B <;> simp [Sem.run_pure]
                have hsame : Ok w0 ρ (s.upd kk (.row u2 xs0)) a w := h.upd hkk (fun b hb => .inl hb) (BelowS.refl _ _) (fun _ _ _ => rfl) (by
                  have := h.heap kk _ hkk
                  exact HEc.mono (upd_le h hkk (fun b hb => .inl hb) (Nat.le_refl _) (fun _ _ _ => rfl)) hu (fun _ _ => rfl) this)
                exact Does.ran hexec hrun (hR _ _ _ (hsame.put o.dst (SVc_any _)))
              · rcases row_form h hkk with ⟨h4, rfl⟩ | ⟨b, q, cp', cur, e', h4, hheap, h5, h6, h7, h8⟩
                · rw [h4] at h2
                  cases h2
                  omega
                · rw [h4] at h2
                  cases h2
                  have hne : ¬ cp = a1 := by omega
                  rw [if_neg hne, Option.map_some, Addr.add_lit] at hx0
                  obtain ⟨i, zv, hi1, hi2, hi3, hi4, hi5⟩ := hT.info
                  obtain ⟨z', hz1, hz2⟩ := hT.run_zero w
                  have hmade := made_arr (S := Free w0 ρ s.hp w) (w := w) (z := z'.cells) (b1 - a1) (hz2.trans hu4.symm) hu3
                  have hzl : z'.cells.size = u2.size := by
                    have := hT.size
                    rw [← hz2] at this; simpa using this
                  have hzc : Builtin.zeroCells z'.cells (b1 - a1) = Go.madeCells z'.cells ((b1 - a1) * u2.size) := by
                    unfold Builtin.zeroCells Go.madeCells
                    rw [hzl]
                  have hml := hmade.2.1
                  have hm1 := Rd.one hmade
                  have hmul : (a1 + (b1 - a1)) * u2.size ≤ cp * u2.size := Nat.mul_le_mul_right _ (by omega)
                  rw [Nat.add_mul] at hmul
                  have hst := run_storeCells_at P b (q + a1 * u2.size) e' (Go.madeCells z'.cells ((b1 - a1) * u2.size)).toList 0 cur w hheap (by rw [hml]; omega) hm1
                  simp only [Nat.add_zero] at hst
                  have hrun : (Builtin.clear_ #[t] o.type #[a.eval x]).run P w = .ok (.tuple #[]) (w.setRow b (splice cur.toList (q + a1 * u2.size) (Go.madeCells z'.cells ((b1 - a1) * u2.size)).toList).toArray) := by
                    rw [hx0]
                    unfold Builtin.clear_
                    obtain ⟨m, hm⟩ : ∃ m, b1 - a1 = m + 1 := ⟨b1 - a1 - 1, by omega⟩
                    rw [hm] at hst hzc
                    rw [hm]
                    simp [Sem.run_bind, run_underlying hk, Result.andThen_ok, hz1, hzc, hst, splice]
                  have hrl : (List.replicate (b1 - a1) u2.zero).length = b1 - a1 := List.length_replicate
                  have hmade' : Rd (Free w0 ρ s.hp w) w (.arr (List.replicate (b1 - a1) u2.zero).length u2) (Go.madeCells z'.cells ((b1 - a1) * u2.size)).toList (List.replicate (b1 - a1) u2.zero) := by
                    rw [hrl]; exact hmade
                  have hok1 := h.rowSet (i0 := a1) hkk h4 hheap h5 h6 h7 h8 hmade' (by rw [hrl]; omega)
                  rw [hrl] at hok1
                  exact Does.ran hexec hrun (hR _ _ _ (hok1.put o.dst (SVc_any _)))
          · cases hs
        · cases hs
      · cases hs
    · cases hs
  · cases hs

theorem slice3R_does {t : TypeId} {x : Operand} {lo hi : Option Operand} {mx : Operand} {p : Option Prop} {R : Act → World → Prop} (hE : EnvOk P E) (h : Ok w0 ρ s a w) (ho : o.op = .slice t x lo hi (some mx))
    (hs : slice3R E s o.dst t (ev s x) (lo.map (ev s)) (hi.map (ev s)) (ev s mx) = some (p, s')) (hp : vcP p) (hR : Up w0 s' R) : Does P o a w R := by
  unfold slice3R at hs
  split at hs
  · rename_i kk hxx
    have hexec : execOp a.eval o = (do pure (.value (← Instr.sliceAt t (a.eval x) (lo.map a.eval) (hi.map a.eval) (some (a.eval mx))))) := by simp [execOp, ho]
    split at hs
    · rename_i u xs hkk
      cases hso : sliceOf E t u with
      | false => rw [hso] at hs; cases hs
      | true =>
      rw [hso] at hs
      simp only [Bool.not_true, cond_false] at hs
      obtain ⟨e, ei, hk, hT, hz⟩ := sliceOf_c hE hso
      split at hs
      · rename_i l kh hh km m hl0 hh0 hm0
        cases hi with
        | none => cases hh0
        | some hi =>
        simp only [Option.map_some] at hh0
        simp only [Option.some.injEq, Prod.mk.injEq] at hs
        obtain ⟨rfl, rfl⟩ := hs
        have hp : ((0 ≤ l ∧ l ≤ hh) ∧ hh ≤ m) ∧ m ≤ (xs.length : Int) := hp
        have ehi := asInt_c (h.ev hi) hh0
        have emx := asInt_c (h.ev mx) hm0
        have hx := h.ev x
        rw [hxx] at hx
        obtain ⟨A, c, h1, h2, _⟩ := slD_c (t := u) (xs := xs) h (h.ev x) (by rw [hxx]; simp only [slD, hkk])
        have hbd := bounds3_run (P := P) (lo := lo) (hi := hi) (mx := mx) (n := xs.length) (c := c) h hl0 ehi emx hp h2
        have hrun : (Instr.sliceAt t (a.eval x) (lo.map a.eval) ((some hi).map a.eval) (some (a.eval mx))).run P w = .ok (.slice (if m.toNat = l.toNat then A else A.map (·.add (l.toNat * ei.size))) (hh.toNat - l.toNat) (m.toNat - l.toNat)) w := by
          rw [h1]
          unfold Instr.sliceAt
          simp only [Sem.run_bind, run_underlying hk, Result.andThen_ok, Option.map_some]
          unfold Instr.slice
          simp only [Sem.run_bind, run_underlying hk, Result.andThen_ok, hbd, hT.run_size, Sem.run_pure]
        exact does_value h hexec hrun (SVc_any _) hR
      · cases hs
    · cases hs
  · exact slice3_does hE h ho hs hp hR
/-- copy, into memory of our own. -/
theorem copy_run {t t' e ty : TypeId} {ti : TI} (ht : P.underlying t = some (.slice e)) (hT : TIok P e ti) {x y : Value} {b q n m cp c : Nat} {A : Option Addr} {cur : Array Value} {e' : TypeId} {news : List Value}
    (hx : x = .slice (some ⟨b, q, none⟩) n cp) (hy : y = .slice A m c) (hb : w.heap[b]? = some (.cells cur e' (0, 0))) (hf : (Builtin.firstCells ti.size (min m n) y).run P w = .ok news.toArray w)
    (h1 : ∀ u ∈ news, u.oneCell' = true) (hfit : q + news.length ≤ cur.size) :
    (Builtin.copy_ #[t, t'] ty #[x, y]).run P w = .ok (.int .i64 (min m n : Nat)) (w.setRow b (splice cur.toList q news).toArray) := by
  have hst := run_storeCells_at P b q e' news 0 cur w hb (by simpa using hfit) h1
  simp only [Nat.add_zero] at hst
  subst hx; subst hy
  unfold Builtin.copy_
  have hmin : Nat.min m n = min m n := rfl
  simp [run_underlying ht, hT.run_size, Builtin.lenOf, hmin, hf, hst, goInt, splice]
theorem copy_none {t t' e ty : TypeId} {ti : TI} (ht : P.underlying t = some (.slice e)) (hT : TIok P e ti) {y : Value} {m c : Nat} {A : Option Addr} (hy : y = .slice A m c) (hA : 0 < m → ∃ b q, A = some ⟨b, q, none⟩) (cp : Nat) :
    (Builtin.copy_ #[t, t'] ty #[.slice none 0 cp, y]).run P w = .ok (.int .i64 0) w := by
  subst hy
  have hf : (Builtin.firstCells ti.size 0 (.slice A m c)).run P w = .ok #[] w := by
    cases A with
    | none => simp [Builtin.firstCells]
    | some ad => simp [Builtin.firstCells, loadCells, loadCellsFrom]
  unfold Builtin.copy_
  have hmin : Nat.min m 0 = 0 := Nat.min_zero _
  simp [run_underlying ht, hT.run_size, Builtin.lenOf, hmin, hf, goInt]
/-- The first elements that are copied. -/
theorem first_c {u : Ty} {ys : List u.D} {sv : SV} {v : Value} (h : Ok w0 ρ s a w) (hv : SVc (cx w0 ρ s w) sv v) (hyy : slD s sv = some ⟨u, ys⟩) (n : Nat) (hn : n ≤ ys.length) :
    ∃ A c news, v = .slice A ys.length c ∧ (0 < ys.length → ∃ b q, A = some ⟨b, q, none⟩) ∧ Rd (Free w0 ρ s.hp w) w (.arr (ys.take n).length u) news (ys.take n) ∧ (Builtin.firstCells u.size n v).run P w = .ok news.toArray w := by
  obtain ⟨A, c, cs, h1, h2, h3, h4, h5⟩ := slD_flat h hv hyy
  have hl : cs.length = ys.length * u.size := h4.2.1
  have htl : (ys.take n).length = n := by rw [List.length_take]; omega
  have hle : n * u.size ≤ ys.length * u.size := Nat.mul_le_mul_right _ hn
  have hnl : (cs.take (n * u.size)).length = n * u.size := by rw [List.length_take]; omega
  refine ⟨A, c, cs.take (n * u.size), h1, fun hp => by obtain ⟨b, q, hA, _⟩ := h5 hp; exact ⟨b, q, hA⟩, ⟨rfl, by rw [hnl, htl], fun i x hx => ?_⟩, ?_⟩
  · rw [List.getElem?_take] at hx
    split at hx
    · rename_i hi
      have hle2 : (i + 1) * u.size ≤ n * u.size := Nat.mul_le_mul_right _ hi
      rw [Nat.add_mul, Nat.one_mul] at hle2
      rw [List.drop_take, List.take_take, Nat.min_eq_left (by omega)]
      exact h4.2.2 i x hx
    · cases hx
  · subst h1
    rcases Nat.eq_zero_or_pos n with h0 | hp
    · subst h0
      cases A with
      | none => simp [Builtin.firstCells]
      | some ad => simp [Builtin.firstCells, loadCells, loadCellsFrom]
    · obtain ⟨b, q, rfl, hat⟩ := h5 (by omega)
      exact run_firstCells_some w u.size n ⟨b, q, none⟩ ys.length c (cs.take (n * u.size)) hnl (fun j v hv => by
        rw [Addr.add_lit]
        refine hat j v ?_
        rw [List.getElem?_take] at hv
        split at hv
        · exact hv
        · cases hv)
theorem copy_does {args : Array Operand} {ts : Array TypeId} {x y : Operand} {t t' : TypeId} {p : Option Prop} {R : Act → World → Prop} (hE : EnvOk P E) (h : Ok w0 ρ s a w)
    (ho : o.op = .call { callee := .builtin .copy, args := args, argTypes := ts }) (ha : args.toList = [x, y]) (ht : ts.toList = [t, t'])
    (hs : copyS E s o.dst t (ev s x) (ev s y) = some (p, s')) (hR : Up w0 s' R) : Does P o a w R := by
  have ea : args = #[x, y] := by apply Array.ext'; simpa using ha
  have et : ts = #[t, t'] := by apply Array.ext'; simpa using ht
  subst ea; subst et
  have hexec : execOp a.eval o = (do pure (.value (← Builtin.copy_ #[t, t'] o.type #[a.eval x, a.eval y]))) := by rw [exec_builtin ho]; simp [builtin]
  unfold copyS at hs
  split at hs
  · rename_i e _ _ hti
    have hk := (hE t _ hti).kind
    split at hs
    · rename_i sz by_ kd z u hei
      have hT := hE e _ hei
      split at hs
      · rename_i u' ys0 hyy
        split at hs
        · rename_i ys hys
          obtain ⟨e2, e3⟩ := castD_eq hys
          injection e2 with e2
          subst e2
          have e3 : ys0 = ys := e3
          subst e3
          cases hb : (!(Nat.beq u'.size sz && Nat.blt 0 sz)) with
          | true => rw [hb] at hs; cases hs
          | false =>
            rw [hb] at hs
            simp only [cond_false] at hs
            simp only [Bool.not_eq_false', Bool.and_eq_true] at hb
            have hsz := Nat.eq_of_beq_eq_true hb.1
            subst hsz
            have hx := h.ev x
            have hyl : ys0.length ≤ 9223372036854775807 := by
              obtain ⟨_, _, _, g2, g3, _⟩ := slD_c h (h.ev y) hyy
              simp only [maxLen] at g3; omega
            split at hs
            · rename_i kk hxx
              split at hs
              · rename_i u2 xs0 hkk
                split at hs
                · rename_i xs hxs
                  obtain ⟨e2, e3⟩ := castD_eq hxs
                  injection e2 with e2
                  subst e2
                  have e3 : xs0 = xs := e3
                  subst e3
                  simp only [ok, Option.some.injEq, Prod.mk.injEq] at hs
                  obtain ⟨_, rfl⟩ := hs
                  rw [hxx] at hx
                  obtain ⟨_, h1, _⟩ := SVc.one1 rfl (by simp) hx
                  simp only [List.cons.injEq, and_true] at h1
                  have h1 : a.eval x = ρ kk := h1
                  have hmin : min ys0.length xs0.length ≤ ys0.length := Nat.min_le_left _ _
                  obtain ⟨A, c, news, hy1, hy2, hrd, hf⟩ := first_c (P := P) h (h.ev y) hyy (min ys0.length xs0.length) hmin
                  have htl : (ys0.take (min ys0.length xs0.length)).length = min ys0.length xs0.length := by rw [List.length_take]; omega
                  have hnl : news.length = (ys0.take (min ys0.length xs0.length)).length * u2.size := hrd.2.1
                  rw [htl] at hnl
                  have hir : IR .i64 ((min ys0.length xs0.length : Nat) : Int) := ⟨by omega, by omega⟩
                  rcases row_form h hkk with ⟨h4, rfl⟩ | ⟨b, q, cp', cur, e', h4, hheap, h5, h6, h7, h8⟩
                  · have hupd : Ok w0 ρ (s.upd kk (.row u2 [])) a w := h.upd hkk (fun b hb => .inl hb) (BelowS.refl _ _) (fun _ _ _ => rfl) (.inl ⟨h4, rfl⟩)
                    refine Does.ran (hexec.trans (by rw [h1, h4])) (copy_none (ty := o.type) hk hT hy1 hy2 0) ?_
                    have := hR ρ _ _ ((show Ok w0 ρ (s.upd kk (.row u2 (([] : List u2.D).take 0 ++ (ys0.take (min ys0.length ([] : List u2.D).length) ++ ([] : List u2.D).drop (0 + (ys0.take (min ys0.length ([] : List u2.D).length)).length))))) a w by simpa using hupd).put o.dst (sv_int hir))
                    simpa using this
                  · have hmul : min ys0.length xs0.length * u2.size ≤ cp' * u2.size := Nat.mul_le_mul_right _ (by omega)
                    have hok := h.rowSet (i0 := 0) hkk h4 hheap h5 h6 h7 h8 hrd (by rw [htl]; omega)
                    rw [Nat.zero_mul, Nat.add_zero] at hok
                    exact Does.ran hexec (copy_run (ty := o.type) hk hT (h1.trans h4) hy1 hheap hf (Rd.one hrd) (by rw [hnl]; omega)) (hR _ _ _ (hok.put o.dst (sv_int hir)))
                · cases hs
              · cases hs
            · rename_i kk k1 sz' a1 b1 hxx
              split at hs
              · rename_i u2 xs0 hkk
                split at hs
                · rename_i xs hxs
                  obtain ⟨e2, e3⟩ := castD_eq hxs
                  injection e2 with e2
                  subst e2
                  have e3 : xs0 = xs := e3
                  subst e3
                  cases hz' : Nat.beq sz' u2.size with
                  | false => rw [hz'] at hs; cases hs
                  | true =>
                    rw [hz'] at hs
                    simp only [cond_true, ok, Option.some.injEq, Prod.mk.injEq] at hs
                    obtain ⟨_, rfl⟩ := hs
                    have hz' := Nat.eq_of_beq_eq_true hz'
                    subst hz'
                    rw [hxx] at hx
                    obtain ⟨_, _, h1, A0, n0, cp0, h2, ⟨hA, hnc⟩, ⟨hab, hbn⟩, h3⟩ := SVc.one1 rfl (by simp) hx
                    simp only [List.cons.injEq, and_true] at h1
                    have h2 : ρ kk = .slice A0 n0 cp0 := h2
                    have h1 : a.eval x = .slice (if cp0 = a1 then A0 else A0.map (·.add (a1 * u2.size))) (b1 - a1) (cp0 - a1) := h1.trans h3
                    have hmin : min ys0.length (b1 - a1) ≤ ys0.length := Nat.min_le_left _ _
                    obtain ⟨A, c, news, hy1, hy2, hrd, hf⟩ := first_c (P := P) h (h.ev y) hyy (min ys0.length (b1 - a1)) hmin
                    have htl : (ys0.take (min ys0.length (b1 - a1))).length = min ys0.length (b1 - a1) := by rw [List.length_take]; omega
                    have hnl : news.length = (ys0.take (min ys0.length (b1 - a1))).length * u2.size := hrd.2.1
                    rw [htl] at hnl
                    have hir : IR .i64 ((min ys0.length (b1 - a1) : Nat) : Int) := ⟨by omega, by omega⟩
                    rcases row_form h hkk with ⟨h4, rfl⟩ | ⟨b, q, cp', cur, e', h4, hheap, h5, h6, h7, h8⟩
                    · rw [h4] at h2
                      cases h2
                      have hb0 : b1 = 0 := by omega
                      have ha0 : a1 = 0 := by omega
                      subst hb0; subst ha0
                      have hupd : Ok w0 ρ (s.upd kk (.row u2 [])) a w := h.upd hkk (fun b hb => .inl hb) (BelowS.refl _ _) (fun _ _ _ => rfl) (.inl ⟨h4, rfl⟩)
                      refine Does.ran (hexec.trans (by rw [h1]; rfl)) (copy_none (ty := o.type) hk hT hy1 hy2 0) ?_
                      have := hR ρ _ _ ((show Ok w0 ρ (s.upd kk (.row u2 (([] : List u2.D).take 0 ++ (ys0.take (min ys0.length (0 - 0)) ++ ([] : List u2.D).drop (0 + (ys0.take (min ys0.length (0 - 0))).length))))) a w by simpa using hupd).put o.dst (sv_int hir))
                      simpa using this
                    · rw [h4] at h2
                      cases h2
                      have hmul : (a1 + min ys0.length (b1 - a1)) * u2.size ≤ cp0 * u2.size := Nat.mul_le_mul_right _ (by omega)
                      rw [Nat.add_mul] at hmul
                      have hok := h.rowSet (i0 := a1) hkk h4 hheap h5 h6 h7 h8 hrd (by rw [htl]; omega)
                      by_cases hca : cp0 = a1
                      · -- a view of nothing at the end
                        have hb0 : b1 - a1 = 0 := by omega
                        rw [if_pos hca, hb0] at h1
                        rw [hb0, Nat.min_zero] at hf hrd hnl hR hok hir
                        have hn0 : news = [] := List.eq_nil_of_length_eq_zero (by rw [hnl]; simp)
                        subst hn0
                        have hrun := copy_run (P := P) (t' := t') (ty := o.type) hk hT (q := q) (b := b) (news := []) h1 hy1 hheap (by rw [Nat.min_zero]; exact hf) (by simp) (by simp; omega)
                        have hsame : splice cur.toList q [] = cur.toList := by simp [splice]
                        have hsame2 : splice cur.toList (q + a1 * u2.size) [] = cur.toList := by simp [splice]
                        rw [hsame, Nat.min_zero] at hrun
                        rw [hsame2] at hok
                        exact Does.ran hexec hrun (hR _ _ _ (hok.put o.dst (sv_int hir)))
                      · rw [if_neg hca, Option.map_some, Addr.add_lit] at h1
                        exact Does.ran hexec (copy_run (ty := o.type) hk hT h1 hy1 hheap hf (Rd.one hrd) (by rw [hnl]; omega)) (hR _ _ _ (hok.put o.dst (sv_int hir)))
                · cases hs
              · cases hs
            · cases hs
        · cases hs
      · cases hs
    · cases hs
  · cases hs
end
end Go.Sx
