/-
  Sx, part M: append.
-/
import Derived.Test.YtpnmfoojmodnlaaSxL
namespace Go.Sx
open Go.RowKit

theorem arr_piece {S : Nat → Prop} {w : World} {n : Nat} {t : Ty} {cs : List Value} {xs : List t.D} (h : Rd S w (.arr n t) cs xs) {i : Nat} {x : t.D} (hx : xs[i]? = some x) :
    Rd S w t ((cs.drop (i * t.size)).take t.size) x := h.2.2 i x hx

theorem arr_append {S : Nat → Prop} {w : World} {n m : Nat} {t : Ty} {cs ds : List Value} {xs ys : List t.D} (h : Rd S w (.arr n t) cs xs) (k : Rd S w (.arr m t) ds ys) :
    Rd S w (.arr (n + m) t) (cs ++ ds) (xs ++ ys) := by
  obtain ⟨h1, h2, h3⟩ := h
  obtain ⟨k1, k2, k3⟩ := k
  refine ⟨by simp [h1, k1], by simp [h2, k2, Nat.add_mul], fun i x hx => ?_⟩
  rcases Nat.lt_or_ge i n with hi | hi
  · rw [List.getElem?_append_left (by omega)] at hx
    have hle : (i + 1) * t.size ≤ n * t.size := Nat.mul_le_mul_right _ hi
    rw [Nat.add_mul, Nat.one_mul] at hle
    rw [List.drop_append_of_le_length (by omega), List.take_append_of_le_length (by rw [List.length_drop]; omega)]
    exact h3 i x hx
  · rw [List.getElem?_append_right (by omega), h1] at hx
    have hle : n * t.size ≤ i * t.size := Nat.mul_le_mul_right _ hi
    rw [List.drop_append, List.drop_of_length_le (by omega), List.nil_append, h2, ← Nat.sub_mul]
    exact k3 (i - n) x hx

/-- Elements that lie one behind the other read as an array. -/
theorem arr_of_elems {S : Nat → Prop} {w : World} {t : Ty} {b q : Nat} {xs : List t.D} (h : ∀ (i : Nat) x, xs[i]? = some x → ∃ l, At w b (q + i * t.size) l ∧ Rd S w t l x) :
    ∃ cs, Rd S w (.arr xs.length t) cs xs ∧ At w b q cs := by
  refine ⟨(List.range (xs.length * t.size)).map (fun j => (w.cell? ⟨b, q + j, none⟩).getD undef), ⟨rfl, by simp, fun i x hx => ?_⟩, ?_⟩
  · obtain ⟨l, hl, hr⟩ := h i x hx
    have hlen := hr.len
    have hi : i < xs.length := (List.getElem?_eq_some_iff.1 hx).1
    have hle : (i + 1) * t.size ≤ xs.length * t.size := Nat.mul_le_mul_right _ hi
    rw [Nat.add_mul, Nat.one_mul] at hle
    have e : (((List.range (xs.length * t.size)).map (fun j => (w.cell? ⟨b, q + j, none⟩).getD undef)).drop (i * t.size)).take t.size = l := by
      apply List.ext_getElem?
      intro k
      rw [piece_get]
      by_cases hk : k < t.size
      · rw [if_pos hk]
        have hlt : i * t.size + k < xs.length * t.size := by omega
        have hk' : k < l.length := by omega
        have := hl k l[k] (by simp [hk'])
        rw [Nat.add_assoc] at this
        simp [List.getElem?_range hlt, this, hk']
      · rw [if_neg hk, List.getElem?_eq_none (by omega)]
    rw [e]; exact hr
  · intro j v hv
    have hj : j < xs.length * t.size := by
      have := (List.getElem?_eq_some_iff.1 hv).1
      simpa using this
    simp only [List.getElem?_map, List.getElem?_range hj, Option.map_some, Option.some.injEq] at hv
    have hp : 0 < t.size := by
      rcases Nat.eq_zero_or_pos t.size with e | e
      · rw [e] at hj; simp at hj
      · exact e
    have hi : j / t.size < xs.length := by rw [Nat.div_lt_iff_lt_mul hp]; exact hj
    obtain ⟨l, hl, hr⟩ := h (j / t.size) xs[j / t.size] (by simp [hi])
    have hm : j % t.size < t.size := Nat.mod_lt _ hp
    have hk : j % t.size < l.length := by rw [hr.len]; exact hm
    have := hl (j % t.size) l[j % t.size] (by simp [hk])
    rw [Nat.add_assoc, Nat.div_add_mod' j t.size] at this
    rw [this] at hv ⊢
    simpa using hv

section
variable {P : Program} {E : Env} {w0 : Base} {w : World} {ρ : Nat → Value} {s s' : St} {a : Act} {o : Oper}

/-- A slice's data, its cells in one list. -/
theorem slD_flat {sv : SV} {v : Value} {t : Ty} {xs : List t.D} (h : Ok w0 ρ s a w) (hv : SVc (cx w0 ρ s w) sv v) (e : slD s sv = some ⟨t, xs⟩) :
    ∃ A c cs, v = .slice A xs.length c ∧ xs.length ≤ c ∧ c ≤ maxLen ∧ Rd (Free w0 ρ s.hp w) w (.arr xs.length t) cs xs ∧ (0 < xs.length → ∃ b q, A = some ⟨b, q, none⟩ ∧ At w b q cs) := by
  obtain ⟨A, c, h1, h2, h3, h4⟩ := slD_c h hv e
  rcases Nat.eq_zero_or_pos xs.length with h0 | hp
  · refine ⟨A, c, [], h1, h2, h3, ⟨rfl, by simp [h0], fun i x hx => ?_⟩, fun hp => by omega⟩
    have := (List.getElem?_eq_some_iff.1 hx).1
    omega
  · obtain ⟨b, q, hA, _, hx⟩ := h4 hp
    obtain ⟨cs, hr, hat⟩ := arr_of_elems hx
    exact ⟨A, c, cs, h1, h2, h3, hr, fun _ => ⟨b, q, hA, hat⟩⟩

/-- What an append is told of what it appends. -/
structure Src (w : World) (m : Nat) (y : Value) (news : List Value) : Prop where
  form : ∃ A c, y = .slice A m c ∧ (0 < m → ∃ b q, A = some ⟨b, q, none⟩ ∧ At w b q news)
  zero : m = 0 → news = []

theorem Src.cells {m : Nat} {y : Value} {news : List Value} (h : Src w m y news) (sz : Nat) (hl : news.length = m * sz) {W : World} (hW : ∀ a, W.cell? a = w.cell? a) :
    (Builtin.firstCells sz m y).run P W = .ok news.toArray W := by
  obtain ⟨A, c, rfl, hA⟩ := h.form
  rcases Nat.eq_zero_or_pos m with h0 | hp
  · have := h.zero h0
    subst this; subst h0
    cases A with
    | none => simp [Builtin.firstCells]
    | some ad => simp [Builtin.firstCells, loadCells, loadCellsFrom]
  · obtain ⟨b, q, rfl, hat⟩ := hA hp
    exact run_firstCells_some W sz m ⟨b, q, none⟩ m c news hl (fun j v hv => by rw [hW, Addr.add_lit]; exact hat j v hv)

/-- How large an array append asks for, at most. -/
theorem cap_most {n c : Nat} (h : c < n) : Builtin.nextslicecap n c ≤ n + n / 4 + 192 := by
  simp only [Builtin.nextslicecap, growBy_four]
  by_cases h1 : n > 2 * c
  · rw [if_pos h1]; omega
  · rw [if_neg h1]
    by_cases h2 : c < 256
    · rw [if_pos h2]; omega
    · rw [if_neg h2]
      repeat' split
      all_goals omega
theorem run_append_grow' {t ty e : TypeId} {ti : TI} (ht : P.underlying t = some (.slice e)) (hT : TIok P e ti)
    {x y : Value} {n cp m : Nat} {A : Option Addr} (hx : x = .slice A n cp) {olds news : List Value} (hxs : Src w n x olds) (hys : Src w m y news)
    (hlo : olds.length = n * ti.size) (hl : news.length = m * ti.size) (hg : cp < n + m) (h63 : n + m ≤ 9223372036854775807) (hb : (n + m + (n + m) / 4 + 192) * ti.bytes ≤ 281474976710656) :
    ∃ cap rest, (Builtin.append_ #[t, t] ty #[x, y]).run P w = .ok (.slice (some ⟨w.heap.size, 0, none⟩) (n + m) cap) (w.drew.alloc (.cells (olds ++ news ++ rest).toArray e)) ∧
      n + m ≤ cap ∧ cap ≤ maxLen ∧ (olds ++ news ++ rest).length = cap * ti.size := by
  obtain ⟨i, z, h1, h2, h3, h4, h5⟩ := hT.info
  obtain ⟨z', hz1, hz2⟩ := hT.run_zero w.drew
  have hzz : z' = z := by simp [zeroValue, typeInfo, h1, h4] at hz1; exact hz1.symm
  subst hzz
  have hzl : z'.cells.size = ti.size := by
    have := hT.size
    rw [← hz2] at this; simpa using this
  obtain ⟨B, c, hy, _⟩ := hys.form
  have hxf := hxs.cells (P := P) ti.size hlo (W := w.drew) (fun _ => rfl)
  have hyf := hys.cells (P := P) ti.size hl (W := w.drew) (fun _ => rfl)
  have hnot : ¬ (n + m ≤ cp) := by omega
  have h63' : ¬ (9223372036854775807 < ((n : Int) + (m : Int))) := by omega
  have hfit := Nat.le_trans (Nat.mul_le_mul_right ti.bytes (cap_most (n := n + m) (c := cp) (by omega))) hb
  have h48' : ¬ (281474976710656 < Builtin.nextslicecap (n + m) cp * ti.bytes) := by omega
  have hge := grownCap_ge w (n + m) cp e
  have hcm := grownCap_le_maxLen w (n + m) cp e (by simp only [maxLen]; omega)
  have hrest : (Builtin.zeroCells z'.cells (grownCap w (n + m) cp e - (n + m))).size = (grownCap w (n + m) cp e - (n + m)) * ti.size := by rw [size_zeroCells, hzl]
  refine ⟨grownCap w (n + m) cp e, (Builtin.zeroCells z'.cells (grownCap w (n + m) cp e - (n + m))).toList, ?_, hge, hcm, ?_⟩
  · subst hx; subst hy
    simp only [Builtin.append_]
    simp [run_underlying ht, sizeOf, typeInfo, zeroValue, h1, h2, h3, h4, Builtin.lenOf, hnot, h63', h48', Question.forced, hxf, hyf, newRow, grownCap]
    congr 2
    apply Array.ext'
    simp
  · simp only [List.length_append, hlo, hl, Array.length_toList, hrest, ← Nat.add_mul]
    congr 1; omega

theorem run_append_room' {t ty e e' : TypeId} {ti : TI} (ht : P.underlying t = some (.slice e)) (hT : TIok P e ti)
    {x y : Value} {n cp m b q : Nat} {cur : Array Value} (hx : x = .slice (some ⟨b, q, none⟩) n cp) (hb : w.heap[b]? = some (.cells cur e' (0, 0))) {news : List Value} (hys : Src w m y news)
    (hl : news.length = m * ti.size) (h1 : ∀ u ∈ news, u.oneCell' = true) (hroom : n + m ≤ cp) (hfit : q + n * ti.size + news.length ≤ cur.size) :
    (Builtin.append_ #[t, t] ty #[x, y]).run P w = .ok (.slice (some ⟨b, q, none⟩) (n + m) cp) (w.setRow b (splice cur.toList (q + n * ti.size) news).toArray) := by
  obtain ⟨i, z, h2, h3, _⟩ := hT.info
  obtain ⟨B, c, hy, _⟩ := hys.form
  have hyf := hys.cells (P := P) ti.size hl (W := w) (fun _ => rfl)
  have hst := run_storeCells_at P b (q + n * ti.size) e' news 0 cur w hb (by simpa using hfit) h1
  simp only [Nat.add_zero] at hst
  subst hx; subst hy
  simp only [Builtin.append_]
  simp [run_underlying ht, sizeOf, typeInfo, h2, h3, Builtin.lenOf, hroom, hyf, Addr.add_lit, hst, splice]
theorem run_append_none {t ty e : TypeId} {ti : TI} (ht : P.underlying t = some (.slice e)) (hT : TIok P e ti) {y : Value} {news : List Value} (hys : Src w 0 y news) :
    (Builtin.append_ #[t, t] ty #[.slice none 0 0, y]).run P w = .ok (.slice none 0 0) w := by
  obtain ⟨i, z, h2, h3, _⟩ := hT.info
  obtain ⟨B, c, hy, _⟩ := hys.form
  have hn := hys.zero rfl
  have hyf := hys.cells (P := P) ti.size (by rw [hn]; simp) (W := w) (fun _ => rfl)
  subst hy
  simp only [Builtin.append_]
  simp [run_underlying ht, sizeOf, typeInfo, h2, h3, Builtin.lenOf, hyf]

/-- The row that an append makes, in new memory. -/
theorem grown_row {R : Act → World → Prop} {k' : Nat} {u : Ty} {L rest : List Value} {zs : List u.D} {cap : Nat} {e : TypeId} (h : Ok w0 ρ s a w) (hus : s.us k' = false)
    (hL : Rd (Free w0 ρ s.hp w) w (.arr zs.length u) L zs) (hc : zs.length ≤ cap) (hm : cap ≤ maxLen) (hr : (L ++ rest).length = cap * u.size)
    (hR : Up w0 ((s.new k' (.row u zs)).put o.dst (.one (.row k'))) R) :
    R (a.put o.dst (.slice (some ⟨w.heap.size, 0, none⟩) zs.length cap)) (w.drew.alloc (.cells (L ++ rest).toArray e)) := by
  have hmore : More w (w.drew.alloc (.cells (L ++ rest).toArray e)) := (More.drew w).trans (More.alloc _ _)
  have hle := new_le (he := .row u zs) (v := .slice (some ⟨w.heap.size, 0, none⟩) zs.length cap) h hus hmore (fun b e => by injection e with e; subst e; exact ⟨Nat.le_refl _, by simp⟩)
  have hok := h.new (he := .row u zs) (v := .slice (some ⟨w.heap.size, 0, none⟩) zs.length cap) hus hmore
    (fun b e => by injection e with e; subst e; exact ⟨Nat.le_refl _, by simp⟩)
    (.inr ⟨w.heap.size, 0, cap, (L ++ rest).toArray, e, rset_same _ _ _, heap_alloc_new w.drew _, hc, hm, by simp only [List.size_toArray]; omega, fun i x hx => by
      have hLr : Rd _ _ (.arr zs.length u) L zs := Rd.mono hle.keep hL
      have h1 := hLr.2.2 i x hx
      have hi : i < zs.length := (List.getElem?_eq_some_iff.1 hx).1
      have hle2 : (i + 1) * u.size ≤ zs.length * u.size := Nat.mul_le_mul_right _ hi
      rw [Nat.add_mul, Nat.one_mul] at hle2
      have hLl := hLr.2.1
      simp only [Nat.zero_add]
      rw [List.drop_append_of_le_length (by omega), List.take_append_of_le_length (by rw [List.length_drop]; omega)]
      exact h1⟩)
  have e3 : rset ρ k' (.slice (some ⟨w.heap.size, 0, none⟩) zs.length cap) k' = .slice (some ⟨w.heap.size, 0, none⟩) zs.length cap := rset_same _ _ _
  exact hR _ _ _ (hok.put o.dst (SVc.of1 (p := .row k') rfl ⟨uset_same _ _, by show [_] = [rset ρ k' _ k']; rw [e3], by show (rset ρ k' _ k').oneCell' = true; rw [e3]; rfl⟩))
/-- The row that an append makes of nothing and nothing. -/
theorem nil_row {R : Act → World → Prop} {k' : Nat} {u : Ty} (h : Ok w0 ρ s a w) (hus : s.us k' = false) (hR : Up w0 ((s.new k' (.row u [])).put o.dst (.one (.row k'))) R) :
    R (a.put o.dst (.slice none 0 0)) w := by
  have hok := h.new (he := .row u []) (v := .slice none 0 0) hus (More.refl w) (fun b e => by cases e) (.inl ⟨rset_same _ _ _, rfl⟩)
  have e3 : rset ρ k' (.slice none 0 0) k' = .slice none 0 0 := rset_same _ _ _
  exact hR _ _ _ (hok.put o.dst (SVc.of1 (p := .row k') rfl ⟨uset_same _ _, by show [_] = [rset ρ k' _ k']; rw [e3], by show (rset ρ k' _ k').oneCell' = true; rw [e3]; rfl⟩))

theorem Does.ran {P : Program} {o : Oper} {a : Act} {w w' : World} {R : Act → World → Prop} {v : Value} {m : Sem Value} (he : execOp a.eval o = (do pure (.value (← m)))) (hm : m.run P w = .ok v w')
    (hr : R (a.put o.dst v) w') : Does P o a w R := Does.value he hm hr
theorem append_does {args : Array Operand} {ts : Array TypeId} {x y : Operand} {t : TypeId} {k' : Nat} {p : Option Prop} {R : Act → World → Prop} (hE : EnvOk P E) (h : Ok w0 ρ s a w)
    (ho : o.op = .call { callee := .builtin .append, args := args, argTypes := ts }) (ha : args.toList = [x, y]) (ht : ts.toList = [t, t])
    (hs : appendS E s k' o.dst t (ev s x) (ev s y) = some (p, s')) (hp : vcP p) (hR : Up w0 s' R) : Does P o a w R := by
  have ea : args = #[x, y] := by apply Array.ext'; simpa using ha
  have et : ts = #[t, t] := by apply Array.ext'; simpa using ht
  subst ea; subst et
  have hexec : execOp a.eval o = (do pure (.value (← Builtin.append_ #[t, t] o.type #[a.eval x, a.eval y]))) := by rw [exec_builtin ho]; simp [builtin]
  unfold appendS at hs
  split at hs
  · rename_i e _ _ hti
    have hk := (hE t _ hti).kind
    split at hs
    · rename_i sz by_ kd z u hei
      have hT := hE e _ hei
      dsimp only at hs
      cases hb : (!(Nat.beq u.size sz && Nat.blt 0 sz) || s.us k') with
      | true => rw [hb] at hs; cases hs
      | false =>
        rw [hb] at hs
        simp only [cond_false] at hs
        simp only [Bool.or_eq_false_iff, Bool.not_eq_false', Bool.and_eq_true] at hb
        obtain ⟨⟨hb1, hb2⟩, hus⟩ := hb
        have hsz : u.size = sz := Nat.eq_of_beq_eq_true hb1
        subst hsz
        -- what is appended
        split at hs
        · cases hs
        · rename_i ys hys
          have hy : ∃ news, Src w ys.length (a.eval y) news ∧ Rd (Free w0 ρ s.hp w) w (.arr ys.length u) news ys := by
            split at hys
            · rename_i hyy
              injection hys with hys
              subst hys
              have hv := h.ev y
              rw [hyy] at hv
              obtain ⟨h1, _⟩ := SVc.one1 rfl (by simp) hv
              simp only [List.cons.injEq, and_true] at h1
              exact ⟨[], ⟨⟨none, 0, h1, fun hp => absurd hp (by simp)⟩, fun _ => rfl⟩, rfl, by simp, fun i x hx => by simp at hx⟩
            · split at hys
              · rename_i u' ys' hyy
                obtain ⟨e2, e3⟩ := castD_eq hys
                injection e2 with e2
                subst e2
                have e3 : ys' = ys := e3
                subst e3
                obtain ⟨A, c, cs, h1, h2, h3, h4, h5⟩ := slD_flat h (h.ev y) hyy
                exact ⟨cs, ⟨⟨A, c, h1, h5⟩, fun h0 => by
                  have := h4.2.1
                  rw [h0] at this
                  exact List.eq_nil_of_length_eq_zero (by simpa using this)⟩, h4⟩
              · cases hys
          obtain ⟨news, hsrc, hrd⟩ := hy
          have hnl : news.length = ys.length * u.size := hrd.2.1
          have hn1 := Rd.one hrd
          split at hs
          · rename_i hxx
            simp only [Option.some.injEq, Prod.mk.injEq] at hs
            obtain ⟨rfl, rfl⟩ := hs
            obtain ⟨hp1, hp2⟩ := hp
            have hv := h.ev x
            rw [hxx] at hv
            obtain ⟨h1, _⟩ := SVc.one1 rfl (by simp) hv
            simp only [List.cons.injEq, and_true] at h1
            rcases Nat.eq_zero_or_pos ys.length with h0 | hpos
            · have hys0 : ys = [] := List.eq_nil_of_length_eq_zero h0
              subst hys0
              have hrun := run_append_none (ty := o.type) hk hT hsrc
              exact Does.ran (hexec.trans (by rw [h1])) hrun (nil_row h hus hR)
            · obtain ⟨cap, rest, hrun, hc1, hc2, hc3⟩ := run_append_grow' (ty := o.type) hk hT h1 (olds := []) ⟨⟨none, 0, h1, fun hp => absurd hp (by simp)⟩, fun _ => rfl⟩ hsrc (by simp) hnl (by omega) (by omega) (by simpa using hp2)
              simp only [Nat.zero_add, List.nil_append] at hrun hc1 hc3
              exact Does.ran hexec hrun (grown_row h hus hrd hc1 hc2 hc3 hR)
          · rename_i kk hxx
            split at hs
            · rename_i u' xs' hkk
              split at hs
              · rename_i xs hxs
                simp only [Option.some.injEq, Prod.mk.injEq] at hs
                obtain ⟨rfl, rfl⟩ := hs
                obtain ⟨hp1, hp2⟩ := hp
                obtain ⟨e2, e3⟩ := castD_eq hxs
                injection e2 with e2
                subst e2
                have e3 : xs' = xs := e3
                subst e3
                have hv := h.ev x
                have hv0 := hv
                rw [hxx] at hv
                obtain ⟨hu, h1, _⟩ := SVc.one1 rfl (by simp) hv
                simp only [List.cons.injEq, and_true] at h1
                obtain ⟨A, c, olds, h2, h3, h4, h5, h6⟩ := slD_flat (t := u') (xs := xs') h hv0 (by rw [hxx]; simp only [slD, hkk])
                have hol : olds.length = xs'.length * u'.size := h5.2.1
                have hL := arr_append h5 hrd
                have hdrop := h.drop kk
                have hdle : (cx w0 ρ s w).le (cx w0 ρ (s.drop kk) w) := drop_le h
                by_cases hroom : xs'.length + ys.length ≤ c
                · rcases h.heap kk _ hkk with ⟨h7, rfl⟩ | ⟨b, q, cp, cur, e', h7, hheap, h8, h9, h10, h11⟩
                  · -- nothing and nothing
                    rw [h7] at h1
                    rw [h1] at h2
                    injection h2 with h2a h2b h2c
                    have hy0 : ys = [] := List.eq_nil_of_length_eq_zero (by simp only [List.length_nil] at hroom; omega)
                    subst hy0
                    have hrun := run_append_none (ty := o.type) hk hT hsrc
                    exact Does.ran (hexec.trans (by rw [h1])) hrun (nil_row hdrop hus hR)
                  · rw [h7] at h1
                    rw [h1] at h2
                    injection h2 with h2a h2b h2c
                    subst h2c
                    have hmul : (xs'.length + ys.length) * u'.size ≤ cp * u'.size := Nat.mul_le_mul_right _ hroom
                    rw [Nat.add_mul] at hmul
                    have hcur : cur.toList.length = cur.size := by simp
                    have hfit : q + xs'.length * u'.size + news.length ≤ cur.size := by rw [hnl]; omega
                    have hrun := run_append_room' (ty := o.type) (e' := e') hk hT h1 hheap hsrc hnl hn1 hroom hfit
                    have hbk : blkOf (ρ kk) = some b := by rw [show ρ kk = _ from h7]; rfl
                    have hbz := h.fresh kk _ b hkk (by exact hbk)
                    have hok := Ok.renew h hkk rfl rfl hbk (k' := k') (he := .row u' (xs' ++ ys)) (v := .slice (some ⟨b, q, none⟩) (xs'.length + ys.length) cp) (w' := w.setRow b (splice cur.toList (q + xs'.length * u'.size) news).toArray) hus rfl
                      (setRow_below w b _ _ hbz.1) (fun b' hne _ => setRow_other w b b' _ hne) (fun c' hc' hw' e3 => .inr ⟨b, q, cp, _, e', by rw [e3, List.length_append], by rw [hw']; exact setRow_heap w b cur _ e' _ hheap, by rw [List.length_append]; exact hroom, h9, by
                        simp only [List.size_toArray]; rw [splice_length (by omega), hcur]; exact h10, fun i x hx => by
                        have hrd' : Rd c'.S c'.w (.arr ys.length u') news ys := Rd.mono hc'.keep hrd
                        show Rd _ _ u' (((splice cur.toList (q + xs'.length * u'.size) news).drop (q + i * u'.size)).take u'.size) x
                        rcases Nat.lt_or_ge i xs'.length with hi | hi
                        · rw [List.getElem?_append_left hi] at hx
                          have hle2 : (i + 1) * u'.size ≤ xs'.length * u'.size := Nat.mul_le_mul_right _ hi
                          rw [Nat.add_mul, Nat.one_mul] at hle2
                          rw [splice_piece_out (by omega) (.inl (by omega))]
                          exact Rd.mono hc'.keep (h11 i x hx)
                        · rw [List.getElem?_append_right hi] at hx
                          have hi2 : i - xs'.length < ys.length := (List.getElem?_eq_some_iff.1 hx).1
                          have hle2 : (i - xs'.length + 1) * u'.size ≤ ys.length * u'.size := Nat.mul_le_mul_right _ hi2
                          rw [Nat.add_mul, Nat.one_mul, Nat.sub_mul] at hle2
                          have hle3 : xs'.length * u'.size ≤ i * u'.size := Nat.mul_le_mul_right _ hi
                          have hpc := hrd'.2.2 _ x hx
                          rw [Nat.sub_mul] at hpc
                          have e5 : ((splice cur.toList (q + xs'.length * u'.size) news).drop (q + i * u'.size)).take u'.size = (news.drop (i * u'.size - xs'.length * u'.size)).take u'.size := by
                            apply List.ext_getElem?
                            intro j
                            rw [piece_get, piece_get]
                            by_cases hj : j < u'.size
                            · rw [if_pos hj, if_pos hj, splice_get (by omega), if_neg (by omega), if_pos (by omega)]
                              congr 1; omega
                            · rw [if_neg hj, if_neg hj]
                          rw [e5]; exact hpc⟩)
                    have e3 : rset ρ k' (.slice (some ⟨b, q, none⟩) (xs'.length + ys.length) cp) k' = .slice (some ⟨b, q, none⟩) (xs'.length + ys.length) cp := rset_same _ _ _
                    exact Does.ran hexec hrun
                      (hR _ _ _ (hok.put o.dst (SVc.of1 (p := .row k') rfl ⟨uset_same _ _, by show [_] = [rset ρ k' _ k']; rw [e3], by show (rset ρ k' _ k').oneCell' = true; rw [e3]; rfl⟩)))
                · obtain ⟨cap, rest, hrun, hc1, hc2, hc3⟩ := run_append_grow' (ty := o.type) hk hT h2 (olds := olds) ⟨⟨A, c, h2, h6⟩, fun h0 => by
                    rw [h0] at hol
                    exact List.eq_nil_of_length_eq_zero (by simpa using hol)⟩ hsrc hol hnl (by omega) hp1 hp2
                  have hL' : Rd (Free w0 ρ (s.drop kk).hp w) w (.arr (xs' ++ ys).length u') (olds ++ news) (xs' ++ ys) := by
                    rw [List.length_append]; exact Rd.mono hdle.keep hL
                  have hfin := grown_row (o := o) (k' := k') (e := e) (rest := rest) (R := R) hdrop hus hL' (by rw [List.length_append]; exact hc1) hc2 hc3 hR
                  rw [List.length_append] at hfin
                  exact Does.ran hexec hrun hfin
              · cases hs
            · cases hs
          · cases hs
    · cases hs
  · cases hs
end
end Go.Sx
