/-
  Sx, part I: stores.
-/
import Derived.Test.YtpnmfoojmodnlaaSxH
namespace Go.Sx
open Go.RowKit

/-- The list l with m laid over it from p on. -/
def splice (l : List Value) (p : Nat) (m : List Value) : List Value := l.take p ++ (m ++ l.drop (p + m.length))
theorem splice_length {l : List Value} {p : Nat} {m : List Value} (h : p + m.length ≤ l.length) : (splice l p m).length = l.length := by
  simp only [splice, List.length_append, List.length_take, List.length_drop]; omega
theorem splice_get {l : List Value} {p : Nat} {m : List Value} (h : p + m.length ≤ l.length) (k : Nat) :
    (splice l p m)[k]? = if k < p then l[k]? else if k < p + m.length then m[k - p]? else l[k]? := by
  simp only [splice]
  by_cases h1 : k < p
  · rw [if_pos h1, List.getElem?_append_left (by simp; omega), List.getElem?_take, if_pos h1]
  · rw [if_neg h1, List.getElem?_append_right (by simp; omega)]
    have e : (l.take p).length = p := by simp; omega
    rw [e]
    by_cases h2 : k < p + m.length
    · rw [if_pos h2, List.getElem?_append_left (by omega)]
    · rw [if_neg h2, List.getElem?_append_right (by omega), List.getElem?_drop]
      congr 1; omega
theorem piece_get (l : List Value) (q n k : Nat) : ((l.drop q).take n)[k]? = if k < n then l[q + k]? else none := by
  rw [List.getElem?_take, List.getElem?_drop]
theorem splice_piece_out {l : List Value} {p : Nat} {m : List Value} (h : p + m.length ≤ l.length) {q n : Nat} (hq : q + n ≤ p ∨ p + m.length ≤ q) :
    ((splice l p m).drop q).take n = (l.drop q).take n := by
  apply List.ext_getElem?
  intro k
  rw [piece_get, piece_get]
  by_cases hk : k < n
  · rw [if_pos hk, if_pos hk, splice_get h]
    by_cases h1 : q + k < p
    · rw [if_pos h1]
    · rw [if_neg h1, if_neg (by omega)]
  · rw [if_neg hk, if_neg hk]
theorem splice_piece_in {l : List Value} {p : Nat} {m : List Value} (h : p + m.length ≤ l.length) {q n : Nat} (hq : q ≤ p) (hn : p + m.length ≤ q + n) (hl : q + n ≤ l.length) :
    ((splice l p m).drop q).take n = splice ((l.drop q).take n) (p - q) m := by
  have hlen : ((l.drop q).take n).length = n := by simp; omega
  apply List.ext_getElem?
  intro k
  rw [piece_get, splice_get h, splice_get (l := (l.drop q).take n) (p := p - q) (m := m) (by rw [hlen]; omega), piece_get]
  by_cases hk : k < n
  · rw [if_pos hk]
    by_cases h1 : q + k < p
    · rw [if_pos h1, if_pos (by omega), if_pos hk]
    · rw [if_neg h1]
      by_cases h2 : q + k < p + m.length
      · rw [if_pos h2, if_neg (by omega), if_pos (by omega)]; congr 1; omega
      · rw [if_neg h2, if_neg (by omega), if_neg (by omega), if_pos hk]
  · rw [if_neg hk, if_neg (by omega), if_neg (by omega), if_neg hk]
theorem splice_splice {l : List Value} {q n j : Nat} {m : List Value} (hl : q + n ≤ l.length) (hj : j + m.length ≤ n) :
    splice l q (splice ((l.drop q).take n) j m) = splice l (q + j) m := by
  have hlen : ((l.drop q).take n).length = n := by simp; omega
  have h2 : (splice ((l.drop q).take n) j m).length = n := by rw [splice_length (by rw [hlen]; exact hj), hlen]
  apply List.ext_getElem?
  intro k
  rw [splice_get (l := l) (p := q) (m := splice ((l.drop q).take n) j m) (by rw [h2]; exact hl), splice_get (l := l) (p := q + j) (m := m) (by omega), h2]
  by_cases h1 : k < q
  · rw [if_pos h1, if_pos (by omega)]
  · rw [if_neg h1]
    by_cases h3 : k < q + n
    · rw [if_pos h3, splice_get (l := (l.drop q).take n) (p := j) (m := m) (by rw [hlen]; exact hj), piece_get]
      by_cases h4 : k - q < j
      · rw [if_pos h4, if_pos (by omega), if_pos (by omega)]; congr 1; omega
      · rw [if_neg h4]
        by_cases h5 : k - q < j + m.length
        · rw [if_pos h5, if_neg (by omega), if_pos (by omega)]; congr 1; omega
        · rw [if_neg h5, if_pos (by omega), if_neg (by omega), if_neg (by omega)]; congr 1; omega
    · rw [if_neg h3, if_neg (by omega), if_neg (by omega)]

section
variable {P : Program} {E : Env} {w0 : Base} {w : World} {ρ : Nat → Value} {s s' : St} {a : Act} {o : Oper}

theorem setRow_below (w : World) (g : Nat) (cs : Array Value) (old : Nat → Prop) (h : ¬ old g) : BelowS old w (w.setRow g cs) :=
  ⟨rfl, rfl, rfl, by simp [World.setRow], fun k hk => setRow_other w g k _ (fun e => h (e ▸ hk))⟩

theorem storeAt_run {t : TypeId} {ti : TI} (h : TIok P t ti) {b q : Nat} {cur : Array Value} {e : TypeId} {v : Value} (hb : w.heap[b]? = some (.cells cur e (0, 0)))
    (hn : v.cells.toList.length = ti.size) (hq : q + ti.size ≤ cur.size) (h1 : ∀ u ∈ v.cells.toList, u.oneCell' = true) :
    (Instr.storeAt t (.pointer (some ⟨b, q, none⟩)) v).run P w = .ok () (w.setRow b (splice cur.toList q v.cells.toList).toArray) := by
  have hn' : v.cells.size = ti.size := by simpa using hn
  unfold Instr.storeAt Instr.sureAddr storeVar
  simp only [Sem.run_bind, Sem.run_pure, Result.andThen_ok, h.run_size]
  rw [if_neg (by simp [hn'])]
  have := run_storeCells_at P b q e v.cells.toList 0 cur w hb (by rw [hn]; simpa using hq) h1
  simp only [Nat.add_zero] at this
  simp only [this, splice, List.append_assoc]

theorem Rd.set {S : Nat → Prop} {w : World} {n i : Nat} {t : Ty} {cs l : List Value} {xs : List t.D} {y : t.D} (h : Rd S w (.arr n t) cs xs) (hi : i < n) (hy : Rd S w t l y) :
    Rd S w (.arr n t) (splice cs (i * t.size) l) (xs.set i y) := by
  obtain ⟨h1, h2, h3⟩ := h
  have hl := hy.len
  have hle : i * t.size + l.length ≤ cs.length := by
    rw [h2, hl]
    calc i * t.size + t.size = (i + 1) * t.size := by rw [Nat.add_mul, Nat.one_mul]
      _ ≤ n * t.size := Nat.mul_le_mul_right _ hi
  refine ⟨by simpa using h1, by rw [splice_length hle, h2], fun j x hx => ?_⟩
  have hj : j < n := by
    have := (List.getElem?_eq_some_iff.1 hx).1
    rw [List.length_set, h1] at this; exact this
  by_cases e : i = j
  · subst e
    rw [splice_piece_in hle (Nat.le_refl _) (by rw [hl]; exact Nat.le_refl _) (by rw [hl] at hle; exact hle)]
    rw [List.getElem?_set_self (by rw [h1]; exact hi)] at hx
    injection hx with hx
    subst hx
    have : splice ((cs.drop (i * t.size)).take t.size) (i * t.size - i * t.size) l = l := by
      apply List.ext_getElem?
      intro k
      have hlen : ((cs.drop (i * t.size)).take t.size).length = t.size := by simp; omega
      rw [Nat.sub_self, splice_get (by rw [hlen, hl]; omega)]
      rw [if_neg (by omega)]
      by_cases hk : k < 0 + l.length
      · rw [if_pos hk]; rfl
      · rw [if_neg hk, List.getElem?_eq_none (by rw [hlen]; omega), List.getElem?_eq_none (by omega)]
    rw [this]; exact hy
  · rw [splice_piece_out hle (by
      rcases Nat.lt_or_ge j i with hlt | hge
      · left
        calc j * t.size + t.size = (j + 1) * t.size := by rw [Nat.add_mul, Nat.one_mul]
          _ ≤ i * t.size := Nat.mul_le_mul_right _ hlt
      · right
        rw [hl]
        calc i * t.size + t.size = (i + 1) * t.size := by rw [Nat.add_mul, Nat.one_mul]
          _ ≤ j * t.size := Nat.mul_le_mul_right _ (by omega))]
    rw [List.getElem?_set_ne e] at hx
    exact h3 j x hx

theorem setArr_c {c : Cx} {ps ps' : List PV} {off n sz i : Nat} {u : Ty} {xs : List u.D} {y : u.D} {l m : List Value}
    (ha : arrAt ps off n sz = some ⟨u, xs⟩) (hs : setArr ps off n sz u (xs.set i y) = some ps') (hi : i < n) (hl : PsC c ps l) (hy : Rd c.S c.w u m y) :
    u.size = sz ∧ off + n * u.size ≤ l.length ∧ Rd c.S c.w u ((l.drop (off + i * u.size)).take u.size) (nth u xs i) ∧ PsC c ps' (splice l (off + i * u.size) m) := by
  unfold arrAt at ha
  unfold setArr at hs
  split at ha
  · rename_i pre m' t xs' rest htk
    rw [htk] at hs
    cases hmn : (Nat.beq m' n && Nat.beq t.size sz) with
    | false => rw [hmn] at ha; cases ha
    | true =>
      rw [hmn] at ha
      simp only [cond_true, Option.some.injEq, Sigma.mk.injEq] at ha
      obtain ⟨rfl, ha⟩ := ha
      have ha := eq_of_heq ha
      subst ha
      simp only [Bool.and_eq_true] at hmn
      have e1 := Nat.eq_of_beq_eq_true hmn.1
      have e2 := Nat.eq_of_beq_eq_true hmn.2
      subst e1; subst e2
      simp only [and_self, if_true, Option.some.injEq] at hs
      subst hs
      obtain ⟨hps, hsz⟩ := takeN_eq htk
      rw [hps] at hl
      obtain ⟨h1, h2⟩ := hl.split
      rw [hsz] at h1 h2
      obtain ⟨x1, x2, e3, h3, h4⟩ := h2
      have hx1 : x1.length = m' * t.size := h3.len
      have hml : m.length = t.size := hy.len
      have hle : i * t.size + m.length ≤ x1.length := by
        rw [hx1, hml]
        calc i * t.size + t.size = (i + 1) * t.size := by rw [Nat.add_mul, Nat.one_mul]
          _ ≤ m' * t.size := Nat.mul_le_mul_right _ hi
      have hlen := hl.len
      rw [psSize_append, hsz] at hlen
      have hd : (l.drop off).length = x1.length + x2.length := by rw [e3, List.length_append]
      rw [List.length_drop] at hd
      have hoff : off ≤ l.length := by omega
      have hx1' : (l.drop off).take (m' * t.size) = x1 := by rw [e3, ← hx1]; simp
      have hfit : off + m' * t.size ≤ l.length := by omega
      have hset := Rd.set h3 hi hy
      refine ⟨rfl, hfit, ?_, ?_⟩
      · have := h3.2.2 i (nth t xs' i) (nth_some (by rw [h3.1]; exact hi))
        have e4 : (l.drop (off + i * t.size)).take t.size = (x1.drop (i * t.size)).take t.size := by
          rw [← List.drop_drop, e3, List.drop_append_of_le_length (by omega), List.take_append_of_le_length (by rw [List.length_drop]; omega)]
        rw [e4]; exact this
      · have e5 : splice l (off + i * t.size) m = l.take off ++ (splice x1 (i * t.size) m ++ x2) := by
          have hss := splice_splice (l := l) (q := off) (n := m' * t.size) (j := i * t.size) (m := m) hfit (by rw [← hx1]; exact hle)
          rw [hx1'] at hss
          rw [← hss]
          show l.take off ++ (splice x1 (i * t.size) m ++ l.drop (off + (splice x1 (i * t.size) m).length)) = _
          rw [splice_length hle, ← List.drop_drop, e3]
          simp
        rw [e5]
        exact h1.append ⟨_, _, rfl, hset, h4⟩
  · cases ha

/-- A part of an element of an array among parts is given anew. -/
theorem arrStore_c {c : Cx} {ps ps' qs es : List PV} {off n sz i j sz' : Nat} {u : Ty} {xs : List u.D} {z : u.D} {l m : List Value}
    (ha : arrAt ps off n sz = some ⟨u, xs⟩) (he : setPs (explode u (nth u xs i)) j sz' qs = some es) (hz : rdAll u es = some z) (hs : setArr ps off n sz u (xs.set i z) = some ps')
    (hi : i < n) (hl : PsC c ps l) (hm : PsC c qs m) : u.size = sz ∧ m.length = sz' ∧ off + (i * sz + j) + sz' ≤ l.length ∧ PsC c ps' (splice l (off + (i * sz + j)) m) := by
  obtain ⟨_, e0, hr⟩ := arrAt_c ha hl hi
  subst e0
  obtain ⟨h5, h6, h7⟩ := setPs_c he (explode_c hr) hm
  have hz' := rdAll_c hz h5
  obtain ⟨e2, hfit, _, hfin⟩ := setArr_c (i := i) (y := z) ha hs hi hl hz'
  have hel := hr.len
  rw [hel] at h7
  have hile : (i + 1) * u.size ≤ n * u.size := Nat.mul_le_mul_right _ hi
  rw [Nat.add_mul, Nat.one_mul] at hile
  refine ⟨rfl, h6, by omega, ?_⟩
  have e8 : splice l (off + i * u.size) (((l.drop (off + i * u.size)).take u.size).take j ++ (m ++ ((l.drop (off + i * u.size)).take u.size).drop (j + sz'))) = splice l (off + (i * u.size + j)) m := by
    have := splice_splice (l := l) (q := off + i * u.size) (n := u.size) (j := j) (m := m) (by omega) (by rw [h6]; exact h7)
    rw [← Nat.add_assoc, ← this]
    simp only [splice, h6]
  rw [e8] at hfin
  exact hfin

/-- An element of an array among parts is given anew, in some of its cells. -/
theorem arrPut_c {c : Cx} {ps ps' : List PV} {off n sz i J : Nat} {u : Ty} {xs : List u.D} {z : u.D} {l m : List Value}
    (ha : arrAt ps off n sz = some ⟨u, xs⟩) (hs : setArr ps off n sz u (xs.set i z) = some ps') (hi : i < n) (hl : PsC c ps l)
    (hz : Rd c.S c.w u (splice ((l.drop (off + i * u.size)).take u.size) J m) z) (hJ : J + m.length ≤ u.size) : off + (i * u.size + J) + m.length ≤ l.length ∧ PsC c ps' (splice l (off + (i * u.size + J)) m) := by
  obtain ⟨e2, hfit, _, hfin⟩ := setArr_c (i := i) (y := z) ha hs hi hl hz
  have hile : (i + 1) * u.size ≤ n * u.size := Nat.mul_le_mul_right _ hi
  rw [Nat.add_mul, Nat.one_mul] at hile
  refine ⟨by omega, ?_⟩
  have := splice_splice (l := l) (q := off + i * u.size) (n := u.size) (j := J) (m := m) (by omega) hJ
  rw [← Nat.add_assoc, ← this]
  exact hfin
/-- The end of each store: the name's block has turned, and nothing else. -/
theorem store_fin {t : TypeId} {ti : TI} {x y : Operand} {R : Act → World → Prop} {k b q : Nat} {cur : Array Value} {e : TypeId} {h0 he : HE}
    (hT : TIok P t ti) (h : Ok w0 ρ s a w) (ho : o.op = .store t x y) (hx : a.eval x = .pointer (some ⟨b, q, none⟩)) (hk : s.hp k = some h0) (hB : ∀ b, Bk he (ρ k) b → Bk h0 (ρ k) b) (hbk : Bk h0 (ρ k) b)
    (hb : w.heap[b]? = some (.cells cur e (0, 0))) (hn : (a.eval y).cells.toList.length = ti.size) (hq : q + ti.size ≤ cur.size)
    (h1 : ∀ u ∈ (a.eval y).cells.toList, u.oneCell' = true)
    (hhe : ∀ w', w'.heap[b]? = some (.cells (splice cur.toList q (a.eval y).cells.toList).toArray e (0, 0)) → (∀ b', b' ≠ b → w'.heap[b']? = w.heap[b']?) → (cx w0 ρ s w).le (cx w0 ρ (s.upd k he) w') → HEc (cx w0 ρ (s.upd k he) w') k he)
    (hR : Up w0 ((s.upd k he).put o.dst (.one .any)) R) : Does P o a w R := by
  have hrun := storeAt_run hT (v := a.eval y) hb hn hq h1
  have hold : ∀ b', b' < w.heap.size → ¬ Bk h0 (ρ k) b' → (w.setRow b (splice cur.toList q (a.eval y).cells.toList).toArray).heap[b']? = w.heap[b']? := fun b' _ hne =>
    setRow_other w b b' _ (fun e => hne (by rw [e]; exact hbk))
  have hle := upd_le (he := he) h hk (fun b hb => .inl (hB b hb)) (by simp) hold
  have hok : Ok w0 ρ (s.upd k he) a (w.setRow b (splice cur.toList q (a.eval y).cells.toList).toArray) :=
    h.upd hk (fun b hb => .inl (hB b hb)) (setRow_below w b _ _ (h.fresh k h0 b hk hbk).1) hold (hhe _ (setRow_heap w b cur _ e _ hb) (fun b' hne => setRow_other w b b' _ hne) hle)
  refine .inr ⟨_, ?_, hR ρ _ _ (hok.put o.dst (SVc_any _))⟩
  simp only [execOp, ho, hx, Sem.run_bind, hrun, Result.andThen_ok, Sem.run_pure]

theorem mget_mput {t : Ty} {a b : Int} {y : t.D} : ∀ {m : List (Int × t.D)}, mget? t (mput t m a y) b = if a = b then some y else mget? t m b
  | [] => by
    by_cases h : a = b <;> simp [mput, mget?, h]
  | e :: r => by
    by_cases h : e.1 = a
    · have e1 : mput t (e :: r) a y = (a, y) :: r := by simp [mput, h]
      rw [e1]
      by_cases h2 : a = b
      · simp [mget?, h2]
      · have : ¬ e.1 = b := fun e => h2 (h.symm.trans e)
        simp [mget?, h2, this]
    · have e1 : mput t (e :: r) a y = e :: mput t r a y := by simp [mput, h]
      rw [e1]
      by_cases h2 : e.1 = b
      · have : ¬ a = b := fun e => h (h2.trans e.symm)
        simp [mget?, h2, this]
      · have ih := mget_mput (a := a) (b := b) (y := y) (m := r)
        simp only [mget?, h2, decide_false, cond_false]
        exact ih
theorem mput_keys {t : Ty} {a : Int} {y : t.D} : ∀ {m : List (Int × t.D)}, mhas t m a = true → (mput t m a y).map (·.1) = m.map (·.1)
  | [], h => by cases h
  | e :: r, h => by
    by_cases h1 : e.1 = a
    · simp [mput, h1]
    · have e1 : mput t (e :: r) a y = e :: mput t r a y := by simp [mput, h1]
      have h2 : mhas t r a = true := by simpa [mhas, mget?, h1] using h
      rw [e1, List.map_cons, List.map_cons, mput_keys h2]
theorem mput_mem {t : Ty} {a : Int} {y : t.D} : ∀ {m : List (Int × t.D)} {e : Int × t.D}, (m.map (·.1)).Nodup → e ∈ mput t m a y → e = (a, y) ∨ (e ∈ m ∧ e.1 ≠ a)
  | [], e, _, h => by
    have : e = (a, y) := by simpa [mput] using h
    exact .inl this
  | c :: r, e, hn, h => by
    simp only [List.map_cons, List.nodup_cons] at hn
    by_cases h1 : c.1 = a
    · have e1 : mput t (c :: r) a y = (a, y) :: r := by simp [mput, h1]
      rw [e1] at h
      rcases List.mem_cons.1 h with h | h
      · exact .inl h
      · exact .inr ⟨List.mem_cons_of_mem _ h, fun e2 => hn.1 (by rw [h1, ← e2]; exact List.mem_map_of_mem h)⟩
    · have e1 : mput t (c :: r) a y = c :: mput t r a y := by simp [mput, h1]
      rw [e1] at h
      rcases List.mem_cons.1 h with h | h
      · subst h; exact .inr ⟨List.mem_cons_self, h1⟩
      · rcases mput_mem hn.2 h with h | ⟨h, h3⟩
        · exact .inl h
        · exact .inr ⟨List.mem_cons_of_mem _ h, h3⟩
theorem pool_bk {t : Ty} {a : Int} {y : t.D} {m : List (Int × t.D)} (h : mhas t m a = true) {v : Value} {b : Nat} (hb : Bk (.pool t (mput t m a y)) v b) : Bk (.pool t m) v b := by
  obtain ⟨e, he, hb⟩ := hb
  have h1 : (b : Int) ∈ (mput t m a y).map (·.1) := by rw [← hb]; exact List.mem_map_of_mem he
  rw [mput_keys h] at h1
  obtain ⟨e', he', hb'⟩ := List.mem_map.1 h1
  exact ⟨e', he', hb'⟩
/-- The end of a store into a pool. -/
theorem poolStore_fin {t : TypeId} {ti : TI} {x y : Operand} {R : Act → World → Prop} {k q : Nat} {u : Ty} {m : List (Int × u.D)} {i : Int} {cs : Array Value} {ty : TypeId} {z : u.D} {l : List Value}
    (hT : TIok P t ti) (h : Ok w0 ρ s a w) (ho : o.op = .store t x y) (hx : a.eval x = .pointer (some ⟨i.toNat, q, none⟩)) (hk : s.hp k = some (.pool u m)) (hc : mhas u m i = true)
    (hb : w.heap[i.toNat]? = some (.cells cs ty (0, 0))) (hn : (a.eval y).cells.toList.length = ti.size) (hq : q + ti.size ≤ cs.size)
    (h1 : ∀ v ∈ (a.eval y).cells.toList, v.oneCell' = true) (hz : Rd (Free w0 ρ s.hp w) w u l z) (hl : l = splice cs.toList q (a.eval y).cells.toList)
    (hR : Up w0 ((s.upd k (.pool u (mput u m i z))).put o.dst (.one .any)) R) : Does P o a w R := by
  have hp := h.heap k _ hk
  obtain ⟨h0, _⟩ := hp.2 _ (mhas_mem hc)
  have h0 : 0 ≤ i := h0
  refine store_fin hT h ho hx hk (fun b hb => pool_bk hc hb) ⟨_, mhas_mem hc, (Int.toNat_of_nonneg h0).symm⟩ hb hn hq h1 ?_ hR
  intro w' hw' hot hle
  refine ⟨by rw [mput_keys hc]; exact hp.1, fun e he => ?_⟩
  rcases mput_mem hp.1 he with rfl | ⟨he, hne⟩
  · exact ⟨h0, ty, _, hw', by show Rd _ _ u (_ : Array Value).toList z; simp only []; rw [← hl]; exact Rd.mono hle.keep hz⟩
  · obtain ⟨g0, ty', cs', g1, g2⟩ := hp.2 e he
    have g0 : 0 ≤ e.1 := g0
    refine ⟨g0, ty', cs', ?_, Rd.mono hle.keep g2⟩
    refine (hot _ fun e2 => hne ?_).trans g1
    have h2 : ((e.1.toNat : Nat) : Int) = (i.toNat : Nat) := by rw [e2]
    rw [Int.toNat_of_nonneg g0, Int.toNat_of_nonneg h0] at h2
    exact h2
theorem storeR_does {t : TypeId} {ti : TI} {x y : Operand} {p : Option Prop} {qs : List PV} {R : Act → World → Prop} (hT : TIok P t ti) (h : Ok w0 ρ s a w) (ho : o.op = .store t x y)
    (hm : PsC (cx w0 ρ s w) qs (a.eval y).cells.toList) (hs : storeR s ti.size qs (ev s x) = some (p, s')) (hp : vcP p) (hR : Up w0 (s'.put o.dst (.one .any)) R) : Does P o a w R := by
  have hv := h.ev x
  have hm1 := hm.one
  unfold storeR at hs
  split at hs
  · rename_i p' i off hx
    rw [hx] at hv
    split at hs
    · rename_i u m hk
      split at hs
      · rename_i es hes
        split at hs
        · rename_i z hz
          simp only [Option.some.injEq, Prod.mk.injEq] at hs
          obtain ⟨rfl, rfl⟩ := hs
          obtain ⟨_, ty, cs, hh, hr⟩ := pool_obj h hk hp
          obtain ⟨_, hl⟩ := SVc.one1 rfl (by simp) hv
          simp only [List.cons.injEq, and_true] at hl
          obtain ⟨g1, g2, g3⟩ := setPs_c hes (explode_c (c := cx w0 ρ s w) hr) hm
          exact poolStore_fin hT h ho hl hk hp hh g2 (by simpa using g3) hm1 (rdAll_c (c := cx w0 ρ s w) hz g1) (by simp only [splice, g2]) hR
        · cases hs
      · cases hs
    · cases hs
  · rename_i p' i hx
    rw [hx] at hv
    split at hs
    · rename_i u m hk
      split at hs
      · rename_i es hes
        split at hs
        · rename_i z hz
          simp only [Option.some.injEq, Prod.mk.injEq] at hs
          obtain ⟨rfl, rfl⟩ := hs
          obtain ⟨h0, ty, cs, hh, hr⟩ := pool_obj h hk hp
          have hl : a.eval x = .pointer (some ⟨Int.toNat i, 0, none⟩) := by
            rcases (SVc.one1 rfl (by simp) hv : Rd _ _ (.ref p') [a.eval x] i) with ⟨h1, _⟩ | ⟨_, h2⟩
            · have h1 : (i : Int) = -1 := h1
              have h2 : ∀ z : Int, z = -1 → ¬ 0 ≤ z := by omega
              exact absurd h0 (h2 _ h1)
            · simpa using h2
          obtain ⟨g1, g2, g3⟩ := setPs_c hes (explode_c (c := cx w0 ρ s w) hr) hm
          exact poolStore_fin hT h ho hl hk hp hh g2 (by simpa using g3) hm1 (rdAll_c (c := cx w0 ρ s w) hz g1) (by simp only [splice, g2]) hR
        · cases hs
      · cases hs
    · cases hs
  · rename_i p' i off n sz i' j' hx
    rw [hx] at hv
    split at hs
    · rename_i u m hk
      split at hs
      · rename_i v ys hav
        split at hs
        · rename_i es hes
          split at hs
          · rename_i z2 hz2
            split at hs
            · rename_i ps' hps'
              split at hs
              · rename_i z hz
                simp only [Option.some.injEq, Prod.mk.injEq] at hs
                obtain ⟨rfl, rfl⟩ := hs
                obtain ⟨_, ty, cs, hh, hr⟩ := pool_obj h hk hp
                obtain ⟨⟨_, hi⟩, hl⟩ := SVc.one1 rfl (by simp) hv
                simp only [List.cons.injEq, and_true] at hl
                obtain ⟨e9, g2, g3, g1⟩ := arrStore_c (c := cx w0 ρ s w) hav hes hz2 hps' hi (explode_c hr) hm
                exact poolStore_fin hT h ho hl hk hp hh g2 (by simpa using g3) hm1 (rdAll_c (c := cx w0 ρ s w) hz g1) rfl hR
              · cases hs
            · cases hs
          · cases hs
        · cases hs
      · cases hs
    · cases hs
  · cases hs
theorem store_does {t : TypeId} {x y : Operand} {p : Option Prop} {R : Act → World → Prop} (hE : EnvOk P E) (h : Ok w0 ρ s a w) (ho : o.op = .store t x y)
    (hs : storeS E s t (ev s x) (ev s y) = some (p, s')) (hp : vcP p) (hR : Up w0 (s'.put o.dst (.one .any)) R) : Does P o a w R := by
  unfold storeS at hs
  split at hs
  · rename_i ti qs hti hqs
    have hT := hE t ti hti
    have hm := SVparts_c (h.ev y) hqs
    have hm1 := hm.one
    split at hs
    · rename_i k off hx
      split at hs
      · rename_i ps hk
        split at hs
        · rename_i ps' hps
          simp only [ok, Option.some.injEq, Prod.mk.injEq] at hs
          obtain ⟨_, rfl⟩ := hs
          have hv := h.ev x
          rw [hx] at hv
          obtain ⟨_, b, hb, hl⟩ := SVc.one1 rfl (by simp) hv
          obtain ⟨b', e, cs, hb', hh, hp⟩ := h.heap k _ hk
          have : b' = b := by
            have : (cx w0 ρ s w).ρ k = .pointer (some ⟨b, 0, none⟩) := hb
            rw [hb'] at this; injection this with this; injection this with this; injection this
          subst this
          simp only [List.cons.injEq, and_true] at hl
          obtain ⟨h1, h2, h3⟩ := setPs_c hps hp hm
          refine store_fin hT h ho hl hk (by intro _ e; exact e) (by show blkOf (ρ k) = _; rw [show ρ k = _ from hb']; rfl) hh h2 (by simpa using h3) hm1 ?_ hR
          intro w' hw' hot hle
          refine ⟨b', e, _, hb', hw', ?_⟩
          have h4 := h1.mono hle
          simpa [splice, h2] using h4
        · cases hs
      · cases hs
    · rename_i k off n sz i j hx
      split at hs
      · rename_i ps hk
        split at hs
        · rename_i u xs hau
          split at hs
          · rename_i es hes
            split at hs
            · rename_i z hz
              split at hs
              · rename_i ps' hps
                simp only [ok, Option.some.injEq, Prod.mk.injEq] at hs
                obtain ⟨_, rfl⟩ := hs
                have hv := h.ev x
                rw [hx] at hv
                obtain ⟨_, hi, b, hb, hl⟩ := SVc.one1 rfl (by simp) hv
                obtain ⟨b', e, cs, hb', hh, hp⟩ := h.heap k _ hk
                have : b' = b := by
                  have : (cx w0 ρ s w).ρ k = .pointer (some ⟨b, 0, none⟩) := hb
                  rw [hb'] at this; injection this with this; injection this with this; injection this
                subst this
                simp only [List.cons.injEq, and_true] at hl
                -- the element as it was: by the same law at the data itself
                have hself := fun m => setArr_c (i := i) (y := z) (m := m) hau hps hi hp
                have hau' := hau
                unfold arrAt at hau'
                split at hau'
                · rename_i pre m' t' xs' rest htk
                  cases hmn : (Nat.beq m' n && Nat.beq t'.size sz) with
                  | false => rw [hmn] at hau'; cases hau'
                  | true =>
                    rw [hmn] at hau'
                    simp only [cond_true, Option.some.injEq, Sigma.mk.injEq] at hau'
                    obtain ⟨rfl, hau'⟩ := hau'
                    have hau' := eq_of_heq hau'
                    subst hau'
                    obtain ⟨hpe, hsz⟩ := takeN_eq htk
                    rw [hpe] at hp
                    have h2 := hp.split.2
                    rw [hsz] at h2
                    obtain ⟨x1, x2, e3, h3, _⟩ := h2
                    simp only [Bool.and_eq_true] at hmn
                    have e1 := Nat.eq_of_beq_eq_true hmn.1
                    subst e1
                    have hr := h3.2.2 i (nth t' xs' i) (nth_some (by rw [h3.1]; exact hi))
                    obtain ⟨h5, h6, h7⟩ := setPs_c hes (explode_c hr) hm
                    have hz' := rdAll_c hz h5
                    rw [← hpe] at hp
                    obtain ⟨e2, hfit, _, hfin⟩ := hself _ hz'
                    subst e2
                    have hxl : x1.length = m' * t'.size := h3.len
                    have hel : ((x1.drop (i * t'.size)).take t'.size).length = t'.size := hr.len
                    rw [hel] at h7
                    have hile : (i + 1) * t'.size ≤ m' * t'.size := Nat.mul_le_mul_right _ hi
                    rw [Nat.add_mul, Nat.one_mul] at hile
                    have epiece : (x1.drop (i * t'.size)).take t'.size = (cs.toList.drop (off + i * t'.size)).take t'.size := by
                      rw [← List.drop_drop, e3, List.drop_append_of_le_length (by omega), List.take_append_of_le_length (by rw [List.length_drop]; omega)]
                    have hcs : cs.toList.length = cs.size := by simp
                    have e8 : splice cs.toList (off + i * t'.size) (((x1.drop (i * t'.size)).take t'.size).take j ++ ((a.eval y).cells.toList ++ ((x1.drop (i * t'.size)).take t'.size).drop (j + ti.size))) =
                        splice cs.toList (off + (i * t'.size + j)) (a.eval y).cells.toList := by
                      have := splice_splice (l := cs.toList) (q := off + i * t'.size) (n := t'.size) (j := j) (m := (a.eval y).cells.toList) (by omega) (by rw [h6]; exact h7)
                      rw [← Nat.add_assoc, ← this, ← epiece]
                      simp only [splice, h6]
                    rw [e8] at hfin
                    refine store_fin hT h ho hl hk (by intro _ e; exact e) (by show blkOf (ρ k) = _; rw [show ρ k = _ from hb']; rfl) hh h6 (by omega) hm1 ?_ hR
                    intro w' hw' hot hle
                    exact ⟨b', e, _, hb', hw', by simpa using hfin.mono hle⟩
                · cases hau'
              · cases hs
            · cases hs
          · cases hs
        · cases hs
      · cases hs
    · rename_i k sz i j hx
      split at hs
      · rename_i u xs hk
        cases hsz : Nat.beq u.size sz with
        | false => rw [hsz] at hs; cases hs
        | true =>
          rw [hsz] at hs
          simp only [cond_true] at hs
          split at hs
          · rename_i es hes
            split at hs
            · rename_i z hz
              simp only [ok, Option.some.injEq, Prod.mk.injEq] at hs
              obtain ⟨_, rfl⟩ := hs
              have e2 := Nat.eq_of_beq_eq_true hsz
              subst e2
              have hv := h.ev x
              rw [hx] at hv
              obtain ⟨_, b, q, n, cp, hb, hi, hl⟩ := SVc.one1 rfl (by simp) hv
              rcases h.heap k _ hk with ⟨hb', _⟩ | ⟨b', q', cp', cur, e, hb', hh, hc1, hc2, hc3, hr⟩
              · rw [hb'] at hb; cases hb
              · have hb0 := hb'
                rw [hb'] at hb
                simp only [Value.slice.injEq, Option.some.injEq, Addr.mk.injEq, and_true] at hb
                obtain ⟨⟨rfl, rfl⟩, rfl, rfl⟩ := hb
                simp only [List.cons.injEq, and_true] at hl
                have hr' := hr i (nth u xs i) (nth_some hi)
                obtain ⟨h5, h6, h7⟩ := setPs_c hes (explode_c hr') hm
                have hz' := rdAll_c hz h5
                have hel : ((cur.toList.drop (q' + i * u.size)).take u.size).length = u.size := hr'.len
                rw [hel] at h7
                have hile : (i + 1) * u.size ≤ cp' * u.size := Nat.mul_le_mul_right _ (by omega)
                rw [Nat.add_mul, Nat.one_mul] at hile
                have hcur : cur.toList.length = cur.size := by simp
                refine store_fin hT h ho hl hk (by intro _ e; exact e) (by show blkOf (ρ k) = _; rw [show ρ k = _ from hb']; rfl) hh h6 (by omega) hm1 ?_ hR
                intro w' hw' hot hle
                refine .inr ⟨b', q', cp', _, e, ?_, hw', by simpa using hc1, hc2, ?_, ?_⟩
                · rw [List.length_set]; exact hb0
                · simp only [List.size_toArray]
                  rw [splice_length (by omega), hcur]; exact hc3
                · intro i2 x2 hx2
                  have hi2 : i2 < xs.length := by
                    have := (List.getElem?_eq_some_iff.1 hx2).1
                    rwa [List.length_set] at this
                  have hi2le : (i2 + 1) * u.size ≤ cp' * u.size := Nat.mul_le_mul_right _ (by omega)
                  rw [Nat.add_mul, Nat.one_mul] at hi2le
                  show Rd _ _ u (((splice cur.toList (q' + (i * u.size + j)) (a.eval y).cells.toList).drop (q' + i2 * u.size)).take u.size) x2
                  by_cases e3 : i = i2
                  · subst e3
                    rw [List.getElem?_set_self hi] at hx2
                    injection hx2 with hx2
                    subst hx2
                    rw [splice_piece_in (by omega) (by omega) (by omega) (by omega)]
                    rw [show q' + (i * u.size + j) - (q' + i * u.size) = j by omega]
                    have := Rd.mono hle.keep hz'
                    simpa only [splice, h6] using this
                  · rw [List.getElem?_set_ne e3] at hx2
                    rw [splice_piece_out (by omega) (by
                      rcases Nat.lt_or_ge i2 i with hlt | hge
                      · left
                        have : (i2 + 1) * u.size ≤ i * u.size := Nat.mul_le_mul_right _ hlt
                        rw [Nat.add_mul, Nat.one_mul] at this
                        omega
                      · right
                        have : (i + 1) * u.size ≤ i2 * u.size := Nat.mul_le_mul_right _ (by omega)
                        rw [Nat.add_mul, Nat.one_mul] at this
                        omega)]
                    exact Rd.mono hle.keep (hr i2 x2 hx2)
            · cases hs
          · cases hs
      · cases hs
    · rename_i k sz i j n' sz' i' j' hx
      split at hs
      · rename_i u xs hk
        cases hsz : Nat.beq u.size sz with
        | false => rw [hsz] at hs; cases hs
        | true =>
          rw [hsz] at hs
          simp only [cond_true] at hs
          split at hs
          · rename_i v ys hav
            split at hs
            · rename_i es hes
              split at hs
              · rename_i y2 hy2
                split at hs
                · rename_i ps' hps'
                  split at hs
                  · rename_i z hz
                    simp only [ok, Option.some.injEq, Prod.mk.injEq] at hs
                    obtain ⟨_, rfl⟩ := hs
                    have e2 := Nat.eq_of_beq_eq_true hsz
                    subst e2
                    have hv := h.ev x
                    rw [hx] at hv
                    obtain ⟨_, hi', b, q, n, cp, hb, hi, hl⟩ := SVc.one1 rfl (by simp) hv
                    rcases h.heap k _ hk with ⟨hb', _⟩ | ⟨b', q', cp', cur, e, hb', hh, hc1, hc2, hc3, hr⟩
                    · rw [hb'] at hb; cases hb
                    · have hb0 := hb'
                      rw [hb'] at hb
                      simp only [Value.slice.injEq, Option.some.injEq, Addr.mk.injEq, and_true] at hb
                      obtain ⟨⟨rfl, rfl⟩, rfl, rfl⟩ := hb
                      simp only [List.cons.injEq, and_true] at hl
                      have hr' := hr i (nth u xs i) (nth_some hi)
                      obtain ⟨e9, h6, h7, h5⟩ := arrStore_c hav hes hy2 hps' hi' (explode_c hr') hm
                      subst e9
                      have hz' := rdAll_c hz h5
                      have hel : ((cur.toList.drop (q' + i * u.size)).take u.size).length = u.size := hr'.len
                      rw [hel] at h7
                      generalize hJ : j + (i' * v.size + j') = J at *
                      have hile : (i + 1) * u.size ≤ cp' * u.size := Nat.mul_le_mul_right _ (by omega)
                      rw [Nat.add_mul, Nat.one_mul] at hile
                      have hcur : cur.toList.length = cur.size := by simp
                      refine store_fin hT h ho hl hk (by intro _ e; exact e) (by show blkOf (ρ k) = _; rw [show ρ k = _ from hb']; rfl) hh h6 (by omega) hm1 ?_ hR
                      intro w' hw' hot hle
                      refine .inr ⟨b', q', cp', _, e, ?_, hw', by simpa using hc1, hc2, ?_, ?_⟩
                      · rw [List.length_set]; exact hb0
                      · simp only [List.size_toArray]
                        rw [splice_length (by omega), hcur]; exact hc3
                      · intro i2 x2 hx2
                        have hi2 : i2 < xs.length := by
                          have := (List.getElem?_eq_some_iff.1 hx2).1
                          rwa [List.length_set] at this
                        have hi2le : (i2 + 1) * u.size ≤ cp' * u.size := Nat.mul_le_mul_right _ (by omega)
                        rw [Nat.add_mul, Nat.one_mul] at hi2le
                        show Rd _ _ u (((splice cur.toList (q' + (i * u.size + J)) (a.eval y).cells.toList).drop (q' + i2 * u.size)).take u.size) x2
                        by_cases e3 : i = i2
                        · subst e3
                          rw [List.getElem?_set_self hi] at hx2
                          injection hx2 with hx2
                          subst hx2
                          rw [splice_piece_in (by omega) (by omega) (by omega) (by omega)]
                          rw [show q' + (i * u.size + J) - (q' + i * u.size) = J by omega]
                          have := Rd.mono hle.keep hz'
                          simpa only [splice, h6] using this
                        · rw [List.getElem?_set_ne e3] at hx2
                          rw [splice_piece_out (by omega) (by
                            rcases Nat.lt_or_ge i2 i with hlt | hge
                            · left
                              have : (i2 + 1) * u.size ≤ i * u.size := Nat.mul_le_mul_right _ hlt
                              rw [Nat.add_mul, Nat.one_mul] at this
                              omega
                            · right
                              have : (i + 1) * u.size ≤ i2 * u.size := Nat.mul_le_mul_right _ (by omega)
                              rw [Nat.add_mul, Nat.one_mul] at this
                              omega)]
                          exact Rd.mono hle.keep (hr i2 x2 hx2)
                  · cases hs
                · cases hs
              · cases hs
            · cases hs
          · cases hs
      · cases hs
    · rename_i k off n sz i j n' sz' i' j' hx
      split at hs
      · rename_i ps hk
        split at hs
        · rename_i u xs hau
          split at hs
          · rename_i v ys hav
            split at hs
            · rename_i es hes
              split at hs
              · rename_i y2 hy2
                split at hs
                · rename_i es2 hes2
                  split at hs
                  · rename_i z hz
                    split at hs
                    · rename_i ps' hps
                      simp only [ok, Option.some.injEq, Prod.mk.injEq] at hs
                      obtain ⟨_, rfl⟩ := hs
                      have hv := h.ev x
                      rw [hx] at hv
                      obtain ⟨_, hi, b, hb, hl⟩ := SVc.one1 rfl (by simp) hv
                      obtain ⟨b', e, cs, hb', hh, hp⟩ := h.heap k _ hk
                      have : b' = b := by
                        have : (cx w0 ρ s w).ρ k = .pointer (some ⟨b, 0, none⟩) := hb
                        rw [hb'] at this; injection this with this; injection this with this; injection this
                      subst this
                      simp only [List.cons.injEq, and_true] at hl
                      obtain ⟨_, e0, hr⟩ := arrAt_c hau hp hi.1
                      subst e0
                      obtain ⟨e9, h6, h7, h5⟩ := arrStore_c hav hes hy2 hes2 hi.2 (explode_c hr) hm
                      subst e9
                      have hz' := rdAll_c hz h5
                      have hel := hr.len
                      rw [hel] at h7
                      obtain ⟨g1, g2⟩ := arrPut_c hau hps hi.1 hp hz' (by omega)
                      have hcs : cs.toList.length = cs.size := by simp
                      refine store_fin hT h ho hl hk (by intro _ e; exact e) (by show blkOf (ρ k) = _; rw [show ρ k = _ from hb']; rfl) hh h6 (by omega) hm1 ?_ hR
                      intro w' hw' hot hle
                      exact ⟨b', e, _, hb', hw', by simpa using g2.mono hle⟩
                    · cases hs
                  · cases hs
                · cases hs
              · cases hs
            · cases hs
          · cases hs
        · cases hs
      · cases hs
    · exact storeR_does hT h ho hm hs hp hR
  · cases hs
end
end Go.Sx
