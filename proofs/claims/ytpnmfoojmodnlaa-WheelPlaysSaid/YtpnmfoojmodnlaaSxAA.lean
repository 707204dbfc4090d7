/-
  Sx, part AA: the shape of a type of the program; data without slices: when two of them are equal.
-/
import Derived.Test.YtpnmfoojmodnlaaSxA
import Derived.DeepKeys
namespace Go.Sx

/-- At least so many bytes. -/
def IntKind.low : IntKind → Nat
  | .i64 => 8
  | .u64 => 8
  | .i32 => 4
  | .u32 => 4
  | .i16 => 2
  | .u16 => 2
  | .i8 => 1
  | .u8 => 1
def up (o a : Nat) : Nat := (o + a - 1) / a * a
def Ty.al : Ty → Nat
  | .int k => IntKind.low k
  | .bool => 1
  | .str => 8
  | .sl _ => 8
  | .arr _ t => t.al
  | .pair a b => max a.al b.al
  | .ref _ => 8
  | .err => 8
  | .mp _ _ => 8
/-- Where it ends, if it is laid at o. -/
def Ty.lay : Ty → Nat → Nat
  | .int k, o => up o (IntKind.low k) + IntKind.low k
  | .bool, o => o + 1
  | .str, o => up o 8 + 16
  | .sl _, o => up o 8 + 24
  | .arr n t, o => up o t.al + n * up (t.lay 0) t.al
  | .pair a b, o => b.lay (a.lay o)
  | .ref _, o => up o 8 + 8
  | .err, o => up o 8 + 16
  | .mp _ _, o => up o 8 + 8
def Ty.low (t : Ty) : Nat := up (t.lay 0) t.al

/-- The program's type is of the shape; the struct's fields, from cell o on, are of the shape. -/
def is2 (P : Program) : Ty → (TypeId → Prop) × (List Field → Nat → Prop)
  | .int k => (fun t => P.underlying t = some (.int k), fun _ _ => False)
  | .bool => (fun t => P.underlying t = some .bool, fun _ _ => False)
  | .str => (fun t => P.underlying t = some .string, fun _ _ => False)
  | .sl u => (fun t => ∃ e, P.underlying t = some (.slice e) ∧ P.cellsOf e = u.size ∧ u.low ≤ P.bytesOf e ∧ 0 < u.size ∧ (is2 P u).1 e, fun _ _ => False)
  | .arr n u => (fun t => ∃ e, P.underlying t = some (.array n e) ∧ P.cellsOf e = u.size ∧ P.cellsOf t = n * u.size ∧ (is2 P u).1 e, fun _ _ => False)
  | .pair a b =>
    let F : List Field → Nat → Prop := fun fs o => match fs with
      | [f, g] => f.offset = o ∧ P.cellsOf f.type = a.size ∧ (is2 P a).1 f.type ∧ g.offset = o + a.size ∧ P.cellsOf g.type = b.size ∧ (is2 P b).1 g.type
      | f :: g :: h :: r => f.offset = o ∧ P.cellsOf f.type = a.size ∧ (is2 P a).1 f.type ∧ (is2 P b).2 (g :: h :: r) (o + a.size)
      | _ => False
    (fun t => ∃ fs, P.underlying t = some (.struct fs) ∧ P.cellsOf t = a.size + b.size ∧ F fs.toList 0, F)
  | .ref _ => (fun _ => False, fun _ _ => False)
  | .err => (fun _ => False, fun _ _ => False)
  | .mp _ _ => (fun _ => False, fun _ _ => False)
abbrev tyIs (P : Program) (u : Ty) (t : TypeId) : Prop := (is2 P u).1 t

theorem mapM_some {α β : Type} {f : α → Option β} : ∀ {l : List α} {ys : List β}, l.mapM f = some ys → ys.length = l.length ∧ ∀ (i : Nat) x, l[i]? = some x → ∃ y, ys[i]? = some y ∧ f x = some y
  | [], ys, h => by simp at h; subst h; simp
  | x :: l, ys, h => by
    rw [List.mapM_cons] at h
    cases hx : f x with
    | none => rw [hx] at h; simp at h
    | some y =>
      rw [hx] at h
      cases hr : l.mapM f with
      | none => rw [hr] at h; simp at h
      | some m =>
        rw [hr] at h
        simp at h
        subst h
        obtain ⟨h1, h2⟩ := mapM_some hr
        refine ⟨by simp [h1], fun i z hi => ?_⟩
        cases i with
        | zero => simp at hi; subst hi; exact ⟨y, rfl, hx⟩
        | succ i => simpa using h2 i z (by simpa using hi)

def flatTy : Ty → Bool
  | .sl _ => false
  | .arr _ t => flatTy t
  | .pair a b => flatTy a && flatTy b
  | .ref _ => false
  | .err => false
  | .mp _ _ => false
  | _ => true
/-- Equal? -/
def deq : (t : Ty) → t.D → t.D → Bool
  | .int _, x, y => decide (x = y)
  | .bool, x, y => x == y
  | .str, x, y => decide (x = y)
  | .sl t, x, y => lists (deq t) x y
  | .arr _ t, x, y => lists (deq t) x y
  | .pair a b, x, y => deq a x.1 y.1 && deq b x.2 y.2
  | .ref _, x, y => decide ((x : Int) = y)
  | .err, x, y => x == y
  | .mp _ t, x, y => lists (fun p q => decide (p.1 = q.1) && deq t p.2 q.2) x y
where lists {α : Type} (f : α → α → Bool) : List α → List α → Bool
  | [], [] => true
  | a :: r, b :: q => f a b && lists f r q
  | _, _ => false
theorem deq_lists {α : Type} {f : α → α → Bool} (hf : ∀ a b, f a b = true ↔ a = b) : ∀ {x y : List α}, deq.lists f x y = true ↔ x = y
  | [], [] => by simp [deq.lists]
  | a :: r, b :: q => by simp [deq.lists, hf, deq_lists hf (x := r) (y := q)]
  | [], _ :: _ => by simp [deq.lists]
  | _ :: _, [] => by simp [deq.lists]
theorem deq_iff : ∀ {t : Ty} {x y : t.D}, deq t x y = true ↔ x = y
  | .int _, _, _ => by simp [deq]
  | .bool, _, _ => by simp [deq]
  | .str, _, _ => by simp [deq]
  | .sl t, _, _ => deq_lists (fun _ _ => deq_iff)
  | .arr _ t, _, _ => deq_lists (fun _ _ => deq_iff)
  | .pair a b, x, y => by
    obtain ⟨x1, x2⟩ := x
    obtain ⟨y1, y2⟩ := y
    simp only [deq, Bool.and_eq_true, Prod.mk.injEq]
    exact and_congr deq_iff deq_iff
  | .ref _, _, _ => by simp [deq]
  | .err, _, _ => by simp [deq]
  | .mp _ t, _, _ => deq_lists (fun a b => by
    obtain ⟨a1, a2⟩ := a
    obtain ⟨b1, b2⟩ := b
    simp only [Bool.and_eq_true, Prod.mk.injEq, decide_eq_true_eq]
    exact and_congr Iff.rfl deq_iff)
theorem deq_false {t : Ty} {x y : t.D} : deq t x y = false ↔ x ≠ y := by
  rw [← Bool.not_eq_true, deq_iff]

/-- The cells tell the data, and the data the cells. -/
theorem Rd.fun {S S' : Nat → Prop} {w w' : World} : ∀ {t : Ty} {cs : List Value} {x y : t.D}, flatTy t = true → Rd S w t cs x → Rd S' w' t cs y → x = y
  | .int _, _, _, _, _, h, h' => by
    have h1 := h.1; rw [h'.1] at h1; simpa using h1.symm
  | .bool, _, _, _, _, h, h' => by
    have h1 : _ = _ := h
    rw [show _ = _ from h'] at h1; simpa using h1.symm
  | .str, _, _, _, _, h, h' => by
    have h1 := h.1; rw [h'.1] at h1
    exact (mkStr_inj h'.2 h.2 (by simpa using h1)).symm
  | .sl _, _, _, _, hf, _, _ => by cases hf
  | .ref _, _, _, _, hf, _, _ => by cases hf
  | .err, _, _, _, hf, _, _ => by cases hf
  | .mp _ _, _, _, _, hf, _, _ => by cases hf
  | .pair a b, cs, x, y, hf, h, h' => by
    simp only [flatTy, Bool.and_eq_true] at hf
    obtain ⟨l, m, e, h1, h2⟩ := h
    obtain ⟨l', m', e', h1', h2'⟩ := h'
    have hl : l.length = l'.length := by rw [h1.len, h1'.len]
    obtain ⟨rfl, rfl⟩ := List.append_inj (e.symm.trans e') hl
    have e1 := Rd.fun hf.1 h1 h1'
    have e2 := Rd.fun hf.2 h2 h2'
    cases x; cases y; simp_all
  | .arr n t, cs, xs, ys, hf, h, h' => by
    refine List.ext_getElem? fun i => ?_
    by_cases hi : i < n
    · have h1 : i < xs.length := by rw [h.1]; exact hi
      have h2 : i < ys.length := by rw [h'.1]; exact hi
      have a := h.2.2 i xs[i] (List.getElem?_eq_getElem h1)
      have b := h'.2.2 i ys[i] (List.getElem?_eq_getElem h2)
      rw [List.getElem?_eq_getElem h1, List.getElem?_eq_getElem h2, Rd.fun (t := t) hf a b]
    · rw [List.getElem?_eq_none (by rw [h.1]; omega), List.getElem?_eq_none (by rw [h'.1]; omega)]
theorem Rd.cells {S S' : Nat → Prop} {w w' : World} : ∀ {t : Ty} {cs ds : List Value} {x : t.D}, flatTy t = true → Rd S w t cs x → Rd S' w' t ds x → cs = ds
  | .int _, _, _, _, _, h, h' => by rw [h.1, h'.1]
  | .bool, _, _, _, _, h, h' => by rw [show _ = _ from h, show _ = _ from h']
  | .str, _, _, _, _, h, h' => by rw [h.1, h'.1]
  | .sl _, _, _, _, hf, _, _ => by cases hf
  | .ref _, _, _, _, hf, _, _ => by cases hf
  | .err, _, _, _, hf, _, _ => by cases hf
  | .mp _ _, _, _, _, hf, _, _ => by cases hf
  | .pair a b, _, _, _, hf, h, h' => by
    simp only [flatTy, Bool.and_eq_true] at hf
    obtain ⟨l, m, e, h1, h2⟩ := h
    obtain ⟨l', m', e', h1', h2'⟩ := h'
    rw [e, e', Rd.cells hf.1 h1 h1', Rd.cells hf.2 h2 h2']
  | .arr n t, cs, ds, xs, hf, h, h' => by
    have hl : cs.length = ds.length := by rw [h.2.1, h'.2.1]
    refine List.ext_getElem? fun j => ?_
    by_cases hj : j < cs.length
    · have hp : 0 < t.size := by
        rcases Nat.eq_zero_or_pos t.size with h0 | h0
        · have := h.2.1; rw [h0, Nat.mul_zero] at this; omega
        · exact h0
      have hq : j / t.size < n := by rw [Nat.div_lt_iff_lt_mul hp, ← h.2.1]; exact hj
      have hm : j % t.size < t.size := Nat.mod_lt _ hp
      have hx : j / t.size < xs.length := by rw [h.1]; exact hq
      have a := h.2.2 _ _ (List.getElem?_eq_getElem hx)
      have b := h'.2.2 _ _ (List.getElem?_eq_getElem hx)
      have e := Rd.cells (t := t) hf a b
      have := congrArg (fun l => l[j % t.size]?) e
      simp only [List.getElem?_take, if_pos hm, List.getElem?_drop, Nat.div_add_mod' j t.size] at this
      exact this
    · rw [List.getElem?_eq_none (by omega), List.getElem?_eq_none (by omega)]

/-- Its lits. -/
def Lits (P : Program) (d : Nat) (t : TypeId) (cs : List Value) : Prop := ∃ l, P.keyLits d t cs = some l ∧ l.map Lit.value = cs
def tyDepth : Ty → Nat
  | .arr _ t => tyDepth t + 1
  | .pair a b => max (tyDepth a) (tyDepth b) + 1
  | .sl t => tyDepth t + 1
  | _ => 1
theorem lit_wf {k : IntKind} {n : Int} (h : IR k n) : (Lit.int k n).wf = true := by
  cases k <;> simp only [IR] at h <;> simp [Lit.wf, IntKind.min, IntKind.max, IntKind.bits, IntKind.signed] <;> omega
theorem mapM_mk {α β : Type} {f : α → Option β} : ∀ {l : List α}, (∀ (i : Nat) x, l[i]? = some x → ∃ y, f x = some y) → ∃ ys, l.mapM f = some ys
  | [], _ => ⟨[], by simp⟩
  | x :: l, h => by
    obtain ⟨y, hy⟩ := h 0 x rfl
    obtain ⟨ys, hys⟩ := mapM_mk (l := l) (fun i z hz => h (i + 1) z (by simpa using hz))
    exact ⟨y :: ys, by rw [List.mapM_cons, hy, hys]; rfl⟩
theorem flat_piece {α : Type} (n : Nat) : ∀ (ls : List (List α)) (i : Nat) (l : List α), (∀ x ∈ ls, x.length = n) → ls[i]? = some l → (ls.flatten.drop (i * n)).take n = l
  | [], i, l, _, h => by simp at h
  | x :: ls, 0, l, hn, h => by
    have hx : x.length = n := hn x (by simp)
    simp at h; subst h
    simp [List.flatten_cons, ← hx]
  | x :: ls, i + 1, l, hn, h => by
    have hx : x.length = n := hn x (by simp)
    have ih := flat_piece n ls i l (fun y hy => hn y (by simp [hy])) (by simpa using h)
    rw [List.flatten_cons, Nat.add_mul, Nat.one_mul, Nat.add_comm, ← List.drop_drop]
    rw [show (x ++ ls.flatten).drop n = ls.flatten by rw [← hx]; simp]
    exact ih
section
variable {P : Program} {S : Nat → Prop} {w : World}
abbrev LA (P : Program) (S : Nat → Prop) (w : World) (u : Ty) : Prop :=
  ∀ (m : Nat) (t : TypeId), (is2 P u).1 t → P.keyTypeAt m t = true → ∀ (cs : List Value) (x : u.D), Rd S w u cs x → ∀ d, tyDepth u ≤ d → Lits P d t cs
abbrev LB (P : Program) (S : Nat → Prop) (w : World) (u : Ty) : Prop :=
  ∀ (m : Nat) (fs : List Field) (o : Nat), (is2 P u).2 fs o → (∀ f ∈ fs, P.keyTypeAt m f.type = true) → ∀ (cs : List Value) (x : u.D), Rd S w u (cs.drop o) x → cs.length = o + u.size → ∀ d, tyDepth u ≤ d + 1 →
      ∃ ls, fs.mapM (fun f => P.keyLits d f.type ((cs.drop f.offset).take (P.cellsOf f.type))) = some ls ∧ ls.flatten.map Lit.value = cs.drop o
theorem lits_leaf {u : Ty} (h : LA P S w u) (hn : ∀ fs o, ¬ (is2 P u).2 fs o) : LA P S w u ∧ LB P S w u := ⟨h, fun _ fs o h => absurd h (hn fs o)⟩
theorem lits_all : ∀ (u : Ty), flatTy u = true → LA P S w u ∧ LB P S w u
  | .int k, _ => lits_leaf (fun m t ht hk cs x hx d hd => by
      obtain ⟨rfl, hr⟩ := hx
      cases d with
      | zero => simp [tyDepth] at hd
      | succ d => exact ⟨[.int k x], by unfold Program.keyLits; rw [show P.underlying t = some (.int k) from ht]; simp [lit_wf hr], rfl⟩) (fun _ _ h => h)
  | .bool, _ => lits_leaf (fun m t ht hk cs x hx d hd => by
      cases show cs = [.bool x] from hx
      cases d with
      | zero => simp [tyDepth] at hd
      | succ d => exact ⟨[.bool x], by unfold Program.keyLits; rw [show P.underlying t = some .bool from ht], rfl⟩) (fun _ _ h => h)
  | .str, _ => lits_leaf (fun m t ht hk cs x hx d hd => by
      obtain ⟨rfl, hr⟩ := hx
      cases d with
      | zero => simp [tyDepth] at hd
      | succ d =>
        have hs : (mkStr x).size ≤ maxLen := by rw [mkStr_size]; simp only [maxLen]; exact hr.1
        exact ⟨[.string (mkStr x).data.toList], by unfold Program.keyLits; rw [show P.underlying t = some .string from ht]; simp [hs], by simp [Lit.value_string_data]⟩) (fun _ _ h => h)
  | .sl _, hf => by cases hf
  | .ref _, hf => by cases hf
  | .err, hf => by cases hf
  | .mp _ _, hf => by cases hf
  | .arr n u, hf => lits_leaf (fun m t ht hk cs x hx d hd => by
      obtain ⟨e, h1, h2, h3, h4⟩ := ht
      cases m with
      | zero => simp [Program.keyTypeAt] at hk
      | succ m =>
        unfold Program.keyTypeAt at hk
        rw [h1] at hk
        cases d with
        | zero => simp [tyDepth] at hd
        | succ d =>
          simp only [tyDepth] at hd
          obtain ⟨hxl, hcl, hx⟩ := hx
          have key : ∀ j, j < n → Lits P d e ((cs.drop (j * u.size)).take u.size) := fun j hj => by
            have hj' : j < x.length := by rw [hxl]; exact hj
            exact (lits_all u hf).1 m e h4 hk _ _ (hx j x[j] (List.getElem?_eq_getElem hj')) d (by omega)
          obtain ⟨ls, hls⟩ := mapM_mk (f := fun i => P.keyLits d e ((cs.drop (i * P.cellsOf e)).take (P.cellsOf e))) (l := List.range n) (fun i j hj => by
            have hlt := (List.getElem?_eq_some_iff.1 hj).1
            simp only [List.length_range] at hlt
            have : i = j := by simpa [hlt] using hj
            subst this
            obtain ⟨l, hl, _⟩ := key i hlt
            exact ⟨l, by rw [h2]; exact hl⟩)
          refine ⟨ls.flatten, ?_, ?_⟩
          · unfold Program.keyLits
            rw [h1]
            simp only [hcl, h3, if_true, hls, Option.map_some]
          · obtain ⟨g1, g2⟩ := mapM_some hls
            simp only [List.length_range] at g1
            have : ls.flatten.map Lit.value = (ls.map (List.map Lit.value)).flatten := by rw [List.map_flatten]
            rw [this]
            have hpc : ∀ l ∈ ls.map (List.map Lit.value), l.length = u.size := fun l hl => by
              obtain ⟨l', hl', rfl⟩ := List.mem_map.1 hl
              obtain ⟨i, hi⟩ := List.mem_iff_getElem?.1 hl'
              have hlt : i < n := by rw [← g1]; exact (List.getElem?_eq_some_iff.1 hi).1
              obtain ⟨y, hy, hk'⟩ := g2 i i (by simp [hlt])
              rw [hi] at hy; cases hy
              obtain ⟨l2, hl2, hv⟩ := key i hlt
              rw [h2, hl2] at hk'; cases hk'
              rw [hv, List.length_take, List.length_drop, hcl]
              have : (i + 1) * u.size ≤ n * u.size := Nat.mul_le_mul_right _ hlt
              rw [Nat.add_mul] at this
              omega
            have hlen : (ls.map (List.map Lit.value)).flatten.length = n * u.size := by
              have : ∀ (L : List (List Value)), (∀ l ∈ L, l.length = u.size) → L.flatten.length = L.length * u.size := by
                intro L
                induction L with
                | nil => simp
                | cons a L ih =>
                  intro h
                  rw [List.flatten_cons, List.length_append, ih (fun l hl => h l (by simp [hl])), h a (by simp), List.length_cons, Nat.add_mul]
                  omega
              rw [this _ hpc, List.length_map, g1]
            refine List.ext_getElem? fun j => ?_
            by_cases hj : j < cs.length
            · have hp : 0 < u.size := by
                rcases Nat.eq_zero_or_pos u.size with h0 | h0
                · rw [hcl, h0] at hj; simp at hj
                · exact h0
              have hq : j / u.size < n := by rw [Nat.div_lt_iff_lt_mul hp, ← hcl]; exact hj
              have hm : j % u.size < u.size := Nat.mod_lt _ hp
              obtain ⟨l2, hl2, hv⟩ := key _ hq
              obtain ⟨y, hy, hk'⟩ := g2 (j / u.size) (j / u.size) (by simp [hq])
              rw [h2, hl2] at hk'; cases hk'
              have hfp := flat_piece u.size (ls.map (List.map Lit.value)) (j / u.size) (l2.map Lit.value) hpc (by rw [List.getElem?_map, hy]; rfl)
              have e1 := congrArg (fun l => l[j % u.size]?) (hfp.trans hv)
              simp only [List.getElem?_take, if_pos hm, List.getElem?_drop, Nat.div_add_mod' j u.size] at e1
              exact e1
            · rw [List.getElem?_eq_none (by rw [hlen, ← hcl]; omega), List.getElem?_eq_none (by omega)]) (fun _ _ h => h)
  | .pair a b, hf => by
    simp only [flatTy, Bool.and_eq_true] at hf
    have ha := lits_all a hf.1
    have hb := lits_all b hf.2
    have F : LB P S w (.pair a b) := by
      intro m fs o h hk cs x hx hl d hd
      obtain ⟨l1, l2, e, r1, r2⟩ := hx
      have n1 := r1.len
      have n2 := r2.len
      simp only [tyDepth] at hd
      simp only [Ty.size] at hl
      have c1 : (cs.drop o).take a.size = l1 := by rw [e, List.take_left' n1]
      have c2 : cs.drop (o + a.size) = l2 := by rw [← List.drop_drop, e, List.drop_left' n1]
      match fs, h with
      | [f, g], h =>
        obtain ⟨h1, h2, h3, h4, h5, h6⟩ := h
        obtain ⟨la, e1, v1⟩ := ha.1 m _ h3 (hk f (by simp)) l1 _ r1 d (by omega)
        obtain ⟨lb, e2, v2⟩ := hb.1 m _ h6 (hk g (by simp)) l2 _ r2 d (by omega)
        have c3 : (cs.drop (o + a.size)).take b.size = l2 := by rw [c2, List.take_of_length_le (by omega)]
        refine ⟨[la, lb], ?_, ?_⟩
        · simp only [List.mapM_cons, List.mapM_nil, h1, h2, h4, h5, c1, c3, e1, e2]
          rfl
        · rw [e]; simp [v1, v2]
      | f :: g :: k :: r, h =>
        obtain ⟨h1, h2, h3, h4⟩ := h
        obtain ⟨la, e1, v1⟩ := ha.1 m _ h3 (hk f (by simp)) l1 _ r1 d (by omega)
        obtain ⟨ls, e2, v2⟩ := hb.2 m _ _ h4 (fun f hf => hk f (by simp [hf])) cs x.2 (by rw [c2]; exact r2) (by omega) d (by omega)
        refine ⟨la :: ls, ?_, ?_⟩
        · rw [List.mapM_cons, h1, h2, c1, e1, e2]; rfl
        · rw [e, List.flatten_cons, List.map_append, v1, v2, c2]
      | [], h => exact h.elim
      | [_], h => exact h.elim
    refine ⟨fun m t ht hk cs x hx d hd => ?_, F⟩
    obtain ⟨fs, h1, h2, h3⟩ := ht
    have hlen := hx.len
    cases m with
    | zero => simp [Program.keyTypeAt] at hk
    | succ m =>
      unfold Program.keyTypeAt at hk
      rw [h1] at hk
      simp only [Bool.and_eq_true, Array.all_eq_true_iff_forall_mem] at hk
      cases d with
      | zero => simp [tyDepth] at hd
      | succ d =>
        have hk' : ∀ f ∈ fs.toList, P.keyTypeAt m f.type = true := fun f hf => by
          have := hk.1.1 f (Array.mem_toList_iff.1 hf)
          exact this.2
        obtain ⟨ls, e1, e2⟩ := F m fs.toList 0 h3 hk' cs x (by simpa using hx) (by rw [hlen]; simp [Ty.size]) d hd
        refine ⟨ls.flatten, ?_, by simpa using e2⟩
        unfold Program.keyLits
        rw [h1]
        have hnm : fs.all (·.name != "_") = true := Array.all_eq_true_iff_forall_mem.2 fun f hf => (hk.1.1 f hf).1
        have hcl : cs.length = P.cellsOf t := by rw [hlen, h2]; rfl
        simp only [hcl, hnm, and_self, if_true, e1, Option.map_some]

/-- Two data of a type without slices are equal where Go says so. -/
theorem equal_run {u : Ty} {t : TypeId} {m : Nat} (hu : tyIs P u t) (hf : flatTy u = true) (hk : P.keyTypeAt m t = true) (hm : m ≤ 10000) (hg : u.agg = true) {cs ds : Array Value} {x y : u.D}
    (hx : Rd S w u cs.toList x) (hy : Rd S w u ds.toList y) : (Op.equal t (.agg cs) (.agg ds)).run P w = .ok (deq u x y) w := by
  obtain ⟨l1, e1, v1⟩ := (lits_all u hf).1 m t hu hk _ x hx (tyDepth u) (Nat.le_refl _)
  obtain ⟨l2, e2, v2⟩ := (lits_all u hf).1 m t hu hk _ y hy (tyDepth u) (Nat.le_refl _)
  have form : ∀ (cs : Array Value) (x : u.D), Rd S w u cs.toList x → (Value.agg cs).formed P t = true := by
    intro cs x hx
    have hl := hx.len
    simp only [Array.length_toList] at hl
    cases u with
    | arr n u => obtain ⟨e, h1, h2, h3, h4⟩ := hu; simp only [Value.formed, h1, hl, h3, Ty.size, beq_self_eq_true]
    | pair a b => obtain ⟨e, h1, h2, h3⟩ := hu; simp only [Value.formed, h1, hl, h2, Ty.size, beq_self_eq_true]
    | _ => cases hg
  obtain ⟨r, hr, hiff⟩ := run_equalIn_deep (10000 - m) m t hk w _ _ (.agg cs) (.agg ds) l1 l2 (form cs x hx) (form ds y hy) e1 e2
  have e3 : r = deq u x y := by
    rw [Bool.eq_iff_iff, hiff, deq_iff]
    constructor
    · intro e
      have : cs.toList = ds.toList := by rw [← v1, ← v2, e]
      exact Rd.fun hf hx (this ▸ hy)
    · intro e
      subst e
      have : cs.toList = ds.toList := Rd.cells hf hx hy
      rw [this, e2] at e1
      exact (Option.some.inj e1).symm
  rw [← e3]
  unfold Op.equal
  rw [show Op.maxDepth = 10000 - m + m by show 10000 = _; omega]
  exact hr
end
end Go.Sx
