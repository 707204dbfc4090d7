/-
  Sx, part V: what is handed in reads as data.
-/
import Derived.Test.YtpnmfoojmodnlaaSxR
import Derived.ProofKit
import Derived.SizedLaws
import Derived.Deep.Slices
namespace Go.Sx
open Go.RowKit

/-- The numbers of data fit their kinds. -/
def Good : (u : Ty) → u.D → Prop
  | .int k, n => IR k n
  | .bool, _ => True
  | .str, s => s.length ≤ 9223372036854775807
  | .sl u, xs => ∀ x ∈ xs, Good u x
  | .arr _ u, xs => ∀ x ∈ xs, Good u x
  | .pair a b, x => Good a x.1 ∧ Good b x.2
  | .ref _, _ => True
  | .err, _ => True
  | .mp _ _, _ => True
/-- No slice of the data is longer than the memory reaches. -/
def Fit : (u : Ty) → u.D → Prop
  | .int _, _ => True
  | .bool, _ => True
  | .str, s => s.length ≤ 140737488351232
  | .sl u, xs => xs.length * u.low ≤ 140737488351232 ∧ ∀ x ∈ xs, Fit u x
  | .arr _ u, xs => ∀ x ∈ xs, Fit u x
  | .pair a b, x => Fit a x.1 ∧ Fit b x.2
  | .ref _, _ => True
  | .err, _ => True
  | .mp _ _, _ => True

section
variable {H : Type} {enc : TypeId × Value → H} {P : Program} {w : World} {sp : Nat → Bool}

theorem ir_of_wf {k : IntKind} {n : Int} (h : (Lit.int k n).wf = true) : IR k n := by
  simp only [Lit.wf, Bool.and_eq_true, decide_eq_true_eq] at h
  cases k <;> simp only [IntKind.min, IntKind.max, IntKind.bits, IntKind.signed] at h <;> simp at h <;> simp only [IR] <;> omega

theorem cells_get {a : Addr} {n : Nat} {l : List Value} (h : w.cells? 0 a n = some l) : l.length = n ∧ ∀ (j : Nat) v, l[j]? = some v → w.cell? (a.add j) = some v := by
  unfold World.cells? at h
  simp only [Nat.zero_le, if_true] at h
  have key : ∀ (r : List Nat) (l : List Value), r.mapM (fun i => w.cell? (a.add i)) = some l → l.length = r.length ∧ ∀ (j : Nat) v, l[j]? = some v → ∃ i, r[j]? = some i ∧ w.cell? (a.add i) = some v := by
    intro r
    induction r with
    | nil => intro l h; simp at h; subst h; simp
    | cons x r ih =>
      intro l h
      rw [List.mapM_cons] at h
      cases hx : w.cell? (a.add x) with
      | none => rw [hx] at h; simp at h
      | some v =>
        rw [hx] at h
        cases hr : r.mapM (fun i => w.cell? (a.add i)) with
        | none => rw [hr] at h; simp at h
        | some m =>
          rw [hr] at h
          simp at h
          subst h
          obtain ⟨h1, h2⟩ := ih m hr
          refine ⟨by simp [h1], fun j u hj => ?_⟩
          cases j with
          | zero => simp at hj; subst hj; exact ⟨x, rfl, hx⟩
          | succ j => simpa using h2 j u (by simpa using hj)
  obtain ⟨h1, h2⟩ := key _ _ h
  refine ⟨by simpa using h1, fun j v hj => ?_⟩
  obtain ⟨i, hi, hc⟩ := h2 j v hj
  have : i = j := by
    rw [List.getElem?_range] at hi
    · simpa using hi.symm
    · have : j < l.length := (List.getElem?_eq_some_iff.1 hj).1
      simpa [h1] using this
  rw [← this]; exact hc

theorem list_choice {α : Type} {Q : Nat → α → Prop} : ∀ (n : Nat), (∀ i, i < n → ∃ x, Q i x) → ∃ xs : List α, xs.length = n ∧ ∀ (i : Nat) x, xs[i]? = some x → Q i x
  | 0, _ => ⟨[], rfl, by simp⟩
  | n + 1, h => by
    obtain ⟨xs, h1, h2⟩ := list_choice n (fun i hi => h i (by omega))
    obtain ⟨x, hx⟩ := h n (by omega)
    refine ⟨xs ++ [x], by simp [h1], fun i y hy => ?_⟩
    by_cases hi : i < n
    · rw [List.getElem?_append_left (by omega)] at hy; exact h2 i y hy
    · have hlt := (List.getElem?_eq_some_iff.1 hy).1
      simp [h1] at hlt
      have : i = n := by omega
      subst this
      rw [List.getElem?_append_right (by omega)] at hy
      simp [h1] at hy
      subst hy; exact hx

theorem weightsAll_mem {e : TypeId} {c : Nat} : ∀ {l : List (DataW H)}, (DataW.weightsAll P e l).all (fun n => decide (n ≤ c)) = true → ∀ d ∈ l, (DataW.weights P e d).all (fun n => decide (n ≤ c)) = true
  | [], _, _, h => by cases h
  | x :: l, h, d, hd => by
    rw [DataW.weightsAll, List.all_append, Bool.and_eq_true] at h
    rcases List.mem_cons.1 hd with rfl | hd
    · exact h.1
    · exact weightsAll_mem h.2 d hd

theorem weightsEach_cons {t : TypeId} {ts : List TypeId} {d : DataW H} {ds : List (DataW H)} {c : Nat} (h : (DataW.weightsEach P (t :: ts) (d :: ds)).all (fun n => decide (n ≤ c)) = true) :
    (DataW.weights P t d).all (fun n => decide (n ≤ c)) = true ∧ (DataW.weightsEach P ts ds).all (fun n => decide (n ≤ c)) = true := by
  rw [DataW.weightsEach, List.all_append, Bool.and_eq_true] at h
  exact h

/-- Cells that are trodden as data of a type read as data of its shape. -/
def Reads (enc : TypeId × Value → H) (P : Program) (w : World) (sp : Nat → Bool) (u : Ty) : Prop :=
  (∀ (t : TypeId), (is2 P u).1 t → ∀ (fuel : Nat) (cs : List Value) (d : DataW H) (ps : List MemPlace), DataW.trod enc P w 0 sp true fuel t cs = some (d, ps) →
    ∃ x : u.D, Rd (fun b => b < w.heap.size) w u cs x ∧ Good u x ∧ ((DataW.weights P t d).all (fun n => decide (n ≤ reachBytes)) = true → Fit u x)) ∧
  (∀ (fs : List Field) (o : Nat), (is2 P u).2 fs o → ∀ (n : Nat) (cs : List Value) (xs : List (DataW H × List MemPlace)), cs.length = o + u.size → xs.length = fs.length →
    (∀ (i : Nat) (f : Field), fs[i]? = some f → DataW.trod enc P w 0 sp true n f.type ((cs.drop f.offset).take (P.cellsOf f.type)) = xs[i]?) →
    ∃ x : u.D, Rd (fun b => b < w.heap.size) w u (cs.drop o) x ∧ Good u x ∧ ((DataW.weightsEach P (fs.map (·.type)) (xs.map (·.1))).all (fun n => decide (n ≤ reachBytes)) = true → Fit u x))

theorem reads_int {k : IntKind} : Reads enc P w sp (.int k) := by
  refine ⟨fun t ht fuel cs d ps h => ?_, fun fs o h => h.elim⟩
  obtain ⟨n, rfl, _, hw⟩ := DataW.trod_int (show P.underlying t = some (.int k) from ht) h
  exact ⟨n, ⟨rfl, ir_of_wf hw⟩, ir_of_wf hw, fun _ => trivial⟩
theorem reads_bool : Reads enc P w sp .bool := by
  refine ⟨fun t ht fuel cs d ps h => ?_, fun fs o h => h.elim⟩
  obtain ⟨b, rfl, _⟩ := DataW.trod_bool (show P.underlying t = some .bool from ht) h
  exact ⟨b, rfl, trivial, fun _ => trivial⟩
theorem reads_str : Reads enc P w sp .str := by
  refine ⟨fun t ht fuel cs d ps h => ?_, fun fs o h => h.elim⟩
  obtain ⟨s, rfl, e, hs⟩ := DataW.trod_string (show P.underlying t = some .string from ht) h
  cases e
  have hs' : s.size ≤ 9223372036854775807 := by simp only [maxLen] at hs; omega
  refine ⟨ofStr s, str_self s hs', by show (ofStr s).length ≤ _; rw [ofStr_length]; exact hs', fun hw => ?_⟩
  rw [DataW.weights] at hw
  simp only [List.all_cons, List.all_nil, Bool.and_true, decide_eq_true_eq] at hw
  have this := hw
  show (ofStr s).length ≤ 140737488351232
  rw [ofStr_length]
  have e : s.data.toList.length = s.size := rfl
  rw [e] at this
  have hr : reachBytes = 140737488351232 := rfl
  omega
theorem reads_sl {u : Ty} (ih : Reads enc P w sp u) : Reads enc P w sp (.sl u) := by
  refine ⟨fun t ht fuel cs d ps h => ?_, fun fs o h => h.elim⟩
  obtain ⟨e, h1, h2, h3, h4, h5⟩ := ht
  rcases Go.Deep.open_slice h1 h with ⟨rfl, he⟩ | ⟨a, len, cap, m, n, D, Pl, rfl, hb, hl, hm, hmm, he, hx⟩
  · cases he
    exact ⟨([] : List u.D), ⟨none, 0, rfl, Nat.le_refl _, Nat.zero_le _, fun h => absurd h (by simp)⟩, (fun x hx => by cases hx), fun _ => ⟨by simp, (fun x hx => by cases hx)⟩⟩
  · cases he
    have hlm : len ≤ m := by rw [hmm]; split <;> omega
    obtain ⟨xs, hxl, hxs⟩ := list_choice (α := u.D) (Q := fun i x => ∃ cs', w.cells? 0 (a.add (i * P.cellsOf e)) (P.cellsOf e) = some cs' ∧ Rd (fun b => b < w.heap.size) w u cs' x ∧ Good u x ∧ ((DataW.weights P e (D i)).all (fun n => decide (n ≤ reachBytes)) = true → Fit u x)) len (fun i hi => by
      obtain ⟨cs', c1, c2⟩ := hx i (by omega)
      obtain ⟨x, r1, r2, r3⟩ := ih.1 e h5 n cs' (D i) (Pl i) c2
      exact ⟨x, cs', c1, r1, r2, r3⟩)
    refine ⟨xs, ⟨some a, cap, by rw [hxl], by omega, hm, fun hp => ?_⟩, fun x hx' => ?_, fun hw => ?_⟩
    · have hsp : a.spot = none ∧ a.block < w.heap.size := by
        obtain ⟨cs', c1, r1, _⟩ := hxs 0 xs[0] (List.getElem?_eq_getElem hp)
        have hl1 := r1.len
        obtain ⟨g1, g2⟩ := cells_get c1
        have hlt : 0 < cs'.length := by rw [hl1]; exact h4
        have := g2 0 cs'[0] (List.getElem?_eq_getElem hlt)
        simp only [Nat.zero_mul] at this
        unfold World.cell? at this
        split at this
        · rename_i c t' fr hh
          split at this
          · cases this
          · rename_i hsp
            have hb' : ((a.add 0).add 0).block = a.block := by simp [Addr.add]
            have hs' : ((a.add 0).add 0).spot = a.spot := by simp [Addr.add]
            rw [hb'] at hh
            rw [hs'] at hsp
            exact ⟨by simpa using hsp, (Array.getElem?_eq_some_iff.1 hh).1⟩
        · cases this
      refine ⟨a.block, a.off, by cases a; simp at hsp ⊢; exact hsp.1, hsp.2, fun i x hi => ?_⟩
      obtain ⟨cs', c1, r1, _⟩ := hxs i x hi
      obtain ⟨g1, g2⟩ := cells_get c1
      refine ⟨cs', fun j v hj => ?_, r1⟩
      have := g2 j v hj
      rw [Go.Deep.add_add, h2] at this
      have e2 : a.add (i * u.size + j) = ⟨a.block, a.off + (i * u.size + j), none⟩ := by
        unfold Addr.add
        split
        · rename_i h0
          have h0 : i * u.size + j = 0 := h0
          rw [h0]
          have hs := hsp.1
          clear hx hxs c1 g2 h hmm this hj hb hsp
          cases a; simp at hs ⊢; exact hs
        · simp
      rw [e2] at this
      exact this
    · obtain ⟨i, hi⟩ := List.mem_iff_getElem?.1 hx'
      obtain ⟨cs', _, _, r2, _⟩ := hxs i x hi
      exact r2
    · rw [DataW.weights, h1] at hw
      simp only [List.all_cons, List.all_append, Bool.and_eq_true, decide_eq_true_eq, List.length_map, List.length_range] at hw
      refine ⟨?_, fun x hx' => ?_⟩
      · have : len * u.low ≤ (len + (m - len)) * P.bytesOf e := Nat.mul_le_mul (by omega) h3
        have hr : reachBytes = 140737488351232 := rfl
        rw [hxl]
        omega
      · obtain ⟨i, hi⟩ := List.mem_iff_getElem?.1 hx'
        obtain ⟨cs', _, _, _, r3⟩ := hxs i x hi
        refine r3 (weightsAll_mem hw.2.1 (D i) ?_)
        have : i < len := by rw [← hxl]; exact (List.getElem?_eq_some_iff.1 hi).1
        simp only [List.mem_map, List.mem_range]
        exact ⟨i, this, rfl⟩
theorem reads_arr {n : Nat} {u : Ty} (ih : Reads enc P w sp u) : Reads enc P w sp (.arr n u) := by
  refine ⟨fun t ht fuel cs d ps h => ?_, fun fs o h => h.elim⟩
  obtain ⟨e, h1, h2, h3, h5⟩ := ht
  cases fuel with
  | zero => simp [DataW.trod] at h
  | succ m =>
    unfold DataW.trod at h
    rw [h1] at h
    simp only [] at h
    split at h
    · rename_i hl
      cases hm : (List.range n).mapM (fun i => DataW.trod enc P w 0 sp true m e ((cs.drop (i * P.cellsOf e)).take (P.cellsOf e))) with
      | none => rw [hm] at h; simp at h
      | some xs =>
        rw [hm] at h
        simp only [Option.map_some, Option.some.injEq, Prod.mk.injEq] at h
        obtain ⟨rfl, rfl⟩ := h
        obtain ⟨g1, g2⟩ := mapM_some hm
        simp only [List.length_range] at g1
        obtain ⟨ys, hyl, hys⟩ := list_choice (α := u.D) (Q := fun i x => Rd (fun b => b < w.heap.size) w u ((cs.drop (i * u.size)).take u.size) x ∧ Good u x ∧ (∀ y, xs[i]? = some y → (DataW.weights P e y.1).all (fun n => decide (n ≤ reachBytes)) = true → Fit u x)) n (fun i hi => by
          obtain ⟨y, hy, ht⟩ := g2 i i (by simp [hi])
          rw [h2] at ht
          obtain ⟨x, r1, r2, r3⟩ := ih.1 e h5 m _ y.1 y.2 ht
          refine ⟨x, r1, r2, fun y' hy' => ?_⟩
          rw [hy] at hy'; cases hy'; exact r3)
        refine ⟨ys, ⟨hyl, by rw [hl, h3], fun i x hi => (hys i x hi).1⟩, fun x hx => ?_, fun hw x hx => ?_⟩
        · obtain ⟨i, hi⟩ := List.mem_iff_getElem?.1 hx
          exact (hys i x hi).2.1
        · obtain ⟨i, hi⟩ := List.mem_iff_getElem?.1 hx
          have hlt : i < xs.length := by rw [g1, ← hyl]; exact (List.getElem?_eq_some_iff.1 hi).1
          rw [DataW.weights, h1] at hw
          exact (hys i x hi).2.2 xs[i] (List.getElem?_eq_getElem hlt) (weightsAll_mem hw _ (List.mem_map_of_mem (List.getElem_mem hlt)))
    · cases h
theorem reads_pair {a b : Ty} (iha : Reads enc P w sp a) (ihb : Reads enc P w sp b) : Reads enc P w sp (.pair a b) := by
  have F : ∀ (fs : List Field) (o : Nat), (is2 P (.pair a b)).2 fs o → ∀ (n : Nat) (cs : List Value) (xs : List (DataW H × List MemPlace)), cs.length = o + (a.size + b.size) → xs.length = fs.length →
    (∀ (i : Nat) (f : Field), fs[i]? = some f → DataW.trod enc P w 0 sp true n f.type ((cs.drop f.offset).take (P.cellsOf f.type)) = xs[i]?) →
    ∃ x : a.D × b.D, Rd (fun b => b < w.heap.size) w (.pair a b) (cs.drop o) x ∧ Good (.pair a b) x ∧ ((DataW.weightsEach P (fs.map (·.type)) (xs.map (·.1))).all (fun n => decide (n ≤ reachBytes)) = true → Fit (.pair a b) x) := by
    intro fs o h n cs xs hl hxl hx
    match fs, h, xs, hxl with
    | [f, g], h, [y, z], _ =>
      obtain ⟨h1, h2, h3, h4, h5, h6⟩ := h
      have ty := hx 0 f rfl
      have tz := hx 1 g rfl
      rw [h1, h2] at ty
      rw [h4, h5] at tz
      obtain ⟨x, r1, r2, r3⟩ := iha.1 _ h3 n _ y.1 y.2 ty
      obtain ⟨x', q1, q2, q3⟩ := ihb.1 _ h6 n _ z.1 z.2 tz
      refine ⟨(x, x'), ⟨_, _, ?_, r1, q1⟩, ⟨r2, q2⟩, fun hw => ?_⟩
      · rw [List.take_of_length_le (l := cs.drop (o + a.size)) (by rw [List.length_drop]; omega), ← List.drop_drop, List.take_append_drop]
      · obtain ⟨w1, w2⟩ := weightsEach_cons hw
        exact ⟨r3 w1, q3 (weightsEach_cons w2).1⟩
    | f :: g :: k :: r, h, y :: xs, hxl =>
      obtain ⟨h1, h2, h3, h4⟩ := h
      have ty := hx 0 f rfl
      rw [h1, h2] at ty
      obtain ⟨x, r1, r2, r3⟩ := iha.1 _ h3 n _ y.1 y.2 ty
      obtain ⟨x', q1, q2, q3⟩ := ihb.2 _ _ h4 n cs xs (by omega) (by simpa using hxl) (fun i f' hi => hx (i + 1) f' (by simpa using hi))
      refine ⟨(x, x'), ⟨_, _, ?_, r1, q1⟩, ⟨r2, q2⟩, fun hw => ?_⟩
      · rw [← List.drop_drop, List.take_append_drop]
      · obtain ⟨w1, w2⟩ := weightsEach_cons hw
        exact ⟨r3 w1, q3 w2⟩
    | [], h, _, _ => exact h.elim
    | [_], h, _, _ => exact h.elim
  refine ⟨fun t ht fuel cs d ps h => ?_, F⟩
  obtain ⟨fs, h1, h2, h3⟩ := ht
  obtain ⟨xs, n, rfl, e, hl, hxl, hx⟩ := DataW.trod_struct h1 h
  cases e
  obtain ⟨x, r1, r2, r3⟩ := F fs.toList 0 h3 n cs xs (by rw [hl, h2]; omega) (by simpa using hxl) (fun i f hi => hx i f (by simpa using hi))
  refine ⟨x, by simpa using r1, r2, fun hw => r3 ?_⟩
  rw [DataW.weights, h1] at hw
  exact hw
theorem reads : ∀ (u : Ty), Reads enc P w sp u
  | .int _ => reads_int
  | .bool => reads_bool
  | .str => reads_str
  | .sl u => reads_sl (reads u)
  | .arr _ u => reads_arr (reads u)
  | .pair a b => reads_pair (reads a) (reads b)
  | .ref _ => ⟨fun _ ht => ht.elim, fun _ _ h => h.elim⟩
  | .err => ⟨fun _ ht => ht.elim, fun _ _ h => h.elim⟩
  | .mp _ _ => ⟨fun _ ht => ht.elim, fun _ _ h => h.elim⟩
end
end Go.Sx
