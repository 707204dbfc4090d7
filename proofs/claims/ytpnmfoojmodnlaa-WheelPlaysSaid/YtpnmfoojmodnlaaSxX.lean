/-
  Sx, part X: from a function's contract to a row that says: it returns true, and its arguments read as before.
-/
import Derived.Test.YtpnmfoojmodnlaaSxV
import Derived.Carry
namespace Go.Sx
open Go.RowKit Go.WideShapes Go.ChangeShapes

def tysAre (P : Program) : List Ty → List TypeId → Prop
  | [], [] => True
  | u :: us, t :: ts => tyIs P u t ∧ tysAre P us ts
  | _, _ => False
def GoodL : (us : List Ty) → HL us → Prop
  | [], _ => True
  | u :: us, x => Good u x.1 ∧ GoodL us x.2
def FitL : (us : List Ty) → HL us → Prop
  | [], _ => True
  | u :: us, x => Fit u x.1 ∧ FitL us x.2

section
variable {H : Type} {enc : TypeId × Value → H} {P : Program} {w : World}

/-- One argument reads as data. -/
theorem open_one {u : Ty} {t : TypeId} {v : Value} {d : DataW H} {ps : List MemPlace} {base : Nat} (hu : tyIs P u t) (h : DataW.Trod enc P w 0 (fun _ => true) true t v d ps)
    (hv : Value.okWide P w .any base t v) (hw : (DataW.weights P t d).all (fun n => decide (n ≤ reachBytes)) = true) :
    ∃ x : u.D, RdV (fun b => b < w.heap.size) w u v x ∧ Good u x ∧ Fit u x := by
  obtain ⟨fuel, h⟩ := h
  obtain ⟨x, r1, r2, r3⟩ := (reads (enc := enc) (P := P) (w := w) (sp := fun _ => true) u).1 t hu fuel v.cells.toList d ps h
  refine ⟨x, ?_, r2, r3 hw⟩
  have ha : ∀ (A : Prop), (∃ cs, v = .agg cs ∧ cs.size = P.cellsOf t ∧ A) → ∃ cs, v = .agg cs ∧ Rd (fun b => b < w.heap.size) w u cs.toList x := fun A ⟨cs, e, _⟩ => ⟨cs, e, by subst e; exact r1⟩
  unfold RdV
  cases u with
  | int k => obtain ⟨n, rfl⟩ := okWide_int (show P.underlying t = some (.int k) from hu) hv; exact r1
  | bool => obtain ⟨n, rfl⟩ := okWide_bool (show P.underlying t = some .bool from hu) hv; exact r1
  | str => obtain ⟨n, rfl⟩ := okWide_string (show P.underlying t = some .string from hu) hv; exact r1
  | sl u =>
    obtain ⟨e, he, _⟩ := hu
    obtain ⟨a, l, c, rfl⟩ := okWide_slice he hv; exact r1
  | arr n u =>
    obtain ⟨e, he, _⟩ := hu
    simp only [Value.okWide, he] at hv
    obtain ⟨cs, e1, e2, _⟩ := hv
    exact ha True ⟨cs, e1, e2, trivial⟩
  | pair a b =>
    obtain ⟨e, he, _⟩ := hu
    simp only [Value.okWide, he] at hv
    obtain ⟨cs, e1, e2, _⟩ := hv
    exact ha True ⟨cs, e1, e2, trivial⟩
  | ref p => exact hu.elim
  | err => exact hu.elim
  | mp kk t => exact hu.elim

/-- All arguments read as data. -/
theorem open_all {base : Nat} : ∀ {us : List Ty} {ts : List TypeId} {vs : List Value} {ds : List (DataW H)} {ps : List MemPlace}, tysAre P us ts → DataW.TrodAll enc P w 0 (fun _ => true) true ts vs ds ps →
    (∀ (j : Nat) t v, ts[j]? = some t → vs[j]? = some v → Value.okWide P w .any base t v) → (DataW.weightsEach P ts ds).all (fun n => decide (n ≤ reachBytes)) = true →
    ∃ x : HL us, RdVs (fun b => b < w.heap.size) w us vs x ∧ GoodL us x ∧ FitL us x
  | [], [], vs, ds, ps, _, h, _, _ => by
    obtain ⟨rfl, rfl, rfl⟩ := trodAll_nil h
    exact ⟨(), trivial, trivial, trivial⟩
  | u :: us, t :: ts, vs, ds, ps, ht, h, hv, hw => by
    obtain ⟨v, vs, d, ds, p, q, rfl, rfl, rfl, h1, h2⟩ := trodAll_cons h
    obtain ⟨w1, w2⟩ := weightsEach_cons hw
    obtain ⟨x, a1, a2, a3⟩ := open_one ht.1 h1 (hv 0 t v rfl rfl) w1
    obtain ⟨y, b1, b2, b3⟩ := open_all ht.2 h2 (fun j t v hj hk => hv (j + 1) t v hj hk) w2
    exact ⟨(x, y), ⟨a1, b1⟩, ⟨a2, b2⟩, ⟨a3, b3⟩⟩
  | [], _ :: _, _, _, _, ht, _, _, _ => ht.elim
  | _ :: _, [], _, _, _, ht, _, _, _ => ht.elim

theorem trodAll_stays (hl : laidOutB P = true) {W W' : World} (hb : Below W.heap.size W W') {sp : Nat → Bool} : ∀ {ts : List TypeId} {vs : List Value} {ds : List (DataW H)} {ps : List MemPlace},
    (∀ t ∈ ts, P.readableRec t = true ∧ t < P.types.size) → DataW.TrodAll enc P W 0 (fun _ => true) true ts vs ds ps → (∀ p ∈ ps, p.block < W.heap.size ∧ sp p.block = true) →
    DataW.TrodAll enc P W' 0 sp true ts vs ds ps
  | [], vs, ds, ps, _, h, _ => by
    obtain ⟨rfl, rfl, rfl⟩ := trodAll_nil h
    rfl
  | t :: ts, vs, ds, ps, ht, h, hp => by
    obtain ⟨v, vs, d, ds, p, q, rfl, rfl, rfl, h1, h2⟩ := trodAll_cons h
    have ht0 := ht t (by simp)
    exact ⟨p, q, Go.WideElems.Trod_stays hl ht0.1 ht0.2 h1 (fun x hx => hb.same (hp x (by simp [hx])).1) (fun x hx => (hp x (by simp [hx])).2),
      trodAll_stays hl hb (fun t h => ht t (by simp [h])) h2 (fun x hx => hp x (by simp [hx])), rfl⟩

/-- The row's last step for a law: it has returned true, and below the old heap's end nothing has turned. -/
theorem law_post {f : Func} {s : ChangeSpec} {apart fresh handsOn again : Bool} {W W' : World} {args : Array Value} {ds gs : List (DataW H)} {before : List MemPlace} {t : TypeId}
    (hl : laidOutB P = true) (hts : ∀ t ∈ f.params.toList, P.readableRec t = true ∧ t < P.types.size) (hvars : s.vars = [])
    (hspec : s.fn H ds = { results := [.lit (.bool true)], args := ds }) (hrt : f.resultTypes = #[t]) (hbt : P.underlying t = some .bool)
    (hW : DataW.Whole enc P f.params.toList s.vars apart W args.toList ds gs before) (hb : Below W.heap.size W W') : s.post enc P f apart fresh handsOn again W args (.bool true) W' := by
  have hlt := hW.lt
  have hW0 := hW
  obtain ⟨p, q, hA, hV, rfl, hz, hn⟩ := hW
  rw [hvars] at hV
  obtain ⟨rfl, rfl⟩ := trodVars_none hV
  simp only [List.append_nil] at *
  have hargs : ∀ sp : Nat → Bool, (∀ x ∈ p, sp x.block = true) → DataW.TrodAll enc P W' 0 sp true f.params.toList args.toList ds p :=
    fun sp hs => trodAll_stays hl hb hts hA (fun x hx => ⟨hlt x hx, hs x hx⟩)
  have hres : ∀ (b : Nat) (sp : Nat → Bool) (hd : Bool), DataW.TrodAll enc P W' b sp hd f.resultTypes.toList ((Value.bool true).resultList f.resultTypes.size) [.lit (.bool true)] [] := fun b sp hd => by
    rw [hrt]; exact trodAll_mk1 (shut_bool hbt true)
  refine ⟨ds, [], p, [], p, [], hW0, ?_, ?_, ?_, Below.frame hb _, fun _ => ⟨?_, .lit (.bool true) :: ds, [], p, ?_, fun x hx _ => hx⟩⟩
  · rw [List.append_nil, hspec]; exact hres _ _ _
  · rw [List.append_nil, hspec]; exact hargs _ (fun x hx => by simpa using hlt x hx)
  · rw [List.append_nil, hspec, hvars]; rfl
  · exact ok_one (v := .bool true) hrt rfl (okWide_bool_mk hbt true)
  · refine ⟨p, [], ?_, ?_, by simp, fun b off hx => ?_, hn⟩
    · have h1 := hres 0 (fun _ => true) true
      have h2 := hargs (fun _ => true) (fun _ _ => rfl)
      rw [hrt] at h1 ⊢
      exact ⟨[], p, shut_bool hbt true, h2, rfl⟩
    · rw [hvars]; rfl
    · have := hb.frozen (p := ⟨b, off, none⟩) (hlt _ hx)
      rw [this]; exact hz b off hx

/-- A LAW: a function that keeps the contract 'true' has its row. -/
theorem law_lifted {a : Assume} {C : Checked} {os : Os} {f : FuncId} {fn : Func} {s : ChangeSpec} {conds : List PathCond} {apart fresh handsOn again : Bool} {us : List Ty} {pre : HL us → Prop} {t : TypeId}
    (own : ownKnob C.prog.godebug = none) (started : os.Started) (noInit : C.prog.inits.idxOf? f = none) (hfn : C.prog.funcs[f]? = some fn)
    (hl : laidOutB C.prog = true) (hts : fn.params.toList.all (fun t => C.prog.readableRec t && decide (t < C.prog.types.size)) = true) (htys : tysAre C.prog us fn.params.toList) (hvars : s.vars = [])
    (hspec : ∀ ds : List (DataW H), ds.length = fn.params.toList.length → s.fn H ds = { results := [.lit (.bool true)], args := ds }) (hrt : fn.resultTypes = #[t]) (hbt : C.prog.underlying t = some .bool)
    (hc : CtrOk C.prog f ⟨us, [.bool], pre, fun _ => (true, ()), false⟩) (hpre : ∀ x, GoodL us x → FitL us x → pre x) (hgl : seatGl = [])
    (witness : ∃ (w : World) (tape : Tape) (i : Input), w.os = os ∧ (w.forCall tape i).Shaped C.prog ∧ i.vars = [] ∧ Input.okWide C.prog (w.forCall tape i) .any w.heap.size f i ∧
      s.pre6 enc C.prog fn conds apart (w.forCall tape i).memory i.args ∧ a.holds C.prog (lone (Frame.enter C.prog f i.args .normal) [] (w.forCall tape i))) :
    ReturnsInHanded a C os f .any (s.pre6 enc C.prog fn conds apart) (s.post enc C.prog fn apart fresh handsOn again) := by
  refine returnsInHanded_of_change_sized own started noInit hfn witness ?_
  intro W base args ds gs before hval hW _ hwt _
  have hts' : ∀ t ∈ fn.params.toList, C.prog.readableRec t = true ∧ t < C.prog.types.size := fun t ht => by
    have := List.all_eq_true.1 hts t ht
    simpa using this
  have hW0 := hW
  obtain ⟨p, q, hA, hV, rfl, hz, hn⟩ := hW
  rw [hvars] at hV
  obtain ⟨rfl, rfl⟩ := trodVars_none hV
  have hvt : s.plain.varTypes C.prog = [] := by
    have : s.plain.vars = [] := hvars
    unfold DataSpec.varTypes
    rw [this]; rfl
  rw [hvt, List.append_nil, List.append_nil] at hwt
  have hval' : ∀ (j : Nat) t v, fn.params.toList[j]? = some t → args.toList[j]? = some v → Value.okWide C.prog W .any base t v := fun j t v h1 h2 => hval j t v (by simpa using h1) (by simpa using h2)
  obtain ⟨x, hx, hg, hf⟩ := open_all htys hA hval' hwt
  have hlen : ds.length = fn.params.toList.length := by
    have : ∀ {ts : List TypeId} {vs : List Value} {ds : List (DataW H)} {ps : List MemPlace}, DataW.TrodAll enc C.prog W 0 (fun _ => true) true ts vs ds ps → ds.length = ts.length := by
      intro ts
      induction ts with
      | nil => intro vs ds ps h; obtain ⟨_, rfl, _⟩ := trodAll_nil h; rfl
      | cons t ts ih =>
        intro vs ds ps h
        obtain ⟨v, vs, d, ds, p, q, rfl, rfl, rfl, h1, h2⟩ := trodAll_cons h
        simp [ih h2]
    exact this hA
  refine (hc.2 (fun b => b < W.heap.size) W args x (fun _ h => h) (fun q hq => by rw [hgl] at hq; cases hq) hx (hpre x hg hf)).mono fun e W' he => ?_
  obtain ⟨v, rfl, hres, hbel⟩ := he
  have hv : v = .bool true := by
    have h1 : Rd (fun b => b < W.heap.size ∨ W.heap.size ≤ b ∧ b < W'.heap.size) W' .bool [v] true := hres
    have h2 : [v] = [Value.bool true] := h1
    simpa using h2
  subst hv
  exact ⟨_, rfl, law_post hl hts' hvars (hspec ds hlen) hrt hbt hW0 hbel⟩
end
end Go.Sx
