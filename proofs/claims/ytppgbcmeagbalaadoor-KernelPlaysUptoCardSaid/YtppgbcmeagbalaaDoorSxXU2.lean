/-
  Sx, part XU: a law's row of the second form (what it reads is of bulk at most a bound), with tables listed.
-/
import Derived.Test.YtppgbcmeagbalaaDoorSxP4
import Derived.Deep.DeepHandedRow
namespace Go.Sx
open Go.RowKit Go.WideShapes Go.ChangeShapes

theorem law_row {H : Type} {enc : TypeId × Value → H} {a : Assume} {C : Checked} {os : Os} {f : FuncId} {fn : Func} {s : ChangeSpec} {s2 : OpenSpec} {k : (H : Type) → List (DataW H) → Bool} {F : Stop.Interp} {conds : List PathCond} {apart fresh handsOn again : Bool} {laid : List (String × DataW Unit)} {us : List Ty} {pre : HL us → Prop} {t : TypeId}
    (hs2 : s2 = { OpenSpec.ofChange s with cond := some k })
    (own : ownKnob C.prog.godebug = none) (started : os.Started) (noInit : C.prog.inits.idxOf? f = none) (hfn : C.prog.funcs[f]? = some fn)
    (hl : laidOutB C.prog = true) (hts : fn.params.toList.all (fun t => C.prog.readableRec t && decide (t < C.prog.types.size)) = true) (htys : tysAre C.prog us fn.params.toList) (hvars : s.vars = [])
    (hspec : ∀ ds : List (DataW H), ds.length = fn.params.toList.length → s.fn H ds = { results := [.lit (.bool true)], args := ds }) (hrt : fn.resultTypes = #[t]) (hbt : C.prog.underlying t = some .bool)
    (hc : CtrOk C.prog f ⟨us, [.bool], pre, fun _ => (true, ()), false⟩)
    (hpre : ∀ (W : World) (vs : List Value) (x : HL us) (ds : List (DataW H)) (ps : List MemPlace), RdVs (fun b => b < W.heap.size) W us vs x → DataW.TrodAll enc C.prog W 0 (fun _ => true) true fn.params.toList vs ds ps → k H ds = true → GoodL us x → FitL us x → pre x)
    (hgl : ∀ W, laidMetH C.prog laid W → GlOk W)
    (witness : ∃ (w : World) (tape : Tape) (i : Input), w.os = os ∧ (w.forCall tape i).Shaped C.prog ∧ i.vars = [] ∧ Input.okWide C.prog (w.forCall tape i) .any w.heap.size f i ∧
      s2.preRow enc C.prog fn conds apart laid (w.forCall tape i).memory i.args ∧ a.holds C.prog (lone (Frame.enter C.prog f i.args .normal) [] (w.forCall tape i))) :
    ReturnsInHanded a C os f .any (s2.preRow enc C.prog fn conds apart laid) ((s2.at F).post enc C.prog fn apart fresh handsOn again) := by
  subst hs2
  refine returnsInHanded_of_row own started noInit hfn witness ?_
  intro W base args ds gs before hval hW' _ hk hwt hL _ _
  have hW : DataW.Whole enc C.prog fn.params.toList s.vars apart W args.toList ds gs before := hW'
  have hts' : ∀ t ∈ fn.params.toList, C.prog.readableRec t = true ∧ t < C.prog.types.size := fun t ht => by
    have := List.all_eq_true.1 hts t ht
    simpa using this
  have hW0 := hW
  obtain ⟨p, q, hA, hV, rfl, hz, hn⟩ := hW
  rw [hvars] at hV
  obtain ⟨rfl, rfl⟩ := trodVars_none hV
  have hvt : s.plain.varTypes C.prog = [] := by
    have : s.plain.vars = [] := hvars
    unfold DataSpec.varTypes
    rw [this]; rfl
  have hwt' : (DataW.weightsEach C.prog (fn.params.toList ++ s.plain.varTypes C.prog) (ds ++ [])).all (· ≤ reachBytes) = true := hwt
  rw [hvt, List.append_nil, List.append_nil] at hwt'
  have hk' : k H (ds ++ []) = true := hk k rfl
  rw [List.append_nil] at hk'
  have hval' : ∀ (j : Nat) t v, fn.params.toList[j]? = some t → args.toList[j]? = some v → Value.okWide C.prog W .any base t v := fun j t v h1 h2 => hval j t v (by simpa using h1) (by simpa using h2)
  obtain ⟨x, hx, hg, hf⟩ := open_all htys hA hval' hwt'
  have hlen : ds.length = fn.params.toList.length := by
    have : ∀ {ts : List TypeId} {vs : List Value} {ds : List (DataW H)} {ps : List MemPlace}, DataW.TrodAll enc C.prog W 0 (fun _ => true) true ts vs ds ps → ds.length = ts.length := by
      intro ts
      induction ts with
      | nil => intro vs ds ps h; obtain ⟨_, rfl, _⟩ := trodAll_nil h; rfl
      | cons t ts ih =>
        intro vs ds ps h
        obtain ⟨v, vs, d, ds, p, q, rfl, rfl, rfl, h1, h2⟩ := trodAll_cons h
        simp [ih h2]
    exact this hA
  refine (hc.2 (fun b => b < W.heap.size) W args x (fun _ h => h) (hgl W hL) hx (hpre W _ x ds p hx hA hk' hg hf)).mono fun e W' he => ?_
  obtain ⟨v, rfl, hres, hbel⟩ := he
  have hv : v = .bool true := by
    have h1 : Rd (fun b => b < W.heap.size ∨ W.heap.size ≤ b ∧ b < W'.heap.size) W' .bool [v] true := hres
    have h2 : [v] = [Value.bool true] := h1
    simpa using h2
  subst hv
  exact ⟨_, rfl, law_post hl hts' hvars (hspec ds hlen) hrt hbt hW0 hbel⟩
/-- One slice alone: it has as many elements as its reading. -/
theorem one_len {H : Type} {enc : TypeId × Value → H} {P : Program} {W : World} {S : Nat → Prop} {u : Ty} {t e : TypeId} {vs : List Value} {x : HL [.sl u]} {ds : List (DataW H)} {ps : List MemPlace} (ht : P.underlying t = some (.slice e))
    (hx : RdVs S W [.sl u] vs x) (h : DataW.TrodAll enc P W 0 (fun _ => true) true [t] vs ds ps) : (x.1.length = 0) ∨ ∃ elems spare, ds = [.slice elems spare] ∧ elems.length = x.1.length := by
  obtain ⟨v, vs, d, ds, p, q, rfl, rfl, rfl, h1, h2⟩ := trodAll_cons h
  obtain ⟨rfl, rfl, rfl⟩ := trodAll_nil h2
  have hr : RdV S W (.sl u) v x.1 := hx.1
  have hr' : Rd S W (.sl u) [v] x.1 := hr
  obtain ⟨A, c, h3, _⟩ := hr'
  have hv : v = .slice A x.1.length c := by simpa using h3
  subst hv
  obtain ⟨fuel, h1⟩ := h1
  have h4 : DataW.trod enc P W 0 (fun _ => true) true fuel t [.slice A x.1.length c] = some (d, p) := h1
  rcases DataW.trod_slice ht h4 with ⟨q1, _⟩ | ⟨a, len, cap, elems, rest, n, _, q1, q2, _, _, _, q3, _⟩
  · left
    simp only [List.cons.injEq, Value.slice.injEq] at q1
    exact q1.1.2.1
  · right
    simp only [List.cons.injEq, Value.slice.injEq] at q1
    simp only [Prod.mk.injEq] at q2
    exact ⟨_, _, by rw [q2.1], by rw [List.length_map, q3, ← q1.1.2.1]⟩
end Go.Sx
