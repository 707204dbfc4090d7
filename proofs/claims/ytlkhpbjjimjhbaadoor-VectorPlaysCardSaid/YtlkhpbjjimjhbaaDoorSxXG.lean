/-
  Sx, part XG: a law's row that lists package-level tables of bytes: what is listed is what the seat's tables are.
-/
import Derived.Test.YtlkhpbjjimjhbaaDoorSxX
import Derived.Handed
import Derived.LaidLaws
import Derived.LaidHandle
import Derived.MakeChecks
import Derived.Lib.LaidTab
import Derived.JoinedOf
namespace Go.Sx
open Go.RowKit Go.WideShapes Go.ChangeShapes

/-- A LAW OF A ROW WITH A CONDITION ON THE WORLD: a function that keeps the contract 'true' has its row. -/
theorem law_laid {H : Type} {enc : TypeId × Value → H} {a : Assume} {C : Checked} {os : Os} {f : FuncId} {fn : Func} {s : ChangeSpec} {conds : List PathCond} {apart fresh handsOn again : Bool} {us : List Ty} {pre : HL us → Prop} {t : TypeId}
    {X : World → Array Value → Prop} (hX : ∀ (w w' : World) (args : Array Value), w.heap = w'.heap → X w args → X w' args)
    (own : ownKnob C.prog.godebug = none) (started : os.Started) (noInit : C.prog.inits.idxOf? f = none) (hfn : C.prog.funcs[f]? = some fn)
    (hl : laidOutB C.prog = true) (hts : fn.params.toList.all (fun t => C.prog.readableRec t && decide (t < C.prog.types.size)) = true) (htys : tysAre C.prog us fn.params.toList) (hvars : s.vars = [])
    (hspec : ∀ ds : List (DataW H), ds.length = fn.params.toList.length → s.fn H ds = { results := [.lit (.bool true)], args := ds }) (hrt : fn.resultTypes = #[t]) (hbt : C.prog.underlying t = some .bool)
    (hc : CtrOk C.prog f ⟨us, [.bool], pre, fun _ => (true, ()), false⟩) (hpre : ∀ x, GoodL us x → FitL us x → pre x) (hgl : ∀ W args, X W args → GlOk W)
    (witness : ∃ (w : World) (tape : Tape) (i : Input), w.os = os ∧ (w.forCall tape i).Shaped C.prog ∧ i.vars = [] ∧ Input.okWide C.prog (w.forCall tape i) .any w.heap.size f i ∧
      ((s.pre enc C.prog fn conds apart (w.forCall tape i).memory i.args ∧ X (w.forCall tape i).memory i.args) ∧ sizedMet enc C.prog fn (OpenSpec.ofChange s) apart (w.forCall tape i).memory i.args) ∧ a.holds C.prog (lone (Frame.enter C.prog f i.args .normal) [] (w.forCall tape i))) :
    ReturnsInHanded a C os f .any (fun w args => (s.pre enc C.prog fn conds apart w args ∧ X w args) ∧ sizedMet enc C.prog fn (OpenSpec.ofChange s) apart w args) (s.post enc C.prog fn apart fresh handsOn again) := by
  refine returnsInHanded_of_change_and hX own started noInit hfn witness ?_
  intro W base args ds gs before hval hW _ hwt hXW _
  have hts' : ∀ t ∈ fn.params.toList, C.prog.readableRec t = true ∧ t < C.prog.types.size := fun t ht => by
    have := List.all_eq_true.1 hts t ht
    simpa using this
  have hW0 := hW
  obtain ⟨p, q, hA, hV, rfl, hz, hn⟩ := hW
  rw [hvars] at hV
  obtain ⟨rfl, rfl⟩ := trodVars_none hV
  have hvt : s.plain.varTypes C.prog = [] := by
    have : s.plain.vars = [] := hvars
    unfold DataSpec.varTypes
    rw [this]; rfl
  rw [hvt, List.append_nil, List.append_nil] at hwt
  have hval' : ∀ (j : Nat) t v, fn.params.toList[j]? = some t → args.toList[j]? = some v → Value.okWide C.prog W .any base t v := fun j t v h1 h2 => hval j t v (by simpa using h1) (by simpa using h2)
  obtain ⟨x, hx, hg, hf⟩ := open_all htys hA hval' hwt
  have hlen : ds.length = fn.params.toList.length := by
    have : ∀ {ts : List TypeId} {vs : List Value} {ds : List (DataW H)} {ps : List MemPlace}, DataW.TrodAll enc C.prog W 0 (fun _ => true) true ts vs ds ps → ds.length = ts.length := by
      intro ts
      induction ts with
      | nil => intro vs ds ps h; obtain ⟨_, rfl, _⟩ := trodAll_nil h; rfl
      | cons t ts ih =>
        intro vs ds ps h
        obtain ⟨v, vs, d, ds, p, q, rfl, rfl, rfl, h1, h2⟩ := trodAll_cons h
        simp [ih h2]
    exact this hA
  refine (hc.2 (fun b => b < W.heap.size) W args x (fun _ h => h) (hgl W args hXW) hx (hpre x hg hf)).mono fun e W' he => ?_
  obtain ⟨v, rfl, hres, hbel⟩ := he
  have hv : v = .bool true := by
    have h1 : Rd (fun b => b < W.heap.size ∨ W.heap.size ≤ b ∧ b < W'.heap.size) W' .bool [v] true := hres
    have h2 : [v] = [Value.bool true] := h1
    simpa using h2
  subst hv
  exact ⟨_, rfl, law_post hl hts' hvars (hspec ds hlen) hrt hbt hW0 hbel⟩
/-- One listed table. -/
theorem glOk_one {P : Program} {W : World} {name : String} {tab : List Nat} {rest : List (String × DataW Unit)} {g : Nat} {t e : TypeId} {n : Nat} (hs : seatGl = [(g, tab)])
    (hg : P.globalNamed name = some g) (hty : (P.globals[g]?).map (·.type) = some t) (ht : P.underlying t = some (.array n e)) (he : P.underlying e = some (.int .u8)) (hce : P.cellsOf e = 1) (hct : P.cellsOf t = n)
    (hpos : 0 < tab.length) (h : laidMet P ((name, Lib.tabData .u8 (tab.map Int.ofNat)) :: rest) W) : GlOk W := by
  have hT := Lib.tabIs_of_head hg hty ht he hce hct h
  have hcell : ∀ j, j < tab.length → W.cell? ⟨g, j, none⟩ = some (.int .u8 (tab.getD j 0)) := fun j hj => by
    have := hT.cell hg j (by rw [List.length_map]; exact hj)
    rw [this]
    simp [List.getD, hj]
  intro q hq
  rw [hs, List.mem_singleton] at hq
  subst hq
  refine ⟨?_, hcell⟩
  have h0 := hcell 0 hpos
  unfold World.cell? at h0
  refine Decidable.byContradiction fun hlt => ?_
  rw [Array.getElem?_eq_none (by show W.heap.size ≤ g; exact Nat.le_of_not_lt hlt)] at h0
  cases h0
end Go.Sx
