/-
  corebelllaw.BenchReads, the second form: called with whatever slice and string of bulk at most 1048576, where the library's variables hold what their initialisers lay, the function returns true, and the arguments read afterwards as they read before; the card ties the variables to the program's text.
-/
import Derived.Test.YtjafnenkgmbgaaaDoorBenchL
import Derived.Test.YtjafnenkgmbgaaaDoorSxP5
import Derived.Test.YtjafnenkgmbgaaaDoorCards
import Derived.Test.YtjafnenkgmbgaaaDoorTie
import Derived.SevenTiedAt
import Derived.Shelf.Vars
namespace Go.Proofs.YtjafnenkgmbgaaaDoor.Bench.BenchReads
open Go Go.Sx Go.ChangeShapes Go.WideShapes Go.ChangeAt Go.RowKit
set_option maxRecDepth 100000
theorem own : ownKnob Tryd.prog.godebug = none := by kernel_rfl
theorem laidOut : laidOutB Tryd.prog = true := by kernel_rfl
theorem star : "*" ++ "errors.errorString" = "*errors.errorString" := by decide
theorem tn (u : TypeId) (h : Tryd.prog.typeName? 3 u = some "*errors.errorString") : u = 94 :=
  typeName_ptr_named (nm := "errors.errorString") (by rw [star]; kernel_rfl) (by kernel_rfl) (by decide) u (by rw [star]; exact h)
theorem gl_ok (W : World) (h : laidMetH Tryd.prog Rows.benchReadsUptoRow.laid W) (hsh : W.ShapedOpen Tryd.prog) : GlOk W := by
  have h0 : laidMet Tryd.prog Rows.benchReadsUptoRow.laid W := (Go.MakeChecks.laidMetH_plain Tryd.prog Rows.benchReadsUptoRow.laid W (by kernel_rfl)).mp h
  have h1 := h0.tail.tail
  have h2 := h1.tail
  have h3 := h2.tail
  obtain ⟨m, hm⟩ := cell_of_shapedOpen_int (g := 0) (zero := #[.int .i64 0]) (t := 3) hsh (of_decide_eq_true (by kernel_rfl)) (by kernel_rfl) rfl (by kernel_rfl) (by kernel_rfl) Tryd.underlying3
  have g1 : 1 < W.heap.size ∧ (Gl.u64 Lib.pow10Tab).ok W 1 :=
    gl_u64 (name := "internal/strconv.uint64pow10") (tab := Lib.pow10Tab) (g := 1) (t := 82) (e := 56) (n := 20) (by kernel_rfl) (by kernel_rfl) Tryd.underlying82 Tryd.underlying56 (by kernel_rfl) (by kernel_rfl) (by decide)
      (show laidMet Tryd.prog (("internal/strconv.uint64pow10", Lib.tabData .u64 Lib.pow10Tab) :: _) W from h1)
  have g3 : 3 < W.heap.size ∧ Gl.err.ok W 3 :=
    gl_err (g := 3) (ti := 39) (tp := 94) (te := 96) (ts := 9) h2 (by kernel_rfl) (by kernel_rfl) Tryd.underlying39 tn Tryd.underlying94 Tryd.underlying96 rfl rfl Tryd.underlying9 (by kernel_rfl) (by kernel_rfl)
  have g2 : 2 < W.heap.size ∧ Gl.err.ok W 2 :=
    gl_err (g := 2) (ti := 39) (tp := 94) (te := 96) (ts := 9) h3 (by kernel_rfl) (by kernel_rfl) Tryd.underlying39 tn Tryd.underlying94 Tryd.underlying96 rfl rfl Tryd.underlying9 (by kernel_rfl) (by kernel_rfl)
  intro q hq
  have hs : seatGl = [(0, .num), (1, .u64 Lib.pow10Tab), (2, .err), (3, .err)] := rfl
  rw [hs] at hq
  simp only [List.mem_cons, List.not_mem_nil, or_false] at hq
  rcases hq with rfl | rfl | rfl | rfl
  · exact ⟨lt_of_cell hm, m, hm⟩
  · exact g1
  · exact g2
  · exact g3
/- A world that meets the condition: the settled one with two blocks more (the errors' texts), the tables laid. -/
abbrev synS : ByteArray := { data := #[105, 110, 118, 97, 108, 105, 100, 32, 115, 121, 110, 116, 97, 120] }
abbrev rngS : ByteArray := { data := #[118, 97, 108, 117, 101, 32, 111, 117, 116, 32, 111, 102, 32, 114, 97, 110, 103, 101] }
abbrev tab32 : List Int := [0, 1, 28, 2, 29, 14, 24, 3, 30, 22, 20, 15, 25, 17, 4, 8, 31, 27, 13, 23, 21, 19, 16, 7, 26, 12, 18, 6, 11, 5, 10, 9]
abbrev tab64 : List Int := [0, 1, 56, 2, 57, 49, 28, 3, 61, 58, 42, 50, 38, 29, 17, 4, 62, 47, 59, 36, 45, 43, 51, 22, 53, 39, 33, 30, 24, 18, 12, 5, 63, 55, 48, 27, 60, 41, 37, 16, 46, 35, 44, 21, 52, 32, 23, 11, 54, 26, 40, 15, 34, 20, 31, 10, 25, 14, 19, 9, 13, 8, 7, 6]
noncomputable def low : Nat := (World.holding Tryd.prog default ⟨#[], #[], []⟩).heap.size
noncomputable def lay (g : Nat) (vs : List Value) (h : Array Obj) : Array Obj := h.modify g fun
  | .cells _ t frozen => .cells vs.toArray t frozen
  | o => o
noncomputable def laidWorld (os : Os) : World :=
  let w0 := World.holding Tryd.prog os ⟨#[.cells #[.string synS] 96, .cells #[.string rngS] 96], #[], []⟩
  { w0 with heap := lay 5 (tab64.map fun n => .int .u8 n) (lay 4 (tab32.map fun n => .int .u8 n) (lay 3 [.iface 94 (.pointer (some ⟨low + 1, 0, none⟩))] (lay 2 [.iface 94 (.pointer (some ⟨low, 0, none⟩))] (lay 1 (Lib.pow10Tab.map fun n => .int .u64 n) w0.heap)))) }
theorem laid_met (os : Os) (args : Array Value) : laidMet Tryd.prog Rows.benchReadsUptoRow.laid ((laidWorld os).forCall (fun _ _ => 0) ⟨#[], args, []⟩).memory :=
  laidMet_of_run' 12 (by kernel_rfl) (by kernel_rfl)
theorem reads (os : Os) {H : Type} (enc : TypeId × Value → H) : ∃ places, DataW.whole enc Tryd.prog ((laidWorld os).forCall (fun _ _ => 0) ⟨#[], #[.slice none 0 0, .string ByteArray.empty], []⟩).memory Tryd.f3.params.toList Rows.benchReadsSpec.vars false #[.slice none 0 0, .string ByteArray.empty].toList 8 = some ([.nil, .lit (.string [])], [], places) :=
  ⟨[], by kernel_rfl⟩
theorem bulk_pos {H : Type} (d : DataW H) : 1 ≤ Rows.uptoBulk d := by
  unfold Rows.uptoBulk
  split <;> omega
theorem bulk_len {H : Type} : ∀ l : List (DataW H), l.length ≤ Rows.uptoBulkAll l
  | [] => Nat.zero_le _
  | d :: r => by
    have h1 := bulk_pos d
    have h2 := bulk_len r
    unfold Rows.uptoBulkAll
    rw [List.length_cons]
    omega
theorem short {H : Type} {d : DataW H} {b : List UInt8} (h : Rows.uptoSmall H [d, .lit (.string b)] = true) : Rows.uptoBulk d ≤ 1048576 ∧ b.length ≤ 1048576 := by
  have h1 : Rows.uptoBulkAll [d, DataW.lit (.string b)] ≤ 1048576 := of_decide_eq_true h
  have e1 : Rows.uptoBulkAll [d, DataW.lit (.string b)] = Rows.uptoBulk d + Rows.uptoBulkAll ([DataW.lit (.string b)] : List (DataW H)) := by rw [Rows.uptoBulkAll]
  have e2 : Rows.uptoBulkAll ([DataW.lit (.string b)] : List (DataW H)) = Rows.uptoBulk (DataW.lit (.string b) : DataW H) := by simp only [Rows.uptoBulkAll, Nat.add_zero]
  have e3 : Rows.uptoBulk (DataW.lit (.string b) : DataW H) = b.length + 1 := by rw [Rows.uptoBulk]
  omega
/- A slice and a string: as long as their readings. -/
theorem two_len {H : Type} {enc : TypeId × Value → H} {P : Program} {W : World} {S : Nat → Prop} {u : Ty} {t e t' : TypeId} {vs : List Value} {x : HL [.sl u, .str]} {ds : List (DataW H)} {ps : List MemPlace} (ht : P.underlying t = some (.slice e)) (ht' : P.underlying t' = some .string)
    (hx : RdVs S W [.sl u, .str] vs x) (h : DataW.TrodAll enc P W 0 (fun _ => true) true [t, t'] vs ds ps) (hk : Rows.uptoSmall H ds = true) : x.1.length ≤ 1048576 ∧ x.2.1.length ≤ 1048576 := by
  obtain ⟨v, vs, d, ds, p, q, rfl, rfl, rfl, ⟨f1, h1⟩, h'⟩ := trodAll_cons h
  obtain ⟨v', vs, d', ds, p', q', rfl, rfl, rfl, ⟨f2, h2⟩, h''⟩ := trodAll_cons h'
  obtain ⟨rfl, rfl, rfl⟩ := trodAll_nil h''
  have hr : Rd S W (.sl u) [v] x.1 := hx.1
  have hr' : Rd S W .str [v'] x.2.1 := hx.2.1
  obtain ⟨s, hs, hd, _⟩ := DataW.trod_string ht' h2
  have hv' : v'.cells.toList = [Value.string (mkStr x.2.1)] := by
    have h3 : [v'] = [Value.string (mkStr x.2.1)] := hr'.1
    simp only [List.cons.injEq, and_true] at h3
    rw [h3]
    rfl
  rw [hv'] at hs
  simp only [List.cons.injEq, Value.string.injEq, and_true] at hs
  simp only [Prod.mk.injEq] at hd
  obtain ⟨rfl, _⟩ := hd
  have hb := short hk
  have hlen : s.data.toList.length = x.2.1.length := by
    rw [← hs]
    simp [mkStr]
  refine ⟨?_, by omega⟩
  obtain ⟨A, c, h3, _⟩ := hr
  have hv : v = .slice A x.1.length c := by simpa using h3
  subst hv
  have h4 : DataW.trod enc P W 0 (fun _ => true) true f1 t [.slice A x.1.length c] = some (d, p) := h1
  rcases DataW.trod_slice ht h4 with ⟨q1, _⟩ | ⟨a, len, cap, elems, rest, n, _, q1, q2, _, _, _, q3, _⟩
  · simp only [List.cons.injEq, Value.slice.injEq] at q1
    have := q1.1.2.1
    omega
  · simp only [List.cons.injEq, Value.slice.injEq] at q1
    simp only [Prod.mk.injEq] at q2
    have h5 := hb.1
    rw [q2.1, Rows.uptoBulk] at h5
    have h6 := bulk_len (elems.map (·.1))
    rw [List.length_map, q3, ← q1.1.2.1] at h6
    omega
theorem f_lifted (os : Os) (started : os.Started) (H : Type) (enc : TypeId × Value → H) (F : Stop.Interp) :
    ReturnsInHanded {} Tryd.checked os 3 .any ((Rows.OpenSpec.upto Rows.benchReadsSpec).preRow enc Tryd.prog Tryd.f3 Rows.benchReadsUptoRow.domain false Rows.benchReadsUptoRow.laid) (((Rows.OpenSpec.upto Rows.benchReadsSpec).at F).post enc Tryd.prog Tryd.f3 false true false false) := by
  obtain ⟨places, hx⟩ := reads os enc
  exact law_row (C := Tryd.checked) (us := (cLaw : Ctr).as) (s := Rows.benchReadsSpec) (k := Rows.uptoSmall) rfl own started (by kernel_rfl) Tryd.func3 laidOut (by kernel_rfl) (And.intro (Exists.intro 30 (And.intro Tryd.underlying22 (And.intro (by kernel_rfl) (And.intro (of_decide_eq_true (by kernel_rfl)) (And.intro (of_decide_eq_true (by kernel_rfl)) (Exists.intro _ (And.intro Tryd.underlying30 (And.intro (by kernel_rfl) (And.intro (by kernel_rfl) (And.intro (by kernel_rfl) (And.intro Tryd.underlying3 (And.intro (by kernel_rfl) (And.intro (by kernel_rfl) (And.intro Tryd.underlying3 (And.intro (by kernel_rfl) (And.intro (by kernel_rfl) (And.intro Tryd.underlying3 (And.intro (by kernel_rfl) (And.intro (by kernel_rfl) Tryd.underlying5))))))))))))))))))) (And.intro Tryd.underlying9 trivial)) rfl (fun ds h => by
    match ds, h with
    | [_, _], _ => rfl) rfl Tryd.underlying4 c_law
    (fun W vs x ds ps hx hA hk _ _ => by
      rw [Tryd.params3] at hA
      exact two_len Tryd.underlying22 Tryd.underlying9 hx hA hk)
    (fun W h hsh => gl_ok W h hsh)
    (witness_row_at (enc := enc) (C := Tryd.checked) false (laidWorld os) #[.slice none 0 0, .string ByteArray.empty] rfl (by kernel_rfl) (by kernel_rfl) (by kernel_rfl)
      (OpenSpec.preRow_of_cond 8 hx (by kernel_rfl) (fun k hk => by cases hk; kernel_rfl) (by kernel_rfl) (laid_met os _)))
theorem row_holds : Rows.BenchReadsUptoSaid :=
  OpenClaim.holds_of_cond 3 Tryd.f3 rfl rfl rfl rfl rfl rfl rfl ⟨rfl, rfl, rfl, rfl, rfl⟩ rfl rfl rfl rfl rfl (by kernel_rfl) Tryd.func3 (by kernel_rfl)
    (of_decide_eq_true (by kernel_rfl)) (by unfold Func.isWrapper; first | (rw [if_pos (by decide +kernel)]; kernel_rfl) | (rw [if_neg (by decide +kernel)]; exact ⟨rfl, rfl⟩))
    (fun os started H enc _ F => by rw [OpenClaim.pre_eq_preRow]; exact f_lifted os started H enc F)
theorem holds : Rows.BenchReadsUptoCardSaid :=
  Claim7.holds_tied_plain_at .later [] [.data, .data, .data, .sentinel, .sentinel] true (true, "eea1cb90649285733a3b289d94258e78102449bf34ab8b862549d52fc83628c0") true
    row_holds (fun _ h => by cases h) (by kernel_rfl) (fun _ h => by cases h) benchReadsUpto_row_tie rfl ⟨rfl, rfl⟩ (by kernel_rfl) rfl
    (fun f fn hf hfn => by
      obtain rfl : f = 3 := Option.some.inj ((show Tryd.prog.funcNamed "corebell/corebelllaw.BenchReads" = some 3 by kernel_rfl).symm.trans hf) |>.symm
      obtain rfl : fn = Tryd.f3 := (Option.some.inj (Tryd.func3.symm.trans hfn)).symm
      exact ⟨by kernel_rfl, fun j t ht => by
        rw [Tryd.params3] at ht
        have hm : t ∈ [22, 9] := by simpa using Array.mem_of_getElem? ht
        have hall : ([22, 9].all fun u => !Tryd.prog.wantsStandIn u) = true := by kernel_rfl
        exact (show Tryd.prog.wantsStandIn t = false by simpa using List.all_eq_true.1 hall t hm)⟩)
    (by kernel_rfl)
end Go.Proofs.YtjafnenkgmbgaaaDoor.Bench.BenchReads
