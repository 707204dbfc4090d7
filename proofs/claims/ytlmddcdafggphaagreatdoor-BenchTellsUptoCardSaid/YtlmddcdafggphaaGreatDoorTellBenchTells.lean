/-
 corebelllaw.BenchTells, the second form: called with whatever string of bulk at most 1048576, where the library's variables hold what their initialisers lay, the function returns true, and the argument reads afterwards as it read before; the card ties the variables to the program's text.
-/
import Derived.Test.YtlmddcdafggphaaGreatDoorTellL
import Derived.Test.YtlmddcdafggphaaGreatDoorSxP4
import Derived.Test.YtlmddcdafggphaaGreatDoorCards
import Derived.Test.YtlmddcdafggphaaGreatDoorTie
import Derived.SevenTiedAt
import Derived.Shelf.Vars
namespace Go.Proofs.YtlmddcdafggphaaGreatDoor.Tell.BenchTells
open Go Go.Sx Go.ChangeShapes Go.WideShapes Go.ChangeAt Go.RowKit
set_option maxRecDepth 100000
theorem own : ownKnob Tryz.prog.godebug = none := by kernel_rfl
theorem laidOut : laidOutB Tryz.prog = true := by kernel_rfl
theorem star : "*" ++ "errors.errorString" = "*errors.errorString" := by decide
theorem tn (u : TypeId) (h : Tryz.prog.typeName? 3 u = some "*errors.errorString") : u = 188 :=
 typeName_ptr_named (nm := "errors.errorString") (by rw [star]; kernel_rfl) (by kernel_rfl) (by decide) u (by rw [star]; exact h)
theorem gl_ok (W : World) (h : laidMetH Tryz.prog Rows.benchTellsUptoRow.laid W) (hsh : W.ShapedOpen Tryz.prog) : GlOk W := by
 have h0 : laidMet Tryz.prog Rows.benchTellsUptoRow.laid W := (Go.MakeChecks.laidMetH_plain Tryz.prog Rows.benchTellsUptoRow.laid W (by kernel_rfl)).mp h
 have h1 := h0.tail.tail
 have hT64 := Lib.tabIs_of_head (name := "math/bits.deBruijn64tab") (k := .u8) (zs := Lib.deBruijn64tab.map Int.ofNat) (g := 5) (t := 187) (e := 5) (n := 64) (by kernel_rfl) (by kernel_rfl) Tryz.underlying187 Tryz.underlying5 (by kernel_rfl) (by kernel_rfl)
  (show laidMet Tryz.prog (("math/bits.deBruijn64tab", Lib.tabData .u8 (Lib.deBruijn64tab.map Int.ofNat)) :: _) W from h0.tail)
 have hc64 : ∀ j, j < Lib.deBruijn64tab.length → W.cell? ⟨5, j, none⟩ = some (.int .u8 (Lib.deBruijn64tab.getD j 0)) := fun j hj => by
  have := hT64.cell (g := 5) (by kernel_rfl) j (by rw [List.length_map]; exact hj)
  rw [this]
  simp [List.getD, hj]
 have g64 : 5 < W.heap.size ∧ (Gl.u8 Lib.deBruijn64tab).ok W 5 := ⟨lt_of_cell (hc64 0 (by decide)), hc64⟩
 have h2 := h1.tail
 have h3 := h2.tail
 obtain ⟨m, hm⟩ := cell_of_shapedOpen_int (g := 1) (zero := #[.int .i64 0]) (t := 3) hsh (of_decide_eq_true (by kernel_rfl)) (by kernel_rfl) rfl (by kernel_rfl) (by kernel_rfl) Tryz.underlying3
 have g1 : 0 < W.heap.size ∧ (Gl.u64 Lib.pow10Tab).ok W 0 :=
  gl_u64 (name := "internal/strconv.uint64pow10") (tab := Lib.pow10Tab) (g := 0) (t := 138) (e := 59) (n := 20) (by kernel_rfl) (by kernel_rfl) Tryz.underlying138 Tryz.underlying59 (by kernel_rfl) (by kernel_rfl) (by decide)
   (show laidMet Tryz.prog (("internal/strconv.uint64pow10", Lib.tabData .u64 Lib.pow10Tab) :: _) W from h1)
 have g3 : 3 < W.heap.size ∧ Gl.err.ok W 3 :=
  gl_err (g := 3) (ti := 76) (tp := 188) (te := 190) (ts := 9) h2 (by kernel_rfl) (by kernel_rfl) Tryz.underlying76 tn Tryz.underlying188 Tryz.underlying190 rfl rfl Tryz.underlying9 (by kernel_rfl) (by kernel_rfl)
 have g2 : 2 < W.heap.size ∧ Gl.err.ok W 2 :=
  gl_err (g := 2) (ti := 76) (tp := 188) (te := 190) (ts := 9) h3 (by kernel_rfl) (by kernel_rfl) Tryz.underlying76 tn Tryz.underlying188 Tryz.underlying190 rfl rfl Tryz.underlying9 (by kernel_rfl) (by kernel_rfl)
 intro q hq
 have hs : seatGl = [(1, .num), (0, .u64 Lib.pow10Tab), (2, .err), (3, .err), (5, .u8 Lib.deBruijn64tab)] := rfl
 rw [hs] at hq
 simp only [List.mem_cons, List.not_mem_nil, or_false] at hq
 rcases hq with rfl | rfl | rfl | rfl | rfl
 ·exact ⟨lt_of_cell hm, m, hm⟩
 ·exact g1
 ·exact g2
 ·exact g3
 ·exact g64
abbrev synS : ByteArray := { data := #[105, 110, 118, 97, 108, 105, 100, 32, 115, 121, 110, 116, 97, 120] }
abbrev rngS : ByteArray := { data := #[118, 97, 108, 117, 101, 32, 111, 117, 116, 32, 111, 102, 32, 114, 97, 110, 103, 101] }
abbrev tab32 : List Int := [0, 1, 28, 2, 29, 14, 24, 3, 30, 22, 20, 15, 25, 17, 4, 8, 31, 27, 13, 23, 21, 19, 16, 7, 26, 12, 18, 6, 11, 5, 10, 9]
abbrev tab64 : List Int := [0, 1, 56, 2, 57, 49, 28, 3, 61, 58, 42, 50, 38, 29, 17, 4, 62, 47, 59, 36, 45, 43, 51, 22, 53, 39, 33, 30, 24, 18, 12, 5, 63, 55, 48, 27, 60, 41, 37, 16, 46, 35, 44, 21, 52, 32, 23, 11, 54, 26, 40, 15, 34, 20, 31, 10, 25, 14, 19, 9, 13, 8, 7, 6]
noncomputable def low : Nat := (World.holding Tryz.prog default ⟨#[], #[], []⟩).heap.size
noncomputable def lay (g : Nat) (vs : List Value) (h : Array Obj) : Array Obj := h.modify g fun
 | .cells _ t frozen => .cells vs.toArray t frozen
 | o => o
noncomputable def laidWorld (os : Os) : World :=
 let w0 := World.holding Tryz.prog os ⟨#[.cells #[.string synS] 190, .cells #[.string rngS] 190], #[], []⟩
 {w0 with heap := lay 5 (tab64.map fun n => .int .u8 n) (lay 4 (tab32.map fun n => .int .u8 n) (lay 3 [.iface 188 (.pointer (some ⟨low + 1, 0, none⟩))] (lay 2 [.iface 188 (.pointer (some ⟨low, 0, none⟩))] (lay 0 (Lib.pow10Tab.map fun n => .int .u64 n) w0.heap)))) }
theorem laid_met (os : Os) (args : Array Value) : laidMet Tryz.prog Rows.benchTellsUptoRow.laid ((laidWorld os).forCall (fun _ _ => 0) ⟨#[], args, []⟩).memory :=
 laidMet_of_run' 12 (by kernel_rfl) (by kernel_rfl)
theorem reads (os : Os) {H : Type} (enc : TypeId × Value → H) : ∃ places, DataW.whole enc Tryz.prog ((laidWorld os).forCall (fun _ _ => 0) ⟨#[], #[.string ByteArray.empty], []⟩).memory Tryz.f3.params.toList Rows.benchTellsSpec.vars false #[.string ByteArray.empty].toList 8 = some ([.lit (.string [])], [], places) :=
 ⟨[], by kernel_rfl⟩
theorem short {H : Type} {b : List UInt8} (h : Rows.uptoSmall H [.lit (.string b)] = true) : b.length ≤ 1048576 := by
 have h1 : Rows.uptoBulkAll ([DataW.lit (.string b)] : List (DataW H)) ≤ 1048576 := of_decide_eq_true h
 have e2 : Rows.uptoBulkAll ([DataW.lit (.string b)] : List (DataW H)) = Rows.uptoBulk (DataW.lit (.string b) : DataW H) := by simp only [Rows.uptoBulkAll, Nat.add_zero]
 have e3 : Rows.uptoBulk (DataW.lit (.string b) : DataW H) = b.length + 1 := by rw [Rows.uptoBulk]
 omega
theorem str_len {H : Type} {enc : TypeId × Value → H} {P : Program} {W : World} {S : Nat → Prop} {t' : TypeId} {vs : List Value} {x : HL [.str]} {ds : List (DataW H)} {ps : List MemPlace} (ht' : P.underlying t' = some .string)
  (hx : RdVs S W [.str] vs x) (h : DataW.TrodAll enc P W 0 (fun _ => true) true [t'] vs ds ps) (hk : Rows.uptoSmall H ds = true) : x.1.length ≤ 1048576 := by
 obtain ⟨v', vs, d', ds, p', q', rfl, rfl, rfl, ⟨f2, h2⟩, h''⟩ := trodAll_cons h
 obtain ⟨rfl, rfl, rfl⟩ := trodAll_nil h''
 have hr' : Rd S W .str [v'] x.1 := hx.1
 obtain ⟨s, hs, hd, _⟩ := DataW.trod_string ht' h2
 have hv' : v'.cells.toList = [Value.string (mkStr x.1)] := by
  have h3 : [v'] = [Value.string (mkStr x.1)] := hr'.1
  simp only [List.cons.injEq, and_true] at h3
  rw [h3]
  rfl
 rw [hv'] at hs
 simp only [List.cons.injEq, Value.string.injEq, and_true] at hs
 simp only [Prod.mk.injEq] at hd
 obtain ⟨rfl, _⟩ := hd
 have hb := short hk
 have hlen : s.data.toList.length = x.1.length := by
  rw [← hs]
  simp [mkStr]
 omega
theorem f_lifted (os : Os) (started : os.Started) (H : Type) (enc : TypeId × Value → H) (F : Stop.Interp) :
  ReturnsInHanded {} Tryz.checked os 3 .any ((Rows.OpenSpec.upto Rows.benchTellsSpec).preRow enc Tryz.prog Tryz.f3 Rows.benchTellsUptoRow.domain false Rows.benchTellsUptoRow.laid) (((Rows.OpenSpec.upto Rows.benchTellsSpec).at F).post enc Tryz.prog Tryz.f3 false true false false) := by
 obtain ⟨places, hx⟩ := reads os enc
 exact law_row (C := Tryz.checked) (us := (cLaw : Ctr).as) (s := Rows.benchTellsSpec) (k := Rows.uptoSmall) rfl own started (by kernel_rfl) Tryz.func3 laidOut (by kernel_rfl) (And.intro Tryz.underlying9 trivial) rfl (fun ds h => by
  match ds, h with
  | [_], _ => rfl) rfl Tryz.underlying4 c_law
  (fun W vs x ds ps hx hA hk _ _ => by
   rw [Tryz.params3] at hA
   exact str_len Tryz.underlying9 hx hA hk)
  (fun W h hsh => gl_ok W h hsh)
  (witness_row_at (enc := enc) (C := Tryz.checked) false (laidWorld os) #[.string ByteArray.empty] rfl (by kernel_rfl) (by kernel_rfl) (by kernel_rfl)
   (OpenSpec.preRow_of_cond 8 hx (by kernel_rfl) (fun k hk => by cases hk; kernel_rfl) (by kernel_rfl) (laid_met os _)))
theorem row_holds : Rows.BenchTellsUptoSaid :=
 OpenClaim.holds_of_cond 3 Tryz.f3 rfl rfl rfl rfl rfl rfl rfl ⟨rfl, rfl, rfl, rfl, rfl⟩ rfl rfl rfl rfl rfl (by kernel_rfl) Tryz.func3 (by kernel_rfl)
  (of_decide_eq_true (by kernel_rfl)) (by unfold Func.isWrapper; first | (rw [if_pos (by decide +kernel)]; kernel_rfl) | (rw [if_neg (by decide +kernel)]; exact ⟨rfl, rfl⟩))
  (fun os started H enc _ F => by rw [OpenClaim.pre_eq_preRow]; exact f_lifted os started H enc F)
theorem holds : Rows.BenchTellsUptoCardSaid :=
 Claim7.holds_tied_plain_at .later [] [.data, .data, .data, .sentinel, .sentinel] true (true, "4bf58c7c1f77e1e94b725b5caf0c15bbbfaa5b84c7bf1df11d07943eddec8b5a") true
  row_holds (fun _ h => by cases h) (by kernel_rfl) (fun _ h => by cases h) benchTellsUpto_row_tie rfl ⟨rfl, rfl⟩ (by kernel_rfl) rfl
  (fun f fn hf hfn => by
   obtain rfl : f = 3 := Option.some.inj ((show Tryz.prog.funcNamed "corebell/corebelllaw.BenchTells" = some 3 by kernel_rfl).symm.trans hf) |>.symm
   obtain rfl : fn = Tryz.f3 := (Option.some.inj (Tryz.func3.symm.trans hfn)).symm
   exact ⟨by kernel_rfl, fun j t ht => by
    rw [Tryz.params3] at ht
    have hm : t ∈ [9] := by simpa using Array.mem_of_getElem? ht
    have hall : ([9].all fun u => !Tryz.prog.wantsStandIn u) = true := by kernel_rfl
    exact (show Tryz.prog.wantsStandIn t = false by simpa using List.all_eq_true.1 hall t hm)⟩)
  (by kernel_rfl)
end Go.Proofs.YtlmddcdafggphaaGreatDoor.Tell.BenchTells
