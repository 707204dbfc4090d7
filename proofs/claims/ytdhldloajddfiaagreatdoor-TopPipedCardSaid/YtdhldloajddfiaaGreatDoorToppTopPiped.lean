/-
 corebelltop.TopPiped: called with whatever arguments, where the library's variables hold what their initialisers lay, the function returns true, and each argument reads afterwards as it read before; the card ties the variables to the program's text.
-/
import Derived.Test.YtdhldloajddfiaaGreatDoorToppL
import Derived.Test.YtdhldloajddfiaaGreatDoorSxP4
import Derived.Test.YtdhldloajddfiaaGreatDoorCards
import Derived.Test.YtdhldloajddfiaaGreatDoorTie
import Derived.SevenTiedAt
import Derived.Shelf.Vars
namespace Go.Proofs.YtdhldloajddfiaaGreatDoor.Topp.TopPiped
open Go Go.Sx Go.ChangeShapes Go.WideShapes Go.ChangeAt Go.RowKit
set_option maxRecDepth 100000
theorem own : ownKnob Tryz.prog.godebug = none := by kernel_rfl
theorem laidOut : laidOutB Tryz.prog = true := by kernel_rfl
theorem star : "*" ++ "errors.errorString" = "*errors.errorString" := by decide
theorem tn (u : TypeId) (h : Tryz.prog.typeName? 3 u = some "*errors.errorString") : u = 202 :=
 typeName_ptr_named (nm := "errors.errorString") (by rw [star]; kernel_rfl) (by kernel_rfl) (by decide) u (by rw [star]; exact h)
theorem gl_ok (W : World) (h : laidMetH Tryz.prog Rows.topPipedRow.laid W) (hsh : W.ShapedOpen Tryz.prog) : GlOk W := by
 have h0 : laidMet Tryz.prog Rows.topPipedRow.laid W := (Go.MakeChecks.laidMetH_plain Tryz.prog Rows.topPipedRow.laid W (by kernel_rfl)).mp h
 have h1 := h0.tail.tail
 have hT64 := Lib.tabIs_of_head (name := "math/bits.deBruijn64tab") (k := .u8) (zs := Lib.deBruijn64tab.map Int.ofNat) (g := 3) (t := 163) (e := 5) (n := 64) (by kernel_rfl) (by kernel_rfl) Tryz.underlying163 Tryz.underlying5 (by kernel_rfl) (by kernel_rfl)
  (show laidMet Tryz.prog (("math/bits.deBruijn64tab", Lib.tabData .u8 (Lib.deBruijn64tab.map Int.ofNat)) :: _) W from h0.tail)
 have hc64 : ∀ j, j < Lib.deBruijn64tab.length → W.cell? ⟨3, j, none⟩ = some (.int .u8 (Lib.deBruijn64tab.getD j 0)) := fun j hj => by
  have := hT64.cell (g := 3) (by kernel_rfl) j (by rw [List.length_map]; exact hj)
  rw [this]
  simp [List.getD, hj]
 have g64 : 3 < W.heap.size ∧ (Gl.u8 Lib.deBruijn64tab).ok W 3 := ⟨lt_of_cell (hc64 0 (by decide)), hc64⟩
 have h2 := h1.tail
 have h3 := h2.tail
 obtain ⟨m, hm⟩ := cell_of_shapedOpen_int (g := 1) (zero := #[.int .i64 0]) (t := 3) hsh (of_decide_eq_true (by kernel_rfl)) (by kernel_rfl) rfl (by kernel_rfl) (by kernel_rfl) Tryz.underlying3
 have g1 : 0 < W.heap.size ∧ (Gl.u64 Lib.pow10Tab).ok W 0 :=
  gl_u64 (name := "internal/strconv.uint64pow10") (tab := Lib.pow10Tab) (g := 0) (t := 131) (e := 92) (n := 20) (by kernel_rfl) (by kernel_rfl) Tryz.underlying131 Tryz.underlying92 (by kernel_rfl) (by kernel_rfl) (by decide)
   (show laidMet Tryz.prog (("internal/strconv.uint64pow10", Lib.tabData .u64 Lib.pow10Tab) :: _) W from h1)
 have g3 : 5 < W.heap.size ∧ Gl.err.ok W 5 :=
  gl_err (g := 5) (ti := 65) (tp := 202) (te := 204) (ts := 9) h2 (by kernel_rfl) (by kernel_rfl) Tryz.underlying65 tn Tryz.underlying202 Tryz.underlying204 rfl rfl Tryz.underlying9 (by kernel_rfl) (by kernel_rfl)
 have g2 : 4 < W.heap.size ∧ Gl.err.ok W 4 :=
  gl_err (g := 4) (ti := 65) (tp := 202) (te := 204) (ts := 9) h3 (by kernel_rfl) (by kernel_rfl) Tryz.underlying65 tn Tryz.underlying202 Tryz.underlying204 rfl rfl Tryz.underlying9 (by kernel_rfl) (by kernel_rfl)
 intro q hq
 have hs : seatGl = [(1, .num), (0, .u64 Lib.pow10Tab), (4, .err), (5, .err), (3, .u8 Lib.deBruijn64tab)] := rfl
 rw [hs] at hq
 simp only [List.mem_cons, List.not_mem_nil, or_false] at hq
 rcases hq with rfl | rfl | rfl | rfl | rfl
 ·exact ⟨lt_of_cell hm, m, hm⟩
 ·exact g1
 ·exact g2
 ·exact g3
 ·exact g64
abbrev synS : ByteArray := { data := #[105, 110, 118, 97, 108, 105, 100, 32, 115, 121, 110, 116, 97, 120] }
abbrev rngS : ByteArray := { data := #[118, 97, 108, 117, 101, 32, 111, 117, 116, 32, 111, 102, 32, 114, 97, 110, 103, 101] }
abbrev tab32 : List Int := [0, 1, 28, 2, 29, 14, 24, 3, 30, 22, 20, 15, 25, 17, 4, 8, 31, 27, 13, 23, 21, 19, 16, 7, 26, 12, 18, 6, 11, 5, 10, 9]
abbrev tab64 : List Int := [0, 1, 56, 2, 57, 49, 28, 3, 61, 58, 42, 50, 38, 29, 17, 4, 62, 47, 59, 36, 45, 43, 51, 22, 53, 39, 33, 30, 24, 18, 12, 5, 63, 55, 48, 27, 60, 41, 37, 16, 46, 35, 44, 21, 52, 32, 23, 11, 54, 26, 40, 15, 34, 20, 31, 10, 25, 14, 19, 9, 13, 8, 7, 6]
noncomputable def low : Nat := (World.holding Tryz.prog default ⟨#[], #[], []⟩).heap.size
noncomputable def lay (g : Nat) (vs : List Value) (h : Array Obj) : Array Obj := h.modify g fun
 | .cells _ t frozen => .cells vs.toArray t frozen
 | o => o
noncomputable def laidWorld (os : Os) : World :=
 let w0 := World.holding Tryz.prog os ⟨#[.cells #[.string synS] 204, .cells #[.string rngS] 204], #[], []⟩
 {w0 with heap := lay 3 (tab64.map fun n => .int .u8 n) (lay 2 (tab32.map fun n => .int .u8 n) (lay 5 [.iface 202 (.pointer (some ⟨low + 1, 0, none⟩))] (lay 4 [.iface 202 (.pointer (some ⟨low, 0, none⟩))] (lay 0 (Lib.pow10Tab.map fun n => .int .u64 n) w0.heap)))) }
theorem laid_met (os : Os) (args : Array Value) : laidMet Tryz.prog Rows.topPipedRow.laid ((laidWorld os).forCall (fun _ _ => 0) ⟨#[], args, []⟩).memory :=
 laidMet_of_run' 12 (by kernel_rfl) (by kernel_rfl)
theorem f_lifted (os : Os) (started : os.Started) (H : Type) (enc : TypeId × Value → H) (F : Stop.Interp) :
  ReturnsInHanded {} Tryz.checked os 3 .any ((OpenSpec.ofChange Rows.topPipedSpec).preRow enc Tryz.prog Tryz.f3 Rows.topPipedRow.domain false Rows.topPipedRow.laid) (((OpenSpec.ofChange Rows.topPipedSpec).at F).post enc Tryz.prog Tryz.f3 false true false false) :=
 law_rowO (C := Tryz.checked) (us := (cPiped : Ctr).as) (s := Rows.topPipedSpec) (k := none) rfl own started (by kernel_rfl) Tryz.func3 laidOut (by kernel_rfl) (And.intro (Exists.intro 5 (And.intro Tryz.underlying22 (And.intro (by kernel_rfl) (And.intro (of_decide_eq_true (by kernel_rfl)) (And.intro (of_decide_eq_true (by kernel_rfl)) Tryz.underlying5))))) (And.intro Tryz.underlying3 (And.intro Tryz.underlying3 trivial))) rfl (fun ds h => by
  match ds, h with
  | [_, _, _], _ => rfl) rfl Tryz.underlying4 c_piped
  (fun _ _ _ _ _ _ _ _ _ _ => trivial)
  (fun W h hsh => gl_ok W h hsh)
  (witness_row_at (enc := enc) (C := Tryz.checked) false (laidWorld os) #[.slice none 0 0, .int .i64 0, .int .i64 0] rfl (by kernel_rfl) (by kernel_rfl) (by kernel_rfl)
   (OpenSpec.preRow_of_B rfl 12 (by kernel_rfl) (by kernel_rfl) (laid_met os _)))
theorem row_holds : Rows.TopPipedSaid :=
 OpenClaim.holds_of_cond 3 Tryz.f3 rfl rfl rfl rfl rfl rfl rfl ⟨rfl, rfl, rfl, rfl, rfl⟩ rfl rfl rfl rfl rfl (by kernel_rfl) Tryz.func3 (by kernel_rfl)
  (of_decide_eq_true (by kernel_rfl)) (by unfold Func.isWrapper; first | (rw [if_pos (by decide +kernel)]; kernel_rfl) | (rw [if_neg (by decide +kernel)]; exact ⟨rfl, rfl⟩))
  (fun os started H enc _ F => by rw [OpenClaim.pre_eq_preRow]; exact f_lifted os started H enc F)
theorem holds : Rows.TopPipedCardSaid :=
 Claim7.holds_tied_plain_at .later [] [.data, .data, .data, .sentinel, .sentinel] true (true, "16fdd114ad22e8d90e1635568a0b6990cda0d9faa45253e523aa980a2d22e9bb") true
  row_holds (fun _ h => by cases h) (by kernel_rfl) (fun _ h => by cases h) topPiped_row_tie rfl ⟨rfl, rfl⟩ (by kernel_rfl) rfl
  (fun f fn hf hfn => by
   obtain rfl : f = 3 := Option.some.inj ((show Tryz.prog.funcNamed "corebell/corebelltop.TopPiped" = some 3 by kernel_rfl).symm.trans hf) |>.symm
   obtain rfl : fn = Tryz.f3 := (Option.some.inj (Tryz.func3.symm.trans hfn)).symm
   exact ⟨by kernel_rfl, fun j t ht => by
    rw [Tryz.params3] at ht
    have hm : t ∈ [22, 3, 3] := by simpa using Array.mem_of_getElem? ht
    have hall : ([22, 3, 3].all fun u => !Tryz.prog.wantsStandIn u) = true := by kernel_rfl
    exact (show Tryz.prog.wantsStandIn t = false by simpa using List.all_eq_true.1 hall t hm)⟩)
  (by kernel_rfl)
end Go.Proofs.YtdhldloajddfiaaGreatDoor.Topp.TopPiped
