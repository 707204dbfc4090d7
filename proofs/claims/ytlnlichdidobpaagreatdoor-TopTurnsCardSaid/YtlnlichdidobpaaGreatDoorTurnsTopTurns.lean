/-
  corebelltop.TopTurns: called with whatever arguments, where the library's variables hold what their initialisers lay, the function returns true, and each argument reads afterwards as it read before; the card ties the variables to the program's text.
-/
import Derived.Test.YtlnlichdidobpaaGreatDoorTurnsL
import Derived.Test.YtlnlichdidobpaaGreatDoorSxP4
import Derived.Test.YtlnlichdidobpaaGreatDoorCards
import Derived.Test.YtlnlichdidobpaaGreatDoorTie
import Derived.SevenTiedAt
import Derived.Shelf.Vars
namespace Go.Proofs.YtlnlichdidobpaaGreatDoor.Turns.TopTurns
open Go Go.Sx Go.ChangeShapes Go.WideShapes Go.ChangeAt Go.RowKit
set_option maxRecDepth 100000
theorem own : ownKnob Tryz.prog.godebug = none := by kernel_rfl
theorem laidOut : laidOutB Tryz.prog = true := by kernel_rfl
theorem star : "*" ++ "errors.errorString" = "*errors.errorString" := by decide
theorem tn (u : TypeId) (h : Tryz.prog.typeName? 3 u = some "*errors.errorString") : u = 239 :=
  typeName_ptr_named (nm := "errors.errorString") (by rw [star]; kernel_rfl) (by kernel_rfl) (by decide) u (by rw [star]; exact h)
theorem TN (W : World) (h : laidMetH Tryz.prog Rows.topTurnsRow.laid W) (hsh : W.ShapedOpen Tryz.prog) : qC W := by
  have h0 : laidMet Tryz.prog Rows.topTurnsRow.laid W := (Go.MakeChecks.laidMetH_plain Tryz.prog Rows.topTurnsRow.laid W (by kernel_rfl)).mp h
  have h1 := h0.tail.tail
  have hT64 := Lib.tabIs_of_head (name := "math/bits.deBruijn64tab") (k := .u8) (zs := Lib.deBruijn64tab.map Int.ofNat) (g := 5) (t := 245) (e := 5) (n := 64) (by kernel_rfl) (by kernel_rfl) Tryz.underlying245 Tryz.underlying5 (by kernel_rfl) (by kernel_rfl)
    (show laidMet Tryz.prog (("math/bits.deBruijn64tab", Lib.tabData .u8 (Lib.deBruijn64tab.map Int.ofNat)) :: _) W from h0.tail)
  have hc64 : ∀ j, j < Lib.deBruijn64tab.length → W.cell? ⟨5, j, none⟩ = some (.int .u8 (Lib.deBruijn64tab.getD j 0)) := fun j hj => by
    have := hT64.cell (g := 5) (by kernel_rfl) j (by rw [List.length_map]; exact hj)
    rw [this]
    simp [List.getD, hj]
  have g64 : 5 < W.heap.size ∧ (Gl.u8 Lib.deBruijn64tab).ok W 5 := ⟨lt_of_cell (hc64 0 (by decide)), hc64⟩
  have h2 := h1.tail
  have h3 := h2.tail
  obtain ⟨m, hm⟩ := cell_of_shapedOpen_int (g := 0) (zero := #[.int .i64 0]) (t := 3) hsh (of_decide_eq_true (by kernel_rfl)) (by kernel_rfl) rfl (by kernel_rfl) (by kernel_rfl) Tryz.underlying3
  have g1 : 1 < W.heap.size ∧ (Gl.u64 Lib.pow10Tab).ok W 1 :=
    Su (name := "internal/strconv.uint64pow10") (tab := Lib.pow10Tab) (g := 1) (t := 220) (e := 97) (n := 20) (by kernel_rfl) (by kernel_rfl) Tryz.underlying220 Tryz.underlying97 (by kernel_rfl) (by kernel_rfl) (by decide)
      (show laidMet Tryz.prog (("internal/strconv.uint64pow10", Lib.tabData .u64 Lib.pow10Tab) :: _) W from h1)
  have g3 : 3 < W.heap.size ∧ Gl.err.ok W 3 :=
    KN (g := 3) (ti := 114) (tp := 239) (te := 241) (ts := 9) h2 (by kernel_rfl) (by kernel_rfl) Tryz.underlying114 tn Tryz.underlying239 Tryz.underlying241 rfl rfl Tryz.underlying9 (by kernel_rfl) (by kernel_rfl)
  have g2 : 2 < W.heap.size ∧ Gl.err.ok W 2 :=
    KN (g := 2) (ti := 114) (tp := 239) (te := 241) (ts := 9) h3 (by kernel_rfl) (by kernel_rfl) Tryz.underlying114 tn Tryz.underlying239 Tryz.underlying241 rfl rfl Tryz.underlying9 (by kernel_rfl) (by kernel_rfl)
  intro q hq
  have hs : qe = [(0, .num), (1, .u64 Lib.pow10Tab), (2, .err), (3, .err), (5, .u8 Lib.deBruijn64tab)] := rfl
  rw [hs] at hq
  simp only [List.mem_cons, List.not_mem_nil, or_false] at hq
  rcases hq with rfl | rfl | rfl | rfl | rfl
  · exact ⟨lt_of_cell hm, m, hm⟩
  · exact g1
  · exact g2
  · exact g3
  · exact g64
/- A world that meets the condition: the settled one with two blocks more (the errors' texts), the tables laid. -/
abbrev VC : ByteArray := { data := #[105, 110, 118, 97, 108, 105, 100, 32, 115, 121, 110, 116, 97, 120] }
abbrev Vk : ByteArray := { data := #[118, 97, 108, 117, 101, 32, 111, 117, 116, 32, 111, 102, 32, 114, 97, 110, 103, 101] }
abbrev Ug : List Int := [0, 1, 28, 2, 29, 14, 24, 3, 30, 22, 20, 15, 25, 17, 4, 8, 31, 27, 13, 23, 21, 19, 16, 7, 26, 12, 18, 6, 11, 5, 10, 9]
abbrev Va : List Int := [0, 1, 56, 2, 57, 49, 28, 3, 61, 58, 42, 50, 38, 29, 17, 4, 62, 47, 59, 36, 45, 43, 51, 22, 53, 39, 33, 30, 24, 18, 12, 5, 63, 55, 48, 27, 60, 41, 37, 16, 46, 35, 44, 21, 52, 32, 23, 11, 54, 26, 40, 15, 34, 20, 31, 10, 25, 14, 19, 9, 13, 8, 7, 6]
noncomputable def low : Nat := (World.holding Tryz.prog default ⟨#[], #[], []⟩).heap.size
noncomputable def lay (g : Nat) (vs : List Value) (h : Array Obj) : Array Obj := h.modify g fun
  | .cells _ t frozen => .cells vs.toArray t frozen
  | o => o
noncomputable def xy (os : Os) : World :=
  let w0 := World.holding Tryz.prog os ⟨#[.cells #[.string VC] 241, .cells #[.string Vk] 241], #[], []⟩
  { w0 with heap := lay 5 (Va.map fun n => .int .u8 n) (lay 4 (Ug.map fun n => .int .u8 n) (lay 3 [.iface 239 (.pointer (some ⟨low + 1, 0, none⟩))] (lay 2 [.iface 239 (.pointer (some ⟨low, 0, none⟩))] (lay 1 (Lib.pow10Tab.map fun n => .int .u64 n) w0.heap)))) }
theorem H4 (os : Os) (args : Array Value) : laidMet Tryz.prog Rows.topTurnsRow.laid ((xy os).forCall (fun _ _ => 0) ⟨#[], args, []⟩).memory :=
  laidMet_of_run' 12 (by kernel_rfl) (by kernel_rfl)
theorem Kf (os : Os) (started : os.Started) (H : Type) (enc : TypeId × Value → H) (F : Stop.Interp) :
    ReturnsInHanded {} Tryz.checked os 3 .any ((OpenSpec.ofChange Rows.topTurnsSpec).preRow enc Tryz.prog Tryz.f3 Rows.topTurnsRow.domain false Rows.topTurnsRow.laid) (((OpenSpec.ofChange Rows.topTurnsSpec).at F).post enc Tryz.prog Tryz.f3 false true false false) :=
  J1 (C := Tryz.checked) (us := (yk : ah).as) (s := Rows.topTurnsSpec) (k := none) rfl own started (by kernel_rfl) Tryz.func3 laidOut (by kernel_rfl) (And.intro Tryz.underlying3 (And.intro (Exists.intro 31 (And.intro Tryz.underlying22 (And.intro (by kernel_rfl) (And.intro (of_decide_eq_true (by kernel_rfl)) (And.intro (of_decide_eq_true (by kernel_rfl)) (Exists.intro _ (And.intro Tryz.underlying31 (And.intro (by kernel_rfl) (And.intro (by kernel_rfl) (And.intro (by kernel_rfl) (And.intro Tryz.underlying3 (And.intro (by kernel_rfl) (And.intro (by kernel_rfl) (And.intro Tryz.underlying3 (And.intro (by kernel_rfl) (And.intro (by kernel_rfl) Tryz.underlying3)))))))))))))))) (And.intro Tryz.underlying3 trivial))) rfl (fun ds h => by
    match ds, h with
    | [_, _, _], _ => rfl) rfl Tryz.underlying4 Eu
    (fun _ _ _ _ _ _ _ _ _ _ => trivial)
    (fun W h hsh => TN W h hsh)
    (witness_row_at (enc := enc) (C := Tryz.checked) false (xy os) #[.int .i64 0, .slice none 0 0, .int .i64 0] rfl (by kernel_rfl) (by kernel_rfl) (by kernel_rfl)
      (OpenSpec.preRow_of_B rfl 12 (by kernel_rfl) (by kernel_rfl) (H4 os _)))
theorem EK : Rows.TopTurnsSaid :=
  OpenClaim.holds_of_cond 3 Tryz.f3 rfl rfl rfl rfl rfl rfl rfl ⟨rfl, rfl, rfl, rfl, rfl⟩ rfl rfl rfl rfl rfl (by kernel_rfl) Tryz.func3 (by kernel_rfl)
    (of_decide_eq_true (by kernel_rfl)) (by unfold Func.isWrapper; first | (rw [if_pos (by decide +kernel)]; kernel_rfl) | (rw [if_neg (by decide +kernel)]; exact ⟨rfl, rfl⟩))
    (fun os started H enc _ F => by rw [OpenClaim.pre_eq_preRow]; exact Kf os started H enc F)
theorem holds : Rows.TopTurnsCardSaid :=
  Claim7.holds_tied_plain_at .later [] [.data, .data, .data, .sentinel, .sentinel] true (true, "5080bc301e1c32de31feae077002a728072e3bff5b862feb252b340641e0b0ce") true
    EK (fun _ h => by cases h) (by kernel_rfl) (fun _ h => by cases h) topTurns_row_tie rfl ⟨rfl, rfl⟩ (by kernel_rfl) rfl
    (fun f fn hf hfn => by
      obtain rfl : f = 3 := Option.some.inj ((show Tryz.prog.funcNamed "corebell/corebelltop.TopTurns" = some 3 by kernel_rfl).symm.trans hf) |>.symm
      obtain rfl : fn = Tryz.f3 := (Option.some.inj (Tryz.func3.symm.trans hfn)).symm
      exact ⟨by kernel_rfl, fun j t ht => by
        rw [Tryz.params3] at ht
        have hm : t ∈ [3, 22, 3] := by simpa using Array.mem_of_getElem? ht
        have hall : ([3, 22, 3].all fun u => !Tryz.prog.wantsStandIn u) = true := by kernel_rfl
        exact (show Tryz.prog.wantsStandIn t = false by simpa using List.all_eq_true.1 hall t hm)⟩)
    (by kernel_rfl)
end Go.Proofs.YtlnlichdidobpaaGreatDoor.Turns.TopTurns
