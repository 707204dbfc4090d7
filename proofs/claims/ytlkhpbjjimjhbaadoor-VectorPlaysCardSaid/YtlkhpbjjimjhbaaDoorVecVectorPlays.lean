/-
  corebelllaw.VectorPlays: called with whatever arguments, where the library's table holds what its initialiser lays, the function returns true, and each argument reads afterwards as it read before; the card ties the table to the program's text.
-/
import Derived.Test.YtlkhpbjjimjhbaaDoorVecL
import Derived.Test.YtlkhpbjjimjhbaaDoorSxXG
import Derived.Test.YtlkhpbjjimjhbaaDoorCards
import Derived.Test.YtlkhpbjjimjhbaaDoorTie
import Derived.SevenTiedAt
namespace Go.Proofs.YtlkhpbjjimjhbaaDoor.Vec.VectorPlays
open Go Go.Sx Go.ChangeShapes Go.WideShapes Go.ChangeAt Go.RowKit
set_option maxRecDepth 100000
theorem own : ownKnob Tryd.prog.godebug = none := by kernel_rfl
theorem laidOut : laidOutB Tryd.prog = true := by kernel_rfl
theorem laid_is (W : World) (h : laidMetH Tryd.prog Rows.vectorPlaysRow.laid W) : laidMet Tryd.prog [("math/bits.deBruijn64tab", Lib.tabData .u8 (Lib.deBruijn64tab.map Int.ofNat))] W :=
  (Go.MakeChecks.laidMetH_plain Tryd.prog Rows.vectorPlaysRow.laid W (by kernel_rfl)).mp h
theorem gl_ok (W : World) (h : laidMetH Tryd.prog Rows.vectorPlaysRow.laid W) : GlOk W :=
  glOk_one (g := 0) (t := 72) (e := 5) (n := 64) rfl (by kernel_rfl) (by kernel_rfl) Tryd.underlying72 Tryd.underlying5 (by kernel_rfl) (by kernel_rfl) (by decide) (laid_is W h)
/- A world that meets the condition: the settled one, the table laid. -/
noncomputable def laidWorld (os : Os) : World :=
  let w0 := World.holding Tryd.prog os ⟨#[], #[], []⟩
  { w0 with heap := w0.heap.modify 0 fun
      | .cells _ t frozen => .cells (Lib.deBruijn64tab.map (fun (n : Nat) => Value.int .u8 (Int.ofNat n))).toArray t frozen
      | o => o }
theorem laidWorld_met (os : Os) (args : Array Value) : laidMetH Tryd.prog Rows.vectorPlaysRow.laid ((laidWorld os).forCall (fun _ _ => 0) ⟨#[], args, []⟩).memory :=
  (Go.MakeChecks.laidMetH_plain Tryd.prog Rows.vectorPlaysRow.laid _ (by kernel_rfl)).mpr (laidMet_of_run' 12 (by kernel_rfl) (by kernel_rfl))
theorem f_lifted (os : Os) (started : os.Started) (H : Type) (enc : TypeId × Value → H) :
    ReturnsInHanded {} Tryd.checked os 4 .any (fun w args => (Rows.vectorPlaysSpec.pre enc Tryd.prog Tryd.f4 Rows.vectorPlaysRow.domain false w args ∧ laidMetH Tryd.prog Rows.vectorPlaysRow.laid w) ∧ sizedMet enc Tryd.prog Tryd.f4 (OpenSpec.ofChange Rows.vectorPlaysSpec) false w args)
      (Rows.vectorPlaysSpec.post enc Tryd.prog Tryd.f4 false true false false) :=
  law_laid (C := Tryd.checked) (us := (cVec : Ctr).as) (X := fun w _ => laidMetH Tryd.prog Rows.vectorPlaysRow.laid w) (fun _ _ _ hh h => h.of_heap hh) own started (by kernel_rfl) Tryd.func4 laidOut (by kernel_rfl) (And.intro Tryd.underlying3 (And.intro Tryd.underlying3 (And.intro (Exists.intro 59 (And.intro Tryd.underlying35 (And.intro (by kernel_rfl) (And.intro (of_decide_eq_true (by kernel_rfl)) (And.intro (of_decide_eq_true (by kernel_rfl)) (Exists.intro _ (And.intro Tryd.underlying59 (And.intro (by kernel_rfl) (And.intro (by kernel_rfl) (And.intro (by kernel_rfl) (And.intro Tryd.underlying3 (And.intro (by kernel_rfl) (And.intro (by kernel_rfl) (And.intro Tryd.underlying3 (And.intro (by kernel_rfl) (And.intro (by kernel_rfl) Tryd.underlying3)))))))))))))))) trivial))) rfl (fun ds h => by
    match ds, h with
    | [_, _, _], _ => rfl) rfl Tryd.underlying4 c_vplays (fun x hg hf => pre_vplays x hg hf) (fun W _ h => gl_ok W h)
    (ChangeSpec.witness_at (enc := enc) (C := Tryd.checked) (os := os) (X := fun w _ => laidMetH Tryd.prog Rows.vectorPlaysRow.laid w) false (laidWorld os) #[.int .i64 0, .int .i64 0, .slice none 0 0] 12 rfl (by kernel_rfl) (by kernel_rfl) (by kernel_rfl) (by kernel_rfl) (by kernel_rfl) (laidWorld_met os _))
theorem row_holds : Rows.VectorPlaysSaid :=
  OpenClaim.holds_of_wide 4 Tryd.f4 rfl rfl rfl rfl rfl rfl rfl ⟨rfl, rfl, rfl, rfl, rfl⟩ rfl rfl rfl rfl rfl (by kernel_rfl) Tryd.func4 (by kernel_rfl)
    (of_decide_eq_true (by kernel_rfl)) (by unfold Func.isWrapper; first | (rw [if_pos (by decide +kernel)]; kernel_rfl) | (rw [if_neg (by decide +kernel)]; exact ⟨rfl, rfl⟩))
    (fun os started H enc _ => f_lifted os started H enc)
theorem holds : Rows.VectorPlaysCardSaid :=
  Claim7.holds_tied_plain_at .later [] [.data] true (true, "ed003d8e52146fbbed78cf9d1d43e101158c132c42b27997242198610d923660") false
    row_holds (fun _ h => by cases h) (by kernel_rfl) (fun _ h => by cases h) vectorPlays_row_tie rfl ⟨rfl, rfl⟩ (by kernel_rfl) rfl
    (fun f fn hf hfn => by
      obtain rfl : f = 4 := Option.some.inj ((show Tryd.prog.funcNamed "corebell/corebelllaw.VectorPlays" = some 4 by kernel_rfl).symm.trans hf) |>.symm
      obtain rfl : fn = Tryd.f4 := (Option.some.inj (Tryd.func4.symm.trans hfn)).symm
      exact ⟨by kernel_rfl, fun j t ht => by
        rw [Tryd.params4] at ht
        have hm : t ∈ [3, 3, 35] := by simpa using Array.mem_of_getElem? ht
        have hall : ([3, 3, 35].all fun u => !Tryd.prog.wantsStandIn u) = true := by kernel_rfl
        exact (show Tryd.prog.wantsStandIn t = false by simpa using List.all_eq_true.1 hall t hm)⟩)
    (by kernel_rfl)
end Go.Proofs.YtlkhpbjjimjhbaaDoor.Vec.VectorPlays
