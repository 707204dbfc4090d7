/-
 corebelllaw.KernelPlays, the second form: called with whatever slice of bulk at most 1048576, where the library's table holds what its initialiser lays, the function returns true, and the argument reads afterwards as it read before; the card ties the table to the program's text.
-/
import Derived.Test.YtppgbcmeagbalaaDoorKernL
import Derived.Test.YtppgbcmeagbalaaDoorSxXU2
import Derived.Test.YtppgbcmeagbalaaDoorCards
import Derived.Test.YtppgbcmeagbalaaDoorTie
import Derived.SevenTiedAt
namespace Go.Proofs.YtppgbcmeagbalaaDoor.Kern.KernelPlays
open Go Go.Sx Go.ChangeShapes Go.WideShapes Go.ChangeAt Go.RowKit
set_option maxRecDepth 100000
theorem own : ownKnob Tryd.prog.godebug = none := by kernel_rfl
theorem laidOut : laidOutB Tryd.prog = true := by kernel_rfl
theorem gl_ok (W : World) (h : laidMetH Tryd.prog Rows.kernelPlaysUptoRow.laid W) : GlOk W :=
 glOk_one (g := 1) (t := 128) (e := 5) (n := 64) rfl (by kernel_rfl) (by kernel_rfl) Tryd.underlying128 Tryd.underlying5 (by kernel_rfl) (by kernel_rfl) (by decide)
  (show laidMet Tryd.prog [("math/bits.deBruijn64tab", Lib.tabData .u8 (Lib.deBruijn64tab.map Int.ofNat))] W from (Go.MakeChecks.laidMetH_plain Tryd.prog Rows.kernelPlaysUptoRow.laid W (by kernel_rfl)).mp h)
noncomputable def laidWorld (os : Os) : World :=
 let w0 := World.holding Tryd.prog os ⟨#[], #[], []⟩
 {w0 with heap := w0.heap.modify 1 fun
   | .cells _ t frozen => .cells (Lib.deBruijn64tab.map (fun (n : Nat) => Value.int .u8 (Int.ofNat n))).toArray t frozen
   | o => o }
theorem laid_met (os : Os) (args : Array Value) : laidMet Tryd.prog Rows.kernelPlaysUptoRow.laid ((laidWorld os).forCall (fun _ _ => 0) ⟨#[], args, []⟩).memory :=
 laidMet_of_run' 12 (by kernel_rfl) (by kernel_rfl)
theorem reads (os : Os) {H : Type} (enc : TypeId × Value → H) : ∃ places, DataW.whole enc Tryd.prog ((laidWorld os).forCall (fun _ _ => 0) ⟨#[], #[.slice none 0 0], []⟩).memory Tryd.f3.params.toList Rows.kernelPlaysSpec.vars false #[.slice none 0 0].toList 8 = some ([.nil], [], places) :=
 ⟨[], by kernel_rfl⟩
theorem bulk_pos {H : Type} (d : DataW H) : 1 ≤ Rows.uptoBulk d := by
 unfold Rows.uptoBulk
 split <;> omega
theorem bulk_len {H : Type} : ∀ l : List (DataW H), l.length ≤ Rows.uptoBulkAll l
 | [] => Nat.zero_le _
 | d :: r => by
  have h1 := bulk_pos d
  have h2 := bulk_len r
  unfold Rows.uptoBulkAll
  rw [List.length_cons]
  omega
theorem short {H : Type} {l m : List (DataW H)} (h : Rows.uptoSmall H [.slice l m] = true) : l.length ≤ 1048576 := by
 have h1 : Rows.uptoBulkAll [DataW.slice l m] ≤ 1048576 := of_decide_eq_true h
 have h2 := bulk_len l
 unfold Rows.uptoBulkAll Rows.uptoBulk at h1
 omega
theorem f_lifted (os : Os) (started : os.Started) (H : Type) (enc : TypeId × Value → H) (F : Stop.Interp) :
  ReturnsInHanded {} Tryd.checked os 3 .any ((Rows.OpenSpec.upto Rows.kernelPlaysSpec).preRow enc Tryd.prog Tryd.f3 Rows.kernelPlaysUptoRow.domain false Rows.kernelPlaysUptoRow.laid) (((Rows.OpenSpec.upto Rows.kernelPlaysSpec).at F).post enc Tryd.prog Tryd.f3 false true false false) := by
 obtain ⟨places, hx⟩ := reads os enc
 exact law_row (C := Tryd.checked) (us := (cKern : Ctr).as) (s := Rows.kernelPlaysSpec) (k := Rows.uptoSmall) rfl own started (by kernel_rfl) Tryd.func3 laidOut (by kernel_rfl) (And.intro (Exists.intro 38 (And.intro Tryd.underlying22 (And.intro (by kernel_rfl) (And.intro (of_decide_eq_true (by kernel_rfl)) (And.intro (of_decide_eq_true (by kernel_rfl)) (Exists.intro _ (And.intro Tryd.underlying38 (And.intro (by kernel_rfl) (And.intro (by kernel_rfl) (And.intro (by kernel_rfl) (And.intro Tryd.underlying3 (And.intro (by kernel_rfl) (And.intro (by kernel_rfl) (And.intro Tryd.underlying3 (And.intro (by kernel_rfl) (And.intro (by kernel_rfl) (And.intro Tryd.underlying3 (And.intro (by kernel_rfl) (And.intro (by kernel_rfl) Tryd.underlying5))))))))))))))))))) trivial) rfl (fun ds h => by
  match ds, h with
  | [_], _ => rfl) rfl Tryd.underlying4 c_kern
  (fun W vs x ds ps hx hA hk _ _ => by
   rw [Tryd.params3] at hA
   rcases one_len Tryd.underlying22 hx hA with h | ⟨l, m, rfl, h⟩
   ·show x.1.length ≤ 1048576
    omega
   ·show x.1.length ≤ 1048576
    have := short hk
    omega)
  gl_ok
  (witness_row_at (enc := enc) (C := Tryd.checked) false (laidWorld os) #[.slice none 0 0] rfl (by kernel_rfl) (by kernel_rfl) (by kernel_rfl)
   (OpenSpec.preRow_of_cond 8 hx (by kernel_rfl) (fun k hk => by cases hk; kernel_rfl) (by kernel_rfl) (laid_met os _)))
theorem row_holds : Rows.KernelPlaysUptoSaid :=
 OpenClaim.holds_of_cond 3 Tryd.f3 rfl rfl rfl rfl rfl rfl rfl ⟨rfl, rfl, rfl, rfl, rfl⟩ rfl rfl rfl rfl rfl (by kernel_rfl) Tryd.func3 (by kernel_rfl)
  (of_decide_eq_true (by kernel_rfl)) (by unfold Func.isWrapper; first | (rw [if_pos (by decide +kernel)]; kernel_rfl) | (rw [if_neg (by decide +kernel)]; exact ⟨rfl, rfl⟩))
  (fun os started H enc _ F => by rw [OpenClaim.pre_eq_preRow]; exact f_lifted os started H enc F)
theorem holds : Rows.KernelPlaysUptoCardSaid :=
 Claim7.holds_tied_plain_at .later [] [.data] true (true, "b4f6e9cae78d7c5d47ec302976d0f550b7c74d3120d286c4f1a974f90fe3b2dd") false
  row_holds (fun _ h => by cases h) (by kernel_rfl) (fun _ h => by cases h) kernelPlaysUpto_row_tie rfl ⟨rfl, rfl⟩ (by kernel_rfl) rfl
  (fun f fn hf hfn => by
   obtain rfl : f = 3 := Option.some.inj ((show Tryd.prog.funcNamed "corebell/corebelllaw.KernelPlays" = some 3 by kernel_rfl).symm.trans hf) |>.symm
   obtain rfl : fn = Tryd.f3 := (Option.some.inj (Tryd.func3.symm.trans hfn)).symm
   exact ⟨by kernel_rfl, fun j t ht => by
    rw [Tryd.params3] at ht
    have hm : t ∈ [22] := by simpa using Array.mem_of_getElem? ht
    have hall : ([22].all fun u => !Tryd.prog.wantsStandIn u) = true := by kernel_rfl
    exact (show Tryd.prog.wantsStandIn t = false by simpa using List.all_eq_true.1 hall t hm)⟩)
  (by kernel_rfl)
end Go.Proofs.YtppgbcmeagbalaaDoor.Kern.KernelPlays
