/-
  No cell of these rows narrows 'for every input' (looked for: loops, veiled, ifaces, maps, wideKeys, modest, calm, conditions, laid).
  DERIVED. THE GIVEN ROWS OF THIS SEAT. 9 by the template 'for every input the law returns true; each argument reads behind the call as it read before'; 0 by the template 'total and deterministic' (their statements: YtlkhpbjjimjhbaaTotals.lean).
  GIVEN WITH THE SEED: the statements are not yours to turn. If you find one false, say at which input.
  Laid BY PROGRAM, IN A SANDBOX (cutbox-rows.mjs): the forced cells as the released guide's own fill.sh prints them over the translation df5c60411b76e10f… (all of the seat's roots in one cut). By AI agents, Wed Nov 11 2026. No macro, syntax, notation, axiom, sorry.
-/
import Derived.Test.YtlkhpbjjimjhbaaChecked
import GoSem.Claim
import GoSem.ClaimJoined
import GoSem.ClaimMapViews
import Derived.JoinedTies
import Derived.KernelRfl
namespace Go.Proofs.Ytlkhpbjjimjhbaa
/- THE CELL 'sum', in the pinned program and in every row, IS THE sha256 OF THE DUMP (.gsa) THAT YtlkhpbjjimjhbaaProg.lean LOADS. Nothing in Lean hashes anything: it is a label: what it is worth is what the hold of that sum in a sandbox is worth. -/
noncomputable def Try.pinned : Pinned := { name := "ytlkhpbjjimjhbaa", sum := "df5c60411b76e10f28a3c19feaab41b525f07c3d3f79b67357ff6510043e0c3b", checked := Try.checked }
namespace Rows
def none {H : Type} : Left H := { results := [], args := [] }

/-- 'corebelllaw.TtyTypes': WHATEVER THE INPUT: true; the input reads as it did. -/
def ttyTypesSpec : ChangeSpec := { name := "ttyTypes", fn := fun _ => fun
  | [d] => { results := [.lit (.bool true)], args := [d] }
  | _ => none }
def ttyTypesRow : OpenClaim := { program := "ytlkhpbjjimjhbaa", sum := "df5c60411b76e10f28a3c19feaab41b525f07c3d3f79b67357ff6510043e0c3b", func := "corebell/corebelllaw.TtyTypes", spec := "ttyTypes", unfollowed := true, recurses := true, apart := false }
def TtyTypesSaid : Prop := ttyTypesRow.holds Try.pinned (OpenSpec.ofChange ttyTypesSpec)

/-- ITS FALSE NEIGHBOUR: 'it returns false'. Refute it at one input. -/
def ttyTypesWrong : ChangeSpec := { name := "ttyTypes", fn := fun _ => fun
  | [d] => { results := [.lit (.bool false)], args := [d] }
  | _ => none }
def TtyTypesWrongFalsely : Prop := ttyTypesRow.holds Try.pinned (OpenSpec.ofChange ttyTypesWrong)

/-- 'corebelllaw.WorkPlays': WHATEVER THE INPUT: true; the input reads as it did. -/
def workPlaysSpec : ChangeSpec := { name := "workPlays", fn := fun _ => fun
  | [d] => { results := [.lit (.bool true)], args := [d] }
  | _ => none }
def workPlaysRow : OpenClaim := { program := "ytlkhpbjjimjhbaa", sum := "df5c60411b76e10f28a3c19feaab41b525f07c3d3f79b67357ff6510043e0c3b", func := "corebell/corebelllaw.WorkPlays", spec := "workPlays", apart := false }
def WorkPlaysSaid : Prop := workPlaysRow.holds Try.pinned (OpenSpec.ofChange workPlaysSpec)

/-- ITS FALSE NEIGHBOUR: 'it returns false'. Refute it at one input. -/
def workPlaysWrong : ChangeSpec := { name := "workPlays", fn := fun _ => fun
  | [d] => { results := [.lit (.bool false)], args := [d] }
  | _ => none }
def WorkPlaysWrongFalsely : Prop := workPlaysRow.holds Try.pinned (OpenSpec.ofChange workPlaysWrong)

/-- 'corebelllaw.TtyTells': WHATEVER THE INPUT: true; the input reads as it did. -/
def ttyTellsSpec : ChangeSpec := { name := "ttyTells", fn := fun _ => fun
  | [d1, d2, d3] => { results := [.lit (.bool true)], args := [d1, d2, d3] }
  | _ => none }
def ttyTellsRow : OpenClaim := { program := "ytlkhpbjjimjhbaa", sum := "df5c60411b76e10f28a3c19feaab41b525f07c3d3f79b67357ff6510043e0c3b", func := "corebell/corebelllaw.TtyTells", spec := "ttyTells", unfollowed := true, recurses := true, apart := false }
def TtyTellsSaid : Prop := ttyTellsRow.holds Try.pinned (OpenSpec.ofChange ttyTellsSpec)

/-- ITS FALSE NEIGHBOUR: 'it returns false'. Refute it at one input. -/
def ttyTellsWrong : ChangeSpec := { name := "ttyTells", fn := fun _ => fun
  | [d1, d2, d3] => { results := [.lit (.bool false)], args := [d1, d2, d3] }
  | _ => none }
def TtyTellsWrongFalsely : Prop := ttyTellsRow.holds Try.pinned (OpenSpec.ofChange ttyTellsWrong)

/-- 'corebelllaw.FilesPlay': WHATEVER THE INPUT: true; the input reads as it did. -/
def filesPlaySpec : ChangeSpec := { name := "filesPlay", fn := fun _ => fun
  | [d] => { results := [.lit (.bool true)], args := [d] }
  | _ => none }
def filesPlayRow : OpenClaim := { program := "ytlkhpbjjimjhbaa", sum := "df5c60411b76e10f28a3c19feaab41b525f07c3d3f79b67357ff6510043e0c3b", func := "corebell/corebelllaw.FilesPlay", spec := "filesPlay", unfollowed := true, recurses := true, apart := false }
def FilesPlaySaid : Prop := filesPlayRow.holds Try.pinned (OpenSpec.ofChange filesPlaySpec)

/-- ITS FALSE NEIGHBOUR: 'it returns false'. Refute it at one input. -/
def filesPlayWrong : ChangeSpec := { name := "filesPlay", fn := fun _ => fun
  | [d] => { results := [.lit (.bool false)], args := [d] }
  | _ => none }
def FilesPlayWrongFalsely : Prop := filesPlayRow.holds Try.pinned (OpenSpec.ofChange filesPlayWrong)

/-- 'corebelllaw.RankPlays': WHATEVER THE INPUT: true; the input reads as it did. -/
def rankPlaysSpec : ChangeSpec := { name := "rankPlays", fn := fun _ => fun
  | [d1, d2, d3, d4] => { results := [.lit (.bool true)], args := [d1, d2, d3, d4] }
  | _ => none }
def rankPlaysRow : OpenClaim := { program := "ytlkhpbjjimjhbaa", sum := "df5c60411b76e10f28a3c19feaab41b525f07c3d3f79b67357ff6510043e0c3b", func := "corebell/corebelllaw.RankPlays", spec := "rankPlays", unfollowed := true, recurses := true, apart := false }
def RankPlaysSaid : Prop := rankPlaysRow.holds Try.pinned (OpenSpec.ofChange rankPlaysSpec)

/-- ITS FALSE NEIGHBOUR: 'it returns false'. Refute it at one input. -/
def rankPlaysWrong : ChangeSpec := { name := "rankPlays", fn := fun _ => fun
  | [d1, d2, d3, d4] => { results := [.lit (.bool false)], args := [d1, d2, d3, d4] }
  | _ => none }
def RankPlaysWrongFalsely : Prop := rankPlaysRow.holds Try.pinned (OpenSpec.ofChange rankPlaysWrong)

/-- 'corebelllaw.WaitPlays': WHATEVER THE INPUT: true; the input reads as it did. -/
def waitPlaysSpec : ChangeSpec := { name := "waitPlays", fn := fun _ => fun
  | [d] => { results := [.lit (.bool true)], args := [d] }
  | _ => none }
def waitPlaysRow : OpenClaim := { program := "ytlkhpbjjimjhbaa", sum := "df5c60411b76e10f28a3c19feaab41b525f07c3d3f79b67357ff6510043e0c3b", func := "corebell/corebelllaw.WaitPlays", spec := "waitPlays", unfollowed := true, recurses := true, apart := false }
def WaitPlaysSaid : Prop := waitPlaysRow.holds Try.pinned (OpenSpec.ofChange waitPlaysSpec)

/-- ITS FALSE NEIGHBOUR: 'it returns false'. Refute it at one input. -/
def waitPlaysWrong : ChangeSpec := { name := "waitPlays", fn := fun _ => fun
  | [d] => { results := [.lit (.bool false)], args := [d] }
  | _ => none }
def WaitPlaysWrongFalsely : Prop := waitPlaysRow.holds Try.pinned (OpenSpec.ofChange waitPlaysWrong)

/-- 'corebelllaw.ClockScales': WHATEVER THE INPUT: true; the input reads as it did. -/
def clockScalesSpec : ChangeSpec := { name := "clockScales", fn := fun _ => fun
  | [d1, d2, d3, d4] => { results := [.lit (.bool true)], args := [d1, d2, d3, d4] }
  | _ => none }
def clockScalesRow : OpenClaim := { program := "ytlkhpbjjimjhbaa", sum := "df5c60411b76e10f28a3c19feaab41b525f07c3d3f79b67357ff6510043e0c3b", func := "corebell/corebelllaw.ClockScales", spec := "clockScales", unfollowed := true, recurses := true, named := ["math/bits.divideError", "math/bits.overflowError"], apart := false }
def ClockScalesSaid : Prop := clockScalesRow.holds Try.pinned (OpenSpec.ofChange clockScalesSpec)

/-- ITS FALSE NEIGHBOUR: 'it returns false'. Refute it at one input. -/
def clockScalesWrong : ChangeSpec := { name := "clockScales", fn := fun _ => fun
  | [d1, d2, d3, d4] => { results := [.lit (.bool false)], args := [d1, d2, d3, d4] }
  | _ => none }
def ClockScalesWrongFalsely : Prop := clockScalesRow.holds Try.pinned (OpenSpec.ofChange clockScalesWrong)

/-- 'corebelllaw.SpreadPlans': WHATEVER THE INPUT: true; the input reads as it did. -/
def spreadPlansSpec : ChangeSpec := { name := "spreadPlans", fn := fun _ => fun
  | [d1, d2] => { results := [.lit (.bool true)], args := [d1, d2] }
  | _ => none }
def spreadPlansRow : OpenClaim := { program := "ytlkhpbjjimjhbaa", sum := "df5c60411b76e10f28a3c19feaab41b525f07c3d3f79b67357ff6510043e0c3b", func := "corebell/corebelllaw.SpreadPlans", spec := "spreadPlans", unfollowed := true, recurses := true, apart := false }
def SpreadPlansSaid : Prop := spreadPlansRow.holds Try.pinned (OpenSpec.ofChange spreadPlansSpec)

/-- ITS FALSE NEIGHBOUR: 'it returns false'. Refute it at one input. -/
def spreadPlansWrong : ChangeSpec := { name := "spreadPlans", fn := fun _ => fun
  | [d1, d2] => { results := [.lit (.bool false)], args := [d1, d2] }
  | _ => none }
def SpreadPlansWrongFalsely : Prop := spreadPlansRow.holds Try.pinned (OpenSpec.ofChange spreadPlansWrong)

/-- 'corebelllaw.RunqPlays': WHATEVER THE INPUT: true; the input reads as it did. -/
def runqPlaysSpec : ChangeSpec := { name := "runqPlays", fn := fun _ => fun
  | [d] => { results := [.lit (.bool true)], args := [d] }
  | _ => none }
def runqPlaysRow : OpenClaim := { program := "ytlkhpbjjimjhbaa", sum := "df5c60411b76e10f28a3c19feaab41b525f07c3d3f79b67357ff6510043e0c3b", func := "corebell/corebelllaw.RunqPlays", spec := "runqPlays", inPlace := ["slices.overlaps[int]", "slices.overlaps[corebell/corebellref.one]"], unfollowed := true, recurses := true, apart := false }
def RunqPlaysSaid : Prop := runqPlaysRow.holds Try.pinned (OpenSpec.ofChange runqPlaysSpec)

/-- ITS FALSE NEIGHBOUR: 'it returns false'. Refute it at one input. -/
def runqPlaysWrong : ChangeSpec := { name := "runqPlays", fn := fun _ => fun
  | [d] => { results := [.lit (.bool false)], args := [d] }
  | _ => none }
def RunqPlaysWrongFalsely : Prop := runqPlaysRow.holds Try.pinned (OpenSpec.ofChange runqPlaysWrong)

/- THE SECOND FORM. 'bulk': how many values and letters a reading holds, each counted each time it is reached (what is shared counts as often as it is met; a slice's spare places count too). A statement '..UptoSaid' is the law's where the arguments, and the package variables that the reading takes, are together of bulk at most 1048576: NARROWER than '..Said'. Prove '..Said' where nothing that the law and all that it calls make is longer than what came in: it says more and counts as full. Else prove '..UptoSaid'. A law counts once. -/
mutual
def uptoBulk {H : Type} : DataW H → Nat
  | .lit (.string bytes) => bytes.length + 1
  | .lit _ => 1
  | .nil => 1
  | .ptr d => uptoBulk d + 1
  | .slice elems spare => uptoBulkAll elems + uptoBulkAll spare + 1
  | .agg parts => uptoBulkAll parts + 1
  | .iface _ d => uptoBulk d + 1
  | .map entries => uptoBulkEntries entries + 1
  | .held _ => 1
def uptoBulkAll {H : Type} : List (DataW H) → Nat
  | [] => 0
  | d :: r => uptoBulk d + uptoBulkAll r
def uptoBulkEntries {H : Type} : List (Lit × DataW H) → Nat
  | [] => 0
  | x :: r => uptoBulkEntry x + uptoBulkEntries r
def uptoBulkEntry {H : Type} : Lit × DataW H → Nat
  | (.string bytes, d) => bytes.length + uptoBulk d + 1
  | (_, d) => uptoBulk d + 1
 end
def uptoSmall : (H : Type) → List (DataW H) → Bool := fun _ ds => decide (uptoBulkAll ds ≤ 1048576)
def OpenSpec.upto (s : _root_.Go.ChangeSpec) : _root_.Go.OpenSpec := { _root_.Go.OpenSpec.ofChange s with cond := some uptoSmall }

/-- 'corebelllaw.TtyTypes', WHERE WHAT IT READS IS OF BULK AT MOST 1048576: true; the input reads as it did. -/
def ttyTypesUptoRow : OpenClaim := { program := "ytlkhpbjjimjhbaa", sum := "df5c60411b76e10f28a3c19feaab41b525f07c3d3f79b67357ff6510043e0c3b", func := "corebell/corebelllaw.TtyTypes", spec := "ttyTypes", unfollowed := true, recurses := true, apart := false, narrowed := true }
def TtyTypesUptoSaid : Prop := ttyTypesUptoRow.holds Try.pinned (OpenSpec.upto ttyTypesSpec)

/-- 'corebelllaw.WorkPlays', WHERE WHAT IT READS IS OF BULK AT MOST 1048576: true; the input reads as it did. -/
def workPlaysUptoRow : OpenClaim := { program := "ytlkhpbjjimjhbaa", sum := "df5c60411b76e10f28a3c19feaab41b525f07c3d3f79b67357ff6510043e0c3b", func := "corebell/corebelllaw.WorkPlays", spec := "workPlays", apart := false, narrowed := true }
def WorkPlaysUptoSaid : Prop := workPlaysUptoRow.holds Try.pinned (OpenSpec.upto workPlaysSpec)

/-- 'corebelllaw.TtyTells', WHERE WHAT IT READS IS OF BULK AT MOST 1048576: true; the input reads as it did. -/
def ttyTellsUptoRow : OpenClaim := { program := "ytlkhpbjjimjhbaa", sum := "df5c60411b76e10f28a3c19feaab41b525f07c3d3f79b67357ff6510043e0c3b", func := "corebell/corebelllaw.TtyTells", spec := "ttyTells", unfollowed := true, recurses := true, apart := false, narrowed := true }
def TtyTellsUptoSaid : Prop := ttyTellsUptoRow.holds Try.pinned (OpenSpec.upto ttyTellsSpec)

/-- 'corebelllaw.FilesPlay', WHERE WHAT IT READS IS OF BULK AT MOST 1048576: true; the input reads as it did. -/
def filesPlayUptoRow : OpenClaim := { program := "ytlkhpbjjimjhbaa", sum := "df5c60411b76e10f28a3c19feaab41b525f07c3d3f79b67357ff6510043e0c3b", func := "corebell/corebelllaw.FilesPlay", spec := "filesPlay", unfollowed := true, recurses := true, apart := false, narrowed := true }
def FilesPlayUptoSaid : Prop := filesPlayUptoRow.holds Try.pinned (OpenSpec.upto filesPlaySpec)

/-- 'corebelllaw.RankPlays', WHERE WHAT IT READS IS OF BULK AT MOST 1048576: true; the input reads as it did. -/
def rankPlaysUptoRow : OpenClaim := { program := "ytlkhpbjjimjhbaa", sum := "df5c60411b76e10f28a3c19feaab41b525f07c3d3f79b67357ff6510043e0c3b", func := "corebell/corebelllaw.RankPlays", spec := "rankPlays", unfollowed := true, recurses := true, apart := false, narrowed := true }
def RankPlaysUptoSaid : Prop := rankPlaysUptoRow.holds Try.pinned (OpenSpec.upto rankPlaysSpec)

/-- 'corebelllaw.WaitPlays', WHERE WHAT IT READS IS OF BULK AT MOST 1048576: true; the input reads as it did. -/
def waitPlaysUptoRow : OpenClaim := { program := "ytlkhpbjjimjhbaa", sum := "df5c60411b76e10f28a3c19feaab41b525f07c3d3f79b67357ff6510043e0c3b", func := "corebell/corebelllaw.WaitPlays", spec := "waitPlays", unfollowed := true, recurses := true, apart := false, narrowed := true }
def WaitPlaysUptoSaid : Prop := waitPlaysUptoRow.holds Try.pinned (OpenSpec.upto waitPlaysSpec)

/-- 'corebelllaw.ClockScales', WHERE WHAT IT READS IS OF BULK AT MOST 1048576: true; the input reads as it did. -/
def clockScalesUptoRow : OpenClaim := { program := "ytlkhpbjjimjhbaa", sum := "df5c60411b76e10f28a3c19feaab41b525f07c3d3f79b67357ff6510043e0c3b", func := "corebell/corebelllaw.ClockScales", spec := "clockScales", unfollowed := true, recurses := true, named := ["math/bits.divideError", "math/bits.overflowError"], apart := false, narrowed := true }
def ClockScalesUptoSaid : Prop := clockScalesUptoRow.holds Try.pinned (OpenSpec.upto clockScalesSpec)

/-- 'corebelllaw.SpreadPlans', WHERE WHAT IT READS IS OF BULK AT MOST 1048576: true; the input reads as it did. -/
def spreadPlansUptoRow : OpenClaim := { program := "ytlkhpbjjimjhbaa", sum := "df5c60411b76e10f28a3c19feaab41b525f07c3d3f79b67357ff6510043e0c3b", func := "corebell/corebelllaw.SpreadPlans", spec := "spreadPlans", unfollowed := true, recurses := true, apart := false, narrowed := true }
def SpreadPlansUptoSaid : Prop := spreadPlansUptoRow.holds Try.pinned (OpenSpec.upto spreadPlansSpec)

/-- 'corebelllaw.RunqPlays', WHERE WHAT IT READS IS OF BULK AT MOST 1048576: true; the input reads as it did. -/
def runqPlaysUptoRow : OpenClaim := { program := "ytlkhpbjjimjhbaa", sum := "df5c60411b76e10f28a3c19feaab41b525f07c3d3f79b67357ff6510043e0c3b", func := "corebell/corebelllaw.RunqPlays", spec := "runqPlays", inPlace := ["slices.overlaps[int]", "slices.overlaps[corebell/corebellref.one]"], unfollowed := true, recurses := true, apart := false, narrowed := true }
def RunqPlaysUptoSaid : Prop := runqPlaysUptoRow.holds Try.pinned (OpenSpec.upto runqPlaysSpec)

end Rows
end Go.Proofs.Ytlkhpbjjimjhbaa
