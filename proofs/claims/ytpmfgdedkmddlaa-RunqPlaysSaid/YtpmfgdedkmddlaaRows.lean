/-
  No cell of these rows narrows 'for every input' (looked for: loops, veiled, ifaces, maps, wideKeys, modest, calm, conditions, laid).
  DERIVED. THE GIVEN ROWS OF THIS SEAT. 5 by the template 'for every input the law returns true; each argument reads behind the call as it read before'; 0 by the template 'total and deterministic' (their statements: YtpmfgdedkmddlaaTotals.lean).
  GIVEN WITH THE SEED: the statements are not yours to turn. If you find one false, say at which input.
  Laid BY PROGRAM, IN A SANDBOX (cutbox-rows.mjs): the forced cells as the released guide's own fill.sh prints them over the translation 833dbc92beb6f85e… (all of the seat's roots in one cut). By AI agents, Wed Nov 11 2026. No macro, syntax, notation, axiom, sorry.
-/
import Derived.Test.YtpmfgdedkmddlaaChecked
import GoSem.Claim
import GoSem.ClaimJoined
import GoSem.ClaimMapViews
import Derived.JoinedTies
import Derived.KernelRfl
namespace Go.Proofs.Ytpmfgdedkmddlaa
/- THE CELL 'sum', in the pinned program and in every row, IS THE sha256 OF THE DUMP (.gsa) THAT YtpmfgdedkmddlaaProg.lean LOADS. Nothing in Lean hashes anything: it is a label: what it is worth is what the hold of that sum in a sandbox is worth. -/
noncomputable def Try.pinned : Pinned := { name := "ytpmfgdedkmddlaa", sum := "833dbc92beb6f85ec754a2e42cc9bb915c55c126ef08e7173f680bbd8f846687", checked := Try.checked }
namespace Rows
def none {H : Type} : Left H := { results := [], args := [] }

/-- 'corebelllaw.RankPlays': WHATEVER THE INPUT: true; the input reads as it did. -/
def rankPlaysSpec : ChangeSpec := { name := "rankPlays", fn := fun _ => fun
  | [d1, d2, d3, d4] => { results := [.lit (.bool true)], args := [d1, d2, d3, d4] }
  | _ => none }
def rankPlaysRow : OpenClaim := { program := "ytpmfgdedkmddlaa", sum := "833dbc92beb6f85ec754a2e42cc9bb915c55c126ef08e7173f680bbd8f846687", func := "corebell/corebelllaw.RankPlays", spec := "rankPlays", unfollowed := true, recurses := true, apart := false }
def RankPlaysSaid : Prop := rankPlaysRow.holds Try.pinned (OpenSpec.ofChange rankPlaysSpec)

/-- ITS FALSE NEIGHBOUR: 'it returns false'. Refute it at one input. -/
def rankPlaysWrong : ChangeSpec := { name := "rankPlays", fn := fun _ => fun
  | [d1, d2, d3, d4] => { results := [.lit (.bool false)], args := [d1, d2, d3, d4] }
  | _ => none }
def RankPlaysWrongFalsely : Prop := rankPlaysRow.holds Try.pinned (OpenSpec.ofChange rankPlaysWrong)

/-- 'corebelllaw.FilesPlay': WHATEVER THE INPUT: true; the input reads as it did. -/
def filesPlaySpec : ChangeSpec := { name := "filesPlay", fn := fun _ => fun
  | [d] => { results := [.lit (.bool true)], args := [d] }
  | _ => none }
def filesPlayRow : OpenClaim := { program := "ytpmfgdedkmddlaa", sum := "833dbc92beb6f85ec754a2e42cc9bb915c55c126ef08e7173f680bbd8f846687", func := "corebell/corebelllaw.FilesPlay", spec := "filesPlay", unfollowed := true, recurses := true, apart := false }
def FilesPlaySaid : Prop := filesPlayRow.holds Try.pinned (OpenSpec.ofChange filesPlaySpec)

/-- ITS FALSE NEIGHBOUR: 'it returns false'. Refute it at one input. -/
def filesPlayWrong : ChangeSpec := { name := "filesPlay", fn := fun _ => fun
  | [d] => { results := [.lit (.bool false)], args := [d] }
  | _ => none }
def FilesPlayWrongFalsely : Prop := filesPlayRow.holds Try.pinned (OpenSpec.ofChange filesPlayWrong)

/-- 'corebelllaw.RunqPlays': WHATEVER THE INPUT: true; the input reads as it did. -/
def runqPlaysSpec : ChangeSpec := { name := "runqPlays", fn := fun _ => fun
  | [d] => { results := [.lit (.bool true)], args := [d] }
  | _ => none }
def runqPlaysRow : OpenClaim := { program := "ytpmfgdedkmddlaa", sum := "833dbc92beb6f85ec754a2e42cc9bb915c55c126ef08e7173f680bbd8f846687", func := "corebell/corebelllaw.RunqPlays", spec := "runqPlays", inPlace := ["slices.overlaps[int]", "slices.overlaps[corebell/corebellref.one]"], unfollowed := true, recurses := true, apart := false }
def RunqPlaysSaid : Prop := runqPlaysRow.holds Try.pinned (OpenSpec.ofChange runqPlaysSpec)

/-- ITS FALSE NEIGHBOUR: 'it returns false'. Refute it at one input. -/
def runqPlaysWrong : ChangeSpec := { name := "runqPlays", fn := fun _ => fun
  | [d] => { results := [.lit (.bool false)], args := [d] }
  | _ => none }
def RunqPlaysWrongFalsely : Prop := runqPlaysRow.holds Try.pinned (OpenSpec.ofChange runqPlaysWrong)

/-- 'corebelllaw.SpreadPlans': WHATEVER THE INPUT: true; the input reads as it did. -/
def spreadPlansSpec : ChangeSpec := { name := "spreadPlans", fn := fun _ => fun
  | [d1, d2] => { results := [.lit (.bool true)], args := [d1, d2] }
  | _ => none }
def spreadPlansRow : OpenClaim := { program := "ytpmfgdedkmddlaa", sum := "833dbc92beb6f85ec754a2e42cc9bb915c55c126ef08e7173f680bbd8f846687", func := "corebell/corebelllaw.SpreadPlans", spec := "spreadPlans", unfollowed := true, recurses := true, apart := false }
def SpreadPlansSaid : Prop := spreadPlansRow.holds Try.pinned (OpenSpec.ofChange spreadPlansSpec)

/-- ITS FALSE NEIGHBOUR: 'it returns false'. Refute it at one input. -/
def spreadPlansWrong : ChangeSpec := { name := "spreadPlans", fn := fun _ => fun
  | [d1, d2] => { results := [.lit (.bool false)], args := [d1, d2] }
  | _ => none }
def SpreadPlansWrongFalsely : Prop := spreadPlansRow.holds Try.pinned (OpenSpec.ofChange spreadPlansWrong)

/-- 'corebelllaw.SpreadBest': WHATEVER THE INPUT: true; the input reads as it did. -/
def spreadBestSpec : ChangeSpec := { name := "spreadBest", fn := fun _ => fun
  | [d1, d2] => { results := [.lit (.bool true)], args := [d1, d2] }
  | _ => none }
def spreadBestRow : OpenClaim := { program := "ytpmfgdedkmddlaa", sum := "833dbc92beb6f85ec754a2e42cc9bb915c55c126ef08e7173f680bbd8f846687", func := "corebell/corebelllaw.SpreadBest", spec := "spreadBest", unfollowed := true, recurses := true, apart := false }
def SpreadBestSaid : Prop := spreadBestRow.holds Try.pinned (OpenSpec.ofChange spreadBestSpec)

/-- ITS FALSE NEIGHBOUR: 'it returns false'. Refute it at one input. -/
def spreadBestWrong : ChangeSpec := { name := "spreadBest", fn := fun _ => fun
  | [d1, d2] => { results := [.lit (.bool false)], args := [d1, d2] }
  | _ => none }
def SpreadBestWrongFalsely : Prop := spreadBestRow.holds Try.pinned (OpenSpec.ofChange spreadBestWrong)

/- THE SECOND FORM. 'bulk': how many values and letters a reading holds, each counted each time it is reached (what is shared counts as often as it is met; a slice's spare places count too). A statement '..UptoSaid' is the law's where the arguments, and the package variables that the reading takes, are together of bulk at most 1048576: NARROWER than '..Said'. Prove '..Said' where nothing that the law and all that it calls make is longer than what came in: it says more and counts as full. Else prove '..UptoSaid'. A law counts once. -/
mutual
def uptoBulk {H : Type} : DataW H → Nat
  | .lit (.string bytes) => bytes.length + 1
  | .lit _ => 1
  | .nil => 1
  | .ptr d => uptoBulk d + 1
  | .slice elems spare => uptoBulkAll elems + uptoBulkAll spare + 1
  | .agg parts => uptoBulkAll parts + 1
  | .iface _ d => uptoBulk d + 1
  | .map entries => uptoBulkEntries entries + 1
  | .held _ => 1
def uptoBulkAll {H : Type} : List (DataW H) → Nat
  | [] => 0
  | d :: r => uptoBulk d + uptoBulkAll r
def uptoBulkEntries {H : Type} : List (Lit × DataW H) → Nat
  | [] => 0
  | x :: r => uptoBulkEntry x + uptoBulkEntries r
def uptoBulkEntry {H : Type} : Lit × DataW H → Nat
  | (.string bytes, d) => bytes.length + uptoBulk d + 1
  | (_, d) => uptoBulk d + 1
 end
def uptoSmall : (H : Type) → List (DataW H) → Bool := fun _ ds => decide (uptoBulkAll ds ≤ 1048576)
def OpenSpec.upto (s : _root_.Go.ChangeSpec) : _root_.Go.OpenSpec := { _root_.Go.OpenSpec.ofChange s with cond := some uptoSmall }

/-- 'corebelllaw.RankPlays', WHERE WHAT IT READS IS OF BULK AT MOST 1048576: true; the input reads as it did. -/
def rankPlaysUptoRow : OpenClaim := { program := "ytpmfgdedkmddlaa", sum := "833dbc92beb6f85ec754a2e42cc9bb915c55c126ef08e7173f680bbd8f846687", func := "corebell/corebelllaw.RankPlays", spec := "rankPlays", unfollowed := true, recurses := true, apart := false, narrowed := true }
def RankPlaysUptoSaid : Prop := rankPlaysUptoRow.holds Try.pinned (OpenSpec.upto rankPlaysSpec)

/-- 'corebelllaw.FilesPlay', WHERE WHAT IT READS IS OF BULK AT MOST 1048576: true; the input reads as it did. -/
def filesPlayUptoRow : OpenClaim := { program := "ytpmfgdedkmddlaa", sum := "833dbc92beb6f85ec754a2e42cc9bb915c55c126ef08e7173f680bbd8f846687", func := "corebell/corebelllaw.FilesPlay", spec := "filesPlay", unfollowed := true, recurses := true, apart := false, narrowed := true }
def FilesPlayUptoSaid : Prop := filesPlayUptoRow.holds Try.pinned (OpenSpec.upto filesPlaySpec)

/-- 'corebelllaw.RunqPlays', WHERE WHAT IT READS IS OF BULK AT MOST 1048576: true; the input reads as it did. -/
def runqPlaysUptoRow : OpenClaim := { program := "ytpmfgdedkmddlaa", sum := "833dbc92beb6f85ec754a2e42cc9bb915c55c126ef08e7173f680bbd8f846687", func := "corebell/corebelllaw.RunqPlays", spec := "runqPlays", inPlace := ["slices.overlaps[int]", "slices.overlaps[corebell/corebellref.one]"], unfollowed := true, recurses := true, apart := false, narrowed := true }
def RunqPlaysUptoSaid : Prop := runqPlaysUptoRow.holds Try.pinned (OpenSpec.upto runqPlaysSpec)

/-- 'corebelllaw.SpreadPlans', WHERE WHAT IT READS IS OF BULK AT MOST 1048576: true; the input reads as it did. -/
def spreadPlansUptoRow : OpenClaim := { program := "ytpmfgdedkmddlaa", sum := "833dbc92beb6f85ec754a2e42cc9bb915c55c126ef08e7173f680bbd8f846687", func := "corebell/corebelllaw.SpreadPlans", spec := "spreadPlans", unfollowed := true, recurses := true, apart := false, narrowed := true }
def SpreadPlansUptoSaid : Prop := spreadPlansUptoRow.holds Try.pinned (OpenSpec.upto spreadPlansSpec)

/-- 'corebelllaw.SpreadBest', WHERE WHAT IT READS IS OF BULK AT MOST 1048576: true; the input reads as it did. -/
def spreadBestUptoRow : OpenClaim := { program := "ytpmfgdedkmddlaa", sum := "833dbc92beb6f85ec754a2e42cc9bb915c55c126ef08e7173f680bbd8f846687", func := "corebell/corebelllaw.SpreadBest", spec := "spreadBest", unfollowed := true, recurses := true, apart := false, narrowed := true }
def SpreadBestUptoSaid : Prop := spreadBestUptoRow.holds Try.pinned (OpenSpec.upto spreadBestSpec)

end Rows
end Go.Proofs.Ytpmfgdedkmddlaa
