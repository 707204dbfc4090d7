/-
  No cell of these rows narrows 'for every input' (looked for: loops, veiled, ifaces, maps, wideKeys, modest, calm, conditions, laid).
  DERIVED. THE GIVEN ROWS OF THIS SEAT. 4 by the template 'for every input the law returns true; each argument reads behind the call as it read before'; 0 by the template 'total and deterministic' (their statements: YtpnmfoojmodnlaaTotals.lean).
  GIVEN WITH THE SEED: the statements are not yours to turn. If you find one false, say at which input.
  Laid BY PROGRAM, IN A SANDBOX (cutbox-rows.mjs): the forced cells as the released guide's own fill.sh prints them over the translation d24177d2a7e45052… (all of the seat's roots in one cut). By AI agents, Wed Nov 11 2026. No macro, syntax, notation, axiom, sorry.
-/
import Derived.Test.YtpnmfoojmodnlaaChecked
import GoSem.Claim
import GoSem.ClaimJoined
import GoSem.ClaimMapViews
import Derived.JoinedTies
import Derived.KernelRfl
namespace Go.Proofs.Ytpnmfoojmodnlaa
/- THE CELL 'sum', in the pinned program and in every row, IS THE sha256 OF THE DUMP (.gsa) THAT YtpnmfoojmodnlaaProg.lean LOADS. Nothing in Lean hashes anything: it is a label: what it is worth is what the hold of that sum in a sandbox is worth. -/
noncomputable def Try.pinned : Pinned := { name := "ytpnmfoojmodnlaa", sum := "d24177d2a7e450522346361bdc2063e9f006f39e5ac1c25ce92cd6e1c96ddcbf", checked := Try.checked }
namespace Rows
def none {H : Type} : Left H := { results := [], args := [] }

/-- 'corebelllaw.LiftMerges': WHATEVER THE INPUT: true; the input reads as it did. -/
def liftMergesSpec : ChangeSpec := { name := "liftMerges", fn := fun _ => fun
  | [d] => { results := [.lit (.bool true)], args := [d] }
  | _ => none }
def liftMergesRow : OpenClaim := { program := "ytpnmfoojmodnlaa", sum := "d24177d2a7e450522346361bdc2063e9f006f39e5ac1c25ce92cd6e1c96ddcbf", func := "corebell/corebelllaw.LiftMerges", spec := "liftMerges", unfollowed := true, recurses := true, apart := false }
def LiftMergesSaid : Prop := liftMergesRow.holds Try.pinned (OpenSpec.ofChange liftMergesSpec)

/-- ITS FALSE NEIGHBOUR: 'it returns false'. Refute it at one input. -/
def liftMergesWrong : ChangeSpec := { name := "liftMerges", fn := fun _ => fun
  | [d] => { results := [.lit (.bool false)], args := [d] }
  | _ => none }
def LiftMergesWrongFalsely : Prop := liftMergesRow.holds Try.pinned (OpenSpec.ofChange liftMergesWrong)

/-- 'corebelllaw.LiftGoes': WHATEVER THE INPUT: true; the input reads as it did. -/
def liftGoesSpec : ChangeSpec := { name := "liftGoes", fn := fun _ => fun
  | [d1, d2] => { results := [.lit (.bool true)], args := [d1, d2] }
  | _ => none }
def liftGoesRow : OpenClaim := { program := "ytpnmfoojmodnlaa", sum := "d24177d2a7e450522346361bdc2063e9f006f39e5ac1c25ce92cd6e1c96ddcbf", func := "corebell/corebelllaw.LiftGoes", spec := "liftGoes", unfollowed := true, recurses := true, apart := false }
def LiftGoesSaid : Prop := liftGoesRow.holds Try.pinned (OpenSpec.ofChange liftGoesSpec)

/-- ITS FALSE NEIGHBOUR: 'it returns false'. Refute it at one input. -/
def liftGoesWrong : ChangeSpec := { name := "liftGoes", fn := fun _ => fun
  | [d1, d2] => { results := [.lit (.bool false)], args := [d1, d2] }
  | _ => none }
def LiftGoesWrongFalsely : Prop := liftGoesRow.holds Try.pinned (OpenSpec.ofChange liftGoesWrong)

/-- 'corebelllaw.WheelPlays': WHATEVER THE INPUT: true; the input reads as it did. -/
def wheelPlaysSpec : ChangeSpec := { name := "wheelPlays", fn := fun _ => fun
  | [d] => { results := [.lit (.bool true)], args := [d] }
  | _ => none }
def wheelPlaysRow : OpenClaim := { program := "ytpnmfoojmodnlaa", sum := "d24177d2a7e450522346361bdc2063e9f006f39e5ac1c25ce92cd6e1c96ddcbf", func := "corebell/corebelllaw.WheelPlays", spec := "wheelPlays", unfollowed := true, recurses := true, apart := false }
def WheelPlaysSaid : Prop := wheelPlaysRow.holds Try.pinned (OpenSpec.ofChange wheelPlaysSpec)

/-- ITS FALSE NEIGHBOUR: 'it returns false'. Refute it at one input. -/
def wheelPlaysWrong : ChangeSpec := { name := "wheelPlays", fn := fun _ => fun
  | [d] => { results := [.lit (.bool false)], args := [d] }
  | _ => none }
def WheelPlaysWrongFalsely : Prop := wheelPlaysRow.holds Try.pinned (OpenSpec.ofChange wheelPlaysWrong)

/-- 'corebelllaw.CoresRun': WHATEVER THE INPUT: true; the input reads as it did. -/
def coresRunSpec : ChangeSpec := { name := "coresRun", fn := fun _ => fun
  | [d1, d2, d3, d4] => { results := [.lit (.bool true)], args := [d1, d2, d3, d4] }
  | _ => none }
def coresRunRow : OpenClaim := { program := "ytpnmfoojmodnlaa", sum := "d24177d2a7e450522346361bdc2063e9f006f39e5ac1c25ce92cd6e1c96ddcbf", func := "corebell/corebelllaw.CoresRun", spec := "coresRun", unfollowed := true, recurses := true, apart := false }
def CoresRunSaid : Prop := coresRunRow.holds Try.pinned (OpenSpec.ofChange coresRunSpec)

/-- ITS FALSE NEIGHBOUR: 'it returns false'. Refute it at one input. -/
def coresRunWrong : ChangeSpec := { name := "coresRun", fn := fun _ => fun
  | [d1, d2, d3, d4] => { results := [.lit (.bool false)], args := [d1, d2, d3, d4] }
  | _ => none }
def CoresRunWrongFalsely : Prop := coresRunRow.holds Try.pinned (OpenSpec.ofChange coresRunWrong)

/- THE SECOND FORM. 'bulk': how many values and letters a reading holds, each counted each time it is reached (what is shared counts as often as it is met; a slice's spare places count too). A statement '..UptoSaid' is the law's where the arguments, and the package variables that the reading takes, are together of bulk at most 1048576: NARROWER than '..Said'. Prove '..Said' where nothing that the law and all that it calls make is longer than what came in: it says more and counts as full. Else prove '..UptoSaid'. A law counts once. -/
mutual
def uptoBulk {H : Type} : DataW H → Nat
  | .lit (.string bytes) => bytes.length + 1
  | .lit _ => 1
  | .nil => 1
  | .ptr d => uptoBulk d + 1
  | .slice elems spare => uptoBulkAll elems + uptoBulkAll spare + 1
  | .agg parts => uptoBulkAll parts + 1
  | .iface _ d => uptoBulk d + 1
  | .map entries => uptoBulkEntries entries + 1
  | .held _ => 1
def uptoBulkAll {H : Type} : List (DataW H) → Nat
  | [] => 0
  | d :: r => uptoBulk d + uptoBulkAll r
def uptoBulkEntries {H : Type} : List (Lit × DataW H) → Nat
  | [] => 0
  | x :: r => uptoBulkEntry x + uptoBulkEntries r
def uptoBulkEntry {H : Type} : Lit × DataW H → Nat
  | (.string bytes, d) => bytes.length + uptoBulk d + 1
  | (_, d) => uptoBulk d + 1
 end
def uptoSmall : (H : Type) → List (DataW H) → Bool := fun _ ds => decide (uptoBulkAll ds ≤ 1048576)
def OpenSpec.upto (s : _root_.Go.ChangeSpec) : _root_.Go.OpenSpec := { _root_.Go.OpenSpec.ofChange s with cond := some uptoSmall }

/-- 'corebelllaw.LiftMerges', WHERE WHAT IT READS IS OF BULK AT MOST 1048576: true; the input reads as it did. -/
def liftMergesUptoRow : OpenClaim := { program := "ytpnmfoojmodnlaa", sum := "d24177d2a7e450522346361bdc2063e9f006f39e5ac1c25ce92cd6e1c96ddcbf", func := "corebell/corebelllaw.LiftMerges", spec := "liftMerges", unfollowed := true, recurses := true, apart := false, narrowed := true }
def LiftMergesUptoSaid : Prop := liftMergesUptoRow.holds Try.pinned (OpenSpec.upto liftMergesSpec)

/-- 'corebelllaw.LiftGoes', WHERE WHAT IT READS IS OF BULK AT MOST 1048576: true; the input reads as it did. -/
def liftGoesUptoRow : OpenClaim := { program := "ytpnmfoojmodnlaa", sum := "d24177d2a7e450522346361bdc2063e9f006f39e5ac1c25ce92cd6e1c96ddcbf", func := "corebell/corebelllaw.LiftGoes", spec := "liftGoes", unfollowed := true, recurses := true, apart := false, narrowed := true }
def LiftGoesUptoSaid : Prop := liftGoesUptoRow.holds Try.pinned (OpenSpec.upto liftGoesSpec)

/-- 'corebelllaw.WheelPlays', WHERE WHAT IT READS IS OF BULK AT MOST 1048576: true; the input reads as it did. -/
def wheelPlaysUptoRow : OpenClaim := { program := "ytpnmfoojmodnlaa", sum := "d24177d2a7e450522346361bdc2063e9f006f39e5ac1c25ce92cd6e1c96ddcbf", func := "corebell/corebelllaw.WheelPlays", spec := "wheelPlays", unfollowed := true, recurses := true, apart := false, narrowed := true }
def WheelPlaysUptoSaid : Prop := wheelPlaysUptoRow.holds Try.pinned (OpenSpec.upto wheelPlaysSpec)

/-- 'corebelllaw.CoresRun', WHERE WHAT IT READS IS OF BULK AT MOST 1048576: true; the input reads as it did. -/
def coresRunUptoRow : OpenClaim := { program := "ytpnmfoojmodnlaa", sum := "d24177d2a7e450522346361bdc2063e9f006f39e5ac1c25ce92cd6e1c96ddcbf", func := "corebell/corebelllaw.CoresRun", spec := "coresRun", unfollowed := true, recurses := true, apart := false, narrowed := true }
def CoresRunUptoSaid : Prop := coresRunUptoRow.holds Try.pinned (OpenSpec.upto coresRunSpec)

end Rows
end Go.Proofs.Ytpnmfoojmodnlaa
