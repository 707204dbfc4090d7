/-
  No cell of these rows narrows 'for every input' (looked for: loops, veiled, ifaces, maps, wideKeys, modest, calm, conditions, laid).
  DERIVED. THE GIVEN ROWS OF THIS SEAT. 10 by the template 'for every input the law returns true; each argument reads behind the call as it read before'; 0 by the template 'total and deterministic' (their statements: YtmcepjbbbkgfcaaTotals.lean).
  GIVEN WITH THE SEED: the statements are not yours to turn. If you find one false, say at which input.
  Laid BY PROGRAM, IN A SANDBOX (cutbox-rows.mjs): the forced cells as the released guide's own fill.sh prints them over the translation a98f7722298ebec6… (all of the seat's roots in one cut). By AI agents, Wed Nov 11 2026. No macro, syntax, notation, axiom, sorry.
-/
import Derived.Test.YtmcepjbbbkgfcaaChecked
import GoSem.Claim
import GoSem.ClaimJoined
import GoSem.ClaimMapViews
import Derived.JoinedTies
import Derived.KernelRfl
namespace Go.Proofs.Ytmcepjbbbkgfcaa
/- THE CELL 'sum', in the pinned program and in every row, IS THE sha256 OF THE DUMP (.gsa) THAT YtmcepjbbbkgfcaaProg.lean LOADS. Nothing in Lean hashes anything: it is a label: what it is worth is what the hold of that sum in a sandbox is worth. -/
noncomputable def Try.pinned : Pinned := { name := "ytmcepjbbbkgfcaa", sum := "a98f7722298ebec6fd68ee951363b0e0b8fc4aeba5ce13cac69577750131aa4b", checked := Try.checked }
namespace Rows
def none {H : Type} : Left H := { results := [], args := [] }

/-- 'corebelllaw.ChainServes': WHATEVER THE INPUT: true; the input reads as it did. -/
def chainServesSpec : ChangeSpec := { name := "chainServes", fn := fun _ => fun
  | [d1, d2] => { results := [.lit (.bool true)], args := [d1, d2] }
  | _ => none }
def chainServesRow : OpenClaim := { program := "ytmcepjbbbkgfcaa", sum := "a98f7722298ebec6fd68ee951363b0e0b8fc4aeba5ce13cac69577750131aa4b", func := "corebell/corebelllaw.ChainServes", spec := "chainServes", unfollowed := true, recurses := true, apart := false }
def ChainServesSaid : Prop := chainServesRow.holds Try.pinned (OpenSpec.ofChange chainServesSpec)

/-- ITS FALSE NEIGHBOUR: 'it returns false'. Refute it at one input. -/
def chainServesWrong : ChangeSpec := { name := "chainServes", fn := fun _ => fun
  | [d1, d2] => { results := [.lit (.bool false)], args := [d1, d2] }
  | _ => none }
def ChainServesWrongFalsely : Prop := chainServesRow.holds Try.pinned (OpenSpec.ofChange chainServesWrong)

/-- 'corebelllaw.GracePlays': WHATEVER THE INPUT: true; the input reads as it did. -/
def gracePlaysSpec : ChangeSpec := { name := "gracePlays", fn := fun _ => fun
  | [d] => { results := [.lit (.bool true)], args := [d] }
  | _ => none }
def gracePlaysRow : OpenClaim := { program := "ytmcepjbbbkgfcaa", sum := "a98f7722298ebec6fd68ee951363b0e0b8fc4aeba5ce13cac69577750131aa4b", func := "corebell/corebelllaw.GracePlays", spec := "gracePlays", apart := false }
def GracePlaysSaid : Prop := gracePlaysRow.holds Try.pinned (OpenSpec.ofChange gracePlaysSpec)

/-- ITS FALSE NEIGHBOUR: 'it returns false'. Refute it at one input. -/
def gracePlaysWrong : ChangeSpec := { name := "gracePlays", fn := fun _ => fun
  | [d] => { results := [.lit (.bool false)], args := [d] }
  | _ => none }
def GracePlaysWrongFalsely : Prop := gracePlaysRow.holds Try.pinned (OpenSpec.ofChange gracePlaysWrong)

/-- 'corebelllaw.SoftRuns': WHATEVER THE INPUT: true; the input reads as it did. -/
def softRunsSpec : ChangeSpec := { name := "softRuns", fn := fun _ => fun
  | [d1, d2, d3] => { results := [.lit (.bool true)], args := [d1, d2, d3] }
  | _ => none }
def softRunsRow : OpenClaim := { program := "ytmcepjbbbkgfcaa", sum := "a98f7722298ebec6fd68ee951363b0e0b8fc4aeba5ce13cac69577750131aa4b", func := "corebell/corebelllaw.SoftRuns", spec := "softRuns", unfollowed := true, recurses := true, apart := false }
def SoftRunsSaid : Prop := softRunsRow.holds Try.pinned (OpenSpec.ofChange softRunsSpec)

/-- ITS FALSE NEIGHBOUR: 'it returns false'. Refute it at one input. -/
def softRunsWrong : ChangeSpec := { name := "softRuns", fn := fun _ => fun
  | [d1, d2, d3] => { results := [.lit (.bool false)], args := [d1, d2, d3] }
  | _ => none }
def SoftRunsWrongFalsely : Prop := softRunsRow.holds Try.pinned (OpenSpec.ofChange softRunsWrong)

/-- 'corebelllaw.LineSteps': WHATEVER THE INPUT: true; the input reads as it did. -/
def lineStepsSpec : ChangeSpec := { name := "lineSteps", fn := fun _ => fun
  | [d1, d2] => { results := [.lit (.bool true)], args := [d1, d2] }
  | _ => none }
def lineStepsRow : OpenClaim := { program := "ytmcepjbbbkgfcaa", sum := "a98f7722298ebec6fd68ee951363b0e0b8fc4aeba5ce13cac69577750131aa4b", func := "corebell/corebelllaw.LineSteps", spec := "lineSteps", unfollowed := true, recurses := true, apart := false }
def LineStepsSaid : Prop := lineStepsRow.holds Try.pinned (OpenSpec.ofChange lineStepsSpec)

/-- ITS FALSE NEIGHBOUR: 'it returns false'. Refute it at one input. -/
def lineStepsWrong : ChangeSpec := { name := "lineSteps", fn := fun _ => fun
  | [d1, d2] => { results := [.lit (.bool false)], args := [d1, d2] }
  | _ => none }
def LineStepsWrongFalsely : Prop := lineStepsRow.holds Try.pinned (OpenSpec.ofChange lineStepsWrong)

/-- 'corebelllaw.NicPlays': WHATEVER THE INPUT: true; the input reads as it did. -/
def nicPlaysSpec : ChangeSpec := { name := "nicPlays", fn := fun _ => fun
  | [d1, d2] => { results := [.lit (.bool true)], args := [d1, d2] }
  | _ => none }
def nicPlaysRow : OpenClaim := { program := "ytmcepjbbbkgfcaa", sum := "a98f7722298ebec6fd68ee951363b0e0b8fc4aeba5ce13cac69577750131aa4b", func := "corebell/corebelllaw.NicPlays", spec := "nicPlays", unfollowed := true, recurses := true, apart := false }
def NicPlaysSaid : Prop := nicPlaysRow.holds Try.pinned (OpenSpec.ofChange nicPlaysSpec)

/-- ITS FALSE NEIGHBOUR: 'it returns false'. Refute it at one input. -/
def nicPlaysWrong : ChangeSpec := { name := "nicPlays", fn := fun _ => fun
  | [d1, d2] => { results := [.lit (.bool false)], args := [d1, d2] }
  | _ => none }
def NicPlaysWrongFalsely : Prop := nicPlaysRow.holds Try.pinned (OpenSpec.ofChange nicPlaysWrong)

/-- 'corebelllaw.PipePlays': WHATEVER THE INPUT: true; the input reads as it did. -/
def pipePlaysSpec : ChangeSpec := { name := "pipePlays", fn := fun _ => fun
  | [d] => { results := [.lit (.bool true)], args := [d] }
  | _ => none }
def pipePlaysRow : OpenClaim := { program := "ytmcepjbbbkgfcaa", sum := "a98f7722298ebec6fd68ee951363b0e0b8fc4aeba5ce13cac69577750131aa4b", func := "corebell/corebelllaw.PipePlays", spec := "pipePlays", unfollowed := true, recurses := true, apart := false }
def PipePlaysSaid : Prop := pipePlaysRow.holds Try.pinned (OpenSpec.ofChange pipePlaysSpec)

/-- ITS FALSE NEIGHBOUR: 'it returns false'. Refute it at one input. -/
def pipePlaysWrong : ChangeSpec := { name := "pipePlays", fn := fun _ => fun
  | [d] => { results := [.lit (.bool false)], args := [d] }
  | _ => none }
def PipePlaysWrongFalsely : Prop := pipePlaysRow.holds Try.pinned (OpenSpec.ofChange pipePlaysWrong)

/-- 'corebelllaw.LinePlays': WHATEVER THE INPUT: true; the input reads as it did. -/
def linePlaysSpec : ChangeSpec := { name := "linePlays", fn := fun _ => fun
  | [d1, d2] => { results := [.lit (.bool true)], args := [d1, d2] }
  | _ => none }
def linePlaysRow : OpenClaim := { program := "ytmcepjbbbkgfcaa", sum := "a98f7722298ebec6fd68ee951363b0e0b8fc4aeba5ce13cac69577750131aa4b", func := "corebell/corebelllaw.LinePlays", spec := "linePlays", unfollowed := true, recurses := true, apart := false }
def LinePlaysSaid : Prop := linePlaysRow.holds Try.pinned (OpenSpec.ofChange linePlaysSpec)

/-- ITS FALSE NEIGHBOUR: 'it returns false'. Refute it at one input. -/
def linePlaysWrong : ChangeSpec := { name := "linePlays", fn := fun _ => fun
  | [d1, d2] => { results := [.lit (.bool false)], args := [d1, d2] }
  | _ => none }
def LinePlaysWrongFalsely : Prop := linePlaysRow.holds Try.pinned (OpenSpec.ofChange linePlaysWrong)

/-- 'corebelllaw.ChainPlays': WHATEVER THE INPUT: true; the input reads as it did. -/
def chainPlaysSpec : ChangeSpec := { name := "chainPlays", fn := fun _ => fun
  | [d1, d2] => { results := [.lit (.bool true)], args := [d1, d2] }
  | _ => none }
def chainPlaysRow : OpenClaim := { program := "ytmcepjbbbkgfcaa", sum := "a98f7722298ebec6fd68ee951363b0e0b8fc4aeba5ce13cac69577750131aa4b", func := "corebell/corebelllaw.ChainPlays", spec := "chainPlays", unfollowed := true, recurses := true, apart := false }
def ChainPlaysSaid : Prop := chainPlaysRow.holds Try.pinned (OpenSpec.ofChange chainPlaysSpec)

/-- ITS FALSE NEIGHBOUR: 'it returns false'. Refute it at one input. -/
def chainPlaysWrong : ChangeSpec := { name := "chainPlays", fn := fun _ => fun
  | [d1, d2] => { results := [.lit (.bool false)], args := [d1, d2] }
  | _ => none }
def ChainPlaysWrongFalsely : Prop := chainPlaysRow.holds Try.pinned (OpenSpec.ofChange chainPlaysWrong)

/-- 'corebelllaw.TicketPlays': WHATEVER THE INPUT: true; the input reads as it did. -/
def ticketPlaysSpec : ChangeSpec := { name := "ticketPlays", fn := fun _ => fun
  | [d] => { results := [.lit (.bool true)], args := [d] }
  | _ => none }
def ticketPlaysRow : OpenClaim := { program := "ytmcepjbbbkgfcaa", sum := "a98f7722298ebec6fd68ee951363b0e0b8fc4aeba5ce13cac69577750131aa4b", func := "corebell/corebelllaw.TicketPlays", spec := "ticketPlays", unfollowed := true, recurses := true, apart := false }
def TicketPlaysSaid : Prop := ticketPlaysRow.holds Try.pinned (OpenSpec.ofChange ticketPlaysSpec)

/-- ITS FALSE NEIGHBOUR: 'it returns false'. Refute it at one input. -/
def ticketPlaysWrong : ChangeSpec := { name := "ticketPlays", fn := fun _ => fun
  | [d] => { results := [.lit (.bool false)], args := [d] }
  | _ => none }
def TicketPlaysWrongFalsely : Prop := ticketPlaysRow.holds Try.pinned (OpenSpec.ofChange ticketPlaysWrong)

/-- 'corebelllaw.RingPlays': WHATEVER THE INPUT: true; the input reads as it did. -/
def ringPlaysSpec : ChangeSpec := { name := "ringPlays", fn := fun _ => fun
  | [d1, d2] => { results := [.lit (.bool true)], args := [d1, d2] }
  | _ => none }
def ringPlaysRow : OpenClaim := { program := "ytmcepjbbbkgfcaa", sum := "a98f7722298ebec6fd68ee951363b0e0b8fc4aeba5ce13cac69577750131aa4b", func := "corebell/corebelllaw.RingPlays", spec := "ringPlays", apart := false }
def RingPlaysSaid : Prop := ringPlaysRow.holds Try.pinned (OpenSpec.ofChange ringPlaysSpec)

/-- ITS FALSE NEIGHBOUR: 'it returns false'. Refute it at one input. -/
def ringPlaysWrong : ChangeSpec := { name := "ringPlays", fn := fun _ => fun
  | [d1, d2] => { results := [.lit (.bool false)], args := [d1, d2] }
  | _ => none }
def RingPlaysWrongFalsely : Prop := ringPlaysRow.holds Try.pinned (OpenSpec.ofChange ringPlaysWrong)

/- THE SECOND FORM. 'bulk': how many values and letters a reading holds, each counted each time it is reached (what is shared counts as often as it is met; a slice's spare places count too). A statement '..UptoSaid' is the law's where the arguments, and the package variables that the reading takes, are together of bulk at most 1048576: NARROWER than '..Said'. Prove '..Said' where nothing that the law and all that it calls make is longer than what came in: it says more and counts as full. Else prove '..UptoSaid'. A law counts once. -/
mutual
def uptoBulk {H : Type} : DataW H → Nat
  | .lit (.string bytes) => bytes.length + 1
  | .lit _ => 1
  | .nil => 1
  | .ptr d => uptoBulk d + 1
  | .slice elems spare => uptoBulkAll elems + uptoBulkAll spare + 1
  | .agg parts => uptoBulkAll parts + 1
  | .iface _ d => uptoBulk d + 1
  | .map entries => uptoBulkEntries entries + 1
  | .held _ => 1
def uptoBulkAll {H : Type} : List (DataW H) → Nat
  | [] => 0
  | d :: r => uptoBulk d + uptoBulkAll r
def uptoBulkEntries {H : Type} : List (Lit × DataW H) → Nat
  | [] => 0
  | x :: r => uptoBulkEntry x + uptoBulkEntries r
def uptoBulkEntry {H : Type} : Lit × DataW H → Nat
  | (.string bytes, d) => bytes.length + uptoBulk d + 1
  | (_, d) => uptoBulk d + 1
 end
def uptoSmall : (H : Type) → List (DataW H) → Bool := fun _ ds => decide (uptoBulkAll ds ≤ 1048576)
def OpenSpec.upto (s : _root_.Go.ChangeSpec) : _root_.Go.OpenSpec := { _root_.Go.OpenSpec.ofChange s with cond := some uptoSmall }

/-- 'corebelllaw.ChainServes', WHERE WHAT IT READS IS OF BULK AT MOST 1048576: true; the input reads as it did. -/
def chainServesUptoRow : OpenClaim := { program := "ytmcepjbbbkgfcaa", sum := "a98f7722298ebec6fd68ee951363b0e0b8fc4aeba5ce13cac69577750131aa4b", func := "corebell/corebelllaw.ChainServes", spec := "chainServes", unfollowed := true, recurses := true, apart := false, narrowed := true }
def ChainServesUptoSaid : Prop := chainServesUptoRow.holds Try.pinned (OpenSpec.upto chainServesSpec)

/-- 'corebelllaw.GracePlays', WHERE WHAT IT READS IS OF BULK AT MOST 1048576: true; the input reads as it did. -/
def gracePlaysUptoRow : OpenClaim := { program := "ytmcepjbbbkgfcaa", sum := "a98f7722298ebec6fd68ee951363b0e0b8fc4aeba5ce13cac69577750131aa4b", func := "corebell/corebelllaw.GracePlays", spec := "gracePlays", apart := false, narrowed := true }
def GracePlaysUptoSaid : Prop := gracePlaysUptoRow.holds Try.pinned (OpenSpec.upto gracePlaysSpec)

/-- 'corebelllaw.SoftRuns', WHERE WHAT IT READS IS OF BULK AT MOST 1048576: true; the input reads as it did. -/
def softRunsUptoRow : OpenClaim := { program := "ytmcepjbbbkgfcaa", sum := "a98f7722298ebec6fd68ee951363b0e0b8fc4aeba5ce13cac69577750131aa4b", func := "corebell/corebelllaw.SoftRuns", spec := "softRuns", unfollowed := true, recurses := true, apart := false, narrowed := true }
def SoftRunsUptoSaid : Prop := softRunsUptoRow.holds Try.pinned (OpenSpec.upto softRunsSpec)

/-- 'corebelllaw.LineSteps', WHERE WHAT IT READS IS OF BULK AT MOST 1048576: true; the input reads as it did. -/
def lineStepsUptoRow : OpenClaim := { program := "ytmcepjbbbkgfcaa", sum := "a98f7722298ebec6fd68ee951363b0e0b8fc4aeba5ce13cac69577750131aa4b", func := "corebell/corebelllaw.LineSteps", spec := "lineSteps", unfollowed := true, recurses := true, apart := false, narrowed := true }
def LineStepsUptoSaid : Prop := lineStepsUptoRow.holds Try.pinned (OpenSpec.upto lineStepsSpec)

/-- 'corebelllaw.NicPlays', WHERE WHAT IT READS IS OF BULK AT MOST 1048576: true; the input reads as it did. -/
def nicPlaysUptoRow : OpenClaim := { program := "ytmcepjbbbkgfcaa", sum := "a98f7722298ebec6fd68ee951363b0e0b8fc4aeba5ce13cac69577750131aa4b", func := "corebell/corebelllaw.NicPlays", spec := "nicPlays", unfollowed := true, recurses := true, apart := false, narrowed := true }
def NicPlaysUptoSaid : Prop := nicPlaysUptoRow.holds Try.pinned (OpenSpec.upto nicPlaysSpec)

/-- 'corebelllaw.PipePlays', WHERE WHAT IT READS IS OF BULK AT MOST 1048576: true; the input reads as it did. -/
def pipePlaysUptoRow : OpenClaim := { program := "ytmcepjbbbkgfcaa", sum := "a98f7722298ebec6fd68ee951363b0e0b8fc4aeba5ce13cac69577750131aa4b", func := "corebell/corebelllaw.PipePlays", spec := "pipePlays", unfollowed := true, recurses := true, apart := false, narrowed := true }
def PipePlaysUptoSaid : Prop := pipePlaysUptoRow.holds Try.pinned (OpenSpec.upto pipePlaysSpec)

/-- 'corebelllaw.LinePlays', WHERE WHAT IT READS IS OF BULK AT MOST 1048576: true; the input reads as it did. -/
def linePlaysUptoRow : OpenClaim := { program := "ytmcepjbbbkgfcaa", sum := "a98f7722298ebec6fd68ee951363b0e0b8fc4aeba5ce13cac69577750131aa4b", func := "corebell/corebelllaw.LinePlays", spec := "linePlays", unfollowed := true, recurses := true, apart := false, narrowed := true }
def LinePlaysUptoSaid : Prop := linePlaysUptoRow.holds Try.pinned (OpenSpec.upto linePlaysSpec)

/-- 'corebelllaw.ChainPlays', WHERE WHAT IT READS IS OF BULK AT MOST 1048576: true; the input reads as it did. -/
def chainPlaysUptoRow : OpenClaim := { program := "ytmcepjbbbkgfcaa", sum := "a98f7722298ebec6fd68ee951363b0e0b8fc4aeba5ce13cac69577750131aa4b", func := "corebell/corebelllaw.ChainPlays", spec := "chainPlays", unfollowed := true, recurses := true, apart := false, narrowed := true }
def ChainPlaysUptoSaid : Prop := chainPlaysUptoRow.holds Try.pinned (OpenSpec.upto chainPlaysSpec)

/-- 'corebelllaw.TicketPlays', WHERE WHAT IT READS IS OF BULK AT MOST 1048576: true; the input reads as it did. -/
def ticketPlaysUptoRow : OpenClaim := { program := "ytmcepjbbbkgfcaa", sum := "a98f7722298ebec6fd68ee951363b0e0b8fc4aeba5ce13cac69577750131aa4b", func := "corebell/corebelllaw.TicketPlays", spec := "ticketPlays", unfollowed := true, recurses := true, apart := false, narrowed := true }
def TicketPlaysUptoSaid : Prop := ticketPlaysUptoRow.holds Try.pinned (OpenSpec.upto ticketPlaysSpec)

/-- 'corebelllaw.RingPlays', WHERE WHAT IT READS IS OF BULK AT MOST 1048576: true; the input reads as it did. -/
def ringPlaysUptoRow : OpenClaim := { program := "ytmcepjbbbkgfcaa", sum := "a98f7722298ebec6fd68ee951363b0e0b8fc4aeba5ce13cac69577750131aa4b", func := "corebell/corebelllaw.RingPlays", spec := "ringPlays", apart := false, narrowed := true }
def RingPlaysUptoSaid : Prop := ringPlaysUptoRow.holds Try.pinned (OpenSpec.upto ringPlaysSpec)

end Rows
end Go.Proofs.Ytmcepjbbbkgfcaa
