/-
  No cell of these rows narrows 'for every input' (looked for: loops, veiled, ifaces, maps, wideKeys, modest, calm, conditions, laid).
  DERIVED. THE GIVEN ROWS OF THIS SEAT. 12 by the template 'for every input the law returns true; each argument reads behind the call as it read before'; 0 by the template 'total and deterministic' (their statements: YtollphjlheabdaaTotals.lean).
  GIVEN WITH THE SEED: the statements are not yours to turn. If you find one false, say at which input.
  Laid BY PROGRAM, IN A SANDBOX (cutbox-rows.mjs): the forced cells as the released guide's own fill.sh prints them over the translation 5e4db99150b7924b… (all of the seat's roots in one cut). By AI agents, Wed Nov 11 2026. No macro, syntax, notation, axiom, sorry.
-/
import Derived.Test.YtollphjlheabdaaChecked
import GoSem.Claim
import GoSem.ClaimJoined
import GoSem.ClaimMapViews
import Derived.JoinedTies
import Derived.KernelRfl
namespace Go.Proofs.Ytollphjlheabdaa
/- THE CELL 'sum', in the pinned program and in every row, IS THE sha256 OF THE DUMP (.gsa) THAT YtollphjlheabdaaProg.lean LOADS. Nothing in Lean hashes anything: it is a label: what it is worth is what the hold of that sum in a sandbox is worth. -/
noncomputable def Try.pinned : Pinned := { name := "ytollphjlheabdaa", sum := "5e4db99150b7924b6fcad5e87a8f4f38689f1115594a8436cc605e729a90bf9c", checked := Try.checked }
namespace Rows
def none {H : Type} : Left H := { results := [], args := [] }

/-- 'corebelllaw.BitsMix': WHATEVER THE INPUT: true; the input reads as it did. -/
def bitsMixSpec : ChangeSpec := { name := "bitsMix", fn := fun _ => fun
  | [d1, d2] => { results := [.lit (.bool true)], args := [d1, d2] }
  | _ => none }
def bitsMixRow : OpenClaim := { program := "ytollphjlheabdaa", sum := "5e4db99150b7924b6fcad5e87a8f4f38689f1115594a8436cc605e729a90bf9c", func := "corebell/corebelllaw.BitsMix", spec := "bitsMix", unfollowed := true, recurses := true, apart := false }
def BitsMixSaid : Prop := bitsMixRow.holds Try.pinned (OpenSpec.ofChange bitsMixSpec)

/-- ITS FALSE NEIGHBOUR: 'it returns false'. Refute it at one input. -/
def bitsMixWrong : ChangeSpec := { name := "bitsMix", fn := fun _ => fun
  | [d1, d2] => { results := [.lit (.bool false)], args := [d1, d2] }
  | _ => none }
def BitsMixWrongFalsely : Prop := bitsMixRow.holds Try.pinned (OpenSpec.ofChange bitsMixWrong)

/-- 'corebelllaw.RankCircle': WHATEVER THE INPUT: true; the input reads as it did. -/
def rankCircleSpec : ChangeSpec := { name := "rankCircle", fn := fun _ => fun
  | [d1, d2] => { results := [.lit (.bool true)], args := [d1, d2] }
  | _ => none }
def rankCircleRow : OpenClaim := { program := "ytollphjlheabdaa", sum := "5e4db99150b7924b6fcad5e87a8f4f38689f1115594a8436cc605e729a90bf9c", func := "corebell/corebelllaw.RankCircle", spec := "rankCircle", unfollowed := true, recurses := true, apart := false }
def RankCircleSaid : Prop := rankCircleRow.holds Try.pinned (OpenSpec.ofChange rankCircleSpec)

/-- ITS FALSE NEIGHBOUR: 'it returns false'. Refute it at one input. -/
def rankCircleWrong : ChangeSpec := { name := "rankCircle", fn := fun _ => fun
  | [d1, d2] => { results := [.lit (.bool false)], args := [d1, d2] }
  | _ => none }
def RankCircleWrongFalsely : Prop := rankCircleRow.holds Try.pinned (OpenSpec.ofChange rankCircleWrong)

/-- 'corebelllaw.ClockExtends': WHATEVER THE INPUT: true; the input reads as it did. -/
def clockExtendsSpec : ChangeSpec := { name := "clockExtends", fn := fun _ => fun
  | [d1, d2] => { results := [.lit (.bool true)], args := [d1, d2] }
  | _ => none }
def clockExtendsRow : OpenClaim := { program := "ytollphjlheabdaa", sum := "5e4db99150b7924b6fcad5e87a8f4f38689f1115594a8436cc605e729a90bf9c", func := "corebell/corebelllaw.ClockExtends", spec := "clockExtends", apart := false }
def ClockExtendsSaid : Prop := clockExtendsRow.holds Try.pinned (OpenSpec.ofChange clockExtendsSpec)

/-- ITS FALSE NEIGHBOUR: 'it returns false'. Refute it at one input. -/
def clockExtendsWrong : ChangeSpec := { name := "clockExtends", fn := fun _ => fun
  | [d1, d2] => { results := [.lit (.bool false)], args := [d1, d2] }
  | _ => none }
def ClockExtendsWrongFalsely : Prop := clockExtendsRow.holds Try.pinned (OpenSpec.ofChange clockExtendsWrong)

/-- 'corebelllaw.UartSteps': WHATEVER THE INPUT: true; the input reads as it did. -/
def uartStepsSpec : ChangeSpec := { name := "uartSteps", fn := fun _ => fun
  | [d1, d2] => { results := [.lit (.bool true)], args := [d1, d2] }
  | _ => none }
def uartStepsRow : OpenClaim := { program := "ytollphjlheabdaa", sum := "5e4db99150b7924b6fcad5e87a8f4f38689f1115594a8436cc605e729a90bf9c", func := "corebell/corebelllaw.UartSteps", spec := "uartSteps", unfollowed := true, recurses := true, apart := false }
def UartStepsSaid : Prop := uartStepsRow.holds Try.pinned (OpenSpec.ofChange uartStepsSpec)

/-- ITS FALSE NEIGHBOUR: 'it returns false'. Refute it at one input. -/
def uartStepsWrong : ChangeSpec := { name := "uartSteps", fn := fun _ => fun
  | [d1, d2] => { results := [.lit (.bool false)], args := [d1, d2] }
  | _ => none }
def UartStepsWrongFalsely : Prop := uartStepsRow.holds Try.pinned (OpenSpec.ofChange uartStepsWrong)

/-- 'corebelllaw.SpreadBest': WHATEVER THE INPUT: true; the input reads as it did. -/
def spreadBestSpec : ChangeSpec := { name := "spreadBest", fn := fun _ => fun
  | [d1, d2] => { results := [.lit (.bool true)], args := [d1, d2] }
  | _ => none }
def spreadBestRow : OpenClaim := { program := "ytollphjlheabdaa", sum := "5e4db99150b7924b6fcad5e87a8f4f38689f1115594a8436cc605e729a90bf9c", func := "corebell/corebelllaw.SpreadBest", spec := "spreadBest", unfollowed := true, recurses := true, apart := false }
def SpreadBestSaid : Prop := spreadBestRow.holds Try.pinned (OpenSpec.ofChange spreadBestSpec)

/-- ITS FALSE NEIGHBOUR: 'it returns false'. Refute it at one input. -/
def spreadBestWrong : ChangeSpec := { name := "spreadBest", fn := fun _ => fun
  | [d1, d2] => { results := [.lit (.bool false)], args := [d1, d2] }
  | _ => none }
def SpreadBestWrongFalsely : Prop := spreadBestRow.holds Try.pinned (OpenSpec.ofChange spreadBestWrong)

/-- 'corebelllaw.TicketSteps': WHATEVER THE INPUT: true; the input reads as it did. -/
def ticketStepsSpec : ChangeSpec := { name := "ticketSteps", fn := fun _ => fun
  | [d1, d2] => { results := [.lit (.bool true)], args := [d1, d2] }
  | _ => none }
def ticketStepsRow : OpenClaim := { program := "ytollphjlheabdaa", sum := "5e4db99150b7924b6fcad5e87a8f4f38689f1115594a8436cc605e729a90bf9c", func := "corebell/corebelllaw.TicketSteps", spec := "ticketSteps", unfollowed := true, recurses := true, apart := false }
def TicketStepsSaid : Prop := ticketStepsRow.holds Try.pinned (OpenSpec.ofChange ticketStepsSpec)

/-- ITS FALSE NEIGHBOUR: 'it returns false'. Refute it at one input. -/
def ticketStepsWrong : ChangeSpec := { name := "ticketSteps", fn := fun _ => fun
  | [d1, d2] => { results := [.lit (.bool false)], args := [d1, d2] }
  | _ => none }
def TicketStepsWrongFalsely : Prop := ticketStepsRow.holds Try.pinned (OpenSpec.ofChange ticketStepsWrong)

/-- 'corebelllaw.NicSteps': WHATEVER THE INPUT: true; the input reads as it did. -/
def nicStepsSpec : ChangeSpec := { name := "nicSteps", fn := fun _ => fun
  | [d1, d2] => { results := [.lit (.bool true)], args := [d1, d2] }
  | _ => none }
def nicStepsRow : OpenClaim := { program := "ytollphjlheabdaa", sum := "5e4db99150b7924b6fcad5e87a8f4f38689f1115594a8436cc605e729a90bf9c", func := "corebell/corebelllaw.NicSteps", spec := "nicSteps", unfollowed := true, recurses := true, apart := false }
def NicStepsSaid : Prop := nicStepsRow.holds Try.pinned (OpenSpec.ofChange nicStepsSpec)

/-- ITS FALSE NEIGHBOUR: 'it returns false'. Refute it at one input. -/
def nicStepsWrong : ChangeSpec := { name := "nicSteps", fn := fun _ => fun
  | [d1, d2] => { results := [.lit (.bool false)], args := [d1, d2] }
  | _ => none }
def NicStepsWrongFalsely : Prop := nicStepsRow.holds Try.pinned (OpenSpec.ofChange nicStepsWrong)

/-- 'corebelllaw.PipeSteps': WHATEVER THE INPUT: true; the input reads as it did. -/
def pipeStepsSpec : ChangeSpec := { name := "pipeSteps", fn := fun _ => fun
  | [d1, d2] => { results := [.lit (.bool true)], args := [d1, d2] }
  | _ => none }
def pipeStepsRow : OpenClaim := { program := "ytollphjlheabdaa", sum := "5e4db99150b7924b6fcad5e87a8f4f38689f1115594a8436cc605e729a90bf9c", func := "corebell/corebelllaw.PipeSteps", spec := "pipeSteps", unfollowed := true, recurses := true, apart := false }
def PipeStepsSaid : Prop := pipeStepsRow.holds Try.pinned (OpenSpec.ofChange pipeStepsSpec)

/-- ITS FALSE NEIGHBOUR: 'it returns false'. Refute it at one input. -/
def pipeStepsWrong : ChangeSpec := { name := "pipeSteps", fn := fun _ => fun
  | [d1, d2] => { results := [.lit (.bool false)], args := [d1, d2] }
  | _ => none }
def PipeStepsWrongFalsely : Prop := pipeStepsRow.holds Try.pinned (OpenSpec.ofChange pipeStepsWrong)

/-- 'corebelllaw.RingSteps': WHATEVER THE INPUT: true; the input reads as it did. -/
def ringStepsSpec : ChangeSpec := { name := "ringSteps", fn := fun _ => fun
  | [d1, d2, d3] => { results := [.lit (.bool true)], args := [d1, d2, d3] }
  | _ => none }
def ringStepsRow : OpenClaim := { program := "ytollphjlheabdaa", sum := "5e4db99150b7924b6fcad5e87a8f4f38689f1115594a8436cc605e729a90bf9c", func := "corebell/corebelllaw.RingSteps", spec := "ringSteps", apart := false }
def RingStepsSaid : Prop := ringStepsRow.holds Try.pinned (OpenSpec.ofChange ringStepsSpec)

/-- ITS FALSE NEIGHBOUR: 'it returns false'. Refute it at one input. -/
def ringStepsWrong : ChangeSpec := { name := "ringSteps", fn := fun _ => fun
  | [d1, d2, d3] => { results := [.lit (.bool false)], args := [d1, d2, d3] }
  | _ => none }
def RingStepsWrongFalsely : Prop := ringStepsRow.holds Try.pinned (OpenSpec.ofChange ringStepsWrong)

/-- 'corebelllaw.NestTells': WHATEVER THE INPUT: true; the input reads as it did. -/
def nestTellsSpec : ChangeSpec := { name := "nestTells", fn := fun _ => fun
  | [d1, d2, d3] => { results := [.lit (.bool true)], args := [d1, d2, d3] }
  | _ => none }
def nestTellsRow : OpenClaim := { program := "ytollphjlheabdaa", sum := "5e4db99150b7924b6fcad5e87a8f4f38689f1115594a8436cc605e729a90bf9c", func := "corebell/corebelllaw.NestTells", spec := "nestTells", apart := false }
def NestTellsSaid : Prop := nestTellsRow.holds Try.pinned (OpenSpec.ofChange nestTellsSpec)

/-- ITS FALSE NEIGHBOUR: 'it returns false'. Refute it at one input. -/
def nestTellsWrong : ChangeSpec := { name := "nestTells", fn := fun _ => fun
  | [d1, d2, d3] => { results := [.lit (.bool false)], args := [d1, d2, d3] }
  | _ => none }
def NestTellsWrongFalsely : Prop := nestTellsRow.holds Try.pinned (OpenSpec.ofChange nestTellsWrong)

/-- 'corebelllaw.UartPlays': WHATEVER THE INPUT: true; the input reads as it did. -/
def uartPlaysSpec : ChangeSpec := { name := "uartPlays", fn := fun _ => fun
  | [d] => { results := [.lit (.bool true)], args := [d] }
  | _ => none }
def uartPlaysRow : OpenClaim := { program := "ytollphjlheabdaa", sum := "5e4db99150b7924b6fcad5e87a8f4f38689f1115594a8436cc605e729a90bf9c", func := "corebell/corebelllaw.UartPlays", spec := "uartPlays", unfollowed := true, recurses := true, apart := false }
def UartPlaysSaid : Prop := uartPlaysRow.holds Try.pinned (OpenSpec.ofChange uartPlaysSpec)

/-- ITS FALSE NEIGHBOUR: 'it returns false'. Refute it at one input. -/
def uartPlaysWrong : ChangeSpec := { name := "uartPlays", fn := fun _ => fun
  | [d] => { results := [.lit (.bool false)], args := [d] }
  | _ => none }
def UartPlaysWrongFalsely : Prop := uartPlaysRow.holds Try.pinned (OpenSpec.ofChange uartPlaysWrong)

/-- 'corebelltop.Names': WHATEVER THE INPUT: true; the input reads as it did. -/
def namesSpec : ChangeSpec := { name := "names", fn := fun _ => fun
  | [] => { results := [.lit (.bool true)], args := [] }
  | _ => none }
def namesRow : OpenClaim := { program := "ytollphjlheabdaa", sum := "5e4db99150b7924b6fcad5e87a8f4f38689f1115594a8436cc605e729a90bf9c", func := "corebell/corebelltop.Names", spec := "names", apart := false }
def NamesSaid : Prop := namesRow.holds Try.pinned (OpenSpec.ofChange namesSpec)

/-- ITS FALSE NEIGHBOUR: 'it returns false'. Refute it at one input. -/
def namesWrong : ChangeSpec := { name := "names", fn := fun _ => fun
  | [] => { results := [.lit (.bool false)], args := [] }
  | _ => none }
def NamesWrongFalsely : Prop := namesRow.holds Try.pinned (OpenSpec.ofChange namesWrong)

/- THE SECOND FORM. 'bulk': how many values and letters a reading holds, each counted each time it is reached (what is shared counts as often as it is met; a slice's spare places count too). A statement '..UptoSaid' is the law's where the arguments, and the package variables that the reading takes, are together of bulk at most 1048576: NARROWER than '..Said'. Prove '..Said' where nothing that the law and all that it calls make is longer than what came in: it says more and counts as full. Else prove '..UptoSaid'. A law counts once. -/
mutual
def uptoBulk {H : Type} : DataW H → Nat
  | .lit (.string bytes) => bytes.length + 1
  | .lit _ => 1
  | .nil => 1
  | .ptr d => uptoBulk d + 1
  | .slice elems spare => uptoBulkAll elems + uptoBulkAll spare + 1
  | .agg parts => uptoBulkAll parts + 1
  | .iface _ d => uptoBulk d + 1
  | .map entries => uptoBulkEntries entries + 1
  | .held _ => 1
def uptoBulkAll {H : Type} : List (DataW H) → Nat
  | [] => 0
  | d :: r => uptoBulk d + uptoBulkAll r
def uptoBulkEntries {H : Type} : List (Lit × DataW H) → Nat
  | [] => 0
  | x :: r => uptoBulkEntry x + uptoBulkEntries r
def uptoBulkEntry {H : Type} : Lit × DataW H → Nat
  | (.string bytes, d) => bytes.length + uptoBulk d + 1
  | (_, d) => uptoBulk d + 1
 end
def uptoSmall : (H : Type) → List (DataW H) → Bool := fun _ ds => decide (uptoBulkAll ds ≤ 1048576)
def OpenSpec.upto (s : _root_.Go.ChangeSpec) : _root_.Go.OpenSpec := { _root_.Go.OpenSpec.ofChange s with cond := some uptoSmall }

/-- 'corebelllaw.BitsMix', WHERE WHAT IT READS IS OF BULK AT MOST 1048576: true; the input reads as it did. -/
def bitsMixUptoRow : OpenClaim := { program := "ytollphjlheabdaa", sum := "5e4db99150b7924b6fcad5e87a8f4f38689f1115594a8436cc605e729a90bf9c", func := "corebell/corebelllaw.BitsMix", spec := "bitsMix", unfollowed := true, recurses := true, apart := false, narrowed := true }
def BitsMixUptoSaid : Prop := bitsMixUptoRow.holds Try.pinned (OpenSpec.upto bitsMixSpec)

/-- 'corebelllaw.RankCircle', WHERE WHAT IT READS IS OF BULK AT MOST 1048576: true; the input reads as it did. -/
def rankCircleUptoRow : OpenClaim := { program := "ytollphjlheabdaa", sum := "5e4db99150b7924b6fcad5e87a8f4f38689f1115594a8436cc605e729a90bf9c", func := "corebell/corebelllaw.RankCircle", spec := "rankCircle", unfollowed := true, recurses := true, apart := false, narrowed := true }
def RankCircleUptoSaid : Prop := rankCircleUptoRow.holds Try.pinned (OpenSpec.upto rankCircleSpec)

/-- 'corebelllaw.ClockExtends', WHERE WHAT IT READS IS OF BULK AT MOST 1048576: true; the input reads as it did. -/
def clockExtendsUptoRow : OpenClaim := { program := "ytollphjlheabdaa", sum := "5e4db99150b7924b6fcad5e87a8f4f38689f1115594a8436cc605e729a90bf9c", func := "corebell/corebelllaw.ClockExtends", spec := "clockExtends", apart := false, narrowed := true }
def ClockExtendsUptoSaid : Prop := clockExtendsUptoRow.holds Try.pinned (OpenSpec.upto clockExtendsSpec)

/-- 'corebelllaw.UartSteps', WHERE WHAT IT READS IS OF BULK AT MOST 1048576: true; the input reads as it did. -/
def uartStepsUptoRow : OpenClaim := { program := "ytollphjlheabdaa", sum := "5e4db99150b7924b6fcad5e87a8f4f38689f1115594a8436cc605e729a90bf9c", func := "corebell/corebelllaw.UartSteps", spec := "uartSteps", unfollowed := true, recurses := true, apart := false, narrowed := true }
def UartStepsUptoSaid : Prop := uartStepsUptoRow.holds Try.pinned (OpenSpec.upto uartStepsSpec)

/-- 'corebelllaw.SpreadBest', WHERE WHAT IT READS IS OF BULK AT MOST 1048576: true; the input reads as it did. -/
def spreadBestUptoRow : OpenClaim := { program := "ytollphjlheabdaa", sum := "5e4db99150b7924b6fcad5e87a8f4f38689f1115594a8436cc605e729a90bf9c", func := "corebell/corebelllaw.SpreadBest", spec := "spreadBest", unfollowed := true, recurses := true, apart := false, narrowed := true }
def SpreadBestUptoSaid : Prop := spreadBestUptoRow.holds Try.pinned (OpenSpec.upto spreadBestSpec)

/-- 'corebelllaw.TicketSteps', WHERE WHAT IT READS IS OF BULK AT MOST 1048576: true; the input reads as it did. -/
def ticketStepsUptoRow : OpenClaim := { program := "ytollphjlheabdaa", sum := "5e4db99150b7924b6fcad5e87a8f4f38689f1115594a8436cc605e729a90bf9c", func := "corebell/corebelllaw.TicketSteps", spec := "ticketSteps", unfollowed := true, recurses := true, apart := false, narrowed := true }
def TicketStepsUptoSaid : Prop := ticketStepsUptoRow.holds Try.pinned (OpenSpec.upto ticketStepsSpec)

/-- 'corebelllaw.NicSteps', WHERE WHAT IT READS IS OF BULK AT MOST 1048576: true; the input reads as it did. -/
def nicStepsUptoRow : OpenClaim := { program := "ytollphjlheabdaa", sum := "5e4db99150b7924b6fcad5e87a8f4f38689f1115594a8436cc605e729a90bf9c", func := "corebell/corebelllaw.NicSteps", spec := "nicSteps", unfollowed := true, recurses := true, apart := false, narrowed := true }
def NicStepsUptoSaid : Prop := nicStepsUptoRow.holds Try.pinned (OpenSpec.upto nicStepsSpec)

/-- 'corebelllaw.PipeSteps', WHERE WHAT IT READS IS OF BULK AT MOST 1048576: true; the input reads as it did. -/
def pipeStepsUptoRow : OpenClaim := { program := "ytollphjlheabdaa", sum := "5e4db99150b7924b6fcad5e87a8f4f38689f1115594a8436cc605e729a90bf9c", func := "corebell/corebelllaw.PipeSteps", spec := "pipeSteps", unfollowed := true, recurses := true, apart := false, narrowed := true }
def PipeStepsUptoSaid : Prop := pipeStepsUptoRow.holds Try.pinned (OpenSpec.upto pipeStepsSpec)

/-- 'corebelllaw.RingSteps', WHERE WHAT IT READS IS OF BULK AT MOST 1048576: true; the input reads as it did. -/
def ringStepsUptoRow : OpenClaim := { program := "ytollphjlheabdaa", sum := "5e4db99150b7924b6fcad5e87a8f4f38689f1115594a8436cc605e729a90bf9c", func := "corebell/corebelllaw.RingSteps", spec := "ringSteps", apart := false, narrowed := true }
def RingStepsUptoSaid : Prop := ringStepsUptoRow.holds Try.pinned (OpenSpec.upto ringStepsSpec)

/-- 'corebelllaw.NestTells', WHERE WHAT IT READS IS OF BULK AT MOST 1048576: true; the input reads as it did. -/
def nestTellsUptoRow : OpenClaim := { program := "ytollphjlheabdaa", sum := "5e4db99150b7924b6fcad5e87a8f4f38689f1115594a8436cc605e729a90bf9c", func := "corebell/corebelllaw.NestTells", spec := "nestTells", apart := false, narrowed := true }
def NestTellsUptoSaid : Prop := nestTellsUptoRow.holds Try.pinned (OpenSpec.upto nestTellsSpec)

/-- 'corebelllaw.UartPlays', WHERE WHAT IT READS IS OF BULK AT MOST 1048576: true; the input reads as it did. -/
def uartPlaysUptoRow : OpenClaim := { program := "ytollphjlheabdaa", sum := "5e4db99150b7924b6fcad5e87a8f4f38689f1115594a8436cc605e729a90bf9c", func := "corebell/corebelllaw.UartPlays", spec := "uartPlays", unfollowed := true, recurses := true, apart := false, narrowed := true }
def UartPlaysUptoSaid : Prop := uartPlaysUptoRow.holds Try.pinned (OpenSpec.upto uartPlaysSpec)

/-- 'corebelltop.Names', WHERE WHAT IT READS IS OF BULK AT MOST 1048576: true; the input reads as it did. -/
def namesUptoRow : OpenClaim := { program := "ytollphjlheabdaa", sum := "5e4db99150b7924b6fcad5e87a8f4f38689f1115594a8436cc605e729a90bf9c", func := "corebell/corebelltop.Names", spec := "names", apart := false, narrowed := true }
def NamesUptoSaid : Prop := namesUptoRow.holds Try.pinned (OpenSpec.upto namesSpec)

end Rows
end Go.Proofs.Ytollphjlheabdaa
