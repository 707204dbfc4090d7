/-
  DERIVED. GIVEN WITH THE SEED: THE CARDS: each row of YtlmddcdafggphaaGreatDoorRows.lean that lists a variable, with what it lists TIED to the program's text (the seventh form; the later family's looks); each row that meets fmt, with fmt's text TOLD by the authors' own Lean function (tested against real Go, not proved from fmt's source: count such statements apart). THE CARD IS WHAT COUNTS. Prove the row's statement (the work); the ties are given (YtlmddcdafggphaaGreatDoorTie.lean); close each card by the builder's one call (the guide's Derived/Test/ToyasCard.lean, 'card_holds'). Laid BY PROGRAM, IN A SANDBOX (cutbox-door.mjs). By AI agents, Wed Nov 11 2026. No macro, syntax, notation, axiom, sorry.
-/
import Derived.Test.YtlmddcdafggphaaGreatDoorRows
import GoSem.ClaimSeven
namespace Go.Proofs.YtlmddcdafggphaaGreatDoor
namespace Rows

/-- THE TIED CARD OF 'corebelllaw.BenchTells'. -/
def benchTellsCard : Claim7 := { stood := { row := benchTellsRow, standIns := [], harness := (true, "4bf58c7c1f77e1e94b725b5caf0c15bbbfaa5b84c7bf1df11d07943eddec8b5a"), looks := true }, kinds := [], alts := [], laidByText := true, laidKinds := [.data, .data, .data, .sentinel, .sentinel], laidTests := true, laidLooks := .later }
def BenchTellsCardSaid : Prop := Claim7.holds Tryz.pinned (.plain (OpenSpec.ofChange benchTellsSpec)) benchTellsCard

/-- THE SECOND FORM's CARD OF 'corebelllaw.BenchTells'. -/
def benchTellsUptoCard : Claim7 := { stood := { row := benchTellsUptoRow, standIns := [], harness := (true, "4bf58c7c1f77e1e94b725b5caf0c15bbbfaa5b84c7bf1df11d07943eddec8b5a"), looks := true }, kinds := [], alts := [], laidByText := true, laidKinds := [.data, .data, .data, .sentinel, .sentinel], laidTests := true, laidLooks := .later }
def BenchTellsUptoCardSaid : Prop := Claim7.holds Tryz.pinned (.plain (OpenSpec.upto benchTellsSpec)) benchTellsUptoCard
end Rows
end Go.Proofs.YtlmddcdafggphaaGreatDoor
