/-
  DERIVED. GIVEN WITH THE SEED: THE CARDS: each row of YtppgbcmeagbalaaDoorRows.lean that lists a variable, with what it lists TIED to the program's text (the seventh form; the later family's looks); each row that meets fmt, with fmt's text TOLD by the authors' own Lean function (tested against real Go, not proved from fmt's source: count such statements apart). THE CARD IS WHAT COUNTS. Prove the row's statement (the work); the ties are given (YtppgbcmeagbalaaDoorTie.lean); close each card by the builder's one call (the guide's Derived/Test/ToyasCard.lean, 'card_holds'). Laid BY PROGRAM, IN A SANDBOX (cutbox-door.mjs). By AI agents, Wed Nov 11 2026. No macro, syntax, notation, axiom, sorry.
-/
import Derived.Test.YtppgbcmeagbalaaDoorRows
import GoSem.ClaimSeven
namespace Go.Proofs.YtppgbcmeagbalaaDoor
namespace Rows

/-- THE TIED CARD OF 'corebelllaw.KernelPlays'. -/
def kernelPlaysCard : Claim7 := { stood := { row := kernelPlaysRow, standIns := [], harness := (true, "b4f6e9cae78d7c5d47ec302976d0f550b7c74d3120d286c4f1a974f90fe3b2dd"), looks := false }, kinds := [], alts := [], laidByText := true, laidKinds := [.data], laidTests := true, laidLooks := .later }
def KernelPlaysCardSaid : Prop := Claim7.holds Tryd.pinned (.plain (OpenSpec.ofChange kernelPlaysSpec)) kernelPlaysCard

/-- THE SECOND FORM's CARD OF 'corebelllaw.KernelPlays'. -/
def kernelPlaysUptoCard : Claim7 := { stood := { row := kernelPlaysUptoRow, standIns := [], harness := (true, "b4f6e9cae78d7c5d47ec302976d0f550b7c74d3120d286c4f1a974f90fe3b2dd"), looks := false }, kinds := [], alts := [], laidByText := true, laidKinds := [.data], laidTests := true, laidLooks := .later }
def KernelPlaysUptoCardSaid : Prop := Claim7.holds Tryd.pinned (.plain (OpenSpec.upto kernelPlaysSpec)) kernelPlaysUptoCard
end Rows
end Go.Proofs.YtppgbcmeagbalaaDoor
