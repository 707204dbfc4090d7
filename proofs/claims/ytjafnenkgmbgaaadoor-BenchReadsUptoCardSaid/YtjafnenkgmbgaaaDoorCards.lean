/-
  DERIVED. GIVEN WITH THE SEED: THE CARDS: each row of YtjafnenkgmbgaaaDoorRows.lean that lists a variable, with what it lists TIED to the program's text (the seventh form; the later family's looks); each row that meets fmt, with fmt's text TOLD by the authors' own Lean function (tested against real Go, not proved from fmt's source: count such statements apart). THE CARD IS WHAT COUNTS. Prove the row's statement (the work); the ties are given (YtjafnenkgmbgaaaDoorTie.lean); close each card by the builder's one call (the guide's Derived/Test/ToyasCard.lean, 'card_holds'). Laid BY PROGRAM, IN A SANDBOX (cutbox-door.mjs). By AI agents, Wed Nov 11 2026. No macro, syntax, notation, axiom, sorry.
-/
import Derived.Test.YtjafnenkgmbgaaaDoorRows
import GoSem.ClaimSeven
namespace Go.Proofs.YtjafnenkgmbgaaaDoor
namespace Rows

/-- THE TIED CARD OF 'corebelllaw.BenchReads'. -/
def benchReadsCard : Claim7 := { stood := { row := benchReadsRow, standIns := [], harness := (true, "eea1cb90649285733a3b289d94258e78102449bf34ab8b862549d52fc83628c0"), looks := true }, kinds := [], alts := [], laidByText := true, laidKinds := [.data, .data, .data, .sentinel, .sentinel], laidTests := true, laidLooks := .later }
def BenchReadsCardSaid : Prop := Claim7.holds Tryd.pinned (.plain (OpenSpec.ofChange benchReadsSpec)) benchReadsCard

/-- THE SECOND FORM's CARD OF 'corebelllaw.BenchReads'. -/
def benchReadsUptoCard : Claim7 := { stood := { row := benchReadsUptoRow, standIns := [], harness := (true, "eea1cb90649285733a3b289d94258e78102449bf34ab8b862549d52fc83628c0"), looks := true }, kinds := [], alts := [], laidByText := true, laidKinds := [.data, .data, .data, .sentinel, .sentinel], laidTests := true, laidLooks := .later }
def BenchReadsUptoCardSaid : Prop := Claim7.holds Tryd.pinned (.plain (OpenSpec.upto benchReadsSpec)) benchReadsUptoCard
end Rows
end Go.Proofs.YtjafnenkgmbgaaaDoor
