/-
  DERIVED. GIVEN WITH THE SEED: THE CARDS: each row of YtlkhpbjjimjhbaaDoorRows.lean that lists a variable, with what it lists TIED to the program's text (the seventh form; the later family's looks); each row that meets fmt, with fmt's text TOLD by the authors' own Lean function (tested against real Go, not proved from fmt's source: count such statements apart). THE CARD IS WHAT COUNTS. Prove the row's statement (the work); the ties are given (YtlkhpbjjimjhbaaDoorTie.lean); close each card by the builder's one call (the guide's Derived/Test/ToyasCard.lean, 'card_holds'). Laid BY PROGRAM, IN A SANDBOX (cutbox-door.mjs). By AI agents, Wed Nov 11 2026. No macro, syntax, notation, axiom, sorry.
-/
import Derived.Test.YtlkhpbjjimjhbaaDoorRows
import GoSem.ClaimSeven
namespace Go.Proofs.YtlkhpbjjimjhbaaDoor
namespace Rows

/-- THE TIED CARD OF 'corebelllaw.ApicTells'. -/
def apicTellsCard : Claim7 := { stood := { row := apicTellsRow, standIns := [], harness := (true, "ed003d8e52146fbbed78cf9d1d43e101158c132c42b27997242198610d923660"), looks := false }, kinds := [], alts := [], laidByText := true, laidKinds := [.data], laidTests := true, laidLooks := .later }
def ApicTellsCardSaid : Prop := Claim7.holds Tryd.pinned (.plain (OpenSpec.ofChange apicTellsSpec)) apicTellsCard

/-- THE TIED CARD OF 'corebelllaw.VectorPlays'. -/
def vectorPlaysCard : Claim7 := { stood := { row := vectorPlaysRow, standIns := [], harness := (true, "ed003d8e52146fbbed78cf9d1d43e101158c132c42b27997242198610d923660"), looks := false }, kinds := [], alts := [], laidByText := true, laidKinds := [.data], laidTests := true, laidLooks := .later }
def VectorPlaysCardSaid : Prop := Claim7.holds Tryd.pinned (.plain (OpenSpec.ofChange vectorPlaysSpec)) vectorPlaysCard

/-- THE SECOND FORM's CARD OF 'corebelllaw.ApicTells'. -/
def apicTellsUptoCard : Claim7 := { stood := { row := apicTellsUptoRow, standIns := [], harness := (true, "ed003d8e52146fbbed78cf9d1d43e101158c132c42b27997242198610d923660"), looks := false }, kinds := [], alts := [], laidByText := true, laidKinds := [.data], laidTests := true, laidLooks := .later }
def ApicTellsUptoCardSaid : Prop := Claim7.holds Tryd.pinned (.plain (OpenSpec.upto apicTellsSpec)) apicTellsUptoCard

/-- THE SECOND FORM's CARD OF 'corebelllaw.VectorPlays'. -/
def vectorPlaysUptoCard : Claim7 := { stood := { row := vectorPlaysUptoRow, standIns := [], harness := (true, "ed003d8e52146fbbed78cf9d1d43e101158c132c42b27997242198610d923660"), looks := false }, kinds := [], alts := [], laidByText := true, laidKinds := [.data], laidTests := true, laidLooks := .later }
def VectorPlaysUptoCardSaid : Prop := Claim7.holds Tryd.pinned (.plain (OpenSpec.upto vectorPlaysSpec)) vectorPlaysUptoCard
end Rows
end Go.Proofs.YtlkhpbjjimjhbaaDoor
