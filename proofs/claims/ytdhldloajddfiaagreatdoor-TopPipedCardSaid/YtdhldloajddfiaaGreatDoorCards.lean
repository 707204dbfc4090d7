/-
  DERIVED. GIVEN WITH THE SEED: THE CARDS: each row of YtdhldloajddfiaaGreatDoorRows.lean that lists a variable, with what it lists TIED to the program's text (the seventh form; the later family's looks); each row that meets fmt, with fmt's text TOLD by the authors' own Lean function (tested against real Go, not proved from fmt's source: count such statements apart). THE CARD IS WHAT COUNTS. Prove the row's statement (the work); the ties are given (YtdhldloajddfiaaGreatDoorTie.lean); close each card by the builder's one call (the guide's Derived/Test/ToyasCard.lean, 'card_holds'). Laid BY PROGRAM, IN A SANDBOX (cutbox-door.mjs). By AI agents, Wed Nov 11 2026. No macro, syntax, notation, axiom, sorry.
-/
import Derived.Test.YtdhldloajddfiaaGreatDoorRows
import GoSem.ClaimSeven
namespace Go.Proofs.YtdhldloajddfiaaGreatDoor
namespace Rows

/-- THE TIED CARD OF 'corebelltop.TopPiped'. -/
def topPipedCard : Claim7 := { stood := { row := topPipedRow, standIns := [], harness := (true, "16fdd114ad22e8d90e1635568a0b6990cda0d9faa45253e523aa980a2d22e9bb"), looks := true }, kinds := [], alts := [], laidByText := true, laidKinds := [.data, .data, .data, .sentinel, .sentinel], laidTests := true, laidLooks := .later }
def TopPipedCardSaid : Prop := Claim7.holds Tryz.pinned (.plain (OpenSpec.ofChange topPipedSpec)) topPipedCard

/-- THE TIED CARD OF 'corebelltop.TopEcho'. -/
def topEchoCard : Claim7 := { stood := { row := topEchoRow, standIns := [], harness := (true, "16fdd114ad22e8d90e1635568a0b6990cda0d9faa45253e523aa980a2d22e9bb"), looks := true }, kinds := [], alts := [], laidByText := true, laidKinds := [.data, .data, .data, .sentinel, .sentinel], laidTests := true, laidLooks := .later }
def TopEchoCardSaid : Prop := Claim7.holds Tryz.pinned (.plain (OpenSpec.ofChange topEchoSpec)) topEchoCard

/-- THE SECOND FORM's CARD OF 'corebelltop.TopPiped'. -/
def topPipedUptoCard : Claim7 := { stood := { row := topPipedUptoRow, standIns := [], harness := (true, "16fdd114ad22e8d90e1635568a0b6990cda0d9faa45253e523aa980a2d22e9bb"), looks := true }, kinds := [], alts := [], laidByText := true, laidKinds := [.data, .data, .data, .sentinel, .sentinel], laidTests := true, laidLooks := .later }
def TopPipedUptoCardSaid : Prop := Claim7.holds Tryz.pinned (.plain (OpenSpec.upto topPipedSpec)) topPipedUptoCard

/-- THE SECOND FORM's CARD OF 'corebelltop.TopEcho'. -/
def topEchoUptoCard : Claim7 := { stood := { row := topEchoUptoRow, standIns := [], harness := (true, "16fdd114ad22e8d90e1635568a0b6990cda0d9faa45253e523aa980a2d22e9bb"), looks := true }, kinds := [], alts := [], laidByText := true, laidKinds := [.data, .data, .data, .sentinel, .sentinel], laidTests := true, laidLooks := .later }
def TopEchoUptoCardSaid : Prop := Claim7.holds Tryz.pinned (.plain (OpenSpec.upto topEchoSpec)) topEchoUptoCard
end Rows
end Go.Proofs.YtdhldloajddfiaaGreatDoor
