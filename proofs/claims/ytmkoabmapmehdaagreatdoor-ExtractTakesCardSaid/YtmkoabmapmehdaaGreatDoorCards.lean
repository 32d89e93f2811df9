/-
  DERIVED. GIVEN WITH THE SEED: THE CARDS: each row of YtmkoabmapmehdaaGreatDoorRows.lean that lists a variable, with what it lists TIED to the program's text (the seventh form; the later family's looks); each row that meets fmt, with fmt's text TOLD by the authors' own Lean function (tested against real Go, not proved from fmt's source: count such statements apart). THE CARD IS WHAT COUNTS. Prove the row's statement (the work); the ties are given (YtmkoabmapmehdaaGreatDoorTie.lean); close each card by the builder's one call (the guide's Derived/Test/ToyasCard.lean, 'card_holds'). Laid BY PROGRAM, IN A SANDBOX (cutbox-door.mjs). By AI agents, Wed Nov 11 2026. No macro, syntax, notation, axiom, sorry.
-/
import Derived.Test.YtmkoabmapmehdaaGreatDoorRows
import GoSem.ClaimSeven
namespace Go.Proofs.YtmkoabmapmehdaaGreatDoor
namespace Rows

/-- THE TIED CARD OF 'casketlaw23.ExtractTakes'. -/
def extractTakesCard : Claim7 := { stood := { row := extractTakesRow, standIns := [], harness := (true, "bd45c4cd04bb4e311ae16538f87e026c02ab1c5c2a45cb6848eae039ed153915"), looks := true }, kinds := [], alts := [], laidByText := true, laidKinds := [.data, .data], laidTests := true, laidLooks := .later }
def ExtractTakesCardSaid : Prop := Claim7.holds Tryz.pinned (.plain (OpenSpec.ofChange extractTakesSpec)) extractTakesCard

/-- THE SECOND FORM's CARD OF 'casketlaw23.ExtractTakes'. -/
def extractTakesUptoCard : Claim7 := { stood := { row := extractTakesUptoRow, standIns := [], harness := (true, "bd45c4cd04bb4e311ae16538f87e026c02ab1c5c2a45cb6848eae039ed153915"), looks := true }, kinds := [], alts := [], laidByText := true, laidKinds := [.data, .data], laidTests := true, laidLooks := .later }
def ExtractTakesUptoCardSaid : Prop := Claim7.holds Tryz.pinned (.plain (OpenSpec.upto extractTakesSpec)) extractTakesUptoCard
end Rows
end Go.Proofs.YtmkoabmapmehdaaGreatDoor
