/-
  DERIVED. GIVEN WITH THE SEED: THE CARDS: each row of YtcbahkfbdlhabaaGreatDoorRows.lean that lists a variable, with what it lists TIED to the program's text (the seventh form; the later family's looks); each row that meets fmt, with fmt's text TOLD by the authors' own Lean function (tested against real Go, not proved from fmt's source: count such statements apart). THE CARD IS WHAT COUNTS. Prove the row's statement (the work); the ties are given (YtcbahkfbdlhabaaGreatDoorTie.lean); close each card by the builder's one call (the guide's Derived/Test/ToyasCard.lean, 'card_holds'). Laid BY PROGRAM, IN A SANDBOX (cutbox-door.mjs). By AI agents, Wed Nov 11 2026. No macro, syntax, notation, axiom, sorry.
-/
import Derived.Test.YtcbahkfbdlhabaaGreatDoorRows
import GoSem.ClaimSeven
namespace Go.Proofs.YtcbahkfbdlhabaaGreatDoor
namespace Rows

/-- THE TIED CARD OF 'cribbletop.TopThree'. -/
def topThreeCard : Claim7 := { stood := { row := topThreeRow, standIns := [], harness := (true, "5a8215c2bb02ceaa77845e50499389bfb1ae593492581a7a6d2e80ae65823f83"), looks := false }, kinds := [], alts := [], laidByText := true, laidKinds := [.data, .pinned], laidTests := true, laidLooks := .later }
def TopThreeCardSaid : Prop := Claim7.holds Tryz.pinned (.plain (OpenSpec.ofChange topThreeSpec)) topThreeCard

/-- THE SECOND FORM's CARD OF 'cribbletop.TopThree'. -/
def topThreeUptoCard : Claim7 := { stood := { row := topThreeUptoRow, standIns := [], harness := (true, "5a8215c2bb02ceaa77845e50499389bfb1ae593492581a7a6d2e80ae65823f83"), looks := false }, kinds := [], alts := [], laidByText := true, laidKinds := [.data, .pinned], laidTests := true, laidLooks := .later }
def TopThreeUptoCardSaid : Prop := Claim7.holds Tryz.pinned (.plain (OpenSpec.upto topThreeSpec)) topThreeUptoCard
end Rows
end Go.Proofs.YtcbahkfbdlhabaaGreatDoor
