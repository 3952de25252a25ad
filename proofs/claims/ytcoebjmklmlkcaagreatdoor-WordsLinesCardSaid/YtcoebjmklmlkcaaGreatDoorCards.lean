/-
  DERIVED. GIVEN WITH THE SEED: THE CARDS: each row of YtcoebjmklmlkcaaGreatDoorRows.lean that lists a variable, with what it lists TIED to the program's text (the seventh form; the later family's looks); each row that meets fmt, with fmt's text TOLD by the authors' own Lean function (tested against real Go, not proved from fmt's source: count such statements apart). THE CARD IS WHAT COUNTS. Prove the row's statement (the work); the ties are given (YtcoebjmklmlkcaaGreatDoorTie.lean); close each card by the builder's one call (the guide's Derived/Test/ToyasCard.lean, 'card_holds'). Laid BY PROGRAM, IN A SANDBOX (cutbox-door.mjs). By AI agents, Wed Nov 11 2026. No macro, syntax, notation, axiom, sorry.
-/
import Derived.Test.YtcoebjmklmlkcaaGreatDoorRows
import GoSem.ClaimSeven
namespace Go.Proofs.YtcoebjmklmlkcaaGreatDoor
namespace Rows

/-- THE TIED CARD OF 'ossuarylaw34.WordsLines'. -/
def wordsLinesCard : Claim7 := { stood := { row := wordsLinesRow, standIns := [], harness := (true, "002b3983725c95aad7a8ceaed1543ea4f354d14a27ef46b1397932bbb8d88bb7"), looks := true }, kinds := [], alts := [], laidByText := true, laidKinds := [.data, .pinned], laidTests := true, laidLooks := .later }
def WordsLinesCardSaid : Prop := Claim7.holds Tryz.pinned (.plain (OpenSpec.ofChange wordsLinesSpec)) wordsLinesCard

/-- THE SECOND FORM's CARD OF 'ossuarylaw34.WordsLines'. -/
def wordsLinesUptoCard : Claim7 := { stood := { row := wordsLinesUptoRow, standIns := [], harness := (true, "002b3983725c95aad7a8ceaed1543ea4f354d14a27ef46b1397932bbb8d88bb7"), looks := true }, kinds := [], alts := [], laidByText := true, laidKinds := [.data, .pinned], laidTests := true, laidLooks := .later }
def WordsLinesUptoCardSaid : Prop := Claim7.holds Tryz.pinned (.plain (OpenSpec.upto wordsLinesSpec)) wordsLinesUptoCard
end Rows
end Go.Proofs.YtcoebjmklmlkcaaGreatDoor
