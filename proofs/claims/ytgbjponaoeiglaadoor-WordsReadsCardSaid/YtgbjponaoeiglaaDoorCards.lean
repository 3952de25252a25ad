/-
  DERIVED. GIVEN WITH THE SEED: THE CARDS: each row of YtgbjponaoeiglaaDoorRows.lean that lists a variable, with what it lists TIED to the program's text (the seventh form; the later family's looks); each row that meets fmt, with fmt's text TOLD by the authors' own Lean function (tested against real Go, not proved from fmt's source: count such statements apart). THE CARD IS WHAT COUNTS. Prove the row's statement (the work); the ties are given (YtgbjponaoeiglaaDoorTie.lean); close each card by the builder's one call (the guide's Derived/Test/ToyasCard.lean, 'card_holds'). Laid BY PROGRAM, IN A SANDBOX (cutbox-door.mjs). By AI agents, Wed Nov 11 2026. No macro, syntax, notation, axiom, sorry.
-/
import Derived.Test.YtgbjponaoeiglaaDoorRows
import GoSem.ClaimSeven
namespace Go.Proofs.YtgbjponaoeiglaaDoor
namespace Rows

/-- THE TIED CARD OF 'ossuarylaw34.WordsBares'. -/
def wordsBaresCard : Claim7 := { stood := { row := wordsBaresRow, standIns := [], harness := (true, "b77ee56ed04920f15756a714cc39d2cd0ad77dd33cbdc2fd4605aa723c6c965b"), looks := true }, kinds := [], alts := [], laidByText := true, laidKinds := [.data, .pinned], laidTests := true, laidLooks := .later }
def WordsBaresCardSaid : Prop := Claim7.holds Tryd.pinned (.plain (OpenSpec.ofChange wordsBaresSpec)) wordsBaresCard

/-- THE TIED CARD OF 'ossuarylaw34.WordsParses'. -/
def wordsParsesCard : Claim7 := { stood := { row := wordsParsesRow, standIns := [], harness := (true, "b77ee56ed04920f15756a714cc39d2cd0ad77dd33cbdc2fd4605aa723c6c965b"), looks := true }, kinds := [], alts := [], laidByText := true, laidKinds := [.data, .pinned], laidTests := true, laidLooks := .later }
def WordsParsesCardSaid : Prop := Claim7.holds Tryd.pinned (.plain (OpenSpec.ofChange wordsParsesSpec)) wordsParsesCard

/-- THE TIED CARD OF 'ossuarylaw34.WordsReads'. -/
def wordsReadsCard : Claim7 := { stood := { row := wordsReadsRow, standIns := [], harness := (true, "b77ee56ed04920f15756a714cc39d2cd0ad77dd33cbdc2fd4605aa723c6c965b"), looks := true }, kinds := [], alts := [], laidByText := true, laidKinds := [.data, .pinned], laidTests := true, laidLooks := .later }
def WordsReadsCardSaid : Prop := Claim7.holds Tryd.pinned (.plain (OpenSpec.ofChange wordsReadsSpec)) wordsReadsCard

/-- THE SECOND FORM's CARD OF 'ossuarylaw34.WordsBares'. -/
def wordsBaresUptoCard : Claim7 := { stood := { row := wordsBaresUptoRow, standIns := [], harness := (true, "b77ee56ed04920f15756a714cc39d2cd0ad77dd33cbdc2fd4605aa723c6c965b"), looks := true }, kinds := [], alts := [], laidByText := true, laidKinds := [.data, .pinned], laidTests := true, laidLooks := .later }
def WordsBaresUptoCardSaid : Prop := Claim7.holds Tryd.pinned (.plain (OpenSpec.upto wordsBaresSpec)) wordsBaresUptoCard

/-- THE SECOND FORM's CARD OF 'ossuarylaw34.WordsParses'. -/
def wordsParsesUptoCard : Claim7 := { stood := { row := wordsParsesUptoRow, standIns := [], harness := (true, "b77ee56ed04920f15756a714cc39d2cd0ad77dd33cbdc2fd4605aa723c6c965b"), looks := true }, kinds := [], alts := [], laidByText := true, laidKinds := [.data, .pinned], laidTests := true, laidLooks := .later }
def WordsParsesUptoCardSaid : Prop := Claim7.holds Tryd.pinned (.plain (OpenSpec.upto wordsParsesSpec)) wordsParsesUptoCard

/-- THE SECOND FORM's CARD OF 'ossuarylaw34.WordsReads'. -/
def wordsReadsUptoCard : Claim7 := { stood := { row := wordsReadsUptoRow, standIns := [], harness := (true, "b77ee56ed04920f15756a714cc39d2cd0ad77dd33cbdc2fd4605aa723c6c965b"), looks := true }, kinds := [], alts := [], laidByText := true, laidKinds := [.data, .pinned], laidTests := true, laidLooks := .later }
def WordsReadsUptoCardSaid : Prop := Claim7.holds Tryd.pinned (.plain (OpenSpec.upto wordsReadsSpec)) wordsReadsUptoCard
end Rows
end Go.Proofs.YtgbjponaoeiglaaDoor
