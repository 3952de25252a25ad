/-
  No cell of these rows narrows 'for every input' (looked for: loops, veiled, ifaces, maps, wideKeys, modest, calm, conditions, laid).
  DERIVED. THE GIVEN ROWS OF THIS SEAT. 12 by the template 'for every input the law returns true; each argument reads behind the call as it read before'; 0 by the template 'total and deterministic' (their statements: YtmhhjhckbiaidaaTotals.lean).
  GIVEN WITH THE SEED: the statements are not yours to turn. If you find one false, say at which input.
  Laid BY PROGRAM, IN A SANDBOX (cutbox-rows.mjs): the forced cells as the released guide's own fill.sh prints them over the translation 5d7eb2dfd75fff91… (all of the seat's roots in one cut). By AI agents, Wed Nov 11 2026. No macro, syntax, notation, axiom, sorry.
-/
import Derived.Test.YtmhhjhckbiaidaaChecked
import GoSem.Claim
import GoSem.ClaimJoined
import GoSem.ClaimMapViews
import Derived.JoinedTies
import Derived.KernelRfl
namespace Go.Proofs.Ytmhhjhckbiaidaa
/- THE CELL 'sum', in the pinned program and in every row, IS THE sha256 OF THE DUMP (.gsa) THAT YtmhhjhckbiaidaaProg.lean LOADS. Nothing in Lean hashes anything: it is a label: what it is worth is what the hold of that sum in a sandbox is worth. -/
noncomputable def Try.pinned : Pinned := { name := "ytmhhjhckbiaidaa", sum := "5d7eb2dfd75fff91961701b9c2ba1621c3b0c27747c71e4e3453c824b868c530", checked := Try.checked }
namespace Rows
def none {H : Type} : Left H := { results := [], args := [] }

/-- 'ossuarylaw05.CellAlls': WHATEVER THE INPUT: true; the input reads as it did. -/
def cellAllsSpec : ChangeSpec := { name := "cellAlls", fn := fun _ => fun
  | [d] => { results := [.lit (.bool true)], args := [d] }
  | _ => none }
def cellAllsRow : OpenClaim := { program := "ytmhhjhckbiaidaa", sum := "5d7eb2dfd75fff91961701b9c2ba1621c3b0c27747c71e4e3453c824b868c530", func := "ossuary/ossuarylaw05.CellAlls", spec := "cellAlls", unfollowed := true, recurses := true, apart := false }
def CellAllsSaid : Prop := cellAllsRow.holds Try.pinned (OpenSpec.ofChange cellAllsSpec)

/-- ITS FALSE NEIGHBOUR: 'it returns false'. Refute it at one input. -/
def cellAllsWrong : ChangeSpec := { name := "cellAlls", fn := fun _ => fun
  | [d] => { results := [.lit (.bool false)], args := [d] }
  | _ => none }
def CellAllsWrongFalsely : Prop := cellAllsRow.holds Try.pinned (OpenSpec.ofChange cellAllsWrong)

/-- 'ossuarylaw05.CellLooks': WHATEVER THE INPUT: true; the input reads as it did. -/
def cellLooksSpec : ChangeSpec := { name := "cellLooks", fn := fun _ => fun
  | [d] => { results := [.lit (.bool true)], args := [d] }
  | _ => none }
def cellLooksRow : OpenClaim := { program := "ytmhhjhckbiaidaa", sum := "5d7eb2dfd75fff91961701b9c2ba1621c3b0c27747c71e4e3453c824b868c530", func := "ossuary/ossuarylaw05.CellLooks", spec := "cellLooks", unfollowed := true, recurses := true, apart := false }
def CellLooksSaid : Prop := cellLooksRow.holds Try.pinned (OpenSpec.ofChange cellLooksSpec)

/-- ITS FALSE NEIGHBOUR: 'it returns false'. Refute it at one input. -/
def cellLooksWrong : ChangeSpec := { name := "cellLooks", fn := fun _ => fun
  | [d] => { results := [.lit (.bool false)], args := [d] }
  | _ => none }
def CellLooksWrongFalsely : Prop := cellLooksRow.holds Try.pinned (OpenSpec.ofChange cellLooksWrong)

/-- 'ossuarylaw05.CellWeighs': WHATEVER THE INPUT: true; the input reads as it did. -/
def cellWeighsSpec : ChangeSpec := { name := "cellWeighs", fn := fun _ => fun
  | [d1, d2] => { results := [.lit (.bool true)], args := [d1, d2] }
  | _ => none }
def cellWeighsRow : OpenClaim := { program := "ytmhhjhckbiaidaa", sum := "5d7eb2dfd75fff91961701b9c2ba1621c3b0c27747c71e4e3453c824b868c530", func := "ossuary/ossuarylaw05.CellWeighs", spec := "cellWeighs", unfollowed := true, recurses := true, apart := false }
def CellWeighsSaid : Prop := cellWeighsRow.holds Try.pinned (OpenSpec.ofChange cellWeighsSpec)

/-- ITS FALSE NEIGHBOUR: 'it returns false'. Refute it at one input. -/
def cellWeighsWrong : ChangeSpec := { name := "cellWeighs", fn := fun _ => fun
  | [d1, d2] => { results := [.lit (.bool false)], args := [d1, d2] }
  | _ => none }
def CellWeighsWrongFalsely : Prop := cellWeighsRow.holds Try.pinned (OpenSpec.ofChange cellWeighsWrong)

/-- 'ossuarylaw09.FactChecks': WHATEVER THE INPUT: true; the input reads as it did. -/
def factChecksSpec : ChangeSpec := { name := "factChecks", fn := fun _ => fun
  | [d1, d2] => { results := [.lit (.bool true)], args := [d1, d2] }
  | _ => none }
def factChecksRow : OpenClaim := { program := "ytmhhjhckbiaidaa", sum := "5d7eb2dfd75fff91961701b9c2ba1621c3b0c27747c71e4e3453c824b868c530", func := "ossuary/ossuarylaw09.FactChecks", spec := "factChecks", unfollowed := true, recurses := true, apart := false }
def FactChecksSaid : Prop := factChecksRow.holds Try.pinned (OpenSpec.ofChange factChecksSpec)

/-- ITS FALSE NEIGHBOUR: 'it returns false'. Refute it at one input. -/
def factChecksWrong : ChangeSpec := { name := "factChecks", fn := fun _ => fun
  | [d1, d2] => { results := [.lit (.bool false)], args := [d1, d2] }
  | _ => none }
def FactChecksWrongFalsely : Prop := factChecksRow.holds Try.pinned (OpenSpec.ofChange factChecksWrong)

/-- 'ossuarylaw07.PilePlays': WHATEVER THE INPUT: true; the input reads as it did. -/
def pilePlaysSpec : ChangeSpec := { name := "pilePlays", fn := fun _ => fun
  | [d] => { results := [.lit (.bool true)], args := [d] }
  | _ => none }
def pilePlaysRow : OpenClaim := { program := "ytmhhjhckbiaidaa", sum := "5d7eb2dfd75fff91961701b9c2ba1621c3b0c27747c71e4e3453c824b868c530", func := "ossuary/ossuarylaw07.PilePlays", spec := "pilePlays", unfollowed := true, recurses := true, apart := false }
def PilePlaysSaid : Prop := pilePlaysRow.holds Try.pinned (OpenSpec.ofChange pilePlaysSpec)

/-- ITS FALSE NEIGHBOUR: 'it returns false'. Refute it at one input. -/
def pilePlaysWrong : ChangeSpec := { name := "pilePlays", fn := fun _ => fun
  | [d] => { results := [.lit (.bool false)], args := [d] }
  | _ => none }
def PilePlaysWrongFalsely : Prop := pilePlaysRow.holds Try.pinned (OpenSpec.ofChange pilePlaysWrong)

/-- 'ossuarylaw07.PileOrders': WHATEVER THE INPUT: true; the input reads as it did. -/
def pileOrdersSpec : ChangeSpec := { name := "pileOrders", fn := fun _ => fun
  | [d] => { results := [.lit (.bool true)], args := [d] }
  | _ => none }
def pileOrdersRow : OpenClaim := { program := "ytmhhjhckbiaidaa", sum := "5d7eb2dfd75fff91961701b9c2ba1621c3b0c27747c71e4e3453c824b868c530", func := "ossuary/ossuarylaw07.PileOrders", spec := "pileOrders", unfollowed := true, recurses := true, apart := false }
def PileOrdersSaid : Prop := pileOrdersRow.holds Try.pinned (OpenSpec.ofChange pileOrdersSpec)

/-- ITS FALSE NEIGHBOUR: 'it returns false'. Refute it at one input. -/
def pileOrdersWrong : ChangeSpec := { name := "pileOrders", fn := fun _ => fun
  | [d] => { results := [.lit (.bool false)], args := [d] }
  | _ => none }
def PileOrdersWrongFalsely : Prop := pileOrdersRow.holds Try.pinned (OpenSpec.ofChange pileOrdersWrong)

/-- 'ossuarylaw07.PileSorts': WHATEVER THE INPUT: true; the input reads as it did. -/
def pileSortsSpec : ChangeSpec := { name := "pileSorts", fn := fun _ => fun
  | [d] => { results := [.lit (.bool true)], args := [d] }
  | _ => none }
def pileSortsRow : OpenClaim := { program := "ytmhhjhckbiaidaa", sum := "5d7eb2dfd75fff91961701b9c2ba1621c3b0c27747c71e4e3453c824b868c530", func := "ossuary/ossuarylaw07.PileSorts", spec := "pileSorts", unfollowed := true, recurses := true, apart := false }
def PileSortsSaid : Prop := pileSortsRow.holds Try.pinned (OpenSpec.ofChange pileSortsSpec)

/-- ITS FALSE NEIGHBOUR: 'it returns false'. Refute it at one input. -/
def pileSortsWrong : ChangeSpec := { name := "pileSorts", fn := fun _ => fun
  | [d] => { results := [.lit (.bool false)], args := [d] }
  | _ => none }
def PileSortsWrongFalsely : Prop := pileSortsRow.holds Try.pinned (OpenSpec.ofChange pileSortsWrong)

/-- 'ossuarylaw07.PileNils': WHATEVER THE INPUT: true; the input reads as it did. -/
def pileNilsSpec : ChangeSpec := { name := "pileNils", fn := fun _ => fun
  | [d] => { results := [.lit (.bool true)], args := [d] }
  | _ => none }
def pileNilsRow : OpenClaim := { program := "ytmhhjhckbiaidaa", sum := "5d7eb2dfd75fff91961701b9c2ba1621c3b0c27747c71e4e3453c824b868c530", func := "ossuary/ossuarylaw07.PileNils", spec := "pileNils", unfollowed := true, recurses := true, apart := false }
def PileNilsSaid : Prop := pileNilsRow.holds Try.pinned (OpenSpec.ofChange pileNilsSpec)

/-- ITS FALSE NEIGHBOUR: 'it returns false'. Refute it at one input. -/
def pileNilsWrong : ChangeSpec := { name := "pileNils", fn := fun _ => fun
  | [d] => { results := [.lit (.bool false)], args := [d] }
  | _ => none }
def PileNilsWrongFalsely : Prop := pileNilsRow.holds Try.pinned (OpenSpec.ofChange pileNilsWrong)

/-- 'ossuarylaw09.FactOrders': WHATEVER THE INPUT: true; the input reads as it did. -/
def factOrdersSpec : ChangeSpec := { name := "factOrders", fn := fun _ => fun
  | [d1, d2] => { results := [.lit (.bool true)], args := [d1, d2] }
  | _ => none }
def factOrdersRow : OpenClaim := { program := "ytmhhjhckbiaidaa", sum := "5d7eb2dfd75fff91961701b9c2ba1621c3b0c27747c71e4e3453c824b868c530", func := "ossuary/ossuarylaw09.FactOrders", spec := "factOrders", unfollowed := true, recurses := true, apart := false }
def FactOrdersSaid : Prop := factOrdersRow.holds Try.pinned (OpenSpec.ofChange factOrdersSpec)

/-- ITS FALSE NEIGHBOUR: 'it returns false'. Refute it at one input. -/
def factOrdersWrong : ChangeSpec := { name := "factOrders", fn := fun _ => fun
  | [d1, d2] => { results := [.lit (.bool false)], args := [d1, d2] }
  | _ => none }
def FactOrdersWrongFalsely : Prop := factOrdersRow.holds Try.pinned (OpenSpec.ofChange factOrdersWrong)

/-- 'ossuarylaw09.FactCodes': WHATEVER THE INPUT: true; the input reads as it did. -/
def factCodesSpec : ChangeSpec := { name := "factCodes", fn := fun _ => fun
  | [d1, d2, d3] => { results := [.lit (.bool true)], args := [d1, d2, d3] }
  | _ => none }
def factCodesRow : OpenClaim := { program := "ytmhhjhckbiaidaa", sum := "5d7eb2dfd75fff91961701b9c2ba1621c3b0c27747c71e4e3453c824b868c530", func := "ossuary/ossuarylaw09.FactCodes", spec := "factCodes", unfollowed := true, recurses := true, apart := false }
def FactCodesSaid : Prop := factCodesRow.holds Try.pinned (OpenSpec.ofChange factCodesSpec)

/-- ITS FALSE NEIGHBOUR: 'it returns false'. Refute it at one input. -/
def factCodesWrong : ChangeSpec := { name := "factCodes", fn := fun _ => fun
  | [d1, d2, d3] => { results := [.lit (.bool false)], args := [d1, d2, d3] }
  | _ => none }
def FactCodesWrongFalsely : Prop := factCodesRow.holds Try.pinned (OpenSpec.ofChange factCodesWrong)

/-- 'ossuarylaw09.FactBack': WHATEVER THE INPUT: true; the input reads as it did. -/
def factBackSpec : ChangeSpec := { name := "factBack", fn := fun _ => fun
  | [d1, d2, d3] => { results := [.lit (.bool true)], args := [d1, d2, d3] }
  | _ => none }
def factBackRow : OpenClaim := { program := "ytmhhjhckbiaidaa", sum := "5d7eb2dfd75fff91961701b9c2ba1621c3b0c27747c71e4e3453c824b868c530", func := "ossuary/ossuarylaw09.FactBack", spec := "factBack", unfollowed := true, recurses := true, apart := false }
def FactBackSaid : Prop := factBackRow.holds Try.pinned (OpenSpec.ofChange factBackSpec)

/-- ITS FALSE NEIGHBOUR: 'it returns false'. Refute it at one input. -/
def factBackWrong : ChangeSpec := { name := "factBack", fn := fun _ => fun
  | [d1, d2, d3] => { results := [.lit (.bool false)], args := [d1, d2, d3] }
  | _ => none }
def FactBackWrongFalsely : Prop := factBackRow.holds Try.pinned (OpenSpec.ofChange factBackWrong)

/-- 'ossuarylaw35.StatNumbers': WHATEVER THE INPUT: true; the input reads as it did. -/
def statNumbersSpec : ChangeSpec := { name := "statNumbers", fn := fun _ => fun
  | [d] => { results := [.lit (.bool true)], args := [d] }
  | _ => none }
def statNumbersRow : OpenClaim := { program := "ytmhhjhckbiaidaa", sum := "5d7eb2dfd75fff91961701b9c2ba1621c3b0c27747c71e4e3453c824b868c530", func := "ossuary/ossuarylaw35.StatNumbers", spec := "statNumbers", unfollowed := true, recurses := true, named := ["math/bits.divideError", "math/bits.overflowError"], apart := false }
def StatNumbersSaid : Prop := statNumbersRow.holds Try.pinned (OpenSpec.ofChange statNumbersSpec)

/-- ITS FALSE NEIGHBOUR: 'it returns false'. Refute it at one input. -/
def statNumbersWrong : ChangeSpec := { name := "statNumbers", fn := fun _ => fun
  | [d] => { results := [.lit (.bool false)], args := [d] }
  | _ => none }
def StatNumbersWrongFalsely : Prop := statNumbersRow.holds Try.pinned (OpenSpec.ofChange statNumbersWrong)

/- THE SECOND FORM. 'bulk': how many values and letters a reading holds, each counted each time it is reached (what is shared counts as often as it is met; a slice's spare places count too). A statement '..UptoSaid' is the law's where the arguments, and the package variables that the reading takes, are together of bulk at most 1048576: NARROWER than '..Said'. Prove '..Said' where nothing that the law and all that it calls make is longer than what came in: it says more and counts as full. Else prove '..UptoSaid'. A law counts once. -/
mutual
def uptoBulk {H : Type} : DataW H → Nat
  | .lit (.string bytes) => bytes.length + 1
  | .lit _ => 1
  | .nil => 1
  | .ptr d => uptoBulk d + 1
  | .slice elems spare => uptoBulkAll elems + uptoBulkAll spare + 1
  | .agg parts => uptoBulkAll parts + 1
  | .iface _ d => uptoBulk d + 1
  | .map entries => uptoBulkEntries entries + 1
  | .held _ => 1
def uptoBulkAll {H : Type} : List (DataW H) → Nat
  | [] => 0
  | d :: r => uptoBulk d + uptoBulkAll r
def uptoBulkEntries {H : Type} : List (Lit × DataW H) → Nat
  | [] => 0
  | x :: r => uptoBulkEntry x + uptoBulkEntries r
def uptoBulkEntry {H : Type} : Lit × DataW H → Nat
  | (.string bytes, d) => bytes.length + uptoBulk d + 1
  | (_, d) => uptoBulk d + 1
 end
def uptoSmall : (H : Type) → List (DataW H) → Bool := fun _ ds => decide (uptoBulkAll ds ≤ 1048576)
def OpenSpec.upto (s : _root_.Go.ChangeSpec) : _root_.Go.OpenSpec := { _root_.Go.OpenSpec.ofChange s with cond := some uptoSmall }

/-- 'ossuarylaw05.CellAlls', WHERE WHAT IT READS IS OF BULK AT MOST 1048576: true; the input reads as it did. -/
def cellAllsUptoRow : OpenClaim := { program := "ytmhhjhckbiaidaa", sum := "5d7eb2dfd75fff91961701b9c2ba1621c3b0c27747c71e4e3453c824b868c530", func := "ossuary/ossuarylaw05.CellAlls", spec := "cellAlls", unfollowed := true, recurses := true, apart := false, narrowed := true }
def CellAllsUptoSaid : Prop := cellAllsUptoRow.holds Try.pinned (OpenSpec.upto cellAllsSpec)

/-- 'ossuarylaw05.CellLooks', WHERE WHAT IT READS IS OF BULK AT MOST 1048576: true; the input reads as it did. -/
def cellLooksUptoRow : OpenClaim := { program := "ytmhhjhckbiaidaa", sum := "5d7eb2dfd75fff91961701b9c2ba1621c3b0c27747c71e4e3453c824b868c530", func := "ossuary/ossuarylaw05.CellLooks", spec := "cellLooks", unfollowed := true, recurses := true, apart := false, narrowed := true }
def CellLooksUptoSaid : Prop := cellLooksUptoRow.holds Try.pinned (OpenSpec.upto cellLooksSpec)

/-- 'ossuarylaw05.CellWeighs', WHERE WHAT IT READS IS OF BULK AT MOST 1048576: true; the input reads as it did. -/
def cellWeighsUptoRow : OpenClaim := { program := "ytmhhjhckbiaidaa", sum := "5d7eb2dfd75fff91961701b9c2ba1621c3b0c27747c71e4e3453c824b868c530", func := "ossuary/ossuarylaw05.CellWeighs", spec := "cellWeighs", unfollowed := true, recurses := true, apart := false, narrowed := true }
def CellWeighsUptoSaid : Prop := cellWeighsUptoRow.holds Try.pinned (OpenSpec.upto cellWeighsSpec)

/-- 'ossuarylaw09.FactChecks', WHERE WHAT IT READS IS OF BULK AT MOST 1048576: true; the input reads as it did. -/
def factChecksUptoRow : OpenClaim := { program := "ytmhhjhckbiaidaa", sum := "5d7eb2dfd75fff91961701b9c2ba1621c3b0c27747c71e4e3453c824b868c530", func := "ossuary/ossuarylaw09.FactChecks", spec := "factChecks", unfollowed := true, recurses := true, apart := false, narrowed := true }
def FactChecksUptoSaid : Prop := factChecksUptoRow.holds Try.pinned (OpenSpec.upto factChecksSpec)

/-- 'ossuarylaw07.PilePlays', WHERE WHAT IT READS IS OF BULK AT MOST 1048576: true; the input reads as it did. -/
def pilePlaysUptoRow : OpenClaim := { program := "ytmhhjhckbiaidaa", sum := "5d7eb2dfd75fff91961701b9c2ba1621c3b0c27747c71e4e3453c824b868c530", func := "ossuary/ossuarylaw07.PilePlays", spec := "pilePlays", unfollowed := true, recurses := true, apart := false, narrowed := true }
def PilePlaysUptoSaid : Prop := pilePlaysUptoRow.holds Try.pinned (OpenSpec.upto pilePlaysSpec)

/-- 'ossuarylaw07.PileOrders', WHERE WHAT IT READS IS OF BULK AT MOST 1048576: true; the input reads as it did. -/
def pileOrdersUptoRow : OpenClaim := { program := "ytmhhjhckbiaidaa", sum := "5d7eb2dfd75fff91961701b9c2ba1621c3b0c27747c71e4e3453c824b868c530", func := "ossuary/ossuarylaw07.PileOrders", spec := "pileOrders", unfollowed := true, recurses := true, apart := false, narrowed := true }
def PileOrdersUptoSaid : Prop := pileOrdersUptoRow.holds Try.pinned (OpenSpec.upto pileOrdersSpec)

/-- 'ossuarylaw07.PileSorts', WHERE WHAT IT READS IS OF BULK AT MOST 1048576: true; the input reads as it did. -/
def pileSortsUptoRow : OpenClaim := { program := "ytmhhjhckbiaidaa", sum := "5d7eb2dfd75fff91961701b9c2ba1621c3b0c27747c71e4e3453c824b868c530", func := "ossuary/ossuarylaw07.PileSorts", spec := "pileSorts", unfollowed := true, recurses := true, apart := false, narrowed := true }
def PileSortsUptoSaid : Prop := pileSortsUptoRow.holds Try.pinned (OpenSpec.upto pileSortsSpec)

/-- 'ossuarylaw07.PileNils', WHERE WHAT IT READS IS OF BULK AT MOST 1048576: true; the input reads as it did. -/
def pileNilsUptoRow : OpenClaim := { program := "ytmhhjhckbiaidaa", sum := "5d7eb2dfd75fff91961701b9c2ba1621c3b0c27747c71e4e3453c824b868c530", func := "ossuary/ossuarylaw07.PileNils", spec := "pileNils", unfollowed := true, recurses := true, apart := false, narrowed := true }
def PileNilsUptoSaid : Prop := pileNilsUptoRow.holds Try.pinned (OpenSpec.upto pileNilsSpec)

/-- 'ossuarylaw09.FactOrders', WHERE WHAT IT READS IS OF BULK AT MOST 1048576: true; the input reads as it did. -/
def factOrdersUptoRow : OpenClaim := { program := "ytmhhjhckbiaidaa", sum := "5d7eb2dfd75fff91961701b9c2ba1621c3b0c27747c71e4e3453c824b868c530", func := "ossuary/ossuarylaw09.FactOrders", spec := "factOrders", unfollowed := true, recurses := true, apart := false, narrowed := true }
def FactOrdersUptoSaid : Prop := factOrdersUptoRow.holds Try.pinned (OpenSpec.upto factOrdersSpec)

/-- 'ossuarylaw09.FactCodes', WHERE WHAT IT READS IS OF BULK AT MOST 1048576: true; the input reads as it did. -/
def factCodesUptoRow : OpenClaim := { program := "ytmhhjhckbiaidaa", sum := "5d7eb2dfd75fff91961701b9c2ba1621c3b0c27747c71e4e3453c824b868c530", func := "ossuary/ossuarylaw09.FactCodes", spec := "factCodes", unfollowed := true, recurses := true, apart := false, narrowed := true }
def FactCodesUptoSaid : Prop := factCodesUptoRow.holds Try.pinned (OpenSpec.upto factCodesSpec)

/-- 'ossuarylaw09.FactBack', WHERE WHAT IT READS IS OF BULK AT MOST 1048576: true; the input reads as it did. -/
def factBackUptoRow : OpenClaim := { program := "ytmhhjhckbiaidaa", sum := "5d7eb2dfd75fff91961701b9c2ba1621c3b0c27747c71e4e3453c824b868c530", func := "ossuary/ossuarylaw09.FactBack", spec := "factBack", unfollowed := true, recurses := true, apart := false, narrowed := true }
def FactBackUptoSaid : Prop := factBackUptoRow.holds Try.pinned (OpenSpec.upto factBackSpec)

/-- 'ossuarylaw35.StatNumbers', WHERE WHAT IT READS IS OF BULK AT MOST 1048576: true; the input reads as it did. -/
def statNumbersUptoRow : OpenClaim := { program := "ytmhhjhckbiaidaa", sum := "5d7eb2dfd75fff91961701b9c2ba1621c3b0c27747c71e4e3453c824b868c530", func := "ossuary/ossuarylaw35.StatNumbers", spec := "statNumbers", unfollowed := true, recurses := true, named := ["math/bits.divideError", "math/bits.overflowError"], apart := false, narrowed := true }
def StatNumbersUptoSaid : Prop := statNumbersUptoRow.holds Try.pinned (OpenSpec.upto statNumbersSpec)

end Rows
end Go.Proofs.Ytmhhjhckbiaidaa
