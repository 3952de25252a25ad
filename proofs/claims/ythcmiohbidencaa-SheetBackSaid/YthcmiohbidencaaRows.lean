/-
  No cell of these rows narrows 'for every input' (looked for: loops, veiled, ifaces, maps, wideKeys, modest, calm, conditions, laid).
  DERIVED. THE GIVEN ROWS OF THIS SEAT. 5 by the template 'for every input the law returns true; each argument reads behind the call as it read before'; 0 by the template 'total and deterministic' (their statements: YthcmiohbidencaaTotals.lean).
  GIVEN WITH THE SEED: the statements are not yours to turn. If you find one false, say at which input.
  Laid BY PROGRAM, IN A SANDBOX (cutbox-rows.mjs): the forced cells as the released guide's own fill.sh prints them over the translation ee8f0e02f5c7d381… (all of the seat's roots in one cut). By AI agents, Wed Nov 11 2026. No macro, syntax, notation, axiom, sorry.
-/
import Derived.Test.YthcmiohbidencaaChecked
import GoSem.Claim
import GoSem.ClaimJoined
import GoSem.ClaimMapViews
import Derived.JoinedTies
import Derived.KernelRfl
namespace Go.Proofs.Ythcmiohbidencaa
/- THE CELL 'sum', in the pinned program and in every row, IS THE sha256 OF THE DUMP (.gsa) THAT YthcmiohbidencaaProg.lean LOADS. Nothing in Lean hashes anything: it is a label: what it is worth is what the hold of that sum in a sandbox is worth. -/
noncomputable def Try.pinned : Pinned := { name := "ythcmiohbidencaa", sum := "ee8f0e02f5c7d381b8fa1d2ede27763ea5944bc284d79cf6a8988f290b9ae041", checked := Try.checked }
namespace Rows
def none {H : Type} : Left H := { results := [], args := [] }

/-- 'ossuarylaw40.SheetReads': WHATEVER THE INPUT: true; the input reads as it did. -/
def sheetReadsSpec : ChangeSpec := { name := "sheetReads", fn := fun _ => fun
  | [d] => { results := [.lit (.bool true)], args := [d] }
  | _ => none }
def sheetReadsRow : OpenClaim := { program := "ythcmiohbidencaa", sum := "ee8f0e02f5c7d381b8fa1d2ede27763ea5944bc284d79cf6a8988f290b9ae041", func := "ossuary/ossuarylaw40.SheetReads", spec := "sheetReads", inPlace := ["internal/abi.NoEscape", "internal/bytealg.MakeNoZero", "internal/bytealg.IndexByteString", "internal/bytealg.IndexString"], unfollowed := true, recurses := true, named := ["internal/bytealg.MaxLen"], apart := false }
def SheetReadsSaid : Prop := sheetReadsRow.holds Try.pinned (OpenSpec.ofChange sheetReadsSpec)

/-- ITS FALSE NEIGHBOUR: 'it returns false'. Refute it at one input. -/
def sheetReadsWrong : ChangeSpec := { name := "sheetReads", fn := fun _ => fun
  | [d] => { results := [.lit (.bool false)], args := [d] }
  | _ => none }
def SheetReadsWrongFalsely : Prop := sheetReadsRow.holds Try.pinned (OpenSpec.ofChange sheetReadsWrong)

/-- 'ossuarylaw40.SheetTexts': WHATEVER THE INPUT: true; the input reads as it did. -/
def sheetTextsSpec : ChangeSpec := { name := "sheetTexts", fn := fun _ => fun
  | [d] => { results := [.lit (.bool true)], args := [d] }
  | _ => none }
def sheetTextsRow : OpenClaim := { program := "ythcmiohbidencaa", sum := "ee8f0e02f5c7d381b8fa1d2ede27763ea5944bc284d79cf6a8988f290b9ae041", func := "ossuary/ossuarylaw40.SheetTexts", spec := "sheetTexts", inPlace := ["internal/abi.NoEscape", "internal/bytealg.MakeNoZero", "internal/bytealg.IndexByteString", "internal/bytealg.IndexString"], unfollowed := true, recurses := true, named := ["internal/bytealg.MaxLen"], apart := false }
def SheetTextsSaid : Prop := sheetTextsRow.holds Try.pinned (OpenSpec.ofChange sheetTextsSpec)

/-- ITS FALSE NEIGHBOUR: 'it returns false'. Refute it at one input. -/
def sheetTextsWrong : ChangeSpec := { name := "sheetTexts", fn := fun _ => fun
  | [d] => { results := [.lit (.bool false)], args := [d] }
  | _ => none }
def SheetTextsWrongFalsely : Prop := sheetTextsRow.holds Try.pinned (OpenSpec.ofChange sheetTextsWrong)

/-- 'ossuarylaw40.SheetTunes': WHATEVER THE INPUT: true; the input reads as it did. -/
def sheetTunesSpec : ChangeSpec := { name := "sheetTunes", fn := fun _ => fun
  | [d1, d2, d3, d4] => { results := [.lit (.bool true)], args := [d1, d2, d3, d4] }
  | _ => none }
def sheetTunesRow : OpenClaim := { program := "ythcmiohbidencaa", sum := "ee8f0e02f5c7d381b8fa1d2ede27763ea5944bc284d79cf6a8988f290b9ae041", func := "ossuary/ossuarylaw40.SheetTunes", spec := "sheetTunes", inPlace := ["internal/abi.NoEscape", "internal/bytealg.MakeNoZero", "internal/bytealg.IndexByteString", "internal/bytealg.IndexString"], unfollowed := true, recurses := true, named := ["internal/bytealg.MaxLen"], apart := false }
def SheetTunesSaid : Prop := sheetTunesRow.holds Try.pinned (OpenSpec.ofChange sheetTunesSpec)

/-- ITS FALSE NEIGHBOUR: 'it returns false'. Refute it at one input. -/
def sheetTunesWrong : ChangeSpec := { name := "sheetTunes", fn := fun _ => fun
  | [d1, d2, d3, d4] => { results := [.lit (.bool false)], args := [d1, d2, d3, d4] }
  | _ => none }
def SheetTunesWrongFalsely : Prop := sheetTunesRow.holds Try.pinned (OpenSpec.ofChange sheetTunesWrong)

/-- 'ossuarylaw40.SheetBack': WHATEVER THE INPUT: true; the input reads as it did. -/
def sheetBackSpec : ChangeSpec := { name := "sheetBack", fn := fun _ => fun
  | [d1, d2, d3, d4, d5] => { results := [.lit (.bool true)], args := [d1, d2, d3, d4, d5] }
  | _ => none }
def sheetBackRow : OpenClaim := { program := "ythcmiohbidencaa", sum := "ee8f0e02f5c7d381b8fa1d2ede27763ea5944bc284d79cf6a8988f290b9ae041", func := "ossuary/ossuarylaw40.SheetBack", spec := "sheetBack", inPlace := ["internal/abi.NoEscape", "internal/bytealg.MakeNoZero", "internal/bytealg.IndexByteString", "internal/bytealg.IndexString"], unfollowed := true, recurses := true, named := ["internal/bytealg.MaxLen"], apart := false }
def SheetBackSaid : Prop := sheetBackRow.holds Try.pinned (OpenSpec.ofChange sheetBackSpec)

/-- ITS FALSE NEIGHBOUR: 'it returns false'. Refute it at one input. -/
def sheetBackWrong : ChangeSpec := { name := "sheetBack", fn := fun _ => fun
  | [d1, d2, d3, d4, d5] => { results := [.lit (.bool false)], args := [d1, d2, d3, d4, d5] }
  | _ => none }
def SheetBackWrongFalsely : Prop := sheetBackRow.holds Try.pinned (OpenSpec.ofChange sheetBackWrong)

/-- 'ossuarylaw40.SheetStates': WHATEVER THE INPUT: true; the input reads as it did. -/
def sheetStatesSpec : ChangeSpec := { name := "sheetStates", fn := fun _ => fun
  | [d1, d2, d3, d4, d5] => { results := [.lit (.bool true)], args := [d1, d2, d3, d4, d5] }
  | _ => none }
def sheetStatesRow : OpenClaim := { program := "ythcmiohbidencaa", sum := "ee8f0e02f5c7d381b8fa1d2ede27763ea5944bc284d79cf6a8988f290b9ae041", func := "ossuary/ossuarylaw40.SheetStates", spec := "sheetStates", inPlace := ["internal/abi.NoEscape", "internal/bytealg.MakeNoZero", "internal/bytealg.IndexByteString", "internal/bytealg.IndexString"], unfollowed := true, recurses := true, named := ["internal/bytealg.MaxLen"], apart := false }
def SheetStatesSaid : Prop := sheetStatesRow.holds Try.pinned (OpenSpec.ofChange sheetStatesSpec)

/-- ITS FALSE NEIGHBOUR: 'it returns false'. Refute it at one input. -/
def sheetStatesWrong : ChangeSpec := { name := "sheetStates", fn := fun _ => fun
  | [d1, d2, d3, d4, d5] => { results := [.lit (.bool false)], args := [d1, d2, d3, d4, d5] }
  | _ => none }
def SheetStatesWrongFalsely : Prop := sheetStatesRow.holds Try.pinned (OpenSpec.ofChange sheetStatesWrong)

/- THE SECOND FORM. 'bulk': how many values and letters a reading holds, each counted each time it is reached (what is shared counts as often as it is met; a slice's spare places count too). A statement '..UptoSaid' is the law's where the arguments, and the package variables that the reading takes, are together of bulk at most 1048576: NARROWER than '..Said'. Prove '..Said' where nothing that the law and all that it calls make is longer than what came in: it says more and counts as full. Else prove '..UptoSaid'. A law counts once. -/
mutual
def uptoBulk {H : Type} : DataW H → Nat
  | .lit (.string bytes) => bytes.length + 1
  | .lit _ => 1
  | .nil => 1
  | .ptr d => uptoBulk d + 1
  | .slice elems spare => uptoBulkAll elems + uptoBulkAll spare + 1
  | .agg parts => uptoBulkAll parts + 1
  | .iface _ d => uptoBulk d + 1
  | .map entries => uptoBulkEntries entries + 1
  | .held _ => 1
def uptoBulkAll {H : Type} : List (DataW H) → Nat
  | [] => 0
  | d :: r => uptoBulk d + uptoBulkAll r
def uptoBulkEntries {H : Type} : List (Lit × DataW H) → Nat
  | [] => 0
  | x :: r => uptoBulkEntry x + uptoBulkEntries r
def uptoBulkEntry {H : Type} : Lit × DataW H → Nat
  | (.string bytes, d) => bytes.length + uptoBulk d + 1
  | (_, d) => uptoBulk d + 1
 end
def uptoSmall : (H : Type) → List (DataW H) → Bool := fun _ ds => decide (uptoBulkAll ds ≤ 1048576)
def OpenSpec.upto (s : _root_.Go.ChangeSpec) : _root_.Go.OpenSpec := { _root_.Go.OpenSpec.ofChange s with cond := some uptoSmall }

/-- 'ossuarylaw40.SheetReads', WHERE WHAT IT READS IS OF BULK AT MOST 1048576: true; the input reads as it did. -/
def sheetReadsUptoRow : OpenClaim := { program := "ythcmiohbidencaa", sum := "ee8f0e02f5c7d381b8fa1d2ede27763ea5944bc284d79cf6a8988f290b9ae041", func := "ossuary/ossuarylaw40.SheetReads", spec := "sheetReads", inPlace := ["internal/abi.NoEscape", "internal/bytealg.MakeNoZero", "internal/bytealg.IndexByteString", "internal/bytealg.IndexString"], unfollowed := true, recurses := true, named := ["internal/bytealg.MaxLen"], apart := false, narrowed := true }
def SheetReadsUptoSaid : Prop := sheetReadsUptoRow.holds Try.pinned (OpenSpec.upto sheetReadsSpec)

/-- 'ossuarylaw40.SheetTexts', WHERE WHAT IT READS IS OF BULK AT MOST 1048576: true; the input reads as it did. -/
def sheetTextsUptoRow : OpenClaim := { program := "ythcmiohbidencaa", sum := "ee8f0e02f5c7d381b8fa1d2ede27763ea5944bc284d79cf6a8988f290b9ae041", func := "ossuary/ossuarylaw40.SheetTexts", spec := "sheetTexts", inPlace := ["internal/abi.NoEscape", "internal/bytealg.MakeNoZero", "internal/bytealg.IndexByteString", "internal/bytealg.IndexString"], unfollowed := true, recurses := true, named := ["internal/bytealg.MaxLen"], apart := false, narrowed := true }
def SheetTextsUptoSaid : Prop := sheetTextsUptoRow.holds Try.pinned (OpenSpec.upto sheetTextsSpec)

/-- 'ossuarylaw40.SheetTunes', WHERE WHAT IT READS IS OF BULK AT MOST 1048576: true; the input reads as it did. -/
def sheetTunesUptoRow : OpenClaim := { program := "ythcmiohbidencaa", sum := "ee8f0e02f5c7d381b8fa1d2ede27763ea5944bc284d79cf6a8988f290b9ae041", func := "ossuary/ossuarylaw40.SheetTunes", spec := "sheetTunes", inPlace := ["internal/abi.NoEscape", "internal/bytealg.MakeNoZero", "internal/bytealg.IndexByteString", "internal/bytealg.IndexString"], unfollowed := true, recurses := true, named := ["internal/bytealg.MaxLen"], apart := false, narrowed := true }
def SheetTunesUptoSaid : Prop := sheetTunesUptoRow.holds Try.pinned (OpenSpec.upto sheetTunesSpec)

/-- 'ossuarylaw40.SheetBack', WHERE WHAT IT READS IS OF BULK AT MOST 1048576: true; the input reads as it did. -/
def sheetBackUptoRow : OpenClaim := { program := "ythcmiohbidencaa", sum := "ee8f0e02f5c7d381b8fa1d2ede27763ea5944bc284d79cf6a8988f290b9ae041", func := "ossuary/ossuarylaw40.SheetBack", spec := "sheetBack", inPlace := ["internal/abi.NoEscape", "internal/bytealg.MakeNoZero", "internal/bytealg.IndexByteString", "internal/bytealg.IndexString"], unfollowed := true, recurses := true, named := ["internal/bytealg.MaxLen"], apart := false, narrowed := true }
def SheetBackUptoSaid : Prop := sheetBackUptoRow.holds Try.pinned (OpenSpec.upto sheetBackSpec)

/-- 'ossuarylaw40.SheetStates', WHERE WHAT IT READS IS OF BULK AT MOST 1048576: true; the input reads as it did. -/
def sheetStatesUptoRow : OpenClaim := { program := "ythcmiohbidencaa", sum := "ee8f0e02f5c7d381b8fa1d2ede27763ea5944bc284d79cf6a8988f290b9ae041", func := "ossuary/ossuarylaw40.SheetStates", spec := "sheetStates", inPlace := ["internal/abi.NoEscape", "internal/bytealg.MakeNoZero", "internal/bytealg.IndexByteString", "internal/bytealg.IndexString"], unfollowed := true, recurses := true, named := ["internal/bytealg.MaxLen"], apart := false, narrowed := true }
def SheetStatesUptoSaid : Prop := sheetStatesUptoRow.holds Try.pinned (OpenSpec.upto sheetStatesSpec)

end Rows
end Go.Proofs.Ythcmiohbidencaa
