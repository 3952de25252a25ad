/-
  No cell of these rows narrows 'for every input' (looked for: loops, veiled, ifaces, maps, wideKeys, modest, calm, conditions, laid).
  DERIVED. THE GIVEN ROWS OF THIS SEAT. 8 by the template 'for every input the law returns true; each argument reads behind the call as it read before'; 0 by the template 'total and deterministic' (their statements: YthdggcleffadeaaTotals.lean).
  GIVEN WITH THE SEED: the statements are not yours to turn. If you find one false, say at which input.
  Laid BY PROGRAM, IN A SANDBOX (cutbox-rows.mjs): the forced cells as the released guide's own fill.sh prints them over the translation f421b454318fc1bc… (all of the seat's roots in one cut). By AI agents, Wed Nov 11 2026. No macro, syntax, notation, axiom, sorry.
-/
import Derived.Test.YthdggcleffadeaaChecked
import GoSem.Claim
import GoSem.ClaimJoined
import GoSem.ClaimMapViews
import Derived.JoinedTies
import Derived.KernelRfl
namespace Go.Proofs.Ythdggcleffadeaa
/- THE CELL 'sum', in the pinned program and in every row, IS THE sha256 OF THE DUMP (.gsa) THAT YthdggcleffadeaaProg.lean LOADS. Nothing in Lean hashes anything: it is a label: what it is worth is what the hold of that sum in a sandbox is worth. -/
noncomputable def Try.pinned : Pinned := { name := "ythdggcleffadeaa", sum := "f421b454318fc1bc2f83dc7e6a59af657595ff7919a601a59aac35031968c69b", checked := Try.checked }
namespace Rows
def none {H : Type} : Left H := { results := [], args := [] }

/-- 'ossuarylaw35.StatShares': WHATEVER THE INPUT: true; the input reads as it did. -/
def statSharesSpec : ChangeSpec := { name := "statShares", fn := fun _ => fun
  | [d] => { results := [.lit (.bool true)], args := [d] }
  | _ => none }
def statSharesRow : OpenClaim := { program := "ythdggcleffadeaa", sum := "f421b454318fc1bc2f83dc7e6a59af657595ff7919a601a59aac35031968c69b", func := "ossuary/ossuarylaw35.StatShares", spec := "statShares", unfollowed := true, recurses := true, named := ["math/bits.divideError", "math/bits.overflowError"], apart := false }
def StatSharesSaid : Prop := statSharesRow.holds Try.pinned (OpenSpec.ofChange statSharesSpec)

/-- ITS FALSE NEIGHBOUR: 'it returns false'. Refute it at one input. -/
def statSharesWrong : ChangeSpec := { name := "statShares", fn := fun _ => fun
  | [d] => { results := [.lit (.bool false)], args := [d] }
  | _ => none }
def StatSharesWrongFalsely : Prop := statSharesRow.holds Try.pinned (OpenSpec.ofChange statSharesWrong)

/-- 'ossuarylaw35.StatSums': WHATEVER THE INPUT: true; the input reads as it did. -/
def statSumsSpec : ChangeSpec := { name := "statSums", fn := fun _ => fun
  | [d1, d2] => { results := [.lit (.bool true)], args := [d1, d2] }
  | _ => none }
def statSumsRow : OpenClaim := { program := "ythdggcleffadeaa", sum := "f421b454318fc1bc2f83dc7e6a59af657595ff7919a601a59aac35031968c69b", func := "ossuary/ossuarylaw35.StatSums", spec := "statSums", inPlace := ["slices.overlaps[ossuary/omap.pair[string, int]]"], unfollowed := true, recurses := true, named := ["math/bits.divideError", "math/bits.overflowError"], apart := false }
def StatSumsSaid : Prop := statSumsRow.holds Try.pinned (OpenSpec.ofChange statSumsSpec)

/-- ITS FALSE NEIGHBOUR: 'it returns false'. Refute it at one input. -/
def statSumsWrong : ChangeSpec := { name := "statSums", fn := fun _ => fun
  | [d1, d2] => { results := [.lit (.bool false)], args := [d1, d2] }
  | _ => none }
def StatSumsWrongFalsely : Prop := statSumsRow.holds Try.pinned (OpenSpec.ofChange statSumsWrong)

/-- 'ossuarylaw20.CatalogOnce': WHATEVER THE INPUT: true; the input reads as it did. -/
def catalogOnceSpec : ChangeSpec := { name := "catalogOnce", fn := fun _ => fun
  | [d1, d2] => { results := [.lit (.bool true)], args := [d1, d2] }
  | _ => none }
def catalogOnceRow : OpenClaim := { program := "ythdggcleffadeaa", sum := "f421b454318fc1bc2f83dc7e6a59af657595ff7919a601a59aac35031968c69b", func := "ossuary/ossuarylaw20.CatalogOnce", spec := "catalogOnce", inPlace := ["slices.overlaps[ossuary/omap.pair[int64, ossuary/api.Entry]]"], unfollowed := true, recurses := true, apart := false }
def CatalogOnceSaid : Prop := catalogOnceRow.holds Try.pinned (OpenSpec.ofChange catalogOnceSpec)

/-- ITS FALSE NEIGHBOUR: 'it returns false'. Refute it at one input. -/
def catalogOnceWrong : ChangeSpec := { name := "catalogOnce", fn := fun _ => fun
  | [d1, d2] => { results := [.lit (.bool false)], args := [d1, d2] }
  | _ => none }
def CatalogOnceWrongFalsely : Prop := catalogOnceRow.holds Try.pinned (OpenSpec.ofChange catalogOnceWrong)

/-- 'ossuarylaw20.CatalogEach': WHATEVER THE INPUT: true; the input reads as it did. -/
def catalogEachSpec : ChangeSpec := { name := "catalogEach", fn := fun _ => fun
  | [d1, d2, d3] => { results := [.lit (.bool true)], args := [d1, d2, d3] }
  | _ => none }
def catalogEachRow : OpenClaim := { program := "ythdggcleffadeaa", sum := "f421b454318fc1bc2f83dc7e6a59af657595ff7919a601a59aac35031968c69b", func := "ossuary/ossuarylaw20.CatalogEach", spec := "catalogEach", inPlace := ["slices.overlaps[ossuary/omap.pair[int64, ossuary/api.Entry]]"], unfollowed := true, recurses := true, apart := false }
def CatalogEachSaid : Prop := catalogEachRow.holds Try.pinned (OpenSpec.ofChange catalogEachSpec)

/-- ITS FALSE NEIGHBOUR: 'it returns false'. Refute it at one input. -/
def catalogEachWrong : ChangeSpec := { name := "catalogEach", fn := fun _ => fun
  | [d1, d2, d3] => { results := [.lit (.bool false)], args := [d1, d2, d3] }
  | _ => none }
def CatalogEachWrongFalsely : Prop := catalogEachRow.holds Try.pinned (OpenSpec.ofChange catalogEachWrong)

/-- 'ossuarylaw28.BuildTakes': WHATEVER THE INPUT: true; the input reads as it did. -/
def buildTakesSpec : ChangeSpec := { name := "buildTakes", fn := fun _ => fun
  | [d1, d2] => { results := [.lit (.bool true)], args := [d1, d2] }
  | _ => none }
def buildTakesRow : OpenClaim := { program := "ythdggcleffadeaa", sum := "f421b454318fc1bc2f83dc7e6a59af657595ff7919a601a59aac35031968c69b", func := "ossuary/ossuarylaw28.BuildTakes", spec := "buildTakes", inPlace := ["slices.overlaps[ossuary/omap.pair[int64, ossuary/api.Entry]]"], unfollowed := true, recurses := true, apart := false }
def BuildTakesSaid : Prop := buildTakesRow.holds Try.pinned (OpenSpec.ofChange buildTakesSpec)

/-- ITS FALSE NEIGHBOUR: 'it returns false'. Refute it at one input. -/
def buildTakesWrong : ChangeSpec := { name := "buildTakes", fn := fun _ => fun
  | [d1, d2] => { results := [.lit (.bool false)], args := [d1, d2] }
  | _ => none }
def BuildTakesWrongFalsely : Prop := buildTakesRow.holds Try.pinned (OpenSpec.ofChange buildTakesWrong)

/-- 'ossuarylaw22.MemOnce': WHATEVER THE INPUT: true; the input reads as it did. -/
def memOnceSpec : ChangeSpec := { name := "memOnce", fn := fun _ => fun
  | [d1, d2] => { results := [.lit (.bool true)], args := [d1, d2] }
  | _ => none }
def memOnceRow : OpenClaim := { program := "ythdggcleffadeaa", sum := "f421b454318fc1bc2f83dc7e6a59af657595ff7919a601a59aac35031968c69b", func := "ossuary/ossuarylaw22.MemOnce", spec := "memOnce", unfollowed := true, recurses := true, apart := false }
def MemOnceSaid : Prop := memOnceRow.holds Try.pinned (OpenSpec.ofChange memOnceSpec)

/-- ITS FALSE NEIGHBOUR: 'it returns false'. Refute it at one input. -/
def memOnceWrong : ChangeSpec := { name := "memOnce", fn := fun _ => fun
  | [d1, d2] => { results := [.lit (.bool false)], args := [d1, d2] }
  | _ => none }
def MemOnceWrongFalsely : Prop := memOnceRow.holds Try.pinned (OpenSpec.ofChange memOnceWrong)

/-- 'ossuarylaw28.BuildEdits': WHATEVER THE INPUT: true; the input reads as it did. -/
def buildEditsSpec : ChangeSpec := { name := "buildEdits", fn := fun _ => fun
  | [d1, d2, d3] => { results := [.lit (.bool true)], args := [d1, d2, d3] }
  | _ => none }
def buildEditsRow : OpenClaim := { program := "ythdggcleffadeaa", sum := "f421b454318fc1bc2f83dc7e6a59af657595ff7919a601a59aac35031968c69b", func := "ossuary/ossuarylaw28.BuildEdits", spec := "buildEdits", inPlace := ["slices.overlaps[ossuary/omap.pair[int64, ossuary/api.Entry]]"], unfollowed := true, recurses := true, apart := false }
def BuildEditsSaid : Prop := buildEditsRow.holds Try.pinned (OpenSpec.ofChange buildEditsSpec)

/-- ITS FALSE NEIGHBOUR: 'it returns false'. Refute it at one input. -/
def buildEditsWrong : ChangeSpec := { name := "buildEdits", fn := fun _ => fun
  | [d1, d2, d3] => { results := [.lit (.bool false)], args := [d1, d2, d3] }
  | _ => none }
def BuildEditsWrongFalsely : Prop := buildEditsRow.holds Try.pinned (OpenSpec.ofChange buildEditsWrong)

/-- 'ossuarylaw09.FactLooks': WHATEVER THE INPUT: true; the input reads as it did. -/
def factLooksSpec : ChangeSpec := { name := "factLooks", fn := fun _ => fun
  | [d] => { results := [.lit (.bool true)], args := [d] }
  | _ => none }
def factLooksRow : OpenClaim := { program := "ythdggcleffadeaa", sum := "f421b454318fc1bc2f83dc7e6a59af657595ff7919a601a59aac35031968c69b", func := "ossuary/ossuarylaw09.FactLooks", spec := "factLooks", unfollowed := true, recurses := true, apart := false }
def FactLooksSaid : Prop := factLooksRow.holds Try.pinned (OpenSpec.ofChange factLooksSpec)

/-- ITS FALSE NEIGHBOUR: 'it returns false'. Refute it at one input. -/
def factLooksWrong : ChangeSpec := { name := "factLooks", fn := fun _ => fun
  | [d] => { results := [.lit (.bool false)], args := [d] }
  | _ => none }
def FactLooksWrongFalsely : Prop := factLooksRow.holds Try.pinned (OpenSpec.ofChange factLooksWrong)

/- THE SECOND FORM. 'bulk': how many values and letters a reading holds, each counted each time it is reached (what is shared counts as often as it is met; a slice's spare places count too). A statement '..UptoSaid' is the law's where the arguments, and the package variables that the reading takes, are together of bulk at most 1048576: NARROWER than '..Said'. Prove '..Said' where nothing that the law and all that it calls make is longer than what came in: it says more and counts as full. Else prove '..UptoSaid'. A law counts once. -/
mutual
def uptoBulk {H : Type} : DataW H → Nat
  | .lit (.string bytes) => bytes.length + 1
  | .lit _ => 1
  | .nil => 1
  | .ptr d => uptoBulk d + 1
  | .slice elems spare => uptoBulkAll elems + uptoBulkAll spare + 1
  | .agg parts => uptoBulkAll parts + 1
  | .iface _ d => uptoBulk d + 1
  | .map entries => uptoBulkEntries entries + 1
  | .held _ => 1
def uptoBulkAll {H : Type} : List (DataW H) → Nat
  | [] => 0
  | d :: r => uptoBulk d + uptoBulkAll r
def uptoBulkEntries {H : Type} : List (Lit × DataW H) → Nat
  | [] => 0
  | x :: r => uptoBulkEntry x + uptoBulkEntries r
def uptoBulkEntry {H : Type} : Lit × DataW H → Nat
  | (.string bytes, d) => bytes.length + uptoBulk d + 1
  | (_, d) => uptoBulk d + 1
 end
def uptoSmall : (H : Type) → List (DataW H) → Bool := fun _ ds => decide (uptoBulkAll ds ≤ 1048576)
def OpenSpec.upto (s : _root_.Go.ChangeSpec) : _root_.Go.OpenSpec := { _root_.Go.OpenSpec.ofChange s with cond := some uptoSmall }

/-- 'ossuarylaw35.StatShares', WHERE WHAT IT READS IS OF BULK AT MOST 1048576: true; the input reads as it did. -/
def statSharesUptoRow : OpenClaim := { program := "ythdggcleffadeaa", sum := "f421b454318fc1bc2f83dc7e6a59af657595ff7919a601a59aac35031968c69b", func := "ossuary/ossuarylaw35.StatShares", spec := "statShares", unfollowed := true, recurses := true, named := ["math/bits.divideError", "math/bits.overflowError"], apart := false, narrowed := true }
def StatSharesUptoSaid : Prop := statSharesUptoRow.holds Try.pinned (OpenSpec.upto statSharesSpec)

/-- 'ossuarylaw35.StatSums', WHERE WHAT IT READS IS OF BULK AT MOST 1048576: true; the input reads as it did. -/
def statSumsUptoRow : OpenClaim := { program := "ythdggcleffadeaa", sum := "f421b454318fc1bc2f83dc7e6a59af657595ff7919a601a59aac35031968c69b", func := "ossuary/ossuarylaw35.StatSums", spec := "statSums", inPlace := ["slices.overlaps[ossuary/omap.pair[string, int]]"], unfollowed := true, recurses := true, named := ["math/bits.divideError", "math/bits.overflowError"], apart := false, narrowed := true }
def StatSumsUptoSaid : Prop := statSumsUptoRow.holds Try.pinned (OpenSpec.upto statSumsSpec)

/-- 'ossuarylaw20.CatalogOnce', WHERE WHAT IT READS IS OF BULK AT MOST 1048576: true; the input reads as it did. -/
def catalogOnceUptoRow : OpenClaim := { program := "ythdggcleffadeaa", sum := "f421b454318fc1bc2f83dc7e6a59af657595ff7919a601a59aac35031968c69b", func := "ossuary/ossuarylaw20.CatalogOnce", spec := "catalogOnce", inPlace := ["slices.overlaps[ossuary/omap.pair[int64, ossuary/api.Entry]]"], unfollowed := true, recurses := true, apart := false, narrowed := true }
def CatalogOnceUptoSaid : Prop := catalogOnceUptoRow.holds Try.pinned (OpenSpec.upto catalogOnceSpec)

/-- 'ossuarylaw20.CatalogEach', WHERE WHAT IT READS IS OF BULK AT MOST 1048576: true; the input reads as it did. -/
def catalogEachUptoRow : OpenClaim := { program := "ythdggcleffadeaa", sum := "f421b454318fc1bc2f83dc7e6a59af657595ff7919a601a59aac35031968c69b", func := "ossuary/ossuarylaw20.CatalogEach", spec := "catalogEach", inPlace := ["slices.overlaps[ossuary/omap.pair[int64, ossuary/api.Entry]]"], unfollowed := true, recurses := true, apart := false, narrowed := true }
def CatalogEachUptoSaid : Prop := catalogEachUptoRow.holds Try.pinned (OpenSpec.upto catalogEachSpec)

/-- 'ossuarylaw28.BuildTakes', WHERE WHAT IT READS IS OF BULK AT MOST 1048576: true; the input reads as it did. -/
def buildTakesUptoRow : OpenClaim := { program := "ythdggcleffadeaa", sum := "f421b454318fc1bc2f83dc7e6a59af657595ff7919a601a59aac35031968c69b", func := "ossuary/ossuarylaw28.BuildTakes", spec := "buildTakes", inPlace := ["slices.overlaps[ossuary/omap.pair[int64, ossuary/api.Entry]]"], unfollowed := true, recurses := true, apart := false, narrowed := true }
def BuildTakesUptoSaid : Prop := buildTakesUptoRow.holds Try.pinned (OpenSpec.upto buildTakesSpec)

/-- 'ossuarylaw22.MemOnce', WHERE WHAT IT READS IS OF BULK AT MOST 1048576: true; the input reads as it did. -/
def memOnceUptoRow : OpenClaim := { program := "ythdggcleffadeaa", sum := "f421b454318fc1bc2f83dc7e6a59af657595ff7919a601a59aac35031968c69b", func := "ossuary/ossuarylaw22.MemOnce", spec := "memOnce", unfollowed := true, recurses := true, apart := false, narrowed := true }
def MemOnceUptoSaid : Prop := memOnceUptoRow.holds Try.pinned (OpenSpec.upto memOnceSpec)

/-- 'ossuarylaw28.BuildEdits', WHERE WHAT IT READS IS OF BULK AT MOST 1048576: true; the input reads as it did. -/
def buildEditsUptoRow : OpenClaim := { program := "ythdggcleffadeaa", sum := "f421b454318fc1bc2f83dc7e6a59af657595ff7919a601a59aac35031968c69b", func := "ossuary/ossuarylaw28.BuildEdits", spec := "buildEdits", inPlace := ["slices.overlaps[ossuary/omap.pair[int64, ossuary/api.Entry]]"], unfollowed := true, recurses := true, apart := false, narrowed := true }
def BuildEditsUptoSaid : Prop := buildEditsUptoRow.holds Try.pinned (OpenSpec.upto buildEditsSpec)

/-- 'ossuarylaw09.FactLooks', WHERE WHAT IT READS IS OF BULK AT MOST 1048576: true; the input reads as it did. -/
def factLooksUptoRow : OpenClaim := { program := "ythdggcleffadeaa", sum := "f421b454318fc1bc2f83dc7e6a59af657595ff7919a601a59aac35031968c69b", func := "ossuary/ossuarylaw09.FactLooks", spec := "factLooks", unfollowed := true, recurses := true, apart := false, narrowed := true }
def FactLooksUptoSaid : Prop := factLooksUptoRow.holds Try.pinned (OpenSpec.upto factLooksSpec)

end Rows
end Go.Proofs.Ythdggcleffadeaa
