/-
  No cell of these rows narrows 'for every input' (looked for: loops, veiled, ifaces, maps, wideKeys, modest, calm, conditions, laid).
  DERIVED. THE GIVEN ROWS OF THIS SEAT. 3 by the template 'for every input the law returns true; each argument reads behind the call as it read before'; 0 by the template 'total and deterministic' (their statements: YtnjfjmbanmaciaaGreatTotals.lean).
  GIVEN WITH THE SEED: the statements are not yours to turn. If you find one false, say at which input.
  Laid BY PROGRAM, IN A SANDBOX (cutbox-rows.mjs): the forced cells as the released guide's own fill.sh prints them over the translation fdff7c3aaa19f698… (all of the seat's roots in one cut). By AI agents, Wed Nov 11 2026. No macro, syntax, notation, axiom, sorry.
-/
import Derived.Test.YtnjfjmbanmaciaaGreatChecked
import GoSem.Claim
import GoSem.ClaimJoined
import GoSem.ClaimMapViews
import Derived.JoinedTies
import Derived.KernelRfl
namespace Go.Proofs.YtnjfjmbanmaciaaGreat
/- THE CELL 'sum', in the pinned program and in every row, IS THE sha256 OF THE DUMP (.gsa) THAT YtnjfjmbanmaciaaGreatProg.lean LOADS. Nothing in Lean hashes anything: it is a label: what it is worth is what the hold of that sum in a sandbox is worth. -/
noncomputable def Tryz.pinned : Pinned := { name := "ytnjfjmbanmaciaagreat", sum := "fdff7c3aaa19f6980d40e0de7156f9ca4c89b5a898325b5ca38c8a34dea6a2d1", checked := Tryz.checked }
namespace Rows
def none {H : Type} : Left H := { results := [], args := [] }

/-- 'ossuarylaw26.DueTargets': WHATEVER THE INPUT: true; the input reads as it did. -/
def dueTargetsSpec : ChangeSpec := { name := "dueTargets", fn := fun _ => fun
  | [d1, d2] => { results := [.lit (.bool true)], args := [d1, d2] }
  | _ => none }
def dueTargetsRow : OpenClaim := { program := "ytnjfjmbanmaciaagreat", sum := "fdff7c3aaa19f6980d40e0de7156f9ca4c89b5a898325b5ca38c8a34dea6a2d1", func := "ossuary/ossuarylaw26.DueTargets", spec := "dueTargets", inPlace := ["slices.overlaps[ossuary/omap.pair[int64, ossuary/api.Entry]]"], unfollowed := true, recurses := true, plainKeys := false, apart := false }
def DueTargetsSaid : Prop := dueTargetsRow.holds Tryz.pinned (OpenSpec.ofChange dueTargetsSpec)

/-- ITS FALSE NEIGHBOUR: 'it returns false'. Refute it at one input. -/
def dueTargetsWrong : ChangeSpec := { name := "dueTargets", fn := fun _ => fun
  | [d1, d2] => { results := [.lit (.bool false)], args := [d1, d2] }
  | _ => none }
def DueTargetsWrongFalsely : Prop := dueTargetsRow.holds Tryz.pinned (OpenSpec.ofChange dueTargetsWrong)

/-- 'ossuarylaw26.DueNeeds': WHATEVER THE INPUT: true; the input reads as it did. -/
def dueNeedsSpec : ChangeSpec := { name := "dueNeeds", fn := fun _ => fun
  | [d1, d2, d3] => { results := [.lit (.bool true)], args := [d1, d2, d3] }
  | _ => none }
def dueNeedsRow : OpenClaim := { program := "ytnjfjmbanmaciaagreat", sum := "fdff7c3aaa19f6980d40e0de7156f9ca4c89b5a898325b5ca38c8a34dea6a2d1", func := "ossuary/ossuarylaw26.DueNeeds", spec := "dueNeeds", inPlace := ["slices.overlaps[ossuary/omap.pair[int64, ossuary/api.Entry]]"], unfollowed := true, recurses := true, plainKeys := false, apart := false }
def DueNeedsSaid : Prop := dueNeedsRow.holds Tryz.pinned (OpenSpec.ofChange dueNeedsSpec)

/-- ITS FALSE NEIGHBOUR: 'it returns false'. Refute it at one input. -/
def dueNeedsWrong : ChangeSpec := { name := "dueNeeds", fn := fun _ => fun
  | [d1, d2, d3] => { results := [.lit (.bool false)], args := [d1, d2, d3] }
  | _ => none }
def DueNeedsWrongFalsely : Prop := dueNeedsRow.holds Tryz.pinned (OpenSpec.ofChange dueNeedsWrong)

/-- 'ossuarylaw26.DueParts': WHATEVER THE INPUT: true; the input reads as it did. -/
def duePartsSpec : ChangeSpec := { name := "dueParts", fn := fun _ => fun
  | [d] => { results := [.lit (.bool true)], args := [d] }
  | _ => none }
def duePartsRow : OpenClaim := { program := "ytnjfjmbanmaciaagreat", sum := "fdff7c3aaa19f6980d40e0de7156f9ca4c89b5a898325b5ca38c8a34dea6a2d1", func := "ossuary/ossuarylaw26.DueParts", spec := "dueParts", inPlace := ["slices.overlaps[ossuary/omap.pair[int64, ossuary/api.Entry]]"], unfollowed := true, recurses := true, plainKeys := false, apart := false }
def DuePartsSaid : Prop := duePartsRow.holds Tryz.pinned (OpenSpec.ofChange duePartsSpec)

/-- ITS FALSE NEIGHBOUR: 'it returns false'. Refute it at one input. -/
def duePartsWrong : ChangeSpec := { name := "dueParts", fn := fun _ => fun
  | [d] => { results := [.lit (.bool false)], args := [d] }
  | _ => none }
def DuePartsWrongFalsely : Prop := duePartsRow.holds Tryz.pinned (OpenSpec.ofChange duePartsWrong)

/- THE SECOND FORM. 'bulk': how many values and letters a reading holds, each counted each time it is reached (what is shared counts as often as it is met; a slice's spare places count too). A statement '..UptoSaid' is the law's where the arguments, and the package variables that the reading takes, are together of bulk at most 1048576: NARROWER than '..Said'. Prove '..Said' where nothing that the law and all that it calls make is longer than what came in: it says more and counts as full. Else prove '..UptoSaid'. A law counts once. -/
mutual
def uptoBulk {H : Type} : DataW H → Nat
  | .lit (.string bytes) => bytes.length + 1
  | .lit _ => 1
  | .nil => 1
  | .ptr d => uptoBulk d + 1
  | .slice elems spare => uptoBulkAll elems + uptoBulkAll spare + 1
  | .agg parts => uptoBulkAll parts + 1
  | .iface _ d => uptoBulk d + 1
  | .map entries => uptoBulkEntries entries + 1
  | .held _ => 1
def uptoBulkAll {H : Type} : List (DataW H) → Nat
  | [] => 0
  | d :: r => uptoBulk d + uptoBulkAll r
def uptoBulkEntries {H : Type} : List (Lit × DataW H) → Nat
  | [] => 0
  | x :: r => uptoBulkEntry x + uptoBulkEntries r
def uptoBulkEntry {H : Type} : Lit × DataW H → Nat
  | (.string bytes, d) => bytes.length + uptoBulk d + 1
  | (_, d) => uptoBulk d + 1
 end
def uptoSmall : (H : Type) → List (DataW H) → Bool := fun _ ds => decide (uptoBulkAll ds ≤ 1048576)
def OpenSpec.upto (s : _root_.Go.ChangeSpec) : _root_.Go.OpenSpec := { _root_.Go.OpenSpec.ofChange s with cond := some uptoSmall }

/-- 'ossuarylaw26.DueTargets', WHERE WHAT IT READS IS OF BULK AT MOST 1048576: true; the input reads as it did. -/
def dueTargetsUptoRow : OpenClaim := { program := "ytnjfjmbanmaciaagreat", sum := "fdff7c3aaa19f6980d40e0de7156f9ca4c89b5a898325b5ca38c8a34dea6a2d1", func := "ossuary/ossuarylaw26.DueTargets", spec := "dueTargets", inPlace := ["slices.overlaps[ossuary/omap.pair[int64, ossuary/api.Entry]]"], unfollowed := true, recurses := true, plainKeys := false, apart := false, narrowed := true }
def DueTargetsUptoSaid : Prop := dueTargetsUptoRow.holds Tryz.pinned (OpenSpec.upto dueTargetsSpec)

/-- 'ossuarylaw26.DueNeeds', WHERE WHAT IT READS IS OF BULK AT MOST 1048576: true; the input reads as it did. -/
def dueNeedsUptoRow : OpenClaim := { program := "ytnjfjmbanmaciaagreat", sum := "fdff7c3aaa19f6980d40e0de7156f9ca4c89b5a898325b5ca38c8a34dea6a2d1", func := "ossuary/ossuarylaw26.DueNeeds", spec := "dueNeeds", inPlace := ["slices.overlaps[ossuary/omap.pair[int64, ossuary/api.Entry]]"], unfollowed := true, recurses := true, plainKeys := false, apart := false, narrowed := true }
def DueNeedsUptoSaid : Prop := dueNeedsUptoRow.holds Tryz.pinned (OpenSpec.upto dueNeedsSpec)

/-- 'ossuarylaw26.DueParts', WHERE WHAT IT READS IS OF BULK AT MOST 1048576: true; the input reads as it did. -/
def duePartsUptoRow : OpenClaim := { program := "ytnjfjmbanmaciaagreat", sum := "fdff7c3aaa19f6980d40e0de7156f9ca4c89b5a898325b5ca38c8a34dea6a2d1", func := "ossuary/ossuarylaw26.DueParts", spec := "dueParts", inPlace := ["slices.overlaps[ossuary/omap.pair[int64, ossuary/api.Entry]]"], unfollowed := true, recurses := true, plainKeys := false, apart := false, narrowed := true }
def DuePartsUptoSaid : Prop := duePartsUptoRow.holds Tryz.pinned (OpenSpec.upto duePartsSpec)

end Rows
end Go.Proofs.YtnjfjmbanmaciaaGreat
