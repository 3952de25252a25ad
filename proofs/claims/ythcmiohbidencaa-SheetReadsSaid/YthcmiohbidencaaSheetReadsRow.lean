/- The row of SheetReads: for every input the law answers true and leaves what it reads as it was: its contract (YthcmiohbidencaaSheetReadsWalk) and the plain law (YthcmiohbidencaaSheetReadsLaw) brought together. -/
import Derived.Test.YthcmiohbidencaaRows
import Derived.Test.YthcmiohbidencaaERow
import Derived.Test.YthcmiohbidencaaSheetReadsWalk
import Derived.Test.YthcmiohbidencaaSheetReadsLaw
import Derived.WalkKit
import Derived.ProofKit
import Derived.OpenShut
import Derived.ShutString
import Derived.ChangeOld
import Derived.Below
import Derived.SizedLaws
set_option linter.unusedVariables false
namespace Go.Proofs.Ythcmiohbidencaa.SheetReads
open Go Go.ChangeShapes Go.WideShapes Go.ChangeAt Go.RowKit E
open Go.ChangeMaps (open_string shut_string)
theorem own : ownKnob Try.prog.godebug = none := by kernel_rfl
theorem laidOut : laidOutB Try.prog = true := by kernel_rfl
set_option maxRecDepth 100000 in
theorem lifted (os : Os) (started : os.Started) (H : Type) (enc : TypeId × Value → H) :
    ReturnsInHanded {} Try.checked os 3 .any (Rows.sheetReadsSpec.pre6 enc Try.prog Try.f3 Rows.sheetReadsRow.domain false) (Rows.sheetReadsSpec.post enc Try.prog Try.f3 false true false false) := by
  refine row_lifted (C := Try.checked) (tb := 4) (ts := [9]) own started (by kernel_rfl) Try.func3
    (ChangeSpec.witness6 (enc := enc) (C := Try.checked) false ⟨#[], #[.string ByteArray.empty], []⟩ 8 (by kernel_rfl) (by kernel_rfl) (by kernel_rfl) (by kernel_rfl))
    (by rw [Try.params3]) rfl Try.underlying4 rfl laidOut (by kernel_rfl) ?_ (fun W => (opensA_cons (opensV_str Try.underlying9) opensA_nil)) ?_
  · intro ds hl
    match ds, hl with
    | [d0], _ => rfl
  · intro W x hok
    obtain ⟨a0, _⟩ := x
    obtain ⟨h0, _⟩ := hok
    obtain ⟨K, hK⟩ := law a0 
    refine ⟨[], (ossuarylaw40_SheetReads.spec K a0 true hK).mono fun v M h => h.1, ?_⟩
    intro A hA; cases hA
theorem over : Rows.sheetReadsRow.holds Try.pinned (OpenSpec.ofChange Rows.sheetReadsSpec) :=
  OpenClaim.holds_of_wide 3 Try.f3 rfl rfl rfl rfl rfl rfl rfl ⟨rfl, rfl, rfl, rfl, rfl⟩ rfl rfl rfl rfl rfl (by kernel_rfl) Try.func3 (by kernel_rfl)
    (of_decide_eq_true (by kernel_rfl)) (by unfold Func.isWrapper; first | (rw [if_pos (by decide +kernel)]; kernel_rfl) | (rw [if_neg (by decide +kernel)]; exact ⟨rfl, rfl⟩))
    (fun os started H enc _ => lifted os started H enc)
end Go.Proofs.Ythcmiohbidencaa.SheetReads
namespace Go.Proofs.Ythcmiohbidencaa
/-- SheetReads: the given statement. No condition ahead of it. -/
theorem sheetReads_holds : Rows.SheetReadsSaid := SheetReads.over
#print axioms sheetReads_holds
end Go.Proofs.Ythcmiohbidencaa
