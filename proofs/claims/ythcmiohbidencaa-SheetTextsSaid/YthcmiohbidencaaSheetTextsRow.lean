/- The row of SheetTexts: for every input the law answers true and leaves what it reads as it was: its contract (YthcmiohbidencaaSheetTextsWalk) and the plain law (YthcmiohbidencaaSheetTextsLaw) brought together. -/
import Derived.Test.YthcmiohbidencaaRows
import Derived.Test.YthcmiohbidencaaERow
import Derived.Test.YthcmiohbidencaaSheetTextsWalk
import Derived.Test.YthcmiohbidencaaSheetTextsLaw
import Derived.WalkKit
import Derived.ProofKit
import Derived.OpenShut
import Derived.ShutString
import Derived.ChangeOld
import Derived.Below
import Derived.SizedLaws
set_option linter.unusedVariables false
namespace Go.Proofs.Ythcmiohbidencaa.SheetTexts
open Go Go.ChangeShapes Go.WideShapes Go.ChangeAt Go.RowKit E
open Go.ChangeMaps (open_string shut_string)
theorem own : ownKnob Try.prog.godebug = none := by kernel_rfl
theorem laidOut : laidOutB Try.prog = true := by kernel_rfl
set_option maxRecDepth 100000 in
theorem lifted (os : Os) (started : os.Started) (H : Type) (enc : TypeId × Value → H) :
    ReturnsInHanded {} Try.checked os 4 .any (Rows.sheetTextsSpec.pre6 enc Try.prog Try.f4 Rows.sheetTextsRow.domain false) (Rows.sheetTextsSpec.post enc Try.prog Try.f4 false true false false) := by
  refine row_lifted (C := Try.checked) (tb := 4) (ts := [24]) own started (by kernel_rfl) Try.func4
    (ChangeSpec.witness6 (enc := enc) (C := Try.checked) false ⟨#[], #[.agg #[.int .i64 0, .int .i64 0, .int .i64 0, .int .i64 0, .int .i64 0, .int .i64 0, .int .i64 0, .int .i64 0, .int .i64 0]], []⟩ 8 (by kernel_rfl) (by kernel_rfl) (by kernel_rfl) (by kernel_rfl))
    (by rw [Try.params4]) rfl Try.underlying4 rfl laidOut (by kernel_rfl) ?_ (fun W => (opensA_cons (opensV_agg (by kernel_rfl) (opens_struct (ts := [2, 2, 2, 2, 2, 2, 2, 3, 2]) (by kernel_rfl) (opensL_cons (opens_int Try.underlying2) (opensL_cons (opens_int Try.underlying2) (opensL_cons (opens_int Try.underlying2) (opensL_cons (opens_int Try.underlying2) (opensL_cons (opens_int Try.underlying2) (opensL_cons (opens_int Try.underlying2) (opensL_cons (opens_int Try.underlying2) (opensL_cons (opens_int Try.underlying3) (opensL_one (opens_int Try.underlying2)))))))))))) opensA_nil)) ?_
  · intro ds hl
    match ds, hl with
    | [d0], _ => rfl
  · intro W x hok
    obtain ⟨⟨a0_0, a0_1, a0_2, a0_3, a0_4, a0_5, a0_6, a0_7, a0_8⟩, _⟩ := x
    obtain ⟨h0, _⟩ := hok
    obtain ⟨K, hK⟩ := law a0_0 a0_1 a0_2 a0_3 a0_4 a0_5 a0_6 a0_7 a0_8 
    refine ⟨[], (ossuarylaw40_SheetTexts.spec K a0_0 a0_1 a0_2 a0_3 a0_4 a0_5 a0_6 a0_7 a0_8 true hK).mono fun v M h => h.1, ?_⟩
    intro A hA; cases hA
theorem over : Rows.sheetTextsRow.holds Try.pinned (OpenSpec.ofChange Rows.sheetTextsSpec) :=
  OpenClaim.holds_of_wide 4 Try.f4 rfl rfl rfl rfl rfl rfl rfl ⟨rfl, rfl, rfl, rfl, rfl⟩ rfl rfl rfl rfl rfl (by kernel_rfl) Try.func4 (by kernel_rfl)
    (of_decide_eq_true (by kernel_rfl)) (by unfold Func.isWrapper; first | (rw [if_pos (by decide +kernel)]; kernel_rfl) | (rw [if_neg (by decide +kernel)]; exact ⟨rfl, rfl⟩))
    (fun os started H enc _ => lifted os started H enc)
end Go.Proofs.Ythcmiohbidencaa.SheetTexts
namespace Go.Proofs.Ythcmiohbidencaa
/-- SheetTexts: the given statement. No condition ahead of it. -/
theorem sheetTexts_holds : Rows.SheetTextsSaid := SheetTexts.over
#print axioms sheetTexts_holds
end Go.Proofs.Ythcmiohbidencaa
