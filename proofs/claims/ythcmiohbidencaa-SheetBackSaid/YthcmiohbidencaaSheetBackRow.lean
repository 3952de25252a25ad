/- The row of SheetBack: for every input the law answers true and leaves what it reads as it was: its contract (YthcmiohbidencaaSheetBackWalk) and the plain law (YthcmiohbidencaaSheetBackLaw) brought together. -/
import Derived.Test.YthcmiohbidencaaRows
import Derived.Test.YthcmiohbidencaaERow
import Derived.Test.YthcmiohbidencaaSheetBackWalk
import Derived.Test.YthcmiohbidencaaSheetBackLaw
import Derived.WalkKit
import Derived.ProofKit
import Derived.OpenShut
import Derived.ShutString
import Derived.ChangeOld
import Derived.Below
import Derived.SizedLaws
set_option linter.unusedVariables false
namespace Go.Proofs.Ythcmiohbidencaa.SheetBack
open Go Go.ChangeShapes Go.WideShapes Go.ChangeAt Go.RowKit E
open Go.ChangeMaps (open_string shut_string)
theorem own : ownKnob Try.prog.godebug = none := by kernel_rfl
theorem laidOut : laidOutB Try.prog = true := by kernel_rfl
set_option maxRecDepth 100000 in
theorem lifted (os : Os) (started : os.Started) (H : Type) (enc : TypeId × Value → H) :
    ReturnsInHanded {} Try.checked os 6 .any (Rows.sheetBackSpec.pre6 enc Try.prog Try.f6 Rows.sheetBackRow.domain false) (Rows.sheetBackSpec.post enc Try.prog Try.f6 false true false false) := by
  refine row_lifted (C := Try.checked) (tb := 4) (ts := [24, 9, 40, 2, 2]) own started (by kernel_rfl) Try.func6
    (ChangeSpec.witness6 (enc := enc) (C := Try.checked) false ⟨#[], #[.agg #[.int .i64 0, .int .i64 0, .int .i64 0, .int .i64 0, .int .i64 0, .int .i64 0, .int .i64 0, .int .i64 0, .int .i64 0], .string ByteArray.empty, .agg #[.int .i64 0, .int .i64 0], .int .i64 0, .int .i64 0], []⟩ 8 (by kernel_rfl) (by kernel_rfl) (by kernel_rfl) (by kernel_rfl))
    (by rw [Try.params6]) rfl Try.underlying4 rfl laidOut (by kernel_rfl) ?_ (fun W => (opensA_cons (opensV_agg (by kernel_rfl) (opens_struct (ts := [2, 2, 2, 2, 2, 2, 2, 3, 2]) (by kernel_rfl) (opensL_cons (opens_int Try.underlying2) (opensL_cons (opens_int Try.underlying2) (opensL_cons (opens_int Try.underlying2) (opensL_cons (opens_int Try.underlying2) (opensL_cons (opens_int Try.underlying2) (opensL_cons (opens_int Try.underlying2) (opensL_cons (opens_int Try.underlying2) (opensL_cons (opens_int Try.underlying3) (opensL_one (opens_int Try.underlying2)))))))))))) (opensA_cons (opensV_str Try.underlying9) (opensA_cons (opensV_agg (by kernel_rfl) (opens_struct (ts := [3, 2]) (by kernel_rfl) (opensL_cons (opens_int Try.underlying3) (opensL_one (opens_int Try.underlying2))))) (opensA_cons (opensV_int Try.underlying2) (opensA_cons (opensV_int Try.underlying2) opensA_nil)))))) ?_
  · intro ds hl
    match ds, hl with
    | [d0, d1, d2, d3, d4], _ => rfl
  · intro W x hok
    obtain ⟨⟨a0_0, a0_1, a0_2, a0_3, a0_4, a0_5, a0_6, a0_7, a0_8⟩, a1, ⟨a2_0, a2_1⟩, a3, a4, _⟩ := x
    obtain ⟨h0, h1, h2, h3, h4, _⟩ := hok
    obtain ⟨K, hK⟩ := law a0_0 a0_1 a0_2 a0_3 a0_4 a0_5 a0_6 a0_7 a0_8 a1 a2_0 a2_1 a3 a4 
    refine ⟨[], (ossuarylaw40_SheetBack.spec K a0_0 a0_1 a0_2 a0_3 a0_4 a0_5 a0_6 a0_7 a0_8 a1 a2_0 a2_1 a3 a4 true hK).mono fun v M h => h.1, ?_⟩
    intro A hA; cases hA
theorem over : Rows.sheetBackRow.holds Try.pinned (OpenSpec.ofChange Rows.sheetBackSpec) :=
  OpenClaim.holds_of_wide 6 Try.f6 rfl rfl rfl rfl rfl rfl rfl ⟨rfl, rfl, rfl, rfl, rfl⟩ rfl rfl rfl rfl rfl (by kernel_rfl) Try.func6 (by kernel_rfl)
    (of_decide_eq_true (by kernel_rfl)) (by unfold Func.isWrapper; first | (rw [if_pos (by decide +kernel)]; kernel_rfl) | (rw [if_neg (by decide +kernel)]; exact ⟨rfl, rfl⟩))
    (fun os started H enc _ => lifted os started H enc)
end Go.Proofs.Ythcmiohbidencaa.SheetBack
namespace Go.Proofs.Ythcmiohbidencaa
/-- SheetBack: the given statement. No condition ahead of it. -/
theorem sheetBack_holds : Rows.SheetBackSaid := SheetBack.over
#print axioms sheetBack_holds
end Go.Proofs.Ythcmiohbidencaa
