/- The row of CellLooks: for every input the law answers true and leaves what it reads as it was: its contract (YtmhhjhckbiaidaaCellLooksWalk) and the plain law (YtmhhjhckbiaidaaCellLooksLaw) brought together. -/
import Derived.Test.YtmhhjhckbiaidaaRows
import Derived.Test.YtmhhjhckbiaidaaERow
import Derived.Test.YtmhhjhckbiaidaaCellLooksWalk
import Derived.Test.YtmhhjhckbiaidaaCellLooksLaw
import Derived.WalkKit
import Derived.ProofKit
import Derived.OpenShut
import Derived.ShutString
import Derived.ChangeOld
import Derived.Below
import Derived.SizedLaws
set_option linter.unusedVariables false
namespace Go.Proofs.Ytmhhjhckbiaidaa.CellLooks
open Go Go.ChangeShapes Go.WideShapes Go.ChangeAt Go.RowKit E
open Go.ChangeMaps (open_string shut_string)
theorem own : ownKnob Try.prog.godebug = none := by kernel_rfl
theorem laidOut : laidOutB Try.prog = true := by kernel_rfl
set_option maxRecDepth 100000 in
theorem lifted (os : Os) (started : os.Started) (H : Type) (enc : TypeId × Value → H) :
    ReturnsInHanded {} Try.checked os 4 .any (Rows.cellLooksSpec.pre6 enc Try.prog Try.f4 Rows.cellLooksRow.domain false) (Rows.cellLooksSpec.post enc Try.prog Try.f4 false true false false) := by
  refine row_lifted (C := Try.checked) (tb := 4) (ts := [25]) own started (by kernel_rfl) Try.func4
    (ChangeSpec.witness6 (enc := enc) (C := Try.checked) false ⟨#[], #[.agg #[.int .i64 0, .int .i64 0, .int .i64 0, .int .i64 0]], []⟩ 8 (by kernel_rfl) (by kernel_rfl) (by kernel_rfl) (by kernel_rfl))
    (by rw [Try.params4]) rfl Try.underlying4 rfl laidOut (by kernel_rfl) ?_ (fun W => (opensA_cons (opensV_agg (by kernel_rfl) (opens_struct (ts := [2, 2, 2, 2]) (by kernel_rfl) (opensL_cons (opens_int Try.underlying2) (opensL_cons (opens_int Try.underlying2) (opensL_cons (opens_int Try.underlying2) (opensL_one (opens_int Try.underlying2))))))) opensA_nil)) ?_
  · intro ds hl
    match ds, hl with
    | [d0], _ => rfl
  · intro W x hok
    obtain ⟨⟨a0_0, a0_1, a0_2, a0_3⟩, _⟩ := x
    obtain ⟨h0, _⟩ := hok
    obtain ⟨K, hK⟩ := law a0_0 a0_1 a0_2 a0_3 h0
    refine ⟨[], (ossuarylaw05_CellLooks.spec K a0_0 a0_1 a0_2 a0_3 true hK).mono fun v M h => h.1, ?_⟩
    intro A hA; cases hA
theorem over : Rows.cellLooksRow.holds Try.pinned (OpenSpec.ofChange Rows.cellLooksSpec) :=
  OpenClaim.holds_of_wide 4 Try.f4 rfl rfl rfl rfl rfl rfl rfl ⟨rfl, rfl, rfl, rfl, rfl⟩ rfl rfl rfl rfl rfl (by kernel_rfl) Try.func4 (by kernel_rfl)
    (of_decide_eq_true (by kernel_rfl)) (by unfold Func.isWrapper; first | (rw [if_pos (by decide +kernel)]; kernel_rfl) | (rw [if_neg (by decide +kernel)]; exact ⟨rfl, rfl⟩))
    (fun os started H enc _ => lifted os started H enc)
end Go.Proofs.Ytmhhjhckbiaidaa.CellLooks
namespace Go.Proofs.Ytmhhjhckbiaidaa
/-- CellLooks: the given statement. No condition ahead of it. -/
theorem cellLooks_holds : Rows.CellLooksSaid := CellLooks.over
#print axioms cellLooks_holds
end Go.Proofs.Ytmhhjhckbiaidaa
