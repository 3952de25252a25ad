/- The row of CatalogNils: for every input the law answers true and leaves what it reads as it was: its contract (YtcpfjbfokghcnaaCatalogNilsWalk) and the plain law (YtcpfjbfokghcnaaCatalogNilsLaw) brought together. -/
import Derived.Test.YtcpfjbfokghcnaaRows
import Derived.Test.YtcpfjbfokghcnaaERow
import Derived.Test.YtcpfjbfokghcnaaCatalogNilsWalk
import Derived.Test.YtcpfjbfokghcnaaCatalogNilsLaw
import Derived.WalkKit
import Derived.ProofKit
import Derived.OpenShut
import Derived.ShutString
import Derived.ChangeOld
import Derived.Below
import Derived.SizedLaws
set_option linter.unusedVariables false
namespace Go.Proofs.Ytcpfjbfokghcnaa.CatalogNils
open Go Go.ChangeShapes Go.WideShapes Go.ChangeAt Go.RowKit E
open Go.ChangeMaps (open_string shut_string)
theorem own : ownKnob Try.prog.godebug = none := by kernel_rfl
theorem laidOut : laidOutB Try.prog = true := by kernel_rfl
set_option maxRecDepth 100000 in
theorem lifted (os : Os) (started : os.Started) (H : Type) (enc : TypeId × Value → H) :
    ReturnsInHanded {} Try.checked os 3 .any (Rows.catalogNilsSpec.pre6 enc Try.prog Try.f3 Rows.catalogNilsRow.domain false) (Rows.catalogNilsSpec.post enc Try.prog Try.f3 false true false false) := by
  refine row_lifted (C := Try.checked) (tb := 4) (ts := [2, 23]) own started (by kernel_rfl) Try.func3
    (ChangeSpec.witness6 (enc := enc) (C := Try.checked) false ⟨#[], #[.int .i64 0, .agg #[.int .i64 0, .int .i64 0]], []⟩ 8 (by kernel_rfl) (by kernel_rfl) (by kernel_rfl) (by kernel_rfl))
    (by rw [Try.params3]) rfl Try.underlying4 rfl laidOut (by kernel_rfl) ?_ (fun W => (opensA_cons (opensV_int Try.underlying2) (opensA_cons (opensV_agg (by kernel_rfl) (opens_struct (ts := [3, 2]) (by kernel_rfl) (opensL_cons (opens_int Try.underlying3) (opensL_one (opens_int Try.underlying2))))) opensA_nil))) ?_
  · intro ds hl
    match ds, hl with
    | [d0, d1], _ => rfl
  · intro W x hok
    obtain ⟨a0, ⟨a1_0, a1_1⟩, _⟩ := x
    obtain ⟨h0, h1, _⟩ := hok
    obtain ⟨K, hK⟩ := law a0 a1_0 a1_1 
    refine ⟨[], (ossuarylaw20_CatalogNils.spec K a0 a1_0 a1_1 true hK).mono fun v M h => h.1, ?_⟩
    intro A hA; cases hA
theorem over : Rows.catalogNilsRow.holds Try.pinned (OpenSpec.ofChange Rows.catalogNilsSpec) :=
  OpenClaim.holds_of_wide 3 Try.f3 rfl rfl rfl rfl rfl rfl rfl ⟨rfl, rfl, rfl, rfl, rfl⟩ rfl rfl rfl rfl rfl (by kernel_rfl) Try.func3 (by kernel_rfl)
    (of_decide_eq_true (by kernel_rfl)) (by unfold Func.isWrapper; first | (rw [if_pos (by decide +kernel)]; kernel_rfl) | (rw [if_neg (by decide +kernel)]; exact ⟨rfl, rfl⟩))
    (fun os started H enc _ => lifted os started H enc)
end Go.Proofs.Ytcpfjbfokghcnaa.CatalogNils
namespace Go.Proofs.Ytcpfjbfokghcnaa
/-- CatalogNils: the given statement. No condition ahead of it. -/
theorem catalogNils_holds : Rows.CatalogNilsSaid := CatalogNils.over
#print axioms catalogNils_holds
end Go.Proofs.Ytcpfjbfokghcnaa
