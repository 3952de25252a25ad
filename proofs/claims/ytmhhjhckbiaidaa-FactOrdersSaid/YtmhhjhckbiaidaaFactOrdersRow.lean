/- The row of FactOrders: for every input the law answers true and leaves what it reads as it was: its contract (YtmhhjhckbiaidaaFactOrdersWalk) and the plain law (YtmhhjhckbiaidaaFactOrdersLaw) brought together. -/
import Derived.Test.YtmhhjhckbiaidaaRows
import Derived.Test.YtmhhjhckbiaidaaERow
import Derived.Test.YtmhhjhckbiaidaaFactOrdersWalk
import Derived.Test.YtmhhjhckbiaidaaFactOrdersLaw
import Derived.WalkKit
import Derived.ProofKit
import Derived.OpenShut
import Derived.ShutString
import Derived.ChangeOld
import Derived.Below
import Derived.SizedLaws
set_option linter.unusedVariables false
namespace Go.Proofs.Ytmhhjhckbiaidaa.FactOrders
open Go Go.ChangeShapes Go.WideShapes Go.ChangeAt Go.RowKit E
open Go.ChangeMaps (open_string shut_string)
theorem own : ownKnob Try.prog.godebug = none := by kernel_rfl
theorem laidOut : laidOutB Try.prog = true := by kernel_rfl
set_option maxRecDepth 100000 in
theorem lifted (os : Os) (started : os.Started) (H : Type) (enc : TypeId × Value → H) :
    ReturnsInHanded {} Try.checked os 11 .any (Rows.factOrdersSpec.pre6 enc Try.prog Try.f11 Rows.factOrdersRow.domain false) (Rows.factOrdersSpec.post enc Try.prog Try.f11 false true false false) := by
  refine row_lifted (C := Try.checked) (tb := 4) (ts := [41, 41]) own started (by kernel_rfl) Try.func11
    (ChangeSpec.witness6 (enc := enc) (C := Try.checked) false ⟨#[], #[.agg #[.int .i64 0, .string ByteArray.empty, .string ByteArray.empty, .string ByteArray.empty, .string ByteArray.empty], .agg #[.int .i64 0, .string ByteArray.empty, .string ByteArray.empty, .string ByteArray.empty, .string ByteArray.empty]], []⟩ 8 (by kernel_rfl) (by kernel_rfl) (by kernel_rfl) (by kernel_rfl))
    (by rw [Try.params11]) rfl Try.underlying4 rfl laidOut (by kernel_rfl) ?_ (fun W => (opensA_cons (opensV_agg (by kernel_rfl) (opens_struct (ts := [2, 39]) (by kernel_rfl) (opensL_cons (opens_int Try.underlying2) (opensL_one (opens_arr4 (e := 9) (by kernel_rfl) (by kernel_rfl) (opensL_cons (opens_str Try.underlying9) (opensL_cons (opens_str Try.underlying9) (opensL_cons (opens_str Try.underlying9) (opensL_one (opens_str Try.underlying9)))))))))) (opensA_cons (opensV_agg (by kernel_rfl) (opens_struct (ts := [2, 39]) (by kernel_rfl) (opensL_cons (opens_int Try.underlying2) (opensL_one (opens_arr4 (e := 9) (by kernel_rfl) (by kernel_rfl) (opensL_cons (opens_str Try.underlying9) (opensL_cons (opens_str Try.underlying9) (opensL_cons (opens_str Try.underlying9) (opensL_one (opens_str Try.underlying9)))))))))) opensA_nil))) ?_
  · intro ds hl
    match ds, hl with
    | [d0, d1], _ => rfl
  · intro W x hok
    obtain ⟨⟨a0_0, ⟨a0_1_0, a0_1_1, a0_1_2, a0_1_3⟩⟩, ⟨a1_0, ⟨a1_1_0, a1_1_1, a1_1_2, a1_1_3⟩⟩, _⟩ := x
    obtain ⟨h0, h1, _⟩ := hok
    obtain ⟨K, hK⟩ := law a0_0 a0_1_0 a0_1_1 a0_1_2 a0_1_3 a1_0 a1_1_0 a1_1_1 a1_1_2 a1_1_3 
    refine ⟨[], (ossuarylaw09_FactOrders.spec K a0_0 a0_1_0 a0_1_1 a0_1_2 a0_1_3 a1_0 a1_1_0 a1_1_1 a1_1_2 a1_1_3 true hK).mono fun v M h => h.1, ?_⟩
    intro A hA; cases hA
theorem over : Rows.factOrdersRow.holds Try.pinned (OpenSpec.ofChange Rows.factOrdersSpec) :=
  OpenClaim.holds_of_wide 11 Try.f11 rfl rfl rfl rfl rfl rfl rfl ⟨rfl, rfl, rfl, rfl, rfl⟩ rfl rfl rfl rfl rfl (by kernel_rfl) Try.func11 (by kernel_rfl)
    (of_decide_eq_true (by kernel_rfl)) (by unfold Func.isWrapper; first | (rw [if_pos (by decide +kernel)]; kernel_rfl) | (rw [if_neg (by decide +kernel)]; exact ⟨rfl, rfl⟩))
    (fun os started H enc _ => lifted os started H enc)
end Go.Proofs.Ytmhhjhckbiaidaa.FactOrders
namespace Go.Proofs.Ytmhhjhckbiaidaa
/-- FactOrders: the given statement. No condition ahead of it. -/
theorem factOrders_holds : Rows.FactOrdersSaid := FactOrders.over
#print axioms factOrders_holds
end Go.Proofs.Ytmhhjhckbiaidaa
