/- The row of CellWeighs: for every input the law answers true and leaves what it reads as it was: its contract (YtmhhjhckbiaidaaCellWeighsWalk) and the plain law (YtmhhjhckbiaidaaCellWeighsLaw) brought together. -/
import Derived.Test.YtmhhjhckbiaidaaRows
import Derived.Test.YtmhhjhckbiaidaaERow
import Derived.Test.YtmhhjhckbiaidaaCellWeighsWalk
import Derived.Test.YtmhhjhckbiaidaaCellWeighsLaw
import Derived.WalkKit
import Derived.ProofKit
import Derived.OpenShut
import Derived.ShutString
import Derived.ChangeOld
import Derived.Below
import Derived.SizedLaws
set_option linter.unusedVariables false
namespace Go.Proofs.Ytmhhjhckbiaidaa.CellWeighs
open Go Go.ChangeShapes Go.WideShapes Go.ChangeAt Go.RowKit E
open Go.ChangeMaps (open_string shut_string)
theorem own : ownKnob Try.prog.godebug = none := by kernel_rfl
theorem laidOut : laidOutB Try.prog = true := by kernel_rfl
set_option maxRecDepth 100000 in
theorem lifted (os : Os) (started : os.Started) (H : Type) (enc : TypeId × Value → H) :
    ReturnsInHanded {} Try.checked os 5 .any (Rows.cellWeighsSpec.pre6 enc Try.prog Try.f5 Rows.cellWeighsRow.domain false) (Rows.cellWeighsSpec.post enc Try.prog Try.f5 false true false false) := by
  refine row_lifted (C := Try.checked) (tb := 4) (ts := [22, 3]) own started (by kernel_rfl) Try.func5
    (ChangeSpec.witness6 (enc := enc) (C := Try.checked) false ⟨#[], #[.slice none 0 0, .int .i64 0], []⟩ 8 (by kernel_rfl) (by kernel_rfl) (by kernel_rfl) (by kernel_rfl))
    (by rw [Try.params5]) rfl Try.underlying4 rfl laidOut (by kernel_rfl) ?_ (fun W => (opensA_cons (opensV_slice (e := 2) (by kernel_rfl) (opens_int Try.underlying2)) (opensA_cons (opensV_int Try.underlying3) opensA_nil))) ?_
  · intro ds hl
    match ds, hl with
    | [d0, d1], _ => rfl
  · intro W x hok
    obtain ⟨⟨s0, l0⟩, a1, _⟩ := x
    obtain ⟨h0, h1, _⟩ := hok
    obtain ⟨K, hK⟩ := law l0 a1 h0.2 h1
    refine ⟨[rd s0 l0.length _ _], (ossuarylaw05_CellWeighs.spec K (rd s0 l0.length _ _) s0 l0 a1 (isRd_rd _ _ _ _) true hK).mono fun v M h => h.1, ?_⟩
    intro A hA
    simp only [List.mem_cons, List.not_mem_nil, or_false] at hA
    rcases hA with rfl
    · exact h0.1
theorem over : Rows.cellWeighsRow.holds Try.pinned (OpenSpec.ofChange Rows.cellWeighsSpec) :=
  OpenClaim.holds_of_wide 5 Try.f5 rfl rfl rfl rfl rfl rfl rfl ⟨rfl, rfl, rfl, rfl, rfl⟩ rfl rfl rfl rfl rfl (by kernel_rfl) Try.func5 (by kernel_rfl)
    (of_decide_eq_true (by kernel_rfl)) (by unfold Func.isWrapper; first | (rw [if_pos (by decide +kernel)]; kernel_rfl) | (rw [if_neg (by decide +kernel)]; exact ⟨rfl, rfl⟩))
    (fun os started H enc _ => lifted os started H enc)
end Go.Proofs.Ytmhhjhckbiaidaa.CellWeighs
namespace Go.Proofs.Ytmhhjhckbiaidaa
/-- CellWeighs: the given statement. No condition ahead of it. -/
theorem cellWeighs_holds : Rows.CellWeighsSaid := CellWeighs.over
#print axioms cellWeighs_holds
end Go.Proofs.Ytmhhjhckbiaidaa
