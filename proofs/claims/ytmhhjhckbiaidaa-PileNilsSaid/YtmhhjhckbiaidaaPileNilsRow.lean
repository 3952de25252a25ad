/- The row of PileNils: for every input the law answers true and leaves what it reads as it was: its contract (YtmhhjhckbiaidaaPileNilsWalk) and the plain law (YtmhhjhckbiaidaaPileNilsLaw) brought together. -/
import Derived.Test.YtmhhjhckbiaidaaRows
import Derived.Test.YtmhhjhckbiaidaaERow
import Derived.Test.YtmhhjhckbiaidaaPileNilsWalk
import Derived.Test.YtmhhjhckbiaidaaPileNilsLaw
import Derived.WalkKit
import Derived.ProofKit
import Derived.OpenShut
import Derived.ShutString
import Derived.ChangeOld
import Derived.Below
import Derived.SizedLaws
set_option linter.unusedVariables false
namespace Go.Proofs.Ytmhhjhckbiaidaa.PileNils
open Go Go.ChangeShapes Go.WideShapes Go.ChangeAt Go.RowKit E
open Go.ChangeMaps (open_string shut_string)
theorem own : ownKnob Try.prog.godebug = none := by kernel_rfl
theorem laidOut : laidOutB Try.prog = true := by kernel_rfl
set_option maxRecDepth 100000 in
theorem lifted (os : Os) (started : os.Started) (H : Type) (enc : TypeId × Value → H) :
    ReturnsInHanded {} Try.checked os 10 .any (Rows.pileNilsSpec.pre6 enc Try.prog Try.f10 Rows.pileNilsRow.domain false) (Rows.pileNilsSpec.post enc Try.prog Try.f10 false true false false) := by
  refine row_lifted (C := Try.checked) (tb := 4) (ts := [2]) own started (by kernel_rfl) Try.func10
    (ChangeSpec.witness6 (enc := enc) (C := Try.checked) false ⟨#[], #[.int .i64 0], []⟩ 8 (by kernel_rfl) (by kernel_rfl) (by kernel_rfl) (by kernel_rfl))
    (by rw [Try.params10]) rfl Try.underlying4 rfl laidOut (by kernel_rfl) ?_ (fun W => (opensA_cons (opensV_int Try.underlying2) opensA_nil)) ?_
  · intro ds hl
    match ds, hl with
    | [d0], _ => rfl
  · intro W x hok
    obtain ⟨a0, _⟩ := x
    obtain ⟨h0, _⟩ := hok
    obtain ⟨K, hK⟩ := law a0 h0
    refine ⟨[], (ossuarylaw07_PileNils.spec K a0 true hK).mono fun v M h => h.1, ?_⟩
    intro A hA; cases hA
theorem over : Rows.pileNilsRow.holds Try.pinned (OpenSpec.ofChange Rows.pileNilsSpec) :=
  OpenClaim.holds_of_wide 10 Try.f10 rfl rfl rfl rfl rfl rfl rfl ⟨rfl, rfl, rfl, rfl, rfl⟩ rfl rfl rfl rfl rfl (by kernel_rfl) Try.func10 (by kernel_rfl)
    (of_decide_eq_true (by kernel_rfl)) (by unfold Func.isWrapper; first | (rw [if_pos (by decide +kernel)]; kernel_rfl) | (rw [if_neg (by decide +kernel)]; exact ⟨rfl, rfl⟩))
    (fun os started H enc _ => lifted os started H enc)
end Go.Proofs.Ytmhhjhckbiaidaa.PileNils
namespace Go.Proofs.Ytmhhjhckbiaidaa
/-- PileNils: the given statement. No condition ahead of it. -/
theorem pileNils_holds : Rows.PileNilsSaid := PileNils.over
#print axioms pileNils_holds
end Go.Proofs.Ytmhhjhckbiaidaa
