/- The row of MemNils: for every input the law answers true and leaves what it reads as it was: its contract (YtndjnimnemhbkaaMemNilsWalk) and the plain law (YtndjnimnemhbkaaMemNilsLaw) brought together. -/
import Derived.Test.YtndjnimnemhbkaaRows
import Derived.Test.YtndjnimnemhbkaaERow
import Derived.Test.YtndjnimnemhbkaaMemNilsWalk
import Derived.Test.YtndjnimnemhbkaaMemNilsLaw
import Derived.WalkKit
import Derived.ProofKit
import Derived.OpenShut
import Derived.ShutString
import Derived.ChangeOld
import Derived.Below
import Derived.SizedLaws
set_option linter.unusedVariables false
namespace Go.Proofs.Ytndjnimnemhbkaa.MemNils
open Go Go.ChangeShapes Go.WideShapes Go.ChangeAt Go.RowKit E
open Go.ChangeMaps (open_string shut_string)
theorem own : ownKnob Try.prog.godebug = none := by kernel_rfl
theorem laidOut : laidOutB Try.prog = true := by kernel_rfl
set_option maxRecDepth 100000 in
theorem lifted (os : Os) (started : os.Started) (H : Type) (enc : TypeId × Value → H) :
    ReturnsInHanded {} Try.checked os 4 .any (Rows.memNilsSpec.pre6 enc Try.prog Try.f4 Rows.memNilsRow.domain false) (Rows.memNilsSpec.post enc Try.prog Try.f4 false true false false) := by
  refine row_lifted (C := Try.checked) (tb := 4) (ts := [2, 2]) own started (by kernel_rfl) Try.func4
    (ChangeSpec.witness6 (enc := enc) (C := Try.checked) false ⟨#[], #[.int .i64 0, .int .i64 0], []⟩ 8 (by kernel_rfl) (by kernel_rfl) (by kernel_rfl) (by kernel_rfl))
    (by rw [Try.params4]) rfl Try.underlying4 rfl laidOut (by kernel_rfl) ?_ (fun W => (opensA_cons (opensV_int Try.underlying2) (opensA_cons (opensV_int Try.underlying2) opensA_nil))) ?_
  · intro ds hl
    match ds, hl with
    | [d0, d1], _ => rfl
  · intro W x hok
    obtain ⟨a0, a1, _⟩ := x
    obtain ⟨h0, h1, _⟩ := hok
    obtain ⟨K, hK⟩ := law a0 a1 
    refine ⟨[], (ossuarylaw22_MemNils.spec K a0 a1 true hK).mono fun v M h => h.1, ?_⟩
    intro A hA; cases hA
theorem over : Rows.memNilsRow.holds Try.pinned (OpenSpec.ofChange Rows.memNilsSpec) :=
  OpenClaim.holds_of_wide 4 Try.f4 rfl rfl rfl rfl rfl rfl rfl ⟨rfl, rfl, rfl, rfl, rfl⟩ rfl rfl rfl rfl rfl (by kernel_rfl) Try.func4 (by kernel_rfl)
    (of_decide_eq_true (by kernel_rfl)) (by unfold Func.isWrapper; first | (rw [if_pos (by decide +kernel)]; kernel_rfl) | (rw [if_neg (by decide +kernel)]; exact ⟨rfl, rfl⟩))
    (fun os started H enc _ => lifted os started H enc)
end Go.Proofs.Ytndjnimnemhbkaa.MemNils
namespace Go.Proofs.Ytndjnimnemhbkaa
/-- MemNils: the given statement. No condition ahead of it. -/
theorem memNils_holds : Rows.MemNilsSaid := MemNils.over
#print axioms memNils_holds
end Go.Proofs.Ytndjnimnemhbkaa
