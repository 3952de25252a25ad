/- The row of StatNumbers: for every input the law answers true and leaves what it reads as it was: its contract (YtmhhjhckbiaidaaStatNumbersWalk) and the plain law (YtmhhjhckbiaidaaStatNumbersLaw) brought together. -/
import Derived.Test.YtmhhjhckbiaidaaRows
import Derived.Test.YtmhhjhckbiaidaaERow
import Derived.Test.YtmhhjhckbiaidaaStatNumbersWalk
import Derived.Test.YtmhhjhckbiaidaaStatNumbersLaw
import Derived.WalkKit
import Derived.ProofKit
import Derived.OpenShut
import Derived.ShutString
import Derived.ChangeOld
import Derived.Below
import Derived.SizedLaws
set_option linter.unusedVariables false
namespace Go.Proofs.Ytmhhjhckbiaidaa.StatNumbers
open Go Go.ChangeShapes Go.WideShapes Go.ChangeAt Go.RowKit E
open Go.ChangeMaps (open_string shut_string)
theorem own : ownKnob Try.prog.godebug = none := by kernel_rfl
theorem laidOut : laidOutB Try.prog = true := by kernel_rfl
set_option maxRecDepth 100000 in
theorem lifted (os : Os) (started : os.Started) (H : Type) (enc : TypeId × Value → H) :
    ReturnsInHanded {} Try.checked os 14 .any (Rows.statNumbersSpec.pre6 enc Try.prog Try.f14 Rows.statNumbersRow.domain false) (Rows.statNumbersSpec.post enc Try.prog Try.f14 false true false false) := by
  refine row_lifted (C := Try.checked) (tb := 4) (ts := [22]) own started (by kernel_rfl) Try.func14
    (ChangeSpec.witness6 (enc := enc) (C := Try.checked) false ⟨#[], #[.slice none 0 0], []⟩ 8 (by kernel_rfl) (by kernel_rfl) (by kernel_rfl) (by kernel_rfl))
    (by rw [Try.params14]) rfl Try.underlying4 rfl laidOut (by kernel_rfl) ?_ (fun W => (opensA_cons (opensV_slice (e := 2) (by kernel_rfl) (opens_int Try.underlying2)) opensA_nil)) ?_
  · intro ds hl
    match ds, hl with
    | [d0], _ => rfl
  · intro W x hok
    obtain ⟨⟨s0, l0⟩, _⟩ := x
    obtain ⟨h0, _⟩ := hok
    obtain ⟨K, hK⟩ := law l0 h0.2
    refine ⟨[rd s0 l0.length _ _], (ossuarylaw35_StatNumbers.spec K (rd s0 l0.length _ _) s0 l0 (isRd_rd _ _ _ _) true hK).mono fun v M h => h.1, ?_⟩
    intro A hA
    simp only [List.mem_cons, List.not_mem_nil, or_false] at hA
    rcases hA with rfl
    · exact h0.1
theorem over : Rows.statNumbersRow.holds Try.pinned (OpenSpec.ofChange Rows.statNumbersSpec) :=
  OpenClaim.holds_of_wide 14 Try.f14 rfl rfl rfl rfl rfl rfl rfl ⟨rfl, rfl, rfl, rfl, rfl⟩ rfl rfl rfl rfl rfl (by kernel_rfl) Try.func14 (by kernel_rfl)
    (of_decide_eq_true (by kernel_rfl)) (by unfold Func.isWrapper; first | (rw [if_pos (by decide +kernel)]; kernel_rfl) | (rw [if_neg (by decide +kernel)]; exact ⟨rfl, rfl⟩))
    (fun os started H enc _ => lifted os started H enc)
end Go.Proofs.Ytmhhjhckbiaidaa.StatNumbers
namespace Go.Proofs.Ytmhhjhckbiaidaa
/-- StatNumbers: the given statement. No condition ahead of it. -/
theorem statNumbers_holds : Rows.StatNumbersSaid := StatNumbers.over
#print axioms statNumbers_holds
end Go.Proofs.Ytmhhjhckbiaidaa
