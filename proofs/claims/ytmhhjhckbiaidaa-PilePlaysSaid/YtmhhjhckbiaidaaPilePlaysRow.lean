/- The row of PilePlays: for every input the law answers true and leaves what it reads as it was: its contract (YtmhhjhckbiaidaaPilePlaysWalk) and the plain law (YtmhhjhckbiaidaaPilePlaysLaw) brought together. -/
import Derived.Test.YtmhhjhckbiaidaaRows
import Derived.Test.YtmhhjhckbiaidaaERow
import Derived.Test.YtmhhjhckbiaidaaPilePlaysWalk
import Derived.Test.YtmhhjhckbiaidaaPilePlaysLaw
import Derived.WalkKit
import Derived.ProofKit
import Derived.OpenShut
import Derived.ShutString
import Derived.ChangeOld
import Derived.Below
import Derived.SizedLaws
set_option linter.unusedVariables false
namespace Go.Proofs.Ytmhhjhckbiaidaa.PilePlays
open Go Go.ChangeShapes Go.WideShapes Go.ChangeAt Go.RowKit E
open Go.ChangeMaps (open_string shut_string)
theorem own : ownKnob Try.prog.godebug = none := by kernel_rfl
theorem laidOut : laidOutB Try.prog = true := by kernel_rfl
set_option maxRecDepth 100000 in
theorem lifted (os : Os) (started : os.Started) (H : Type) (enc : TypeId × Value → H) :
    ReturnsInHanded {} Try.checked os 7 .any (Rows.pilePlaysSpec.pre6 enc Try.prog Try.f7 Rows.pilePlaysRow.domain false) (Rows.pilePlaysSpec.post enc Try.prog Try.f7 false true false false) := by
  refine row_lifted (C := Try.checked) (tb := 4) (ts := [47]) own started (by kernel_rfl) Try.func7
    (ChangeSpec.witness6 (enc := enc) (C := Try.checked) false ⟨#[], #[.slice none 0 0], []⟩ 8 (by kernel_rfl) (by kernel_rfl) (by kernel_rfl) (by kernel_rfl))
    (by rw [Try.params7]) rfl Try.underlying4 rfl laidOut (by kernel_rfl) ?_ (fun W => (opensA_cons (opensV_slice (e := 58) (by kernel_rfl) (opens_map (c' := enc_Ossuarylaw07_Act) (ok' := ok_Ossuarylaw07_Act) (opens_struct (ts := [3, 51]) (by kernel_rfl) (opensL_cons (opens_int Try.underlying3) (opensL_one (opens_struct (ts := [2, 9]) (by kernel_rfl) (opensL_cons (opens_int Try.underlying2) (opensL_one (opens_str Try.underlying9))))))) (fun x => (⟨x.1, (⟨x.2.1, x.2.2⟩ : Ossuaryref07_Item)⟩ : Ossuarylaw07_Act)) (fun _ => rfl) (fun _ h => ⟨h.1, ⟨h.2.1, h.2.2⟩⟩))) opensA_nil)) ?_
  · intro ds hl
    match ds, hl with
    | [d0], _ => rfl
  · intro W x hok
    obtain ⟨⟨s0, l0⟩, _⟩ := x
    obtain ⟨h0, _⟩ := hok
    obtain ⟨K, hK⟩ := law l0 
    refine ⟨[rd s0 l0.length _ _], (ossuarylaw07_PilePlays.spec K (rd s0 l0.length _ _) s0 l0 (isRd_rd _ _ _ _) true hK).mono fun v M h => h.1, ?_⟩
    intro A hA
    simp only [List.mem_cons, List.not_mem_nil, or_false] at hA
    rcases hA with rfl
    · exact h0.1
theorem over : Rows.pilePlaysRow.holds Try.pinned (OpenSpec.ofChange Rows.pilePlaysSpec) :=
  OpenClaim.holds_of_wide 7 Try.f7 rfl rfl rfl rfl rfl rfl rfl ⟨rfl, rfl, rfl, rfl, rfl⟩ rfl rfl rfl rfl rfl (by kernel_rfl) Try.func7 (by kernel_rfl)
    (of_decide_eq_true (by kernel_rfl)) (by unfold Func.isWrapper; first | (rw [if_pos (by decide +kernel)]; kernel_rfl) | (rw [if_neg (by decide +kernel)]; exact ⟨rfl, rfl⟩))
    (fun os started H enc _ => lifted os started H enc)
end Go.Proofs.Ytmhhjhckbiaidaa.PilePlays
namespace Go.Proofs.Ytmhhjhckbiaidaa
/-- PilePlays: the given statement. No condition ahead of it. -/
theorem pilePlays_holds : Rows.PilePlaysSaid := PilePlays.over
#print axioms pilePlays_holds
end Go.Proofs.Ytmhhjhckbiaidaa
