/- The row of FactBack: for every input the law answers true and leaves what it reads as it was: its contract (YtmhhjhckbiaidaaFactBackWalk) and the plain law (YtmhhjhckbiaidaaFactBackLaw) brought together. -/
import Derived.Test.YtmhhjhckbiaidaaRows
import Derived.Test.YtmhhjhckbiaidaaERow
import Derived.Test.YtmhhjhckbiaidaaFactBackWalk
import Derived.Test.YtmhhjhckbiaidaaFactBackLaw
import Derived.WalkKit
import Derived.ProofKit
import Derived.OpenShut
import Derived.ShutString
import Derived.ChangeOld
import Derived.Below
import Derived.SizedLaws
set_option linter.unusedVariables false
namespace Go.Proofs.Ytmhhjhckbiaidaa.FactBack
open Go Go.ChangeShapes Go.WideShapes Go.ChangeAt Go.RowKit E
open Go.ChangeMaps (open_string shut_string)
theorem own : ownKnob Try.prog.godebug = none := by kernel_rfl
theorem laidOut : laidOutB Try.prog = true := by kernel_rfl
set_option maxRecDepth 100000 in
theorem lifted (os : Os) (started : os.Started) (H : Type) (enc : TypeId × Value → H) :
    ReturnsInHanded {} Try.checked os 13 .any (Rows.factBackSpec.pre6 enc Try.prog Try.f13 Rows.factBackRow.domain false) (Rows.factBackSpec.post enc Try.prog Try.f13 false true false false) := by
  refine row_lifted (C := Try.checked) (tb := 4) (ts := [35, 79, 3]) own started (by kernel_rfl) Try.func13
    (ChangeSpec.witness6 (enc := enc) (C := Try.checked) false ⟨#[], #[.slice none 0 0, .slice none 0 0, .int .i64 0], []⟩ 8 (by kernel_rfl) (by kernel_rfl) (by kernel_rfl) (by kernel_rfl))
    (by rw [Try.params13]) rfl Try.underlying4 rfl laidOut (by kernel_rfl) ?_ (fun W => (opensA_cons (opensV_slice (e := 43) (by kernel_rfl) (opens_map (c' := enc_Api_Fact) (ok' := ok_Api_Fact) (opens_struct (ts := [41, 2]) (by kernel_rfl) (opensL_cons (opens_struct (ts := [2, 39]) (by kernel_rfl) (opensL_cons (opens_int Try.underlying2) (opensL_one (opens_arr4 (e := 9) (by kernel_rfl) (by kernel_rfl) (opensL_cons (opens_str Try.underlying9) (opensL_cons (opens_str Try.underlying9) (opensL_cons (opens_str Try.underlying9) (opensL_one (opens_str Try.underlying9))))))))) (opensL_one (opens_int Try.underlying2)))) (fun x => (⟨(⟨x.1.1, x.1.2.1, x.1.2.2.1, x.1.2.2.2.1, x.1.2.2.2.2⟩ : Api_Key), x.2⟩ : Api_Fact)) (fun _ => rfl) (fun _ h => ⟨⟨h.1.1, h.1.2.1, h.1.2.2.1, h.1.2.2.2.1, h.1.2.2.2.2⟩, h.2⟩))) (opensA_cons (opensV_slice (e := 5) (by kernel_rfl) (opens_int Try.underlying5)) (opensA_cons (opensV_int Try.underlying3) opensA_nil)))) ?_
  · intro ds hl
    match ds, hl with
    | [d0, d1, d2], _ => rfl
  · intro W x hok
    obtain ⟨⟨s0, l0⟩, ⟨s1, l1⟩, a2, _⟩ := x
    obtain ⟨h0, h1, h2, _⟩ := hok
    obtain ⟨K, hK⟩ := law l0 l1 a2 h0.2 h1.2 h2
    refine ⟨[rd s0 l0.length _ _, rd s1 l1.length _ _], (ossuarylaw09_FactBack.spec K (rd s0 l0.length _ _) s0 (rd s1 l1.length _ _) s1 l0 l1 a2 (isRd_rd _ _ _ _) (isRd_rd _ _ _ _) true hK).mono fun v M h => h.1, ?_⟩
    intro A hA
    simp only [List.mem_cons, List.not_mem_nil, or_false] at hA
    rcases hA with rfl | rfl
    · exact h0.1
    · exact h1.1
theorem over : Rows.factBackRow.holds Try.pinned (OpenSpec.ofChange Rows.factBackSpec) :=
  OpenClaim.holds_of_wide 13 Try.f13 rfl rfl rfl rfl rfl rfl rfl ⟨rfl, rfl, rfl, rfl, rfl⟩ rfl rfl rfl rfl rfl (by kernel_rfl) Try.func13 (by kernel_rfl)
    (of_decide_eq_true (by kernel_rfl)) (by unfold Func.isWrapper; first | (rw [if_pos (by decide +kernel)]; kernel_rfl) | (rw [if_neg (by decide +kernel)]; exact ⟨rfl, rfl⟩))
    (fun os started H enc _ => lifted os started H enc)
end Go.Proofs.Ytmhhjhckbiaidaa.FactBack
namespace Go.Proofs.Ytmhhjhckbiaidaa
/-- FactBack: the given statement. No condition ahead of it. -/
theorem factBack_holds : Rows.FactBackSaid := FactBack.over
#print axioms factBack_holds
end Go.Proofs.Ytmhhjhckbiaidaa
