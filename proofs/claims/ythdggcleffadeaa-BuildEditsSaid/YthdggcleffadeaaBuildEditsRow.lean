/- The row of BuildEdits: for every input the law answers true and leaves what it reads as it was: its contract (YthdggcleffadeaaBuildEditsWalk) and the plain law (YthdggcleffadeaaBuildEditsLaw) brought together. -/
import Derived.Test.YthdggcleffadeaaRows
import Derived.Test.YthdggcleffadeaaERow
import Derived.Test.YthdggcleffadeaaBuildEditsWalk
import Derived.Test.YthdggcleffadeaaBuildEditsLaw
import Derived.WalkKit
import Derived.ProofKit
import Derived.OpenShut
import Derived.ShutString
import Derived.ChangeOld
import Derived.Below
import Derived.SizedLaws
set_option linter.unusedVariables false
namespace Go.Proofs.Ythdggcleffadeaa.BuildEdits
open Go Go.ChangeShapes Go.WideShapes Go.ChangeAt Go.RowKit E
open Go.ChangeMaps (open_string shut_string)
theorem own : ownKnob Try.prog.godebug = none := by kernel_rfl
theorem laidOut : laidOutB Try.prog = true := by kernel_rfl
set_option maxRecDepth 100000 in
theorem lifted (os : Os) (started : os.Started) (H : Type) (enc : TypeId × Value → H) :
    ReturnsInHanded {} Try.checked os 9 .any (Rows.buildEditsSpec.pre6 enc Try.prog Try.f9 Rows.buildEditsRow.domain false) (Rows.buildEditsSpec.post enc Try.prog Try.f9 false true false false) := by
  refine row_lifted (C := Try.checked) (tb := 4) (ts := [53, 63, 65]) own started (by kernel_rfl) Try.func9
    (ChangeSpec.witness6 (enc := enc) (C := Try.checked) false ⟨#[], #[.slice none 0 0, .agg #[.int .i64 0, .int .i64 0], .agg #[.int .i64 0, .int .i64 0, .int .i64 0, .int .i64 0, .int .i64 0, .bool false]], []⟩ 8 (by kernel_rfl) (by kernel_rfl) (by kernel_rfl) (by kernel_rfl))
    (by rw [Try.params9]) rfl Try.underlying4 rfl laidOut (by kernel_rfl) ?_ (fun W => (opensA_cons (opensV_slice (e := 65) (by kernel_rfl) (opens_map (c' := enc_Api_Entry) (ok' := ok_Api_Entry) (opens_struct (ts := [63, 2, 2, 2, 4]) (by kernel_rfl) (opensL_cons (opens_struct (ts := [3, 2]) (by kernel_rfl) (opensL_cons (opens_int Try.underlying3) (opensL_one (opens_int Try.underlying2)))) (opensL_cons (opens_int Try.underlying2) (opensL_cons (opens_int Try.underlying2) (opensL_cons (opens_int Try.underlying2) (opensL_one (opens_bool Try.underlying4))))))) (fun x => (⟨(⟨x.1.1, x.1.2⟩ : Api_Part), x.2.1, x.2.2.1, x.2.2.2.1, x.2.2.2.2⟩ : Api_Entry)) (fun _ => rfl) (fun _ h => ⟨⟨h.1.1, h.1.2⟩, h.2.1, h.2.2.1, h.2.2.2.1⟩))) (opensA_cons (opensV_agg (by kernel_rfl) (opens_struct (ts := [3, 2]) (by kernel_rfl) (opensL_cons (opens_int Try.underlying3) (opensL_one (opens_int Try.underlying2))))) (opensA_cons (opensV_agg (by kernel_rfl) (opens_struct (ts := [63, 2, 2, 2, 4]) (by kernel_rfl) (opensL_cons (opens_struct (ts := [3, 2]) (by kernel_rfl) (opensL_cons (opens_int Try.underlying3) (opensL_one (opens_int Try.underlying2)))) (opensL_cons (opens_int Try.underlying2) (opensL_cons (opens_int Try.underlying2) (opensL_cons (opens_int Try.underlying2) (opensL_one (opens_bool Try.underlying4)))))))) opensA_nil)))) ?_
  · intro ds hl
    match ds, hl with
    | [d0, d1, d2], _ => rfl
  · intro W x hok
    obtain ⟨⟨s0, l0⟩, ⟨a1_0, a1_1⟩, ⟨⟨a2_0_0, a2_0_1⟩, a2_1, a2_2, a2_3, a2_4⟩, _⟩ := x
    obtain ⟨h0, h1, h2, _⟩ := hok
    obtain ⟨K, hK⟩ := law l0 a1_0 a1_1 a2_0_0 a2_0_1 a2_1 a2_2 a2_3 a2_4 
    refine ⟨[rd s0 l0.length _ _], (ossuarylaw28_BuildEdits.spec K (rd s0 l0.length _ _) s0 l0 a1_0 a1_1 a2_0_0 a2_0_1 a2_1 a2_2 a2_3 a2_4 (isRd_rd _ _ _ _) true hK).mono fun v M h => h.1, ?_⟩
    intro A hA
    simp only [List.mem_cons, List.not_mem_nil, or_false] at hA
    rcases hA with rfl
    · exact h0.1
theorem over : Rows.buildEditsRow.holds Try.pinned (OpenSpec.ofChange Rows.buildEditsSpec) :=
  OpenClaim.holds_of_wide 9 Try.f9 rfl rfl rfl rfl rfl rfl rfl ⟨rfl, rfl, rfl, rfl, rfl⟩ rfl rfl rfl rfl rfl (by kernel_rfl) Try.func9 (by kernel_rfl)
    (of_decide_eq_true (by kernel_rfl)) (by unfold Func.isWrapper; first | (rw [if_pos (by decide +kernel)]; kernel_rfl) | (rw [if_neg (by decide +kernel)]; exact ⟨rfl, rfl⟩))
    (fun os started H enc _ => lifted os started H enc)
end Go.Proofs.Ythdggcleffadeaa.BuildEdits
namespace Go.Proofs.Ythdggcleffadeaa
/-- BuildEdits: the given statement. No condition ahead of it. -/
theorem buildEdits_holds : Rows.BuildEditsSaid := BuildEdits.over
#print axioms buildEdits_holds
end Go.Proofs.Ythdggcleffadeaa
