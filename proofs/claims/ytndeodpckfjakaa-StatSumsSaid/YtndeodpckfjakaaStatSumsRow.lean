/- The row of StatSums: for every input the law answers true and leaves what it reads as it was: its contract (YtndeodpckfjakaaStatSumsWalk) and the plain law (YtndeodpckfjakaaStatSumsLaw) brought together. -/
import Derived.Test.YtndeodpckfjakaaRows
import Derived.Test.YtndeodpckfjakaaERow
import Derived.Test.YtndeodpckfjakaaStatSumsWalk
import Derived.Test.YtndeodpckfjakaaStatSumsLaw
import Derived.WalkKit
import Derived.ProofKit
import Derived.OpenShut
import Derived.ShutString
import Derived.ChangeOld
import Derived.Below
import Derived.SizedLaws
set_option linter.unusedVariables false
namespace Go.Proofs.Ytndeodpckfjakaa.StatSums
open Go Go.ChangeShapes Go.WideShapes Go.ChangeAt Go.RowKit E
open Go.ChangeMaps (open_string shut_string)
theorem own : ownKnob Try.prog.godebug = none := by kernel_rfl
theorem laidOut : laidOutB Try.prog = true := by kernel_rfl
set_option maxRecDepth 100000 in
theorem lifted (os : Os) (started : os.Started) (H : Type) (enc : TypeId × Value → H) :
    ReturnsInHanded {} Try.checked os 3 .any (Rows.statSumsSpec.pre6 enc Try.prog Try.f3 Rows.statSumsRow.domain false) (Rows.statSumsSpec.post enc Try.prog Try.f3 false true false false) := by
  refine row_lifted (C := Try.checked) (tb := 4) (ts := [22, 23]) own started (by kernel_rfl) Try.func3
    (ChangeSpec.witness6 (enc := enc) (C := Try.checked) false ⟨#[], #[.slice none 0 0, .slice none 0 0], []⟩ 8 (by kernel_rfl) (by kernel_rfl) (by kernel_rfl) (by kernel_rfl))
    (by rw [Try.params3]) rfl Try.underlying4 rfl laidOut (by kernel_rfl) ?_ (fun W => (opensA_cons (opensV_slice (e := 44) (by kernel_rfl) (opens_map (c' := enc_Api_Row) (ok' := ok_Api_Row) (opens_struct (ts := [42, 39]) (by kernel_rfl) (opensL_cons (opens_struct (ts := [2, 40]) (by kernel_rfl) (opensL_cons (opens_int Try.underlying2) (opensL_one (opens_arr4 (e := 9) (by kernel_rfl) (by kernel_rfl) (opensL_cons (opens_str Try.underlying9) (opensL_cons (opens_str Try.underlying9) (opensL_cons (opens_str Try.underlying9) (opensL_one (opens_str Try.underlying9))))))))) (opensL_one (opens_struct (ts := [2, 2, 2, 2]) (by kernel_rfl) (opensL_cons (opens_int Try.underlying2) (opensL_cons (opens_int Try.underlying2) (opensL_cons (opens_int Try.underlying2) (opensL_one (opens_int Try.underlying2))))))))) (fun x => (⟨(⟨x.1.1, x.1.2.1, x.1.2.2.1, x.1.2.2.2.1, x.1.2.2.2.2⟩ : Api_Key), (⟨x.2.1, x.2.2.1, x.2.2.2.1, x.2.2.2.2⟩ : Api_Cell)⟩ : Api_Row)) (fun _ => rfl) (fun _ h => ⟨⟨h.1.1, h.1.2.1, h.1.2.2.1, h.1.2.2.2.1, h.1.2.2.2.2⟩, ⟨h.2.1, h.2.2.1, h.2.2.2.1, h.2.2.2.2⟩⟩))) (opensA_cons (opensV_slice (e := 2) (by kernel_rfl) (opens_int Try.underlying2)) opensA_nil))) ?_
  · intro ds hl
    match ds, hl with
    | [d0, d1], _ => rfl
  · intro W x hok
    obtain ⟨⟨s0, l0⟩, ⟨s1, l1⟩, _⟩ := x
    obtain ⟨h0, h1, _⟩ := hok
    obtain ⟨K, hK⟩ := law l0 l1 h0.2 h1.2
    refine ⟨[rd s0 l0.length _ _, rd s1 l1.length _ _], (ossuarylaw35_StatSums.spec K (rd s0 l0.length _ _) s0 (rd s1 l1.length _ _) s1 l0 l1 (isRd_rd _ _ _ _) (isRd_rd _ _ _ _) true hK).mono fun v M h => h.1, ?_⟩
    intro A hA
    simp only [List.mem_cons, List.not_mem_nil, or_false] at hA
    rcases hA with rfl | rfl
    · exact h0.1
    · exact h1.1
theorem over : Rows.statSumsRow.holds Try.pinned (OpenSpec.ofChange Rows.statSumsSpec) :=
  OpenClaim.holds_of_wide 3 Try.f3 rfl rfl rfl rfl rfl rfl rfl ⟨rfl, rfl, rfl, rfl, rfl⟩ rfl rfl rfl rfl rfl (by kernel_rfl) Try.func3 (by kernel_rfl)
    (of_decide_eq_true (by kernel_rfl)) (by unfold Func.isWrapper; first | (rw [if_pos (by decide +kernel)]; kernel_rfl) | (rw [if_neg (by decide +kernel)]; exact ⟨rfl, rfl⟩))
    (fun os started H enc _ => lifted os started H enc)
end Go.Proofs.Ytndeodpckfjakaa.StatSums
namespace Go.Proofs.Ytndeodpckfjakaa
/-- StatSums: the given statement. No condition ahead of it. -/
theorem statSums_holds : Rows.StatSumsSaid := StatSums.over
#print axioms statSums_holds
end Go.Proofs.Ytndeodpckfjakaa
