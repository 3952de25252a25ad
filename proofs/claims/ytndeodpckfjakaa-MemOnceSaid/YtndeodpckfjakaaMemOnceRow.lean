/- The row of MemOnce: for every input the law answers true and leaves what it reads as it was: its contract (YtndeodpckfjakaaMemOnceWalk) and the plain law (YtndeodpckfjakaaMemOnceLaw) brought together. -/
import Derived.Test.YtndeodpckfjakaaRows
import Derived.Test.YtndeodpckfjakaaERow
import Derived.Test.YtndeodpckfjakaaMemOnceWalk
import Derived.Test.YtndeodpckfjakaaMemOnceLaw
import Derived.WalkKit
import Derived.ProofKit
import Derived.OpenShut
import Derived.ShutString
import Derived.ChangeOld
import Derived.Below
import Derived.SizedLaws
set_option linter.unusedVariables false
namespace Go.Proofs.Ytndeodpckfjakaa.MemOnce
open Go Go.ChangeShapes Go.WideShapes Go.ChangeAt Go.RowKit E
open Go.ChangeMaps (open_string shut_string)
theorem own : ownKnob Try.prog.godebug = none := by kernel_rfl
theorem laidOut : laidOutB Try.prog = true := by kernel_rfl
set_option maxRecDepth 100000 in
theorem lifted (os : Os) (started : os.Started) (H : Type) (enc : TypeId × Value → H) :
    ReturnsInHanded {} Try.checked os 5 .any (Rows.memOnceSpec.pre6 enc Try.prog Try.f5 Rows.memOnceRow.domain false) (Rows.memOnceSpec.post enc Try.prog Try.f5 false true false false) := by
  refine row_lifted (C := Try.checked) (tb := 4) (ts := [59, 23]) own started (by kernel_rfl) Try.func5
    (ChangeSpec.witness6 (enc := enc) (C := Try.checked) false ⟨#[], #[.slice none 0 0, .slice none 0 0], []⟩ 8 (by kernel_rfl) (by kernel_rfl) (by kernel_rfl) (by kernel_rfl))
    (by rw [Try.params5]) rfl Try.underlying4 rfl laidOut (by kernel_rfl) ?_ (fun W => (opensA_cons (opensV_slice (e := 68) (by kernel_rfl) (opens_img (c' := enc_Ossuaryref17_Batch) (opens_struct (ts := [2, 2, 2, 46]) (by kernel_rfl) (opensL_cons (opens_int Try.underlying2) (opensL_cons (opens_int Try.underlying2) (opensL_cons (opens_int Try.underlying2) (opensL_one (opens_slice (e := 93) (by kernel_rfl) (opens_map (c' := enc_Api_Fact) (ok' := ok_Api_Fact) (opens_struct (ts := [42, 2]) (by kernel_rfl) (opensL_cons (opens_struct (ts := [2, 40]) (by kernel_rfl) (opensL_cons (opens_int Try.underlying2) (opensL_one (opens_arr4 (e := 9) (by kernel_rfl) (by kernel_rfl) (opensL_cons (opens_str Try.underlying9) (opensL_cons (opens_str Try.underlying9) (opensL_cons (opens_str Try.underlying9) (opensL_one (opens_str Try.underlying9))))))))) (opensL_one (opens_int Try.underlying2)))) (fun x => (⟨(⟨x.1.1, x.1.2.1, x.1.2.2.1, x.1.2.2.2.1, x.1.2.2.2.2⟩ : Api_Key), x.2⟩ : Api_Fact)) (fun _ => rfl) (fun _ h => ⟨⟨h.1.1, h.1.2.1, h.1.2.2.1, h.1.2.2.2.1, h.1.2.2.2.2⟩, h.2⟩)))))))) (fun x => (⟨x.1, x.2.1, x.2.2.1, (⟨x.2.2.2.1, x.2.2.2.2⟩ : Sl (Api_Fact))⟩ : Ossuaryref17_Batch)) (fun _ => rfl))) (opensA_cons (opensV_slice (e := 2) (by kernel_rfl) (opens_int Try.underlying2)) opensA_nil))) ?_
  · intro ds hl
    match ds, hl with
    | [d0, d1], _ => rfl
  · intro W x hok
    obtain ⟨⟨s0, l0⟩, ⟨s1, l1⟩, _⟩ := x
    obtain ⟨h0, h1, _⟩ := hok
    obtain ⟨K, hK⟩ := law l0 l1 
    refine ⟨[oldW W], (ossuarylaw22_MemOnce.spec K (oldW W) s0 s1 l0 l1 (isRd_old h0.1) (fun y hy => by obtain ⟨x, rfl, hx⟩ := h0.2.2 y hy; exact isRd_old hx.2.2.2.1) (isRd_old h1.1) true hK).mono fun v M h => h.1, ?_⟩
    intro A hA
    simp only [List.mem_cons, List.not_mem_nil, or_false] at hA
    subst hA
    exact fun _ _ h => h
theorem over : Rows.memOnceRow.holds Try.pinned (OpenSpec.ofChange Rows.memOnceSpec) :=
  OpenClaim.holds_of_wide 5 Try.f5 rfl rfl rfl rfl rfl rfl rfl ⟨rfl, rfl, rfl, rfl, rfl⟩ rfl rfl rfl rfl rfl (by kernel_rfl) Try.func5 (by kernel_rfl)
    (of_decide_eq_true (by kernel_rfl)) (by unfold Func.isWrapper; first | (rw [if_pos (by decide +kernel)]; kernel_rfl) | (rw [if_neg (by decide +kernel)]; exact ⟨rfl, rfl⟩))
    (fun os started H enc _ => lifted os started H enc)
end Go.Proofs.Ytndeodpckfjakaa.MemOnce
namespace Go.Proofs.Ytndeodpckfjakaa
/-- MemOnce: the given statement. No condition ahead of it. -/
theorem memOnce_holds : Rows.MemOnceSaid := MemOnce.over
#print axioms memOnce_holds
end Go.Proofs.Ytndeodpckfjakaa
