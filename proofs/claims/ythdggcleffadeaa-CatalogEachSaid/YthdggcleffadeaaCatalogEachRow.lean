/- The row of CatalogEach: for every input the law answers true and leaves what it reads as it was: its contract (YthdggcleffadeaaCatalogEachWalk) and the plain law (YthdggcleffadeaaCatalogEachLaw) brought together. -/
import Derived.Test.YthdggcleffadeaaRows
import Derived.Test.YthdggcleffadeaaERow
import Derived.Test.YthdggcleffadeaaCatalogEachWalk
import Derived.Test.YthdggcleffadeaaCatalogEachLaw
import Derived.WalkKit
import Derived.ProofKit
import Derived.OpenShut
import Derived.ShutString
import Derived.ChangeOld
import Derived.Below
import Derived.SizedLaws
set_option linter.unusedVariables false
namespace Go.Proofs.Ythdggcleffadeaa.CatalogEach
open Go Go.ChangeShapes Go.WideShapes Go.ChangeAt Go.RowKit E
open Go.ChangeMaps (open_string shut_string)
theorem own : ownKnob Try.prog.godebug = none := by kernel_rfl
theorem laidOut : laidOutB Try.prog = true := by kernel_rfl
set_option maxRecDepth 100000 in
theorem lifted (os : Os) (started : os.Started) (H : Type) (enc : TypeId × Value → H) :
    ReturnsInHanded {} Try.checked os 6 .any (Rows.catalogEachSpec.pre6 enc Try.prog Try.f6 Rows.catalogEachRow.domain false) (Rows.catalogEachSpec.post enc Try.prog Try.f6 false true false false) := by
  refine row_lifted (C := Try.checked) (tb := 4) (ts := [49, 58, 3]) own started (by kernel_rfl) Try.func6
    (ChangeSpec.witness6 (enc := enc) (C := Try.checked) false ⟨#[], #[.slice none 0 0, .agg #[.slice none 0 0, .slice none 0 0], .int .i64 0], []⟩ 8 (by kernel_rfl) (by kernel_rfl) (by kernel_rfl) (by kernel_rfl))
    (by rw [Try.params6]) rfl Try.underlying4 rfl laidOut (by kernel_rfl) ?_ (fun W => (opensA_cons (opensV_slice (e := 58) (by kernel_rfl) (opens_img (c' := enc_Ossuarylaw20_Act) (opens_struct (ts := [56, 53]) (by kernel_rfl) (opensL_cons (opens_slice (e := 63) (by kernel_rfl) (opens_map (c' := enc_Api_Part) (ok' := ok_Api_Part) (opens_struct (ts := [3, 2]) (by kernel_rfl) (opensL_cons (opens_int Try.underlying3) (opensL_one (opens_int Try.underlying2)))) (fun x => (⟨x.1, x.2⟩ : Api_Part)) (fun _ => rfl) (fun _ h => ⟨h.1, h.2⟩))) (opensL_one (opens_slice (e := 65) (by kernel_rfl) (opens_map (c' := enc_Api_Entry) (ok' := ok_Api_Entry) (opens_struct (ts := [63, 2, 2, 2, 4]) (by kernel_rfl) (opensL_cons (opens_struct (ts := [3, 2]) (by kernel_rfl) (opensL_cons (opens_int Try.underlying3) (opensL_one (opens_int Try.underlying2)))) (opensL_cons (opens_int Try.underlying2) (opensL_cons (opens_int Try.underlying2) (opensL_cons (opens_int Try.underlying2) (opensL_one (opens_bool Try.underlying4))))))) (fun x => (⟨(⟨x.1.1, x.1.2⟩ : Api_Part), x.2.1, x.2.2.1, x.2.2.2.1, x.2.2.2.2⟩ : Api_Entry)) (fun _ => rfl) (fun _ h => ⟨⟨h.1.1, h.1.2⟩, h.2.1, h.2.2.1, h.2.2.2.1⟩)))))) (fun x => (⟨(⟨x.1.1, x.1.2⟩ : Sl (Api_Part)), (⟨x.2.1, x.2.2⟩ : Sl (Api_Entry))⟩ : Ossuarylaw20_Act)) (fun _ => rfl))) (opensA_cons (opensV_agg (by kernel_rfl) (opens_struct (ts := [56, 53]) (by kernel_rfl) (opensL_cons (opens_slice (e := 63) (by kernel_rfl) (opens_map (c' := enc_Api_Part) (ok' := ok_Api_Part) (opens_struct (ts := [3, 2]) (by kernel_rfl) (opensL_cons (opens_int Try.underlying3) (opensL_one (opens_int Try.underlying2)))) (fun x => (⟨x.1, x.2⟩ : Api_Part)) (fun _ => rfl) (fun _ h => ⟨h.1, h.2⟩))) (opensL_one (opens_slice (e := 65) (by kernel_rfl) (opens_map (c' := enc_Api_Entry) (ok' := ok_Api_Entry) (opens_struct (ts := [63, 2, 2, 2, 4]) (by kernel_rfl) (opensL_cons (opens_struct (ts := [3, 2]) (by kernel_rfl) (opensL_cons (opens_int Try.underlying3) (opensL_one (opens_int Try.underlying2)))) (opensL_cons (opens_int Try.underlying2) (opensL_cons (opens_int Try.underlying2) (opensL_cons (opens_int Try.underlying2) (opensL_one (opens_bool Try.underlying4))))))) (fun x => (⟨(⟨x.1.1, x.1.2⟩ : Api_Part), x.2.1, x.2.2.1, x.2.2.2.1, x.2.2.2.2⟩ : Api_Entry)) (fun _ => rfl) (fun _ h => ⟨⟨h.1.1, h.1.2⟩, h.2.1, h.2.2.1, h.2.2.2.1⟩))))))) (opensA_cons (opensV_int Try.underlying3) opensA_nil)))) ?_
  · intro ds hl
    match ds, hl with
    | [d0, d1, d2], _ => rfl
  · intro W x hok
    obtain ⟨⟨s0, l0⟩, ⟨⟨s1_0, l1_0⟩, ⟨s1_1, l1_1⟩⟩, a2, _⟩ := x
    obtain ⟨h0, h1, h2, _⟩ := hok
    obtain ⟨K, hK⟩ := law l0 s1_0 l1_0 s1_1 l1_1 a2 
    refine ⟨[oldW W], (ossuarylaw20_CatalogEach.spec K (oldW W) s0 l0 s1_0 l1_0 s1_1 l1_1 a2 (isRd_old h0.1) (fun y hy => by obtain ⟨x, rfl, hx⟩ := h0.2.2 y hy; exact ⟨isRd_old hx.1.1, isRd_old hx.2.1⟩) (isRd_old h1.1.1) (isRd_old h1.2.1) true hK).mono fun v M h => h.1, ?_⟩
    intro A hA
    simp only [List.mem_cons, List.not_mem_nil, or_false] at hA
    subst hA
    exact fun _ _ h => h
theorem over : Rows.catalogEachRow.holds Try.pinned (OpenSpec.ofChange Rows.catalogEachSpec) :=
  OpenClaim.holds_of_wide 6 Try.f6 rfl rfl rfl rfl rfl rfl rfl ⟨rfl, rfl, rfl, rfl, rfl⟩ rfl rfl rfl rfl rfl (by kernel_rfl) Try.func6 (by kernel_rfl)
    (of_decide_eq_true (by kernel_rfl)) (by unfold Func.isWrapper; first | (rw [if_pos (by decide +kernel)]; kernel_rfl) | (rw [if_neg (by decide +kernel)]; exact ⟨rfl, rfl⟩))
    (fun os started H enc _ => lifted os started H enc)
end Go.Proofs.Ythdggcleffadeaa.CatalogEach
namespace Go.Proofs.Ythdggcleffadeaa
/-- CatalogEach: the given statement. No condition ahead of it. -/
theorem catalogEach_holds : Rows.CatalogEachSaid := CatalogEach.over
#print axioms catalogEach_holds
end Go.Proofs.Ythdggcleffadeaa
