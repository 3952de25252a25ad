/- The row of WordsBares: for every input the law answers true and leaves what it reads as it was: its contract (YtgbjponaoeiglaaDoorWordsBaresWalk) and the plain law (YtgbjponaoeiglaaDoorWordsBaresLaw) brought together. -/
import Derived.Test.YtgbjponaoeiglaaDoorCards
import Derived.Test.YtgbjponaoeiglaaDoorTie
import Derived.Test.YtgbjponaoeiglaaDoorECard
import Derived.Test.YtgbjponaoeiglaaDoorRows
import Derived.Test.YtgbjponaoeiglaaDoorERow
import Derived.Test.YtgbjponaoeiglaaDoorWordsBaresWalk
import Derived.Test.YtgbjponaoeiglaaDoorWordsBaresLaw
import Derived.WalkKit
import Derived.ProofKit
import Derived.OpenShut
import Derived.ShutString
import Derived.ChangeOld
import Derived.Below
import Derived.SizedLaws
set_option linter.unusedVariables false
namespace Go.Proofs.YtgbjponaoeiglaaDoor.WordsBares
open Go Go.ChangeShapes Go.WideShapes Go.ChangeAt Go.RowKit E
open Go.ChangeMaps (open_string shut_string)
theorem own : ownKnob Tryd.prog.godebug = none := by kernel_rfl
theorem laidOut : laidOutB Tryd.prog = true := by kernel_rfl
set_option maxRecDepth 100000 in
theorem lifted (os : Os) (started : os.Started) (H : Type) (enc : TypeId × Value → H) :
    ReturnsInHanded {} Tryd.checked os 3 .any (fun w args => (Rows.wordsBaresSpec.pre enc Tryd.prog Tryd.f3 Rows.wordsBaresRow.domain false w args ∧ laidMetH Tryd.prog Rows.wordsBaresRow.laid w) ∧ sizedMet enc Tryd.prog Tryd.f3 (OpenSpec.ofChange Rows.wordsBaresSpec) false w args) (Rows.wordsBaresSpec.post enc Tryd.prog Tryd.f3 false true false false) := by
  refine row_lifted_laid (C := Tryd.checked) (tb := 4) (ts := [9]) own started (by kernel_rfl) Tryd.func3
    (ChangeSpec.witness_shaped (enc := enc) (C := Tryd.checked) (os := os) (X := fun w _ => laidMetH Tryd.prog Rows.wordsBaresRow.laid w) false (World.laidAll Tryd.prog os Rows.wordsBaresRow.laid) #[.string ByteArray.empty] 8 (World.laidAll_os _ _ _)
      (World.shaped_of_ZipB (by kernel_rfl) (by kernel_rfl)) (by kernel_rfl) (by kernel_rfl) (by kernel_rfl)
      (by rw [MakeChecks.laidMetH_plain _ _ _ (by kernel_rfl)]; exact laidMet_laidAll _ (by kernel_rfl) (by kernel_rfl)))
    (by rw [Tryd.params3]) rfl Tryd.underlying4 rfl laidOut (by kernel_rfl) ?_ (fun W => (opensA_cons (opensV_str Tryd.underlying9) opensA_nil)) ?_
  · intro ds hl
    match ds, hl with
    | [d0], _ => rfl
  · intro W x hok
    obtain ⟨a0, _⟩ := x
    obtain ⟨h0, _⟩ := hok
    obtain ⟨K, hK⟩ := law a0 
    refine ⟨[], (ossuarylaw34_WordsBares.spec K a0 true hK).mono fun v M h => h.1, ?_⟩
    intro A hA; cases hA
theorem over : Rows.wordsBaresRow.holds Tryd.pinned (OpenSpec.ofChange Rows.wordsBaresSpec) :=
  OpenClaim.holds_of_wide 3 Tryd.f3 rfl rfl rfl rfl rfl rfl rfl ⟨rfl, rfl, rfl, rfl, rfl⟩ rfl rfl rfl rfl rfl (by kernel_rfl) Tryd.func3 (by kernel_rfl)
    (of_decide_eq_true (by kernel_rfl)) (by unfold Func.isWrapper; first | (rw [if_pos (by decide +kernel)]; kernel_rfl) | (rw [if_neg (by decide +kernel)]; exact ⟨rfl, rfl⟩))
    (fun os started H enc _ => lifted os started H enc)
end Go.Proofs.YtgbjponaoeiglaaDoor.WordsBares
namespace Go.Proofs.YtgbjponaoeiglaaDoor
/-- WordsBares: the given statement. No condition ahead of it. -/
theorem wordsBares_holds : Rows.WordsBaresSaid := WordsBares.over
/-- .. and its card. -/
theorem wordsBares_card : Rows.WordsBaresCardSaid :=
  Claim7.holds_tied_plain_at .later [] [.data, .pinned] true (true, "b77ee56ed04920f15756a714cc39d2cd0ad77dd33cbdc2fd4605aa723c6c965b") true wordsBares_holds (fun _ h => by cases h) (by kernel_rfl) (fun _ h => by cases h) wordsBares_row_tie rfl ⟨rfl, rfl⟩ (by kernel_rfl) rfl
    (fun f fn hf hfn => by
      obtain rfl : f = 3 := Option.some.inj ((show Tryd.prog.funcNamed "ossuary/ossuarylaw34.WordsBares" = some 3 by kernel_rfl).symm.trans hf) |>.symm
      obtain rfl : fn = Tryd.f3 := (Option.some.inj (Tryd.func3.symm.trans hfn)).symm
      exact ⟨by kernel_rfl, fun j t ht => by
        rw [Tryd.params3] at ht
        have hm : t ∈ [9] := by simpa using Array.mem_of_getElem? ht
        have hall : ([9].all fun u => !Tryd.prog.wantsStandIn u) = true := by kernel_rfl
        exact (show Tryd.prog.wantsStandIn t = false by simpa using List.all_eq_true.1 hall t hm)⟩)
    (by kernel_rfl)
#print axioms wordsBares_card
end Go.Proofs.YtgbjponaoeiglaaDoor
