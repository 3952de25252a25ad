/- The plain law of MemNils: what a nil one says. -/
import Derived.Test.YtndjnimnemhbkaaMemNilsPure
import Derived.KernelRfl
set_option linter.unusedVariables false
set_option maxRecDepth 100000
namespace Go.Proofs.Ytndjnimnemhbkaa.MemNils
open Go E

theorem alive_true : ossuarylaw22_alive 200000 = some true := by kernel_rfl
theorem law (a0 a1 : Int) : ∃ K, ossuarylaw22_MemNils K a0 a1 = some true := by
  refine ⟨200000, ?_⟩
  unfold ossuarylaw22_MemNils
  rw [alive_true]
  rfl
end Go.Proofs.Ytndjnimnemhbkaa.MemNils
