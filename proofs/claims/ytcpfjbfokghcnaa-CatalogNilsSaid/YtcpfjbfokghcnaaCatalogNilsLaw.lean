/- The plain law of CatalogNils: what a nil catalog says. -/
import Derived.Test.YtcpfjbfokghcnaaCatalogNilsPure
import Derived.KernelRfl
set_option linter.unusedVariables false
namespace Go.Proofs.Ytcpfjbfokghcnaa.CatalogNils
open Go E

theorem alive_true : ossuarylaw20_alive 200000 = some true := by kernel_rfl
theorem law (a0 a1_0 a1_1 : Int) : ∃ K, ossuarylaw20_CatalogNils K a0 a1_0 a1_1 = some true := by
  refine ⟨200000, ?_⟩
  unfold ossuarylaw20_CatalogNils
  rw [alive_true]
  rfl
end Go.Proofs.Ytcpfjbfokghcnaa.CatalogNils
