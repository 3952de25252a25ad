/- The plain law of PileNils: what nil piles, and piles without an order, say. -/
import Derived.Test.YtmhhjhckbiaidaaPileNilsPure
import Derived.Test.YtmhhjhckbiaidaaELaw
import Derived.KernelRfl
set_option linter.unusedVariables false
namespace Go.Proofs.Ytmhhjhckbiaidaa.PileNils
open Go E
theorem law (a0 : Int) (h : inI .i64 a0) : ∃ K, ossuarylaw07_PileNils K a0 = some true := ⟨20, by kernel_rfl⟩
end Go.Proofs.Ytmhhjhckbiaidaa.PileNils
