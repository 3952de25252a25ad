/- The plain law of CellLooks: what the program says of a cell is what the reference says: whether it is right, and its mean. -/
import Derived.Test.YtmhhjhckbiaidaaCellLooksPure
set_option linter.unusedVariables false
namespace Go.Proofs.Ytmhhjhckbiaidaa.CellLooks
open Go E

theorem shr63 {r : Int} (h1 : -9223372036854775808 ≤ r) (h2 : r < 9223372036854775808) : bShr .i64 r 63 = if r < 0 then -1 else 0 := by
  have e : (2 : Int) ^ min (63 : Int).toNat IntKind.i64.bits = 9223372036854775808 := by decide
  unfold bShr
  rw [e, Int.fdiv_eq_ediv_of_nonneg _ (by decide)]
  split <;> omega

theorem means (a0 a1 a2 a3 : Int) (h1 : -9223372036854775808 ≤ a1) (h2 : a1 < 9223372036854775808) :
    cell_Mean a0 a1 a2 a3 = ossuaryref05_Mean a0 a1 a2 a3 ∧ ∃ x, cell_Mean a0 a1 a2 a3 = some x := by
  unfold cell_Mean ossuaryref05_Mean
  by_cases h : a0 < 1
  · simp [h]
  · have h0 : a0 ≠ 0 := by omega
    have hm1 : -9223372036854775808 ≤ Int.tmod a1 a0 := by
      have := Int.natAbs_tmod a1 a0
      have := Nat.mod_le a1.natAbs a0.natAbs
      omega
    have hm2 : Int.tmod a1 a0 < 9223372036854775808 := by
      have := Int.natAbs_tmod a1 a0
      have := Nat.mod_le a1.natAbs a0.natAbs
      have : a1.natAbs ≤ 9223372036854775808 := by omega
      by_cases hneg : a1 < 0
      · have h3 := Int.tmod_nonneg a0 (show 0 ≤ -a1 by omega)
        rw [Int.neg_tmod] at h3
        omega
      · have := Int.natAbs_of_nonneg (show 0 ≤ a1 by omega)
        omega
    simp only [h, h0, if_false]
    rw [shr63 hm1 hm2]
    split
    · exact ⟨rfl, _, rfl⟩
    · refine ⟨?_, _, rfl⟩
      rw [Int.add_zero]
      have : ∀ n, w64 (w64 n) = w64 n := by
        intro n
        simp only [w64, IntKind.wrap, IntKind.signed, IntKind.bits]
        simp
        omega
      rw [this]

theorem rights (a0 a1 a2 a3 : Int) : cell_Right a0 a1 a2 a3 = ossuaryref05_Right a0 a1 a2 a3 := by
  unfold cell_Right ossuaryref05_Right cell_Of thn
  by_cases h0 : a0 = 0
  · simp [h0]
  · by_cases h1 : a0 = 1
    · subst h1
      simp
      by_cases h2 : a1 = a2 <;> by_cases h3 : a1 = a3 <;> simp [h2, h3] <;> grind
    · by_cases hp : 0 < a0
      · have : 1 < a0 := by omega
        by_cases h2 : a2 ≤ a3 <;> simp [h0, h1, hp, this, h2]
      · simp [h0, h1, hp]

theorem alive_true : ossuarylaw05_alive 10 = some true := by decide +kernel

theorem law (a0 a1 a2 a3 : Int) (h : inI .i64 a0 ∧ inI .i64 a1 ∧ inI .i64 a2 ∧ inI .i64 a3) : ∃ K, ossuarylaw05_CellLooks K a0 a1 a2 a3 = some true := by
  have hb : -9223372036854775808 ≤ a1 ∧ a1 < 9223372036854775808 := by
    have := h.2.1
    simp [inI, IntKind.min, IntKind.max, IntKind.signed, IntKind.bits] at this
    omega
  obtain ⟨hm, x, hx⟩ := means a0 a1 a2 a3 hb.1 hb.2
  refine ⟨10, ?_⟩
  unfold ossuarylaw05_CellLooks
  rw [← hm, hx, rights]
  simp [thn, alive_true]
end Go.Proofs.Ytmhhjhckbiaidaa.CellLooks
