/- The plain law of CellAlls: the cell of any values, and how much they weigh, are what the reference says. -/
import Derived.Test.YtmhhjhckbiaidaaCellAllsPure
import Derived.Test.YtmhhjhckbiaidaaELaw
set_option linter.unusedVariables false
set_option linter.unusedSimpArgs false
namespace Go.Proofs.Ytmhhjhckbiaidaa.CellAlls
open Go E

def R64 (x : Int) : Prop := -9223372036854775808 ≤ x ∧ x ≤ 9223372036854775807
instance (x : Int) : Decidable (R64 x) := inferInstanceAs (Decidable (_ ∧ _))
theorem r64 {x : Int} : R64 x ↔ (-9223372036854775808 ≤ x ∧ x ≤ 9223372036854775807) := Iff.rfl
theorem plus_eq {a b : Int} (ha : R64 a) (hb : R64 b) : cell_plus a b = (w64 (a + b), decide (R64 (a + b))) := by
  unfold cell_plus; rw [over64 ha hb]; rfl
theorem add_eq {a b : Int} (ha : R64 a) (hb : R64 b) : ossuaryref05_add a b = if R64 (a + b) then (a + b, true) else (0, false) := by
  unfold ossuaryref05_add thn
  by_cases h0 : 0 ≤ b
  · have hn : ¬ b < 0 := by omega
    have e : w64 (9223372036854775807 - b) = 9223372036854775807 - b := w64_id (by rw [r64] at *; omega)
    simp only [h0, hn, if_true, if_false, e]
    by_cases h : 9223372036854775807 - b < a
    · have : ¬ R64 (a + b) := by rw [r64] at *; omega
      simp [h, this, cas]
    · have hr : R64 (a + b) := by rw [r64] at *; omega
      rw [if_neg h, if_pos hr]
      simp only [cas, w64_id hr]
  · have hn : b < 0 := by omega
    have e : w64 (-9223372036854775808 - b) = -9223372036854775808 - b := w64_id (by rw [r64] at *; omega)
    simp only [h0, hn, if_true, if_false, e]
    by_cases h : a < -9223372036854775808 - b
    · have : ¬ R64 (a + b) := by rw [r64] at *; omega
      simp [h, this, cas]
    · have hr : R64 (a + b) := by rw [r64] at *; omega
      rw [if_neg h, if_pos hr]
      simp only [cas, w64_id hr]
theorem merge_eq {a0 a1 a2 a3 b0 b1 b2 b3 : Int} (h0 : R64 a0) (h1 : R64 a1) (k0 : R64 b0) (k1 : R64 b1) :
    cell_Merge a0 a1 a2 a3 b0 b1 b2 b3 = ossuaryref05_Merge a0 a1 a2 a3 b0 b1 b2 b3 ∧ R64 (cell_Merge a0 a1 a2 a3 b0 b1 b2 b3).1 ∧ R64 (cell_Merge a0 a1 a2 a3 b0 b1 b2 b3).2.1 ∧
    ((cell_Merge a0 a1 a2 a3 b0 b1 b2 b3).2.2.2.2 = false → cell_Merge a0 a1 a2 a3 b0 b1 b2 b3 = (0, 0, 0, 0, false)) := by
  unfold cell_Merge ossuaryref05_Merge thn
  rw [plus_eq h0 k0, plus_eq h1 k1, add_eq h0 k0, add_eq h1 k1]
  by_cases ha : a0 = 0
  · simp [ha, k0, k1]
  · by_cases hb : b0 = 0
    · simp [ha, hb, h0, h1]
    · by_cases r0 : R64 (a0 + b0) <;> by_cases r1 : R64 (a1 + b1) <;> simp only [ha, hb, if_false, r0, r1, decide_true, decide_false, if_true, Bool.not_true, Bool.not_false, Bool.false_eq_true]
      · rw [w64_id r0, w64_id r1]
        exact ⟨rfl, r0, r1, fun h => by cases h⟩
      · simp [r64]
      · simp [r64]
      · simp [r64]

theorem fails (K : Nat) (l : List Int) : ∀ (rest pre : List Int) (k : Nat), l = pre ++ rest → l.length ≤ 200 → rest.length < k → cell_All_l0 K l k pre.length 0 0 0 0 false = some (0, 0, 0, 0, false)
  | [], pre, k + 1, e, _, _ => by
    subst e
    simp [cell_All_l0]
  | x :: rest, pre, k + 1, e, hl, hk => by
    have ih := fails K l rest (pre ++ [x]) k (by simp [e]) hl (by simp at hk; omega)
    have hlen : pre.length + 1 ≤ 200 := by rw [e] at hl; simp at hl; omega
    rw [cell_All_l0, if_pos (by rw [e]; simp; omega), if_pos (by omega), thn_eq]
    rw [show w64 ((pre.length : Int) + 1) = ((pre ++ [x]).length : Int) by rw [w64_id (by omega)]; simp]
    simpa [cell_All_1] using ih
theorem loops (K : Nat) (l : List Int) (hin : ∀ x ∈ l, R64 x) : ∀ (rest pre : List Int) (k : Nat) (c s a b : Int), l = pre ++ rest → l.length ≤ 200 → rest.length < k → R64 c → R64 s →
    cell_All_l0 K l k pre.length c s a b true = ossuaryref05_All_l0 K l k pre.length c s a b ∧ ∃ x, cell_All_l0 K l k pre.length c s a b true = some x
  | [], pre, k + 1, c, s, a, b, e, _, _, _, _ => by
    subst e
    simp [cell_All_l0, ossuaryref05_All_l0]
  | x :: rest, pre, k + 1, c, s, a, b, e, hl, hk, hc, hs => by
    have hlen : pre.length + 1 ≤ 200 := by rw [e] at hl; simp at hl; omega
    have hx : R64 x := hin x (by rw [e]; simp)
    have hn : w64 ((pre.length : Int) + 1) = ((pre ++ [x]).length : Int) := by rw [w64_id (by omega)]; simp
    have hg : l.getD (pre.length : Int).toNat 0 = x := by rw [e]; exact at_pre _ _ _ _
    obtain ⟨m1, m2, m3, m4⟩ := merge_eq (a2 := a) (a3 := b) (b2 := x) (b3 := x) hc hs (show R64 1 by rw [r64] at *; omega) hx
    rw [cell_All_l0, ossuaryref05_All_l0]
    have hlt : (pre.length : Int) < (l.length : Int) := by rw [e]; simp; omega
    rw [if_pos hlt, if_pos hlt, if_pos (by omega), if_pos (by omega), hg, hn]
    unfold cell_All_1 cell_Of ossuaryref05_Of
    simp only [thn_eq, if_true]
    rw [← m1]
    cases hq : (cell_Merge c s a b 1 x x x).2.2.2.2 with
    | false =>
      have e0 := m4 hq
      rw [e0]
      simp only [Bool.not_false, if_true]
      rw [fails K l rest (pre ++ [x]) k (by simp [e]) hl (by simp at hk; omega)]
      exact ⟨rfl, _, rfl⟩
    | true =>
      simp only [Bool.not_true, Bool.false_eq_true, if_false]
      exact loops K l hin rest (pre ++ [x]) k _ _ _ _ (by simp [e]) hl (by simp at hk; omega) m2 m3
theorem all_eq (l : List Int) (hin : ∀ x ∈ l, R64 x) (hl : l.length ≤ 200) : cell_All 300 l = ossuaryref05_All 300 l ∧ ∃ x, cell_All 300 l = some x :=
  loops 300 l hin l [] 300 0 0 0 0 rfl hl (by omega) (by rw [r64] at *; omega) (by rw [r64] at *; omega)

theorem size_eq {x : Int} (hx : R64 x) : cell_size x = x.natAbs := abs64 hx
theorem Size_eq {x : Int} (hx : R64 x) : ossuaryref05_Size x = if (4611686018427387904 : Int) < x.natAbs then 4611686018427387905 else (x.natAbs : Int) := by
  unfold ossuaryref05_Size
  split
  · rw [if_pos (by omega)]
  · split
    · rw [if_pos (by omega)]
    · split
      · rw [if_neg (by omega), w64_id (by omega)]; omega
      · rw [if_neg (by omega)]; omega
theorem weights (K : Nat) (l : List Int) (hin : ∀ x ∈ l, R64 x) : ∀ (rest pre : List Int) (k : Nat) (n : Int), l = pre ++ rest → l.length ≤ 200 → rest.length < k → 0 ≤ n → n ≤ 4611686018427387904 →
    cell_Weight_l0 K l k n pre.length = ossuaryref05_Weight_l0 K l k n pre.length ∧ ∃ x, cell_Weight_l0 K l k n pre.length = some x
  | [], pre, k + 1, n, e, _, _, h0, h1 => by
    subst e
    simp [cell_Weight_l0, ossuaryref05_Weight_l0]
    exact w64_id (by omega)
  | x :: rest, pre, k + 1, n, e, hl, hk, h0, h1 => by
    have hlen : pre.length + 1 ≤ 200 := by rw [e] at hl; simp at hl; omega
    have hx : R64 x := hin x (by rw [e]; simp)
    have hn : w64 ((pre.length : Int) + 1) = ((pre ++ [x]).length : Int) := by rw [w64_id (by omega)]; simp
    have hg : l.getD (pre.length : Int).toNat 0 = x := by rw [e]; exact at_pre _ _ _ _
    have hlt : (pre.length : Int) < (l.length : Int) := by rw [e]; simp; omega
    rw [cell_Weight_l0, ossuaryref05_Weight_l0, if_pos hlt, if_pos hlt, if_pos (by omega), if_pos (by omega), hg, hn]
    simp only [thn_eq]
    have hx' := hx
    unfold R64 at hx'
    rw [size_eq hx, Size_eq hx, wu64_id (by omega), w64_id (show -9223372036854775808 ≤ 4611686018427387904 - n ∧ 4611686018427387904 - n ≤ 9223372036854775807 by omega)]
    by_cases h : (4611686018427387904 : Int) < n + x.natAbs
    · rw [if_pos h, if_pos (by split <;> omega)]
      exact ⟨rfl, _, rfl⟩
    · have hs : ¬ (4611686018427387904 : Int) < x.natAbs := by omega
      rw [if_neg h, if_neg hs, if_neg (by omega), w64_id (by omega)]
      exact weights K l hin rest (pre ++ [x]) k _ (by simp [e]) hl (by simp at hk; omega) (by omega) (by omega)
theorem weight_eq (l : List Int) (hin : ∀ x ∈ l, R64 x) (hl : l.length ≤ 200) : cell_Weight 300 l = ossuaryref05_Weight 300 l ∧ ∃ x, cell_Weight 300 l = some x :=
  weights 300 l hin l [] 300 0 rfl hl (by omega) (by omega) (by omega)

theorem alive_true : ossuarylaw05_alive 300 = some true := by decide +kernel
theorem law (l : List Int) (h : l.length * 8 ≤ 140737488351232 ∧ ∀ x ∈ l, inI .i64 x) : ∃ K, ossuarylaw05_CellAlls K l = some true := by
  refine ⟨300, ?_⟩
  have hin : ∀ x ∈ l, R64 x := fun x hx => in64 (h.2 x hx)
  unfold ossuarylaw05_CellAlls
  split
  · simp [alive_true]
  · rename_i hl
    obtain ⟨a1, a, ha⟩ := all_eq l hin (by omega)
    obtain ⟨w1, w, hw⟩ := weight_eq l hin (by omega)
    rw [← a1, ← w1, ha, hw]
    simp [alive_true]
end Go.Proofs.Ytmhhjhckbiaidaa.CellAlls
