/- The plain law of FactChecks: which facts, and which batches, are right, and what is wrong first, and where. -/
import Derived.Test.YtmhhjhckbiaidaaFactChecksPure
import Derived.Test.YtmhhjhckbiaidaaELaw
import Derived.KernelRfl
set_option linter.unusedVariables false
set_option linter.unusedSimpArgs false
namespace Go.Proofs.Ytmhhjhckbiaidaa.FactChecks
open Go E

theorem loop_eq (K : Nat) (a1 a2 a3 a4 : List UInt8) (d : Int) : ∀ (k : Nat) (i : Int), fact_Check_l0 K a1 a2 a3 a4 d k i = ossuaryref09_Check_l0 K a1 a2 a3 a4 d k i
  | 0, i => rfl
  | k + 1, i => by rw [fact_Check_l0, ossuaryref09_Check_l0, loop_eq K a1 a2 a3 a4 d k]
theorem loop_some (K : Nat) (a1 a2 a3 a4 : List UInt8) (d : Int) : ∀ (k i : Nat), i ≤ 4 → 4 < i + k → ∃ x, ossuaryref09_Check_l0 K a1 a2 a3 a4 d k i = some x
  | 0, i, h1, h2 => by omega
  | k + 1, i, h1, h2 => by
    rw [ossuaryref09_Check_l0]
    by_cases h : i < 4
    · have hn : w64 ((i : Int) + 1) = ((i + 1 : Nat) : Int) := by rw [w64_id (by omega)]; omega
      obtain ⟨x, hx⟩ := loop_some K a1 a2 a3 a4 d k (i + 1) (by omega) (by omega)
      rw [if_pos (by omega), if_pos (by omega), if_pos (by omega), hn, hx]
      split
      · exact ⟨_, rfl⟩
      · split
        · split
          · exact ⟨_, rfl⟩
          · exact ⟨_, rfl⟩
        · exact ⟨_, rfl⟩
    · rw [if_neg (by omega)]; exact ⟨_, rfl⟩
theorem check_eq (h : Int) (a1 a2 a3 a4 : List UInt8) (v d : Int) : fact_Check 300 h a1 a2 a3 a4 v d = ossuaryref09_Check 300 h a1 a2 a3 a4 v d ∧ ∃ x, ossuaryref09_Check 300 h a1 a2 a3 a4 v d = some x := by
  obtain ⟨x, hx⟩ := loop_some 300 a1 a2 a3 a4 d 300 0 (by omega) (by omega)
  have hx' : ossuaryref09_Check_l0 300 a1 a2 a3 a4 d 300 0 = some x := hx
  unfold fact_Check ossuaryref09_Check fact_many
  simp only [thn_eq, loop_eq, hx']
  by_cases h1 : d < 1
  · rw [if_neg (show ¬ 1 ≤ d by omega), if_pos h1]; simp only [Bool.not_false, if_true]; exact ⟨trivial, _, rfl⟩
  · rw [if_pos (show 1 ≤ d by omega), if_neg h1]
    by_cases h2 : 4 < d
    · rw [decide_eq_false (show ¬ d ≤ 4 by omega), if_pos h2]; simp only [Bool.not_false, if_true]; exact ⟨trivial, _, rfl⟩
    · rw [decide_eq_true (show d ≤ 4 by omega), if_neg h2]
      simp only [Bool.not_true, Bool.false_eq_true, if_false]
      refine ⟨trivial, ?_⟩
      split
      · exact ⟨_, rfl⟩
      · split
        · exact ⟨_, rfl⟩
        · split
          · exact ⟨_, rfl⟩
          · split <;> exact ⟨_, rfl⟩
theorem all_loop (l : List Api_Fact) (hl : l.length ≤ 100) (d : Int) : ∀ (k i : Nat), i ≤ l.length → l.length < i + k → fact_All_l0 300 l d k i = ossuaryref09_All_l0 300 l d k i ∧ ∃ x, ossuaryref09_All_l0 300 l d k i = some x
  | 0, i, h1, h2 => by omega
  | k + 1, i, h1, h2 => by
    rw [fact_All_l0, ossuaryref09_All_l0]
    by_cases h : i < l.length
    · have hn : w64 ((i : Int) + 1) = ((i + 1 : Nat) : Int) := by rw [w64_id (by omega)]; omega
      obtain ⟨e, x, hx⟩ := check_eq ((l.getD (i : Int).toNat z_Api_Fact).Key).Hour ((l.getD (i : Int).toNat z_Api_Fact).Key).Dims_0 ((l.getD (i : Int).toNat z_Api_Fact).Key).Dims_1 ((l.getD (i : Int).toNat z_Api_Fact).Key).Dims_2 ((l.getD (i : Int).toNat z_Api_Fact).Key).Dims_3 (l.getD (i : Int).toNat z_Api_Fact).Value d
      obtain ⟨e2, y, hy⟩ := all_loop l hl d k (i + 1) (by omega) (by omega)
      rw [if_pos (by omega), if_pos (by omega), if_pos (by omega), if_pos (by omega), e, hx, hn, e2, hy]
      refine ⟨rfl, ?_⟩
      simp only [Option.bind_some]
      split <;> exact ⟨_, rfl⟩
    · rw [if_neg (by omega), if_neg (by omega)]; exact ⟨rfl, _, rfl⟩
theorem all_eq (l : List Api_Fact) (hl : l.length ≤ 100) (d : Int) : fact_All 300 l d = ossuaryref09_All 300 l d ∧ ∃ x, ossuaryref09_All 300 l d = some x := by
  obtain ⟨e, x, hx⟩ := all_loop l hl d 300 0 (by omega) (by omega)
  have e' : fact_All_l0 300 l d 300 0 = ossuaryref09_All_l0 300 l d 300 0 := e
  have hx' : ossuaryref09_All_l0 300 l d 300 0 = some x := hx
  unfold fact_All ossuaryref09_All fact_many
  simp only [thn_eq, e', hx']
  by_cases h1 : d < 1
  · rw [if_neg (show ¬ 1 ≤ d by omega), if_pos h1]; exact ⟨rfl, _, rfl⟩
  · rw [if_pos (show 1 ≤ d by omega), if_neg h1]
    by_cases h2 : 4 < d
    · rw [decide_eq_false (show ¬ d ≤ 4 by omega), if_pos h2]; exact ⟨rfl, _, rfl⟩
    · rw [decide_eq_true (show d ≤ 4 by omega), if_neg h2]
      simp only [Bool.not_true, Bool.false_eq_true, if_false]
      by_cases h3 : (l.length : Int) = 0
      · rw [if_pos h3, if_pos (by omega)]; exact ⟨rfl, _, rfl⟩
      · rw [if_neg h3, if_neg (show ¬ (l.length : Int) < 1 by omega)]
        refine ⟨rfl, ?_⟩
        split <;> exact ⟨_, rfl⟩
theorem light1 (l : List Api_Fact) (i : Nat) : ∀ (k j : Nat), j ≤ 4 → 4 < j + k → ∃ x, ossuarylaw09_Light_l1 300 l i k j = some x
  | 0, j, h1, h2 => by omega
  | k + 1, j, h1, h2 => by
    rw [ossuarylaw09_Light_l1]
    by_cases h : j < 4
    · have hn : w64 ((j : Int) + 1) = ((j + 1 : Nat) : Int) := by rw [w64_id (by omega)]; omega
      obtain ⟨x, hx⟩ := light1 l i k (j + 1) (by omega) (by omega)
      rw [if_pos (by omega), if_pos (by omega), if_pos (by omega), if_pos (by omega), hn, hx]
      split <;> exact ⟨_, rfl⟩
    · rw [if_neg (by omega)]; exact ⟨_, rfl⟩
theorem light0 (l : List Api_Fact) (hl : l.length ≤ 100) : ∀ (k i : Nat), i ≤ l.length → l.length < i + k → ∃ x, ossuarylaw09_Light_l0 300 l k i = some x
  | 0, i, h1, h2 => by omega
  | k + 1, i, h1, h2 => by
    rw [ossuarylaw09_Light_l0]
    by_cases h : i < l.length
    · have hn : w64 ((i : Int) + 1) = ((i + 1 : Nat) : Int) := by rw [w64_id (by omega)]; omega
      obtain ⟨x, hx⟩ := light0 l hl k (i + 1) (by omega) (by omega)
      obtain ⟨z, hz⟩ := light1 l i 300 0 (by omega) (by omega)
      have hz' : ossuarylaw09_Light_l1 300 l i 300 0 = some z := hz
      rw [if_pos (by omega), hz', hn]
      cases z with
      | inl u => simp only [Option.bind_some, cas]; exact ⟨x, hx⟩
      | inr b => simp only [Option.bind_some, cas]; exact ⟨b, rfl⟩
    · rw [if_neg (by omega)]; exact ⟨_, rfl⟩
theorem light (l : List Api_Fact) : ∃ b, ossuarylaw09_Light 300 l = some b ∧ (b = true → l.length ≤ 100) := by
  unfold ossuarylaw09_Light
  by_cases h : 100 < (l.length : Int)
  · rw [if_pos h]; exact ⟨false, rfl, fun h => by cases h⟩
  · rw [if_neg h]
    obtain ⟨b, hb⟩ := light0 l (by omega) 300 0 (by omega) (by omega)
    exact ⟨b, hb, fun _ => by omega⟩
theorem main_loop (l : List Api_Fact) (hl : l.length ≤ 100) (d : Int) : ∀ (k i : Nat), i ≤ l.length → l.length < i + k → ossuarylaw09_FactChecks_l0 300 l d k i = some (Sum.inl ())
  | 0, i, h1, h2 => by omega
  | k + 1, i, h1, h2 => by
    rw [ossuarylaw09_FactChecks_l0]
    by_cases h : i < l.length
    · have hn : w64 ((i : Int) + 1) = ((i + 1 : Nat) : Int) := by rw [w64_id (by omega)]; omega
      obtain ⟨e, x, hx⟩ := check_eq ((l.getD (i : Int).toNat z_Api_Fact).Key).Hour ((l.getD (i : Int).toNat z_Api_Fact).Key).Dims_0 ((l.getD (i : Int).toNat z_Api_Fact).Key).Dims_1 ((l.getD (i : Int).toNat z_Api_Fact).Key).Dims_2 ((l.getD (i : Int).toNat z_Api_Fact).Key).Dims_3 (l.getD (i : Int).toNat z_Api_Fact).Value d
      rw [if_pos (by omega), if_pos (by omega), e, hx, hn]
      simp only [Option.bind_some, not_true, if_false]
      exact main_loop l hl d k (i + 1) (by omega) (by omega)
    · rw [if_neg (by omega)]
theorem alive_true : ossuarylaw09_alive 300 = some true := by decide +kernel
theorem law (l : List Api_Fact) (d : Int) : ∃ K, ossuarylaw09_FactChecks K l d = some true := by
  refine ⟨300, ?_⟩
  obtain ⟨b, hb, hlen⟩ := light l
  unfold ossuarylaw09_FactChecks
  rw [hb]
  simp only [Option.bind_some]
  cases b with
  | false => rw [alive_true]; rfl
  | true =>
    have hl := hlen rfl
    have hm : ossuarylaw09_FactChecks_l0 300 l d 300 0 = some (Sum.inl ()) := main_loop l hl d 300 0 (by omega) (by omega)
    obtain ⟨e, x, hx⟩ := all_eq l hl d
    rw [hm, e, hx, alive_true]
    simp [cas]
end Go.Proofs.Ytmhhjhckbiaidaa.FactChecks
