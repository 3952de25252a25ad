/- The plain law of FactOrders: which of any two keys stands ahead. -/
import Derived.Test.YtmhhjhckbiaidaaFactOrdersPure
import Derived.Test.YtmhhjhckbiaidaaELaw
import Derived.KernelRfl
set_option linter.unusedVariables false
set_option linter.unusedSimpArgs false
namespace Go.Proofs.Ytmhhjhckbiaidaa.FactOrders
open Go E

def cs (a b : List UInt8) : Int := if a < b then -1 else if b < a then 1 else 0
def ci (a b : Int) : Int := if a < b then -1 else if b < a then 1 else 0
def or2 (a b : Int) : Int := if a = 0 then b else a
theorem asym {a b : List UInt8} (h : a < b) : ¬ b < a := List.not_lt.2 (List.le_of_lt h)
theorem cs_neg (a b : List UInt8) : cs b a = -cs a b := by
  unfold cs
  by_cases h : a < b
  · simp [h, asym h]
  · by_cases h' : b < a <;> simp [h, h']
theorem ci_neg (a b : Int) : ci b a = -ci a b := by unfold ci; split <;> split <;> (try split) <;> omega
theorem or2_neg (a b : Int) : or2 (-a) (-b) = -or2 a b := by unfold or2; split <;> split <;> omega
theorem ci_in (a b : Int) : -1 ≤ ci a b ∧ ci a b ≤ 1 := by unfold ci; split <;> (try split) <;> omega
theorem cs_in (a b : List UInt8) : -1 ≤ cs a b ∧ cs a b ≤ 1 := by unfold cs; split <;> (try split) <;> omega
theorem str_eq (a b : List UInt8) : cmp_Compare__string a b = cs a b := by
  simp [cmp_Compare__string, cmp_isNaN__string, thn_eq, cs]
theorem int_eq (a b : Int) : cmp_Compare__int64 a b = ci a b := by
  simp [cmp_Compare__int64, cmp_isNaN__int64, thn_eq, ci]
theorem sstep (K k i : Nat) (l m : List (List UInt8)) (hl : i < l.length) (hm : i < m.length) (h : l.length ≤ 100) : slices_Compare_____string__string_l0 K l m (k + 1) i =
    if cs (l.getD i []) (m.getD i []) = 0 then slices_Compare_____string__string_l0 K l m k ((i + 1 : Nat) : Int) else some (Sum.inr (cs (l.getD i []) (m.getD i []))) := by
  have hn : w64 ((i : Int) + 1) = ((i + 1 : Nat) : Int) := by rw [w64_id (by omega)]; omega
  rw [slices_Compare_____string__string_l0, if_pos (by omega), if_pos (by omega), if_neg (by omega), if_pos (by omega), hn]
  simp only [thn_eq, str_eq, Int.toNat_natCast]
  by_cases h0 : cs (l.getD i []) (m.getD i []) = 0
  · rw [if_neg (by simpa using h0), if_pos h0]
  · rw [if_pos h0, if_neg h0]
theorem slices_eq (a1 a2 a3 a4 b1 b2 b3 b4 : List UInt8) : slices_Compare_____string__string 300 ([a1, a2, a3, a4].take 4) ([b1, b2, b3, b4].take 4) = some (or2 (cs a1 b1) (or2 (cs a2 b2) (or2 (cs a3 b3) (cs a4 b4)))) := by
  have t1 : ∀ x1 x2 x3 x4 : List UInt8, [x1, x2, x3, x4].take 4 = [x1, x2, x3, x4] := fun _ _ _ _ => rfl
  have s0 := sstep 300 299 0 [a1, a2, a3, a4] [b1, b2, b3, b4] (by simp) (by simp) (by simp)
  have s1 := sstep 300 298 1 [a1, a2, a3, a4] [b1, b2, b3, b4] (by simp) (by simp) (by simp)
  have s2 := sstep 300 297 2 [a1, a2, a3, a4] [b1, b2, b3, b4] (by simp) (by simp) (by simp)
  have s3 := sstep 300 296 3 [a1, a2, a3, a4] [b1, b2, b3, b4] (by simp) (by simp) (by simp)
  have s4 : slices_Compare_____string__string_l0 300 [a1, a2, a3, a4] [b1, b2, b3, b4] 296 ((3 + 1 : Nat) : Int) = some (Sum.inl ()) := by
    rw [slices_Compare_____string__string_l0, if_neg (by simp)]
  have g0 : ([a1, a2, a3, a4].getD 0 [], [b1, b2, b3, b4].getD 0 []) = (a1, b1) := rfl
  unfold slices_Compare_____string__string
  rw [t1, t1]
  have s0' : slices_Compare_____string__string_l0 300 [a1, a2, a3, a4] [b1, b2, b3, b4] 300 0 = if cs a1 b1 = 0 then (if cs a2 b2 = 0 then (if cs a3 b3 = 0 then (if cs a4 b4 = 0 then some (Sum.inl ()) else some (Sum.inr (cs a4 b4))) else some (Sum.inr (cs a3 b3))) else some (Sum.inr (cs a2 b2))) else some (Sum.inr (cs a1 b1)) := by
    refine s0.trans ?_
    rw [s1, s2, s3, s4]
    rfl
  rw [s0']
  unfold or2
  by_cases h1 : cs a1 b1 = 0 <;> by_cases h2 : cs a2 b2 = 0 <;> by_cases h3 : cs a3 b3 = 0 <;> by_cases h4 : cs a4 b4 = 0 <;> simp [h1, h2, h3, h4, cas]
theorem or_eq (a b : Int) : cmp_Or__int 300 [a, b] = some (or2 a b) := by
  unfold cmp_Or__int
  have e0 : cmp_Or__int_l0 300 [a, b] 300 0 = if ¬ a = 0 then some a else cmp_Or__int_l0 300 [a, b] 299 1 := by
    rw [cmp_Or__int_l0, if_pos (by simp), if_pos (by simp)]; rfl
  have e1 : cmp_Or__int_l0 300 [a, b] 299 1 = if ¬ b = 0 then some b else cmp_Or__int_l0 300 [a, b] 298 2 := by
    rw [cmp_Or__int_l0, if_pos (by simp), if_pos (by simp)]; rfl
  have e2 : cmp_Or__int_l0 300 [a, b] 298 2 = some 0 := by
    rw [cmp_Or__int_l0, if_neg (by simp)]
  rw [e0, e1, e2]
  unfold or2
  by_cases h1 : a = 0 <;> by_cases h2 : b = 0 <;> simp [h1, h2]
theorem compare_eq (a0 : Int) (a1 a2 a3 a4 : List UInt8) (b0 : Int) (b1 b2 b3 b4 : List UInt8) : fact_Compare 300 a0 a1 a2 a3 a4 b0 b1 b2 b3 b4 = some (or2 (ci a0 b0) (or2 (cs a1 b1) (or2 (cs a2 b2) (or2 (cs a3 b3) (cs a4 b4))))) := by
  unfold fact_Compare
  rw [slices_eq]
  simp only [thn_eq, int_eq, Option.bind_some, or_eq]
theorem ref_step (K k i : Nat) (a1 a2 a3 a4 b1 b2 b3 b4 : List UInt8) (h : i < 4) : ossuaryref09_Compare_l0 K a1 a2 a3 a4 b1 b2 b3 b4 (k + 1) i =
    if cs ([a1, a2, a3, a4].getD i []) ([b1, b2, b3, b4].getD i []) = 0 then ossuaryref09_Compare_l0 K a1 a2 a3 a4 b1 b2 b3 b4 k ((i + 1 : Nat) : Int) else some (cs ([a1, a2, a3, a4].getD i []) ([b1, b2, b3, b4].getD i [])) := by
  have hn : w64 ((i : Int) + 1) = ((i + 1 : Nat) : Int) := by rw [w64_id (by omega)]; omega
  rw [ossuaryref09_Compare_l0, if_pos (by omega), if_pos (by omega), if_pos (by omega), hn]
  simp only [Int.toNat_natCast, cs]
  by_cases h1 : [a1, a2, a3, a4].getD i [] < [b1, b2, b3, b4].getD i []
  · simp only [h1, if_true]; rw [if_neg (by decide)]
  · by_cases h2 : [b1, b2, b3, b4].getD i [] < [a1, a2, a3, a4].getD i []
    · simp only [h1, h2, if_true, if_false]; rw [if_neg (by decide)]
    · simp only [h1, h2, if_true, if_false]
theorem ref_eq (a0 : Int) (a1 a2 a3 a4 : List UInt8) (b0 : Int) (b1 b2 b3 b4 : List UInt8) : ossuaryref09_Compare 300 a0 a1 a2 a3 a4 b0 b1 b2 b3 b4 = some (or2 (ci a0 b0) (or2 (cs a1 b1) (or2 (cs a2 b2) (or2 (cs a3 b3) (cs a4 b4))))) := by
  have s0 := ref_step 300 299 0 a1 a2 a3 a4 b1 b2 b3 b4 (by omega)
  have s1 := ref_step 300 298 1 a1 a2 a3 a4 b1 b2 b3 b4 (by omega)
  have s2 := ref_step 300 297 2 a1 a2 a3 a4 b1 b2 b3 b4 (by omega)
  have s3 := ref_step 300 296 3 a1 a2 a3 a4 b1 b2 b3 b4 (by omega)
  have s4 : ossuaryref09_Compare_l0 300 a1 a2 a3 a4 b1 b2 b3 b4 296 ((3 + 1 : Nat) : Int) = some 0 := by
    rw [ossuaryref09_Compare_l0, if_neg (by decide)]
  have s0' : ossuaryref09_Compare_l0 300 a1 a2 a3 a4 b1 b2 b3 b4 300 0 = if cs a1 b1 = 0 then (if cs a2 b2 = 0 then (if cs a3 b3 = 0 then (if cs a4 b4 = 0 then some 0 else some (cs a4 b4)) else some (cs a3 b3)) else some (cs a2 b2)) else some (cs a1 b1) := by
    refine s0.trans ?_
    rw [s1, s2, s3, s4]
    rfl
  unfold ossuaryref09_Compare
  rw [s0']
  by_cases h : a0 = b0
  · subst h
    have : ci a0 a0 = 0 := by unfold ci; simp
    rw [if_neg (by simp), this]
    unfold or2
    by_cases h1 : cs a1 b1 = 0 <;> by_cases h2 : cs a2 b2 = 0 <;> by_cases h3 : cs a3 b3 = 0 <;> by_cases h4 : cs a4 b4 = 0 <;> simp [h1, h2, h3, h4]
  · rw [if_pos h]
    unfold ci or2
    by_cases h1 : a0 < b0
    · simp [h1]
    · have : b0 < a0 := by omega
      simp [h1, this]
theorem alive_true : ossuarylaw09_alive 300 = some true := by decide +kernel
theorem or2_in {a b : Int} (h1 : -1 ≤ a ∧ a ≤ 1) (h2 : -1 ≤ b ∧ b ≤ 1) : -1 ≤ or2 a b ∧ or2 a b ≤ 1 := by unfold or2; split <;> omega
theorem law (a0 : Int) (a1 a2 a3 a4 : List UInt8) (b0 : Int) (b1 b2 b3 b4 : List UInt8) : ∃ K, ossuarylaw09_FactOrders K a0 a1 a2 a3 a4 b0 b1 b2 b3 b4 = some true := by
  refine ⟨300, ?_⟩
  unfold ossuarylaw09_FactOrders
  rw [compare_eq, ref_eq, compare_eq b0]
  simp only [Option.bind_some, if_true]
  rw [ci_neg a0 b0, cs_neg a1 b1, cs_neg a2 b2, cs_neg a3 b3, cs_neg a4 b4, or2_neg, or2_neg, or2_neg, or2_neg]
  have := or2_in (ci_in a0 b0) (or2_in (cs_in a1 b1) (or2_in (cs_in a2 b2) (or2_in (cs_in a3 b3) (cs_in a4 b4))))
  rw [w64_id (by omega), if_pos (by omega), alive_true]
  rfl
end Go.Proofs.Ytmhhjhckbiaidaa.FactOrders
