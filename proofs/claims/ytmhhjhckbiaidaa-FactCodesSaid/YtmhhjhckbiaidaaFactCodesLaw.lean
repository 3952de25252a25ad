/- The plain law of FactCodes: the bytes of any batch, and the batch of any bytes, or what is wrong. -/
import Derived.Test.YtmhhjhckbiaidaaFactCodesPure
import Derived.Test.YtmhhjhckbiaidaaELaw
import Derived.KernelRfl
set_option linter.unusedVariables false
set_option linter.unusedSimpArgs false
namespace Go.Proofs.Ytmhhjhckbiaidaa.FactCodes
open Go E

theorem loop_eq (K : Nat) (a1 a2 a3 a4 : List UInt8) (d : Int) : ∀ (k : Nat) (i : Int), fact_Check_l0 K a1 a2 a3 a4 d k i = ossuaryref09_Check_l0 K a1 a2 a3 a4 d k i
  | 0, i => rfl
  | k + 1, i => by rw [fact_Check_l0, ossuaryref09_Check_l0, loop_eq K a1 a2 a3 a4 d k]
theorem loop_some (K : Nat) (a1 a2 a3 a4 : List UInt8) (d : Int) : ∀ (k i : Nat), i ≤ 4 → 4 < i + k → ∃ x, ossuaryref09_Check_l0 K a1 a2 a3 a4 d k i = some x
  | 0, i, h1, h2 => by omega
  | k + 1, i, h1, h2 => by
    rw [ossuaryref09_Check_l0]
    by_cases h : i < 4
    · have hn : w64 ((i : Int) + 1) = ((i + 1 : Nat) : Int) := by rw [w64_id (by omega)]; omega
      obtain ⟨x, hx⟩ := loop_some K a1 a2 a3 a4 d k (i + 1) (by omega) (by omega)
      rw [if_pos (by omega), if_pos (by omega), if_pos (by omega), hn, hx]
      split
      · exact ⟨_, rfl⟩
      · split
        · split
          · exact ⟨_, rfl⟩
          · exact ⟨_, rfl⟩
        · exact ⟨_, rfl⟩
    · rw [if_neg (by omega)]; exact ⟨_, rfl⟩
theorem check_eq (h : Int) (a1 a2 a3 a4 : List UInt8) (v d : Int) : fact_Check 300 h a1 a2 a3 a4 v d = ossuaryref09_Check 300 h a1 a2 a3 a4 v d ∧ ∃ x, ossuaryref09_Check 300 h a1 a2 a3 a4 v d = some x := by
  obtain ⟨x, hx⟩ := loop_some 300 a1 a2 a3 a4 d 300 0 (by omega) (by omega)
  have hx' : ossuaryref09_Check_l0 300 a1 a2 a3 a4 d 300 0 = some x := hx
  unfold fact_Check ossuaryref09_Check fact_many
  simp only [thn_eq, loop_eq, hx']
  by_cases h1 : d < 1
  · rw [if_neg (show ¬ 1 ≤ d by omega), if_pos h1]; simp only [Bool.not_false, if_true]; exact ⟨trivial, _, rfl⟩
  · rw [if_pos (show 1 ≤ d by omega), if_neg h1]
    by_cases h2 : 4 < d
    · rw [decide_eq_false (show ¬ d ≤ 4 by omega), if_pos h2]; simp only [Bool.not_false, if_true]; exact ⟨trivial, _, rfl⟩
    · rw [decide_eq_true (show d ≤ 4 by omega), if_neg h2]
      simp only [Bool.not_true, Bool.false_eq_true, if_false]
      refine ⟨trivial, ?_⟩
      split
      · exact ⟨_, rfl⟩
      · split
        · exact ⟨_, rfl⟩
        · split
          · exact ⟨_, rfl⟩
          · split <;> exact ⟨_, rfl⟩
theorem all_loop (l : List Api_Fact) (hl : l.length ≤ 100) (d : Int) : ∀ (k i : Nat), i ≤ l.length → l.length < i + k → fact_All_l0 300 l d k i = ossuaryref09_All_l0 300 l d k i ∧ ∃ x, ossuaryref09_All_l0 300 l d k i = some x
  | 0, i, h1, h2 => by omega
  | k + 1, i, h1, h2 => by
    rw [fact_All_l0, ossuaryref09_All_l0]
    by_cases h : i < l.length
    · have hn : w64 ((i : Int) + 1) = ((i + 1 : Nat) : Int) := by rw [w64_id (by omega)]; omega
      obtain ⟨e, x, hx⟩ := check_eq ((l.getD (i : Int).toNat z_Api_Fact).Key).Hour ((l.getD (i : Int).toNat z_Api_Fact).Key).Dims_0 ((l.getD (i : Int).toNat z_Api_Fact).Key).Dims_1 ((l.getD (i : Int).toNat z_Api_Fact).Key).Dims_2 ((l.getD (i : Int).toNat z_Api_Fact).Key).Dims_3 (l.getD (i : Int).toNat z_Api_Fact).Value d
      obtain ⟨e2, y, hy⟩ := all_loop l hl d k (i + 1) (by omega) (by omega)
      rw [if_pos (by omega), if_pos (by omega), if_pos (by omega), if_pos (by omega), e, hx, hn, e2, hy]
      refine ⟨rfl, ?_⟩
      simp only [Option.bind_some]
      split <;> exact ⟨_, rfl⟩
    · rw [if_neg (by omega), if_neg (by omega)]; exact ⟨rfl, _, rfl⟩
theorem all_eq (l : List Api_Fact) (hl : l.length ≤ 100) (d : Int) : fact_All 300 l d = ossuaryref09_All 300 l d ∧ ∃ x, ossuaryref09_All 300 l d = some x := by
  obtain ⟨e, x, hx⟩ := all_loop l hl d 300 0 (by omega) (by omega)
  have e' : fact_All_l0 300 l d 300 0 = ossuaryref09_All_l0 300 l d 300 0 := e
  have hx' : ossuaryref09_All_l0 300 l d 300 0 = some x := hx
  unfold fact_All ossuaryref09_All fact_many
  simp only [thn_eq, e', hx']
  by_cases h1 : d < 1
  · rw [if_neg (show ¬ 1 ≤ d by omega), if_pos h1]; exact ⟨rfl, _, rfl⟩
  · rw [if_pos (show 1 ≤ d by omega), if_neg h1]
    by_cases h2 : 4 < d
    · rw [decide_eq_false (show ¬ d ≤ 4 by omega), if_pos h2]; exact ⟨rfl, _, rfl⟩
    · rw [decide_eq_true (show d ≤ 4 by omega), if_neg h2]
      simp only [Bool.not_true, Bool.false_eq_true, if_false]
      by_cases h3 : (l.length : Int) = 0
      · rw [if_pos h3, if_pos (by omega)]; exact ⟨rfl, _, rfl⟩
      · rw [if_neg h3, if_neg (show ¬ (l.length : Int) < 1 by omega)]
        refine ⟨rfl, ?_⟩
        split <;> exact ⟨_, rfl⟩
theorem light1 (l : List Api_Fact) (i : Nat) : ∀ (k j : Nat), j ≤ 4 → 4 < j + k → ∃ x, ossuarylaw09_Light_l1 300 l i k j = some x
  | 0, j, h1, h2 => by omega
  | k + 1, j, h1, h2 => by
    rw [ossuarylaw09_Light_l1]
    by_cases h : j < 4
    · have hn : w64 ((j : Int) + 1) = ((j + 1 : Nat) : Int) := by rw [w64_id (by omega)]; omega
      obtain ⟨x, hx⟩ := light1 l i k (j + 1) (by omega) (by omega)
      rw [if_pos (by omega), if_pos (by omega), if_pos (by omega), if_pos (by omega), hn, hx]
      split <;> exact ⟨_, rfl⟩
    · rw [if_neg (by omega)]; exact ⟨_, rfl⟩
theorem light0 (l : List Api_Fact) (hl : l.length ≤ 100) : ∀ (k i : Nat), i ≤ l.length → l.length < i + k → ∃ x, ossuarylaw09_Light_l0 300 l k i = some x
  | 0, i, h1, h2 => by omega
  | k + 1, i, h1, h2 => by
    rw [ossuarylaw09_Light_l0]
    by_cases h : i < l.length
    · have hn : w64 ((i : Int) + 1) = ((i + 1 : Nat) : Int) := by rw [w64_id (by omega)]; omega
      obtain ⟨x, hx⟩ := light0 l hl k (i + 1) (by omega) (by omega)
      obtain ⟨z, hz⟩ := light1 l i 300 0 (by omega) (by omega)
      have hz' : ossuarylaw09_Light_l1 300 l i 300 0 = some z := hz
      rw [if_pos (by omega), hz', hn]
      cases z with
      | inl u => simp only [Option.bind_some, cas]; exact ⟨x, hx⟩
      | inr b => simp only [Option.bind_some, cas]; exact ⟨b, rfl⟩
    · rw [if_neg (by omega)]; exact ⟨_, rfl⟩
theorem light (l : List Api_Fact) : ∃ b, ossuarylaw09_Light 300 l = some b ∧ (b = true → l.length ≤ 100) := by
  unfold ossuarylaw09_Light
  by_cases h : 100 < (l.length : Int)
  · rw [if_pos h]; exact ⟨false, rfl, fun h => by cases h⟩
  · rw [if_neg h]
    obtain ⟨b, hb⟩ := light0 l (by omega) 300 0 (by omega) (by omega)
    exact ⟨b, hb, fun _ => by omega⟩

/-! ### Light: texts are short -/
def short (f : Api_Fact) : Prop := f.Key.Dims_0.length ≤ 40 ∧ f.Key.Dims_1.length ≤ 40 ∧ f.Key.Dims_2.length ≤ 40 ∧ f.Key.Dims_3.length ≤ 40
theorem getD_at {α : Type} (l : List α) (n : Nat) (h : n < l.length) (z : α) : l.getD n z = l[n] := by simp [List.getD_eq_getElem?_getD, List.getElem?_eq_getElem h]
theorem w_step {i : Nat} (h : i < 1000000) : w64 ((i : Int) + 1) = ((i + 1 : Nat) : Int) := by rw [w64_id (by omega)]; omega
def dims (f : Api_Fact) : List (List UInt8) := [f.Key.Dims_0, f.Key.Dims_1, f.Key.Dims_2, f.Key.Dims_3]
theorem l1_step (l : List Api_Fact) (i j k : Nat) (hj : j < 4) : ossuarylaw09_Light_l1 300 l i (k + 1) j = if 40 < (((dims (l.getD i z_Api_Fact)).getD j []).length : Int) then some (Sum.inr false) else ossuarylaw09_Light_l1 300 l i k ((j + 1 : Nat) : Int) := by
  rw [ossuarylaw09_Light_l1, if_pos (by omega), if_pos (by omega), if_pos (by omega), if_pos (by omega), w_step (by omega), Int.toNat_natCast, Int.toNat_natCast]
  rfl
theorem l1_end (l : List Api_Fact) (i k : Nat) : ossuarylaw09_Light_l1 300 l i (k + 1) ((4 : Nat) : Int) = some (Sum.inl ()) := by
  rw [ossuarylaw09_Light_l1, if_neg (by omega)]
theorem light1_le (l : List Api_Fact) (i : Nat) : ∀ (k j : Nat), j ≤ 4 → ossuarylaw09_Light_l1 300 l i k j = some (Sum.inl ()) → ∀ q, j ≤ q → q < 4 → ((dims (l.getD i z_Api_Fact)).getD q []).length ≤ 40
  | 0, j, _, h, _, _, _ => by simp [ossuarylaw09_Light_l1] at h
  | k + 1, j, hj, h, q, h1, h2 => by
    rw [l1_step l i j k (by omega)] at h
    split at h
    · simp at h
    · rename_i hn
      by_cases e : q = j
      · subst e; omega
      · exact light1_le l i k (j + 1) (by omega) h q (by omega) h2
theorem light1_inr (l : List Api_Fact) (i : Nat) : ∀ (k j : Nat) (b : Bool), j ≤ 4 → ossuarylaw09_Light_l1 300 l i k j = some (Sum.inr b) → b = false
  | 0, j, b, _, h => by simp [ossuarylaw09_Light_l1] at h
  | k + 1, j, b, hj, h => by
    by_cases e : j = 4
    · subst e; rw [l1_end] at h; simp at h
    · rw [l1_step l i j k (by omega)] at h
      split at h
      · simp at h; exact h
      · exact light1_inr l i k (j + 1) b (by omega) h
theorem light0_short (l : List Api_Fact) (hl : l.length ≤ 100) : ∀ (k i : Nat), l.length < i + k → ossuarylaw09_Light_l0 300 l k i = some true → ∀ j, i ≤ j → j < l.length → short (l.getD j z_Api_Fact)
  | 0, i, h1, h2, j, h3, h4 => by omega
  | k + 1, i, h1, h2, j, h3, h4 => by
    rw [ossuarylaw09_Light_l0, if_pos (by omega), w_step (by omega)] at h2
    cases hz : ossuarylaw09_Light_l1 300 l i 300 ((0 : Nat) : Int) with
    | none => rw [show ossuarylaw09_Light_l1 300 l i 300 0 = none from hz] at h2; cases h2
    | some z =>
      rw [show ossuarylaw09_Light_l1 300 l i 300 0 = some z from hz] at h2
      cases z with
      | inr b =>
        have := light1_inr l i 300 0 b (by omega) hz
        subst this
        simp [cas] at h2
      | inl u =>
        simp only [Option.bind_some, cas] at h2
        by_cases e : j = i
        · subst e
          have := light1_le l j 300 0 (by omega) hz
          exact ⟨this 0 (by omega) (by omega), this 1 (by omega) (by omega), this 2 (by omega) (by omega), this 3 (by omega) (by omega)⟩
        · exact light0_short l hl k (i + 1) (by omega) h2 j (by omega) h4
theorem light_short (l : List Api_Fact) (h : ossuarylaw09_Light 300 l = some true) : l.length ≤ 100 ∧ ∀ f ∈ l, short f := by
  unfold ossuarylaw09_Light at h
  split at h
  · simp at h
  · have hl : l.length ≤ 100 := by omega
    refine ⟨hl, fun f hf => ?_⟩
    obtain ⟨j, hj, rfl⟩ := List.getElem_of_mem hf
    have := light0_short l hl 300 0 (by omega) h j (by omega) hj
    simpa [List.getD_eq_getElem?_getD, hj] using this

/-! ### Numbers as bytes -/
def num : Nat → Nat → List Int
  | 0, n => [(n : Int)]
  | m + 1, n => if 128 ≤ n then ((n % 128 + 128 : Nat) : Int) :: num m (n / 128) else [(n : Int)]
theorem num_len : ∀ m n, (num m n).length ≤ m + 1
  | 0, n => by simp [num]
  | m + 1, n => by
    rw [num]; split
    · have := num_len m (n / 128); simp; omega
    · simp
theorem or128 (n : Nat) : bOr .u8 (wu8 n) 128 = ((n % 128 + 128 : Nat) : Int) := by
  have key : ∀ x : Fin 256, bOr .u8 (x.val : Int) 128 = ((x.val % 128 + 128 : Nat) : Int) := by decide +kernel
  have e : wu8 (n : Int) = ((n % 256 : Nat) : Int) := by simp [wu8, IntKind.wrap, IntKind.signed, IntKind.bits]
  rw [e, key ⟨n % 256, Nat.mod_lt _ (by decide)⟩]
  congr 2
  show n % 256 % 128 = n % 128
  omega
theorem shr7 (n : Nat) : bShr .u64 (n : Int) 7 = ((n / 128 : Nat) : Int) := by
  have e : (2 : Int) ^ min (7 : Int).toNat IntKind.u64.bits = 128 := by decide
  unfold bShr
  rw [e, Int.fdiv_eq_ediv_of_nonneg _ (by decide)]; rfl
theorem wu8_small {n : Nat} (h : n < 128) : wu8 (n : Int) = n := by
  simp [wu8, IntKind.wrap, IntKind.signed, IntKind.bits]; omega
theorem wnum (K : Nat) : ∀ (m n k : Nat) (l : List Int), n < 128 ^ (m + 1) → m < k → l.length + m + 1 ≤ 1000000 →
    (pack_Writer_Num_2_l0 K k n l).bind (fun x1 => if (x1.1.length + [wu8 x1.2].length) * 1 ≤ 140737488355328 then some (x1.1 ++ [wu8 x1.2]) else none) = some (l ++ num m n)
  | m, n, 0, l, h1, h2, h3 => by omega
  | 0, n, k + 1, l, h1, h2, h3 => by
    rw [pack_Writer_Num_2_l0, if_neg (by omega)]
    simp only [Option.bind_some, List.length_singleton]
    rw [if_pos (by omega), wu8_small (by omega), num]
  | m + 1, n, k + 1, l, h1, h2, h3 => by
    rw [pack_Writer_Num_2_l0, num]
    by_cases h : 128 ≤ n
    · rw [if_pos (by omega), if_pos h, if_pos (by simp; omega), or128, shr7]
      rw [wnum K m (n / 128) k _ (by rw [Nat.pow_succ] at h1; exact Nat.div_lt_of_lt_mul (by omega)) (by omega) (by simp; omega)]
      simp
    · rw [if_neg (by omega), if_neg h]
      simp only [Option.bind_some, List.length_singleton]
      rw [if_pos (by omega), wu8_small (by omega)]
theorem num0_eq (K : Nat) : ∀ (k : Nat) (n : Int) (l : List Int), pack_Writer_Num_l0 K k n l = pack_Writer_Num_2_l0 K k n l
  | 0, _, _ => rfl
  | k + 1, n, l => by rw [pack_Writer_Num_l0, pack_Writer_Num_2_l0, num0_eq K k]
theorem refnum0_eq (K : Nat) : ∀ (k n : Nat) (l : List Int), n < 18446744073709551616 → ossuaryref01_Num_l0 K k n l = pack_Writer_Num_2_l0 K k n l
  | 0, _, _, _ => rfl
  | k + 1, n, l, h => by
    rw [ossuaryref01_Num_l0, pack_Writer_Num_2_l0]
    have e1 : wu8 (wu64 (Int.tmod n 128 + 128)) = bOr .u8 (wu8 n) 128 := by
      rw [or128, Int.tmod_eq_emod_of_nonneg (by omega), wu64_id (by omega)]
      simp [wu8, IntKind.wrap, IntKind.signed, IntKind.bits]; omega
    have e2 : wu64 (Int.tdiv n 128) = ((n / 128 : Nat) : Int) := by
      rw [Int.tdiv_eq_ediv_of_nonneg (by omega), wu64_id (by omega)]; rfl
    rw [e1, e2, shr7, refnum0_eq K k (n / 128) _ (by omega)]
    by_cases hn : 128 ≤ n
    · rw [if_pos (show (127 : Int) < n by omega), if_pos (show (128 : Int) ≤ n by omega)]
    · rw [if_neg (show ¬ (127 : Int) < n by omega), if_neg (show ¬ (128 : Int) ≤ n by omega)]
theorem p64 : (18446744073709551616 : Nat) ≤ 128 ^ 10 := by decide
theorem num2 (n : Nat) (l : List Int) (h : n < 18446744073709551616) (hl : l.length ≤ 900000) : pack_Writer_Num_2 300 l n = some (l ++ num 9 n) :=
  wnum 300 9 n 300 l (Nat.lt_of_lt_of_le h p64) (by omega) (by omega)
theorem num1 (n : Nat) (h : n < 18446744073709551616) : pack_Writer_Num 300 n = some (num 9 n) := by
  have := wnum 300 9 n 300 [] (Nat.lt_of_lt_of_le h p64) (by omega) (by simp)
  unfold pack_Writer_Num
  rw [num0_eq]
  simpa using this
theorem refnum (n : Nat) (h : n < 18446744073709551616) : ossuaryref01_Num 300 n = some (num 9 n) := by
  have := wnum 300 9 n 300 [] (Nat.lt_of_lt_of_le h p64) (by omega) (by simp)
  unfold ossuaryref01_Num
  rw [refnum0_eq 300 300 n [] h]
  simpa using this
theorem wu64_nat (a : Int) : ∃ n : Nat, wu64 a = n ∧ n < 18446744073709551616 := by
  have := wu64_in a
  exact ⟨(wu64 a).toNat, by omega, by omega⟩
theorem xorU (a b : Nat) (ha : a < 18446744073709551616) (hb : b < 18446744073709551616) : bXor .u64 a b = ((a ^^^ b : Nat) : Int) := by
  have h := Nat.xor_lt_two_pow (n := 64) ha hb
  have e : BitVec.ofInt 64 (a : Int) = BitVec.ofNat 64 a := by simp
  have e' : BitVec.ofInt 64 (b : Int) = BitVec.ofNat 64 b := by simp
  show wu64 ((BitVec.ofInt 64 (a : Int) ^^^ BitVec.ofInt 64 (b : Int)).toNat : Int) = _
  rw [e, e', BitVec.toNat_xor, BitVec.toNat_ofNat, BitVec.toNat_ofNat, Nat.mod_eq_of_lt ha, Nat.mod_eq_of_lt hb, wu64_id (by omega)]
theorem xor_ones (a : Nat) (ha : a < 18446744073709551616) : a ^^^ 18446744073709551615 = 18446744073709551615 - a := by
  have h1 : (BitVec.ofNat 64 a ^^^ BitVec.allOnes 64).toNat = (~~~ BitVec.ofNat 64 a).toNat := by rw [BitVec.xor_allOnes]
  rw [BitVec.toNat_xor, BitVec.toNat_not, BitVec.toNat_ofNat, Nat.mod_eq_of_lt ha] at h1
  simpa using h1
/-- A number with a sign, as one without. -/
def zig (a : Int) : Nat := if 0 ≤ a then (2 * a).toNat else (-2 * a - 1).toNat
theorem zig_lt {a : Int} (h : inI .i64 a) : zig a < 18446744073709551616 := by
  have := in64 h; unfold zig; split <;> omega
theorem zig_eq {a : Int} (h : inI .i64 a) : bXor .u64 (wu64 (bShl .i64 a 1)) (wu64 (bShr .i64 a 63)) = zig a := by
  have h' := in64 h
  have e1 : bShl .i64 a 1 = w64 (a * 2) := by
    show w64 (a * 2 ^ min (1 : Int).toNat 64) = _
    rfl
  rw [e1, shr63 h']
  obtain ⟨n, hn, hlt⟩ := wu64_nat (w64 (a * 2))
  rw [hn]
  have hv : (n : Int) = (2 * a) % 18446744073709551616 := by
    rw [← hn, wu64_def, w64_def]; split <;> omega
  unfold zig
  by_cases ha : a < 0
  · rw [if_pos ha, if_neg (by omega), show wu64 (-1) = ((18446744073709551615 : Nat) : Int) by decide, xorU n _ hlt (by decide), xor_ones n hlt]
    omega
  · rw [if_neg ha, if_pos (by omega), show wu64 0 = ((0 : Nat) : Int) by decide, xorU n 0 hlt (by decide), Nat.xor_zero]
    omega
theorem zig_ref {a : Int} (h : inI .i64 a) : (if 0 ≤ a then wu64 (2 * wu64 a) else wu64 (wu64 (2 * wu64 (w64 (0 - w64 (a + 1)))) + 1)) = zig a := by
  have h' := in64 h
  unfold zig
  split
  · rw [wu64_id (by omega) (n := a), wu64_id (by omega)]; omega
  · rw [w64_id (by omega) (n := a + 1), w64_id (by omega), wu64_id (by omega) (n := 0 - (a + 1)), wu64_id (by omega) (n := 2 * (0 - (a + 1))), wu64_id (by omega)]; omega
theorem wint {a : Int} (h : inI .i64 a) (l : List Int) (hl : l.length ≤ 900000) : pack_Writer_Int 300 l a = some (l ++ num 9 (zig a)) := by
  unfold pack_Writer_Int
  rw [zig_eq h, num2 _ l (zig_lt h) hl]; rfl
theorem refint {a : Int} (h : inI .i64 a) : ossuaryref01_Int 300 a = some (num 9 (zig a)) := by
  have e := zig_ref h
  unfold ossuaryref01_Int
  split
  · rename_i h0; rw [if_pos h0] at e; rw [e, refnum _ (zig_lt h)]; rfl
  · rename_i h0; rw [if_neg h0] at e; rw [e, refnum _ (zig_lt h)]; rfl
theorem byts_len (s : List UInt8) : (byts s).length = s.length := by simp [byts]
theorem wtext (s : List UInt8) (l : List Int) (hs : s.length ≤ 40) (hl : l.length ≤ 800000) : pack_Writer_Text 300 l s = some (l ++ (num 9 s.length ++ byts s)) := by
  unfold pack_Writer_Text
  rw [wu64_id (by omega), num2 _ l (by omega) (by omega)]
  have := num_len 9 s.length
  simp only [Option.bind_some]
  rw [if_pos (by simp; omega)]
  simp
theorem reftext (s : List UInt8) (hs : s.length ≤ 40) : ossuaryref01_Text 300 s = some (num 9 s.length ++ byts s) := by
  unfold ossuaryref01_Text
  rw [wu64_id (by omega), refnum _ (by omega)]
  have := num_len 9 s.length
  simp only [Option.bind_some]
  rw [if_pos (by omega)]

/-! ### Batches as bytes -/
def txt (s : List UInt8) : List Int := num 9 s.length ++ byts s
def fbytes (d : Nat) (f : Api_Fact) : List Int := num 9 (wu64 f.Key.Hour).toNat ++ ((dims f).take d).flatMap txt ++ num 9 (zig f.Value)
theorem txt_len {s : List UInt8} (h : s.length ≤ 40) : (txt s).length ≤ 50 := by
  have := num_len 9 s.length
  simp [txt, byts_len]; omega
theorem short_dims {f : Api_Fact} (h : short f) : ∀ s ∈ dims f, s.length ≤ 40 := by
  intro s hs
  simp [dims] at hs
  obtain ⟨h0, h1, h2, h3⟩ := h
  rcases hs with rfl | rfl | rfl | rfl <;> assumption
theorem flat_len {L : List (List UInt8)} (h : ∀ s ∈ L, s.length ≤ 40) : (L.flatMap txt).length ≤ L.length * 50 := by
  induction L with
  | nil => simp
  | cons s L ih =>
    have h1 := txt_len (h s (by simp))
    have h2 := ih (fun t ht => h t (by simp [ht]))
    simp only [List.flatMap_cons, List.length_append, List.length_cons]
    omega
theorem fbytes_len {f : Api_Fact} (h : short f) (d : Nat) : (fbytes d f).length ≤ 220 := by
  have h1 := num_len 9 (wu64 f.Key.Hour).toNat
  have h2 := num_len 9 (zig f.Value)
  have h3 := flat_len (L := (dims f).take d) (fun s hs => short_dims h s (List.mem_of_mem_take hs))
  have h4 : ((dims f).take d).length ≤ 4 := by simp [dims]; omega
  simp only [fbytes, List.length_append]
  omega
theorem enc1 (l0 : List Api_Fact) (d : Nat) (hd : d ≤ 4) (i : Nat) (hs : short (l0.getD i z_Api_Fact)) : ∀ (k j : Nat) (l : List Int), j ≤ d → d < j + k → l.length + (d - j) * 50 ≤ 700000 →
    fact_Encode_l1 300 l0 d i k j l = some (l ++ (((dims (l0.getD i z_Api_Fact)).take d).drop j).flatMap txt)
  | 0, j, l, h1, h2, h3 => by omega
  | k + 1, j, l, h1, h2, h3 => by
    rw [fact_Encode_l1]
    have el : ([((l0.getD (i : Int).toNat z_Api_Fact).Key).Dims_0, ((l0.getD (i : Int).toNat z_Api_Fact).Key).Dims_1, ((l0.getD (i : Int).toNat z_Api_Fact).Key).Dims_2, ((l0.getD (i : Int).toNat z_Api_Fact).Key).Dims_3] : List (List UInt8)) = dims (l0.getD i z_Api_Fact) := rfl
    rw [el, Int.toNat_natCast, Int.toNat_natCast]
    have hlen : ((dims (l0.getD i z_Api_Fact)).take d).length = d := by simp [dims]; omega
    rw [hlen]
    by_cases h : j < d
    · have hj : j < ((dims (l0.getD i z_Api_Fact)).take d).length := by omega
      have hm : ((dims (l0.getD i z_Api_Fact)).take d)[j] ∈ dims (l0.getD i z_Api_Fact) := List.mem_of_mem_take (List.getElem_mem hj)
      have hsh := short_dims hs _ hm
      have hg : ((dims (l0.getD i z_Api_Fact)).take d).getD j [] = ((dims (l0.getD i z_Api_Fact)).take d)[j] := getD_at _ _ hj _
      rw [if_pos (by omega), if_pos (by omega), hg, wtext _ l hsh (by omega), w_step (by omega)]
      have ht := txt_len hsh
      simp only [Option.bind_some]
      have := enc1 l0 d hd i hs k (j + 1) (l ++ txt ((dims (l0.getD i z_Api_Fact)).take d)[j]) (by omega) (by omega) (by simp only [List.length_append]; omega)
      rw [show l ++ (num 9 ((dims (l0.getD i z_Api_Fact)).take d)[j].length ++ byts ((dims (l0.getD i z_Api_Fact)).take d)[j]) = l ++ txt ((dims (l0.getD i z_Api_Fact)).take d)[j] from rfl, this]
      rw [List.drop_eq_getElem_cons hj]
      simp
    · rw [if_neg (by omega), List.drop_of_length_le (by omega)]
      simp
theorem renc1 (l0 : List Api_Fact) (d : Nat) (hd : d ≤ 4) (i : Nat) (hs : short (l0.getD i z_Api_Fact)) : ∀ (k j : Nat) (l : List Int), j ≤ d → d < j + k → l.length + (d - j) * 50 ≤ 700000 →
    ossuaryref09_Encode_l1 300 l0 d i k j l = some (l ++ (((dims (l0.getD i z_Api_Fact)).take d).drop j).flatMap txt)
  | 0, j, l, h1, h2, h3 => by omega
  | k + 1, j, l, h1, h2, h3 => by
    rw [ossuaryref09_Encode_l1]
    have el : ([((l0.getD (i : Int).toNat z_Api_Fact).Key).Dims_0, ((l0.getD (i : Int).toNat z_Api_Fact).Key).Dims_1, ((l0.getD (i : Int).toNat z_Api_Fact).Key).Dims_2, ((l0.getD (i : Int).toNat z_Api_Fact).Key).Dims_3] : List (List UInt8)) = dims (l0.getD i z_Api_Fact) := rfl
    rw [el, Int.toNat_natCast]
    have hlen : ((dims (l0.getD i z_Api_Fact)).take d).length = d := by simp [dims]; omega
    have hlen4 : (dims (l0.getD i z_Api_Fact)).length = 4 := rfl
    by_cases h : j < d
    · have hj : j < ((dims (l0.getD i z_Api_Fact)).take d).length := by omega
      have hj4 : j < (dims (l0.getD i z_Api_Fact)).length := by omega
      have hsh := short_dims hs _ (List.getElem_mem hj4)
      have hg : (dims (l0.getD i z_Api_Fact)).getD j [] = (dims (l0.getD i z_Api_Fact))[j] := getD_at _ _ hj4 _
      have ht := txt_len hsh
      rw [if_pos (by omega), if_pos (by omega), if_pos (by omega), hg, reftext _ hsh, w_step (by omega)]
      simp only [Option.bind_some]
      rw [show num 9 (dims (l0.getD i z_Api_Fact))[j].length ++ byts (dims (l0.getD i z_Api_Fact))[j] = txt (dims (l0.getD i z_Api_Fact))[j] from rfl, if_pos (by omega)]
      rw [renc1 l0 d hd i hs k (j + 1) (l ++ txt (dims (l0.getD i z_Api_Fact))[j]) (by omega) (by omega) (by simp only [List.length_append]; omega)]
      rw [List.drop_eq_getElem_cons hj]
      simp
    · rw [if_neg (by omega), List.drop_of_length_le (by omega)]
      simp
theorem clone_eq (l : List Int) (h : l.length ≤ 900000) : bytes_Clone l = some l := by
  unfold bytes_Clone
  by_cases h0 : 0 < l.length
  · rw [if_pos h0, if_pos (by simp; omega)]; simp
  · have : l = [] := List.eq_nil_of_length_eq_zero (by omega)
    subst this; rfl
theorem enc0 (l0 : List Api_Fact) (hs : ∀ f ∈ l0, short f) (hok : ∀ f ∈ l0, ok_Api_Fact f) (hl : l0.length ≤ 100) (d : Nat) (hd : d ≤ 4) : ∀ (k i : Nat) (l : List Int), i ≤ l0.length → l0.length < i + k → l.length + (l0.length - i) * 220 ≤ 600000 →
    fact_Encode_l0 300 l0 d k i l = some (0, l ++ (l0.drop i).flatMap (fbytes d)) ∧ ossuaryref09_Encode_l0 300 l0 d k i l = some (0, l ++ (l0.drop i).flatMap (fbytes d))
  | 0, i, l, h1, h2, h3 => by omega
  | k + 1, i, l, h1, h2, h3 => by
    rw [fact_Encode_l0, ossuaryref09_Encode_l0]
    by_cases h : i < l0.length
    · have hg : l0.getD i z_Api_Fact = l0[i] := getD_at _ _ h _
      have hsh : short (l0.getD i z_Api_Fact) := by rw [hg]; exact hs _ (List.getElem_mem h)
      have hf : ok_Api_Fact (l0.getD i z_Api_Fact) := by rw [hg]; exact hok _ (List.getElem_mem h)
      obtain ⟨n, hn, hlt⟩ := wu64_nat (l0.getD i z_Api_Fact).Key.Hour
      have hnl := num_len 9 n
      have hd1 := flat_len (L := (dims (l0.getD i z_Api_Fact)).take d) (fun s hs' => short_dims hsh s (List.mem_of_mem_take hs'))
      have hd2 : ((dims (l0.getD i z_Api_Fact)).take d).length ≤ 4 := by simp [dims]; omega
      have hz := num_len 9 (zig (l0.getD i z_Api_Fact).Value)
      have e1 := enc1 l0 d hd i hsh 300 0 (l ++ num 9 n) (by omega) (by omega) (by simp only [List.length_append]; omega)
      have e2 := renc1 l0 d hd i hsh 300 0 (l ++ num 9 n) (by omega) (by omega) (by simp only [List.length_append]; omega)
      simp only [List.drop_zero] at e1 e2
      have e1' : fact_Encode_l1 300 l0 d i 300 0 (l ++ num 9 n) = some (l ++ num 9 n ++ ((dims (l0.getD i z_Api_Fact)).take d).flatMap txt) := e1
      have e2' : ossuaryref09_Encode_l1 300 l0 d i 300 0 (l ++ num 9 n) = some (l ++ num 9 n ++ ((dims (l0.getD i z_Api_Fact)).take d).flatMap txt) := e2
      have hb : fbytes d (l0.getD i z_Api_Fact) = num 9 n ++ ((dims (l0.getD i z_Api_Fact)).take d).flatMap txt ++ num 9 (zig (l0.getD i z_Api_Fact).Value) := by
        unfold fbytes; rw [hn, Int.toNat_natCast]
      have hbl := fbytes_len hsh d
      obtain ⟨r1, r2⟩ := enc0 l0 hs hok hl d hd k (i + 1) (l ++ fbytes d (l0.getD i z_Api_Fact)) (by omega) (by omega) (by simp only [List.length_append]; omega)
      have hdrop : (l0.drop i).flatMap (fbytes d) = fbytes d (l0.getD i z_Api_Fact) ++ (l0.drop (i + 1)).flatMap (fbytes d) := by
        rw [hg, List.drop_eq_getElem_cons h, List.flatMap_cons]
      rw [if_pos (by omega), if_pos (by omega), if_pos (by omega), if_pos (by omega), Int.toNat_natCast, hn, num2 n l hlt (by omega), refnum n hlt, w_step (by omega)]
      simp only [Option.bind_some]
      rw [if_pos (by omega), if_pos (by omega), e1', if_pos (by omega), e2']
      simp only [Option.bind_some]
      rw [wint hf.2 _ (by simp only [List.length_append]; omega), refint hf.2]
      simp only [Option.bind_some]
      rw [if_pos (by simp only [List.length_append]; omega)]
      simp only [Option.bind_some]
      have ea : l ++ num 9 n ++ ((dims (l0.getD i z_Api_Fact)).take d).flatMap txt ++ num 9 (zig (l0.getD i z_Api_Fact).Value) = l ++ fbytes d (l0.getD i z_Api_Fact) := by rw [hb]; simp
      rw [ea, r1, r2, hdrop]
      simp
    · rw [if_neg (by omega), if_neg (by omega), List.drop_of_length_le (by omega)]
      unfold pack_Writer_Bytes
      rw [clone_eq l (by omega)]
      simp
/-- What a batch's bytes are. -/
theorem encode (l0 : List Api_Fact) (hs : ∀ f ∈ l0, short f) (hok : ∀ f ∈ l0, ok_Api_Fact f) (hl : l0.length ≤ 100) (d : Int) :
    ∃ r, fact_Encode 300 l0 d = some r ∧ ossuaryref09_Encode 300 l0 d = some r := by
  obtain ⟨e, ⟨f, n⟩, hx⟩ := all_eq l0 hl d
  unfold fact_Encode ossuaryref09_Encode
  rw [e, hx]
  simp only [Option.bind_some]
  by_cases hf : f = 0
  · rw [if_neg (by simp [hf]), if_neg (by simp [hf]), wu64_id (by omega), num1 _ (by omega), refnum _ (by omega)]
    simp only [Option.bind_some]
    -- so many dimensions
    have hd : 1 ≤ d ∧ d ≤ 4 := by
      unfold ossuaryref09_All at hx
      split at hx
      · simp [hf] at hx
      · split at hx
        · simp [hf] at hx
        · omega
    obtain ⟨q, rfl⟩ := Int.eq_ofNat_of_zero_le (show 0 ≤ d by omega)
    have hn := num_len 9 l0.length
    obtain ⟨r1, r2⟩ := enc0 l0 hs hok hl q (by omega) 300 0 (num 9 l0.length) (by omega) (by omega) (by omega)
    exact ⟨_, r1, r2⟩
  · rw [if_pos hf, if_pos hf]
    exact ⟨_, rfl, rfl⟩

/-! ### Bytes as numbers -/
def bytesOk (l : List Int) : Prop := ∀ c ∈ l, 0 ≤ c ∧ c ≤ 255
theorem bytesOk_cons {c : Int} {l : List Int} (h : bytesOk (c :: l)) : (0 ≤ c ∧ c ≤ 255) ∧ bytesOk l := ⟨h c (by simp), fun d hd => h d (by simp [hd])⟩
theorem bytesOk_drop {l : List Int} (h : bytesOk l) (n : Nat) : bytesOk (l.drop n) := fun d hd => h d (List.mem_of_mem_drop hd)
/-- The number that comes next, from group i on, j groups more; what is left; the fault. -/
def rdN : Nat → Nat → Nat → List Int → Nat × List Int × Int
  | 0, i, n, l => (0, l, 4)
  | j + 1, i, n, [] => (0, [], 3)
  | j + 1, i, n, c :: r =>
    if i = 9 ∧ 1 < c % 128 then (0, r, 4) else
    if c < 128 then (if c % 128 = 0 ∧ 0 < i then (0, r, 4) else (n + (c % 128).toNat * 2 ^ (7 * i), r, 0)) else
    rdN j (i + 1) (n + (c % 128).toNat * 2 ^ (7 * i)) r
theorem andNot128 {c : Int} (h : 0 ≤ c ∧ c ≤ 255) : bAndNot .u8 c 128 = c % 128 := by
  have key : ∀ x : Fin 256, bAndNot .u8 (x.val : Int) 128 = (x.val : Int) % 128 := by decide +kernel
  have := key ⟨c.toNat, by omega⟩
  simp only at this
  rw [Int.toNat_of_nonneg h.1] at this
  exact this
theorem pow7 (i : Nat) (h : i ≤ 9) : 2 ^ (7 * i) * 2 ≤ 18446744073709551616 := by
  have : ∀ x : Fin 10, 2 ^ (7 * x.val) * 2 ≤ 18446744073709551616 := by decide
  exact this ⟨i, by omega⟩
theorem pow7' (i : Nat) (h : i ≤ 8) : 2 ^ (7 * i) * 256 ≤ 18446744073709551616 := by
  have : ∀ x : Fin 9, 2 ^ (7 * x.val) * 256 ≤ 18446744073709551616 := by decide
  exact this ⟨i, by omega⟩
theorem orU (a b : Nat) (ha : a < 18446744073709551616) (hb : b < 18446744073709551616) : bOr .u64 a b = ((a ||| b : Nat) : Int) := by
  have h := Nat.or_lt_two_pow (n := 64) ha hb
  have e : BitVec.ofInt 64 (a : Int) = BitVec.ofNat 64 a := by simp
  have e' : BitVec.ofInt 64 (b : Int) = BitVec.ofNat 64 b := by simp
  show wu64 ((BitVec.ofInt 64 (a : Int) ||| BitVec.ofInt 64 (b : Int)).toNat : Int) = _
  rw [e, e', BitVec.toNat_or, BitVec.toNat_ofNat, BitVec.toNat_ofNat, Nat.mod_eq_of_lt ha, Nat.mod_eq_of_lt hb, wu64_id (by omega)]
/-- One group: both ways. -/
theorem group {n i : Nat} {d : Int} (hi : i ≤ 9) (hn : n < 2 ^ (7 * i)) (hd : 0 ≤ d ∧ d < 128) (h9 : i = 9 → d ≤ 1) :
    n + d.toNat * 2 ^ (7 * i) < 18446744073709551616 ∧ bOr .u64 n (bShl .u64 (wu64 d) (w64 (7 * i))) = ((n + d.toNat * 2 ^ (7 * i) : Nat) : Int) ∧ wu64 ((n : Int) + wu64 (d * (2 ^ (7 * i) : Nat))) = ((n + d.toNat * 2 ^ (7 * i) : Nat) : Int) := by
  have hlt : n + d.toNat * 2 ^ (7 * i) < 18446744073709551616 := by
    by_cases h : i = 9
    · have h1 := h9 h
      have h2 := pow7 i hi
      have h3 : d.toNat * 2 ^ (7 * i) ≤ 1 * 2 ^ (7 * i) := Nat.mul_le_mul_right _ (by omega)
      omega
    · have h2 := pow7' i (by omega)
      have h3 : d.toNat * 2 ^ (7 * i) ≤ 127 * 2 ^ (7 * i) := Nat.mul_le_mul_right _ (by omega)
      omega
  obtain ⟨q, rfl⟩ := Int.eq_ofNat_of_zero_le hd.1
  rw [Int.toNat_natCast] at hlt ⊢
  refine ⟨hlt, ?_, ?_⟩
  · have e1 : w64 (7 * (i : Int)) = ((7 * i : Nat) : Int) := by rw [w64_id (by omega)]; omega
    have e2 : bShl .u64 (wu64 (q : Int)) ((7 * i : Nat) : Int) = ((q * 2 ^ (7 * i) : Nat) : Int) := by
      rw [wu64_id (by omega)]
      show wu64 ((q : Int) * 2 ^ min ((7 * i : Nat) : Int).toNat 64) = _
      rw [Int.toNat_natCast, Nat.min_eq_left (by omega)]
      have : (q : Int) * 2 ^ (7 * i) = ((q * 2 ^ (7 * i) : Nat) : Int) := by rw [Int.natCast_mul, Int.natCast_pow]; rfl
      rw [this, wu64_id (by omega)]
    rw [e1, e2, orU n _ (by omega) (by omega)]
    congr 1
    rw [Nat.or_comm, Nat.mul_comm q, ← Nat.two_pow_add_eq_or_of_lt hn]
    omega
  · have : (q : Int) * ((2 ^ (7 * i) : Nat) : Int) = ((q * 2 ^ (7 * i) : Nat) : Int) := by rw [Int.natCast_mul]
    rw [this, wu64_id (by omega) (n := ((q * 2 ^ (7 * i) : Nat) : Int)), wu64_id (by omega)]
    omega
theorem next_lt {n i : Nat} {d : Int} (hn : n < 2 ^ (7 * i)) (hd : 0 ≤ d ∧ d < 128) : n + d.toNat * 2 ^ (7 * i) < 2 ^ (7 * (i + 1)) := by
  have h3 : d.toNat * 2 ^ (7 * i) ≤ 127 * 2 ^ (7 * i) := Nat.mul_le_mul_right _ (by omega)
  have e : 2 ^ (7 * (i + 1)) = 128 * 2 ^ (7 * i) := by rw [show 7 * (i + 1) = 7 + 7 * i by omega, Nat.pow_add]
  omega
def fin (z : Option (Sum (List Int × Int) (Int × List Int × Int))) : Option (Int × List Int × Int) := Option.bind z fun z => (cas z (fun v1 => (thn (pack_Reader_bad v1.1 v1.2) fun x4 => (some ((0, v1.1, x4))))) (fun t_ => (some (t_))))
theorem take1 {c : Int} {r : List Int} (h : r.length ≤ 100000) : pack_Reader_take_2 (c :: r) 0 1 = some (0, true, r, [c]) := by
  unfold pack_Reader_take_2
  have hl : ((c :: r).length : Int) = (r.length : Int) + 1 := by simp
  rw [if_neg (by simp), hl, wu64_id (by omega), if_neg (by omega), if_pos (by decide), if_pos (by omega)]
  rfl
theorem pstep (K k i n : Nat) (c : Int) (r : List Int) (hi : i < 10) (hc : 0 ≤ c ∧ c ≤ 255) (hr : r.length ≤ 100000) : pack_Reader_Num_2_l0 K (k + 1) n i (c :: r) 0 =
    if (i : Int) = 9 ∧ 1 < c % 128 then some (Sum.inl (r, 0)) else if c < 128 then (if c % 128 = 0 ∧ (0 : Int) < i then some (Sum.inl (r, 0)) else some (Sum.inr (bOr .u64 n (bShl .u64 (wu64 (c % 128)) (w64 (7 * (i : Int)))), r, 0))) else
      pack_Reader_Num_2_l0 K k (bOr .u64 n (bShl .u64 (wu64 (c % 128)) (w64 (7 * (i : Int))))) (w64 ((i : Int) + 1)) r 0 := by
  have hg : [c].getD (0 : Int).toNat 0 = c := rfl
  have h0 : (0 : Int) < (([c] : List Int).length : Int) := by simp
  have e7 : (0 : Int) ≤ w64 (7 * (i : Int)) := by rw [w64_id (by omega)]; omega
  rw [pack_Reader_Num_2_l0, if_pos (by omega), take1 hr]
  simp only [Option.bind_some, Bool.not_true, Bool.false_eq_true, if_false, hg, andNot128 hc, h0, if_true, thn_eq]
  by_cases h9 : (i : Int) = 9
  · have hi0 : (0 : Int) < i := by omega
    rw [if_pos h9]
    by_cases hb : 1 < c % 128
    · rw [if_pos hb, if_pos ⟨h9, hb⟩]; rfl
    · rw [if_neg hb, if_neg (fun h => hb (And.right h))]
      by_cases hcl : c < 128 <;> by_cases hz : c % 128 = 0 <;> simp only [hcl, hz, hi0, e7, hg, h0, if_true, if_false, and_true, cas_inl, cas_inr]
  · rw [if_neg h9, if_neg (fun h => h9 (And.left h))]
    by_cases hcl : c < 128 <;> by_cases hz : c % 128 = 0 <;> by_cases hi0 : (0 : Int) < i <;> simp only [hcl, hz, hi0, e7, hg, h0, if_true, if_false, and_true, and_false, and_self, false_and, cas_inl, cas_inr]
theorem pnum (K : Nat) : ∀ (j k i n : Nat) (l : List Int), i + j = 10 → j < k → (i ≤ 9 → n < 2 ^ (7 * i)) → bytesOk l → l.length ≤ 100000 →
    fin (pack_Reader_Num_2_l0 K k n i l 0) = some (((rdN j i n l).1 : Int), (rdN j i n l).2.1, (rdN j i n l).2.2)
  | j, 0, i, n, l, h1, h2, h3, h4, h5 => by omega
  | 0, k + 1, i, n, l, h1, h2, h3, h4, h5 => by
    rw [pack_Reader_Num_2_l0, if_neg (by omega)]
    rfl
  | j + 1, k + 1, i, n, l, h1, h2, h3, h4, h5 => by
    cases l with
    | nil =>
      rw [pack_Reader_Num_2_l0, if_pos (by omega)]; rfl
    | cons c r =>
      obtain ⟨hc, hr⟩ := bytesOk_cons h4
      have h5' : r.length ≤ 100000 := by simp at h5; omega
      have hd : 0 ≤ c % 128 ∧ c % 128 < 128 := by omega
      rw [pstep K k i n c r (by omega) hc h5', rdN]
      by_cases h9 : i = 9 ∧ 1 < c % 128
      · rw [if_pos ⟨by omega, h9.2⟩, if_pos h9]; rfl
      · obtain ⟨g1, g2, _⟩ := group (n := n) (i := i) (by omega) (h3 (by omega)) hd (fun h => by
          by_cases hx : c % 128 ≤ 1
          · exact hx
          · exact absurd ⟨h, by omega⟩ h9)
        rw [if_neg (fun h => h9 ⟨by omega, And.right h⟩), if_neg h9, g2, w_step (by omega)]
        by_cases hcl : c < 128
        · rw [if_pos hcl, if_pos hcl]
          by_cases hz : c % 128 = 0 ∧ (0 : Int) < i
          · rw [if_pos hz, if_pos ⟨hz.1, by omega⟩]; rfl
          · rw [if_neg hz, if_neg (fun h => hz ⟨And.left h, by omega⟩)]; rfl
        · rw [if_neg hcl, if_neg hcl]
          exact pnum K j k (i + 1) _ r (by omega) (by omega) (fun hi => next_lt (h3 (by omega)) hd) hr h5'
theorem rnum (K : Nat) : ∀ (j k i n : Nat) (by_ : Int) (l : List Int), i + j = 10 → j < k → (i ≤ 9 → n < 2 ^ (7 * i) ∧ by_ = ((2 ^ (7 * i) : Nat) : Int)) → bytesOk l → l.length ≤ 100000 →
    ossuaryref01_Reader_Num_l0 K k n by_ i l 0 = some ((rdN j i n l).2.2, (rdN j i n l).2.1, ((rdN j i n l).1 : Int))
  | j, 0, i, n, by_, l, h1, h2, h3, h4, h5 => by omega
  | 0, k + 1, i, n, by_, l, h1, h2, h3, h4, h5 => by
    rw [ossuaryref01_Reader_Num_l0, if_neg (by omega)]
    rfl
  | j + 1, k + 1, i, n, by_, l, h1, h2, h3, h4, h5 => by
    rw [ossuaryref01_Reader_Num_l0, if_pos (by omega)]
    cases l with
    | nil => rfl
    | cons c r =>
      obtain ⟨hc, hr⟩ := bytesOk_cons h4
      have h5' : r.length ≤ 100000 := by simp at h5; omega
      have hd : 0 ≤ c % 128 ∧ c % 128 < 128 := by omega
      obtain ⟨hn, hby⟩ := h3 (by omega)
      have hone : ossuaryref01_Reader_one (c :: r) 0 = some (0, c, r) := by
        unfold ossuaryref01_Reader_one
        have hl : ((c :: r).length : Int) = (r.length : Int) + 1 := by simp
        rw [if_neg (by simp), hl, if_neg (by omega), if_pos (by omega), if_pos (by omega)]
        show some (0, w64 c, r) = _
        rw [w64_id (by omega)]
      have hm : wu64 (Int.tmod c 128) = c % 128 := by rw [Int.tmod_eq_emod_of_nonneg hc.1, wu64_id (by omega)]
      rw [hone, rdN]
      simp only [Option.bind_some, not_true, if_false, hm, thn_eq]
      have bad0 : ossuaryref01_Reader_bad r 0 = 4 := rfl
      by_cases h9 : i = 9 ∧ 1 < c % 128
      · rw [if_pos (by omega), if_pos h9.2, if_pos h9]; rfl
      · have hcas : (if (i : Int) = 9 then (if 1 < c % 128 then (Sum.inr (ossuaryref01_Reader_bad r 0, r, 0) : Sum (List Int × Int) (Int × List Int × Int)) else Sum.inl (r, c % 128)) else Sum.inl (r, c % 128)) = Sum.inl (r, c % 128) := by
          by_cases hi : (i : Int) = 9
          · rw [if_pos hi, if_neg (fun h => h9 ⟨by omega, h⟩)]
          · rw [if_neg hi]
        obtain ⟨g1, _, g3⟩ := group (n := n) (i := i) (by omega) hn hd (fun h => by
          by_cases hx : c % 128 ≤ 1
          · exact hx
          · exact absurd ⟨h, by omega⟩ h9)
        rw [hcas, if_neg h9]
        simp only [cas, hby, g3, w_step (show i < 1000000 by omega)]
        by_cases hcl : c < 128
        · rw [if_pos hcl, if_pos hcl]
          by_cases hz : c % 128 = 0
          · rw [if_pos hz]
            by_cases hi0 : (0 : Int) < i
            · rw [if_pos hi0, if_pos ⟨hz, by omega⟩]; rfl
            · rw [if_neg hi0, if_neg (fun h => hi0 (by omega))]
          · rw [if_neg hz, if_neg (fun h => hz h.1)]
        · rw [if_neg hcl, if_neg hcl]
          refine rnum K j k (i + 1) _ _ r (by omega) (by omega) (fun hi => ⟨next_lt hn hd, ?_⟩) hr h5'
          have e : 2 ^ (7 * (i + 1)) = 2 ^ (7 * i) * 128 := by rw [show 7 * (i + 1) = 7 * i + 7 by omega, Nat.pow_add]
          have hp := pow7' i (by omega)
          rw [wu64_id (by omega), e]
          omega
theorem rdN_ok : ∀ (j i n : Nat) (l : List Int), i + j = 10 → (i ≤ 9 → n < 2 ^ (7 * i)) → bytesOk l → (rdN j i n l).1 < 18446744073709551616 ∧ bytesOk (rdN j i n l).2.1 ∧ (rdN j i n l).2.1.length ≤ l.length
  | 0, i, n, l, h1, h2, h3 => ⟨by simp [rdN], h3, Nat.le_refl _⟩
  | j + 1, i, n, [], h1, h2, h3 => ⟨by simp [rdN], h3, Nat.le_refl _⟩
  | j + 1, i, n, c :: r, h1, h2, h3 => by
    obtain ⟨hc, hr⟩ := bytesOk_cons h3
    have hd : 0 ≤ c % 128 ∧ c % 128 < 128 := by omega
    rw [rdN]
    by_cases h9 : i = 9 ∧ 1 < c % 128
    · rw [if_pos h9]; exact ⟨by simp, hr, by simp⟩
    · obtain ⟨g1, _, _⟩ := group (n := n) (i := i) (by omega) (h2 (by omega)) hd (fun h => by
        by_cases hx : c % 128 ≤ 1
        · exact hx
        · exact absurd ⟨h, by omega⟩ h9)
      rw [if_neg h9]
      split
      · split
        · exact ⟨by simp, hr, by simp⟩
        · exact ⟨g1, hr, by simp⟩
      · obtain ⟨r1, r2, r3⟩ := rdN_ok j (i + 1) _ r (by omega) (fun hi => next_lt (h2 (by omega)) hd) hr
        exact ⟨r1, r2, by simp; omega⟩
/-- The next number, with the fault so far. -/
def rdn (l : List Int) (f : Int) : Nat × List Int × Int := if f = 0 then rdN 10 0 0 l else (0, l, f)
def good (l : List Int) : Prop := bytesOk l ∧ l.length ≤ 100000
theorem rd_ok {l : List Int} (f : Int) (h : good l) : (rdn l f).1 < 18446744073709551616 ∧ good (rdn l f).2.1 := by
  unfold rdn
  split
  · obtain ⟨a, b, c⟩ := rdN_ok 10 0 0 l rfl (fun _ => by decide) h.1
    exact ⟨a, b, by have := h.2; omega⟩
  · exact ⟨by simp, h⟩
theorem pnum2 {l : List Int} (f : Int) (h : good l) : pack_Reader_Num_2 300 l f = some (((rdn l f).1 : Int), (rdn l f).2.1, (rdn l f).2.2) := by
  unfold rdn
  by_cases hf : f = 0
  · subst hf
    rw [if_pos rfl]
    exact pnum 300 10 300 0 0 l rfl (by decide) (fun _ => by decide) h.1 (by have := h.2; omega)
  · rw [if_neg hf]
    show fin (pack_Reader_Num_2_l0 300 (299 + 1) 0 0 l f) = _
    rw [pack_Reader_Num_2_l0, if_pos (by decide)]
    unfold pack_Reader_take_2
    rw [if_pos hf]
    rfl
theorem pnum1_eq (K : Nat) : ∀ (k : Nat) (n i : Int) (l : List Int) (f : Int), pack_Reader_Num_l0 K k n i l f = pack_Reader_Num_2_l0 K k n i l f
  | 0, _, _, _, _ => rfl
  | k + 1, n, i, l, f => by
    rw [pack_Reader_Num_l0, pack_Reader_Num_2_l0]
    simp only [pnum1_eq K k]
theorem pnum1 {l : List Int} (f : Int) (h : good l) : pack_Reader_Num 300 l f = some (((rdn l f).1 : Int), (rdn l f).2.1, (rdn l f).2.2) := by
  rw [← pnum2 f h]
  unfold pack_Reader_Num pack_Reader_Num_2
  rw [pnum1_eq]
theorem rnum2 {l : List Int} (f : Int) (h : good l) : ossuaryref01_Reader_Num 300 l f = some ((rdn l f).2.2, (rdn l f).2.1, ((rdn l f).1 : Int)) := by
  unfold rdn
  by_cases hf : f = 0
  · subst hf
    rw [if_pos rfl]
    exact rnum 300 10 300 0 0 1 l rfl (by decide) (fun _ => ⟨by decide, by decide⟩) h.1 (by have := h.2; omega)
  · rw [if_neg hf]
    show ossuaryref01_Reader_Num_l0 300 (299 + 1) 0 1 0 l f = _
    rw [ossuaryref01_Reader_Num_l0, if_pos (by decide)]
    unfold ossuaryref01_Reader_one
    rw [if_pos hf]
    simp only [Option.bind_some]
    rw [if_pos hf]; rfl
/-- A number that may be so much at most. -/
def wn (most : Nat) (l : List Int) (f : Int) : Nat × List Int × Int := if most < (rdn l f).1 then (0, (rdn l f).2.1, if (rdn l f).2.2 = 0 then 4 else (rdn l f).2.2) else rdn l f
theorem wn_ok {l : List Int} (m : Nat) (f : Int) (h : good l) : (wn m l f).1 < 18446744073709551616 ∧ (wn m l f).1 ≤ m ∧ good (wn m l f).2.1 := by
  have := rd_ok f h
  unfold wn
  split
  · exact ⟨by simp, by simp, this.2⟩
  · exact ⟨this.1, by omega, this.2⟩
theorem mx_nat (m : Nat) (h : m ≤ 1000) : wu64 (mx (m : Int) 0) = m := by
  have e : mx (m : Int) 0 = m := by unfold mx; split <;> omega
  rw [e, wu64_id (by omega)]
theorem pwithin {l : List Int} (m : Nat) (hm : m ≤ 1000) (f : Int) (h : good l) : pack_Reader_within_2 300 l f m = some (((wn m l f).1 : Int), (wn m l f).2.2, (wn m l f).2.1) ∧ pack_Reader_within 300 l f m = some (((wn m l f).1 : Int), (wn m l f).2.2, (wn m l f).2.1) := by
  unfold pack_Reader_within_2 pack_Reader_within
  rw [pnum2 f h, pnum1 f h, mx_nat m hm]
  simp only [Option.bind_some, thn_eq]
  unfold wn
  by_cases hb : m < (rdn l f).1
  · rw [if_pos (by omega), if_pos hb]; exact ⟨rfl, rfl⟩
  · rw [if_neg (by omega), if_neg hb]; exact ⟨rfl, rfl⟩
/-- A text. -/
def rt (l : List Int) (f : Int) : List UInt8 × List Int × Int :=
  let x := wn 16 l f
  if x.2.2 ≠ 0 then ([], x.2.1, x.2.2) else if x.2.1.length < x.1 then ([], x.2.1, 3) else (strs (x.2.1.take x.1), x.2.1.drop x.1, 0)
theorem good_drop {l : List Int} (h : good l) (n : Nat) : good (l.drop n) := ⟨bytesOk_drop h.1 n, by have := h.2; simp; omega⟩
theorem rt_ok {l : List Int} (f : Int) (h : good l) : good (rt l f).2.1 := by
  have := (wn_ok 16 f h).2.2
  unfold rt
  simp only
  split
  · exact this
  · split
    · exact this
    · exact good_drop this _
theorem ptext {l : List Int} (f : Int) (h : good l) : pack_Reader_Text 300 l f 16 = some ((rt l f).2.1, (rt l f).2.2, (rt l f).1) := by
  obtain ⟨h1, h2, h3⟩ := wn_ok 16 f h
  have h4 := h3.2
  unfold pack_Reader_Text
  rw [show (16 : Int) = ((16 : Nat) : Int) from rfl, (pwithin 16 (by decide) f h).1]
  simp only [Option.bind_some]
  unfold pack_Reader_take_2 rt
  simp only
  by_cases hf : (wn 16 l f).2.2 = 0
  · simp only [hf, ne_eq, not_true_eq_false, if_false]
    rw [wu64_id (by omega)]
    by_cases hl : (wn 16 l f).2.1.length < (wn 16 l f).1
    · rw [if_pos (by omega), if_pos hl]; rfl
    · rw [if_neg (by omega), if_neg hl, if_pos (by omega), if_pos (by omega)]
      simp
  · simp only [hf, ne_eq, not_false_eq_true, if_true]; rfl
theorem rtext {l : List Int} (f : Int) (h : good l) : ossuaryref01_Reader_Text 300 l f 16 = some ((rt l f).2.2, (rt l f).1, (rt l f).2.1) := by
  obtain ⟨h1, h2, h3⟩ := wn_ok 16 f h
  have h4 := h3.2
  have h5 := rd_ok f h
  have h6 := h5.2.2
  unfold ossuaryref01_Reader_Text
  rw [rnum2 f h, show wu64 (mx 16 0) = ((16 : Nat) : Int) by decide]
  simp only [Option.bind_some, thn_eq]
  unfold rt wn
  simp only
  by_cases hf : (rdn l f).2.2 = 0
  · by_cases hb : 16 < (rdn l f).1
    · have hb' : ((16 : Nat) : Int) < ((rdn l f).1 : Int) := by omega
      have e : ossuaryref01_Reader_bad (rdn l f).2.1 0 = 4 := rfl
      simp only [hf, hb, hb', ne_eq, not_true_eq_false, if_false, if_true, e]
      rfl
    · have hb' : ¬ ((16 : Nat) : Int) < ((rdn l f).1 : Int) := by omega
      simp only [hf, hb, hb', ne_eq, not_true_eq_false, if_false]
      rw [wu64_id (by omega)]
      by_cases hl : (rdn l f).2.1.length < (rdn l f).1
      · rw [if_pos (by omega), if_pos hl]
      · rw [if_neg (by omega), if_neg hl, if_pos (by omega), if_pos (by omega)]
        simp
  · rw [if_pos hf]
    by_cases hb : 16 < (rdn l f).1
    · exfalso
      unfold rdn at hb hf
      split at hb
      · -- a fault has the number 0
        have key : ∀ (j i n : Nat) (l : List Int), (rdN j i n l).2.2 ≠ 0 → (rdN j i n l).1 = 0 := by
          intro j
          induction j with
          | zero => intro i n l _; simp [rdN]
          | succ j ih =>
            intro i n l h
            cases l with
            | nil => simp [rdN]
            | cons c r =>
              rw [rdN] at h ⊢
              split
              · rfl
              · rename_i h9
                rw [if_neg h9] at h
                split
                · rename_i hc
                  rw [if_pos hc] at h
                  split
                  · rfl
                  · rename_i hz; rw [if_neg hz] at h; exact absurd rfl h
                · rename_i hc
                  rw [if_neg hc] at h
                  exact ih _ _ _ h
        rename_i h0
        rw [if_pos h0] at hf
        rw [key _ _ _ _ hf] at hb
        omega
      · simp at hb
    · simp only [if_neg hb]
      rw [if_pos hf]
/-- A number with a sign. -/
def zag (n : Nat) : Int := if n % 2 = 0 then (n / 2 : Nat) else -((n / 2 : Nat) : Int) - 1
theorem shr1 (n : Nat) : bShr .u64 (n : Int) 1 = ((n / 2 : Nat) : Int) := by
  have e : (2 : Int) ^ min (1 : Int).toNat IntKind.u64.bits = 2 := by decide
  unfold bShr
  rw [e, Int.fdiv_eq_ediv_of_nonneg _ (by decide)]; rfl
theorem and1 (n : Nat) (h : n < 18446744073709551616) : bAnd .u64 (n : Int) 1 = ((n % 2 : Nat) : Int) := by
  have e : BitVec.ofInt 64 (n : Int) = BitVec.ofNat 64 n := by simp
  show wu64 ((BitVec.ofInt 64 (n : Int) &&& BitVec.ofInt 64 1).toNat : Int) = _
  have e1 : BitVec.ofInt 64 1 = 1#64 := rfl
  rw [e, e1, BitVec.toNat_and, BitVec.toNat_ofNat, Nat.mod_eq_of_lt h]
  have : n &&& (1#64).toNat = n % 2 := Nat.and_one_is_mod n
  rw [this, wu64_id (by omega)]
theorem zag_p {n : Nat} (h : n < 18446744073709551616) : bXor .i64 (w64 (bShr .u64 (n : Int) 1)) (w64 (0 - w64 (bAnd .u64 (n : Int) 1))) = zag n := by
  rw [shr1, and1 n h, w64_id (by omega) (n := ((n / 2 : Nat) : Int)), w64_id (by omega) (n := ((n % 2 : Nat) : Int)), w64_id (by omega) (n := 0 - ((n % 2 : Nat) : Int))]
  unfold zag
  by_cases h2 : n % 2 = 0
  · rw [if_pos h2, h2]
    exact bXor_zero (by omega)
  · rw [if_neg h2, show n % 2 = 1 by omega]
    have := bXor_ones (a := ((n / 2 : Nat) : Int)) (by omega)
    rw [show (0 : Int) - ((1 : Nat) : Int) = -1 by decide, this]
    omega
theorem zag_r {n : Nat} (h : n < 18446744073709551616) : (if Int.tmod (n : Int) 2 = 0 then w64 (wu64 (Int.tdiv (n : Int) 2)) else w64 (w64 (0 - w64 (wu64 (Int.tdiv (n : Int) 2))) - 1)) = zag n := by
  have e : Int.tmod (n : Int) 2 = ((n % 2 : Nat) : Int) := by rw [Int.tmod_eq_emod_of_nonneg (by omega)]; rfl
  have e2 : Int.tdiv (n : Int) 2 = ((n / 2 : Nat) : Int) := by rw [Int.tdiv_eq_ediv_of_nonneg (by omega)]; rfl
  rw [e, e2, wu64_id (by omega), w64_id (by omega) (n := ((n / 2 : Nat) : Int)), w64_id (by omega) (n := 0 - ((n / 2 : Nat) : Int)), w64_id (by omega)]
  unfold zag
  by_cases h2 : n % 2 = 0
  · rw [if_pos (by omega), if_pos h2]
  · rw [if_neg (by omega), if_neg h2]; omega
theorem pint {l : List Int} (f : Int) (h : good l) : pack_Reader_Int 300 l f = some ((rdn l f).2.1, (rdn l f).2.2, zag (rdn l f).1) := by
  unfold pack_Reader_Int
  rw [pnum2 f h]
  simp only [Option.bind_some, zag_p (rd_ok f h).1]
theorem rint {l : List Int} (f : Int) (h : good l) : ossuaryref01_Reader_Int 300 l f = some (zag (rdn l f).1, (rdn l f).2.1, (rdn l f).2.2) := by
  have e := zag_r (rd_ok f h).1
  unfold ossuaryref01_Reader_Int
  rw [rnum2 f h]
  simp only [Option.bind_some]
  split
  · rename_i h2; rw [if_pos h2] at e; rw [e]
  · rename_i h2; rw [if_neg h2] at e; rw [e]

/-! ### Bytes as batches -/
theorem dims_loop (d : Nat) (hd : d ≤ 4) (x1 : Int × List Int × Int) (x4 : Int × List Int × Int) (hx : x1.1 = x4.2.2) : ∀ (k i : Nat) (l : List Int) (f : Int) (t0 t1 t2 t3 : List UInt8), i ≤ d → d < i + k → good l →
    ∃ r, fact_one_l0 300 d x1 k i l f t0 t1 t2 t3 = some r ∧ ossuaryref09_Read_l1 300 d x4 k i l f t0 t1 t2 t3 = some r ∧ good r.1
  | 0, i, l, f, t0, t1, t2, t3, h1, h2, h3 => by omega
  | k + 1, i, l, f, t0, t1, t2, t3, h1, h2, h3 => by
    rw [fact_one_l0, ossuaryref09_Read_l1]
    by_cases h : i < d
    · rw [if_pos (by omega), if_pos (by omega), ptext f h3, rtext f h3]
      have i0 : (0 : Int) ≤ (i : Int) := by omega
      have i4 : (i : Int) < (4 : Int) := by omega
      simp only [Option.bind_some, i0, i4, if_true, w_step (show i < 1000000 by omega)]
      exact dims_loop d hd x1 x4 hx k (i + 1) _ _ _ _ _ _ (by omega) (by omega) (rt_ok f h3)
    · rw [if_neg (by omega), if_neg (by omega), hx]
      exact ⟨_, rfl, rfl, h3⟩
theorem facts_loop (d : Nat) (hd : d ≤ 4) (m : Nat) (hm : m ≤ 50) (x4 : List Int × Int × Int) (hx : x4.2.2 = m) (x1 : Int × Int × List Int) (hx1 : x1.1 = m) : ∀ (k i : Nat) (l : List Int) (f : Int) (out : List Api_Fact), i ≤ m → m < i + k → good l → out.length ≤ i →
    ∃ z, fact_Read_l0 300 d x4 k i out l f = some z ∧ ossuaryref09_Read_l0 300 d x1 k i l f out = some z ∧ (∀ v, z = Sum.inl v → v.1.length ≤ 100) ∧ (∀ v, z = Sum.inr v → v.2 = [])
  | 0, i, l, f, out, h1, h2, h3, h4 => by omega
  | k + 1, i, l, f, out, h1, h2, h3, h4 => by
    rw [fact_Read_l0, ossuaryref09_Read_l0, hx, hx1]
    by_cases h : i < m
    · rw [if_pos (by omega), if_pos (by omega), rnum2 f h3]
      unfold fact_one
      rw [pnum2 f h3]
      simp only [Option.bind_some]
      have hg := (rd_ok f h3).2
      by_cases hb : 16777216 < (rdn l f).1
      · rw [if_pos (by omega), if_pos (by omega)]
        simp only [Option.bind_some, Bool.not_false, if_true, cas]
        exact ⟨_, rfl, rfl, fun v hv => (by cases hv), fun v hv => (by cases hv; rfl)⟩
      · rw [if_neg (by omega), if_neg (by omega)]
        obtain ⟨r, e1, e2, e3⟩ := dims_loop d hd (((rdn l f).1 : Int), (rdn l f).2.1, (rdn l f).2.2) ((rdn l f).2.2, (rdn l f).2.1, ((rdn l f).1 : Int)) rfl 300 0 (rdn l f).2.1 (rdn l f).2.2 [] [] [] [] (by omega) (by omega) hg
        rw [show fact_one_l0 300 (d : Int) (((rdn l f).1 : Int), (rdn l f).2.1, (rdn l f).2.2) 300 0 (rdn l f).2.1 (rdn l f).2.2 [] [] [] [] = some r from e1, show ossuaryref09_Read_l1 300 (d : Int) ((rdn l f).2.2, (rdn l f).2.1, ((rdn l f).1 : Int)) 300 0 (rdn l f).2.1 (rdn l f).2.2 [] [] [] [] = some r from e2]
        simp only [Option.bind_some]
        rw [pint r.2.1 e3, rint r.2.1 e3]
        have hg2 := (rd_ok r.2.1 e3).2
        simp only [Option.bind_some, Bool.not_true, Bool.false_eq_true, if_false, thn_eq, pack_Reader_Fault]
        by_cases hf : (rdn r.1 r.2.1).2.2 = 0
        · have hroom : ∀ x : Api_Fact, (out.length + [x].length) * 80 ≤ 140737488355328 := fun x => by simp; omega
          simp only [hf, not_true_eq_false, if_false, hroom, if_true, Option.bind_some, cas, w_step (show i < 1000000 by omega)]
          exact facts_loop d hd m hm x4 hx x1 hx1 k (i + 1) _ _ _ (by omega) (by omega) hg2 (by simp; omega)
        · simp only [hf, not_false_eq_true, if_true, Option.bind_some, cas]
          exact ⟨_, rfl, rfl, fun v hv => (by cases hv), fun v hv => (by cases hv; rfl)⟩
    · rw [if_neg (by omega), if_neg (by omega)]
      exact ⟨_, rfl, rfl, fun v hv => (by cases hv; show out.length ≤ 100; omega), fun v hv => (by cases hv)⟩
theorem count_eq {l : List Int} (h : good l) : pack_Reader_Count 300 l 0 50 = some ((wn 50 l 0).2.1, (wn 50 l 0).2.2, ((wn 50 l 0).1 : Int)) ∧ ossuaryref01_Reader_Count 300 l 0 50 = some (((wn 50 l 0).1 : Int), (wn 50 l 0).2.2, (wn 50 l 0).2.1) := by
  obtain ⟨h1, h2, h3⟩ := wn_ok 50 0 h
  constructor
  · unfold pack_Reader_Count
    rw [show (50 : Int) = ((50 : Nat) : Int) from rfl, (pwithin 50 (by decide) 0 h).2]
    simp only [Option.bind_some]
    rw [w64_id (by omega)]
  · unfold ossuaryref01_Reader_Count
    rw [rnum2 0 h, show wu64 (mx 50 0) = ((50 : Nat) : Int) by decide]
    simp only [Option.bind_some, thn_eq]
    unfold wn at h1 h2 ⊢
    by_cases hb : 50 < (rdn l 0).1
    · rw [if_pos (by omega), if_pos hb]; rfl
    · rw [if_neg hb] at h2 h1
      rw [if_neg (by omega), if_neg hb, w64_id (by omega)]
theorem read_eq {l : List Int} (h : good l) (d : Int) : ∃ r, fact_Read 300 l d = some r ∧ ossuaryref09_Read 300 l d = some r ∧ r.2.length ≤ 100 := by
  unfold fact_Read ossuaryref09_Read fact_many
  simp only [thn_eq]
  by_cases h1 : d < 1
  · rw [if_neg (show ¬ 1 ≤ d by omega), if_pos h1]; exact ⟨_, rfl, rfl, by simp⟩
  · rw [if_pos (show 1 ≤ d by omega), if_neg h1]
    by_cases h2 : 4 < d
    · rw [decide_eq_false (show ¬ d ≤ 4 by omega), if_pos h2]; exact ⟨_, rfl, rfl, by simp⟩
    · rw [decide_eq_true (show d ≤ 4 by omega), if_neg h2]
      simp only [Bool.not_true, Bool.false_eq_true, if_false]
      obtain ⟨q, rfl⟩ := Int.eq_ofNat_of_zero_le (show 0 ≤ d by omega)
      unfold pack_NewReader
      rw [clone_eq l (by have := h.2; omega)]
      obtain ⟨c1, c2⟩ := count_eq h
      obtain ⟨h3, h4, h5⟩ := wn_ok 50 0 h
      simp only [Option.bind_some]
      rw [c1, c2]
      simp only [Option.bind_some]
      obtain ⟨z, z1, z2, z3, z4⟩ := facts_loop q (by omega) (wn 50 l 0).1 h4 ((wn 50 l 0).2.1, (wn 50 l 0).2.2, ((wn 50 l 0).1 : Int)) rfl (((wn 50 l 0).1 : Int), (wn 50 l 0).2.2, (wn 50 l 0).2.1) rfl 300 0 (wn 50 l 0).2.1 (wn 50 l 0).2.2 [] (by omega) (by omega) h5 (by simp)
      rw [show fact_Read_l0 300 (q : Int) ((wn 50 l 0).2.1, (wn 50 l 0).2.2, ((wn 50 l 0).1 : Int)) 300 0 [] (wn 50 l 0).2.1 (wn 50 l 0).2.2 = some z from z1, show ossuaryref09_Read_l0 300 (q : Int) (((wn 50 l 0).1 : Int), (wn 50 l 0).2.2, (wn 50 l 0).2.1) 300 0 (wn 50 l 0).2.1 (wn 50 l 0).2.2 [] = some z from z2]
      simp only [Option.bind_some]
      cases z with
      | inr v => have := z4 v rfl; exact ⟨v, rfl, rfl, by rw [this]; simp⟩
      | inl v =>
        have hl := z3 v rfl
        simp only [cas, pack_Reader_Fault, pack_Reader_Left]
        by_cases hf : v.2.2 = 0
        · by_cases hr : (0 : Int) < (v.2.1.length : Int)
          · simp only [hf, hr, not_true_eq_false, if_false, if_true]; exact ⟨_, rfl, rfl, by simp⟩
          · simp only [hf, hr, not_true_eq_false, if_false]
            obtain ⟨e, x, hx⟩ := all_eq v.1 hl q
            rw [e, hx]
            simp only [Option.bind_some]
            split
            · exact ⟨_, rfl, rfl, by simp⟩
            · exact ⟨_, rfl, rfl, hl⟩
        · simp only [hf, not_false_eq_true, if_true]; exact ⟨_, rfl, rfl, by simp⟩
theorem same_loop (l : List Api_Fact) (hl : l.length ≤ 100) : ∀ (k i : Nat), i ≤ l.length → l.length < i + k → ossuaryref09_Same_l0 300 l l k i = some true
  | 0, i, h1, h2 => by omega
  | k + 1, i, h1, h2 => by
    rw [ossuaryref09_Same_l0]
    by_cases h : i < l.length
    · rw [if_pos (by omega), if_pos (by omega), if_pos (by omega), w_step (by omega), same_loop l hl k (i + 1) (by omega) (by omega)]
      simp
    · rw [if_neg (by omega)]
theorem same_refl (l : List Api_Fact) (hl : l.length ≤ 100) : ossuaryref09_Same 300 l l = some true := by
  unfold ossuaryref09_Same
  rw [if_neg (by simp)]
  exact same_loop l hl 300 0 (by omega) (by omega)
theorem alive_true : ossuarylaw09_alive 300 = some true := by decide +kernel
theorem law (l : List Api_Fact) (b : List Int) (d : Int) (h1 : l.length * 80 ≤ 140737488351232 ∧ ∀ x ∈ l, ok_Api_Fact x) (h2 : b.length * 1 ≤ 140737488351232 ∧ ∀ x ∈ b, inI .u8 x) (h3 : inI .i64 d) : ∃ K, ossuarylaw09_FactCodes K l b d = some true := by
  refine ⟨300, ?_⟩
  obtain ⟨t, hb, _⟩ := light l
  unfold ossuarylaw09_FactCodes
  rw [hb]
  simp only [Option.bind_some]
  cases t with
  | false => rw [alive_true]; rfl
  | true =>
    obtain ⟨hl, hs⟩ := light_short l hb
    simp only [Bool.not_true, Bool.false_eq_true, if_false]
    by_cases hlong : 1000 < (b.length : Int)
    · rw [if_pos hlong, alive_true]; rfl
    · rw [if_neg hlong]
      have hg : good b := ⟨fun c hc => by have := h2.2 c hc; simpa [inI, IntKind.min, IntKind.max, IntKind.signed, IntKind.bits] using this, by omega⟩
      obtain ⟨r, e1, e2⟩ := encode l hs h1.2 hl d
      obtain ⟨r', e3, e4, e5⟩ := read_eq hg d
      rw [e1, e2, e3, e4]
      simp only [Option.bind_some, thn_eq, ossuaryref01_Same, beq_self_eq_true, if_true]
      rw [same_refl r'.2 e5]
      simp only [Option.bind_some, if_true, alive_true]
end Go.Proofs.Ytmhhjhckbiaidaa.FactCodes
