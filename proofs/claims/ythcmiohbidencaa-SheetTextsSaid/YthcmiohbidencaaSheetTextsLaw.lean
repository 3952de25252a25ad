/- The plain law of SheetTexts: the sheet of any policy, and the fields' names. -/
import Derived.Test.YthcmiohbidencaaSheetTextsPure
import Derived.Test.YthcmiohbidencaaELaw
import Derived.KernelRfl
set_option linter.unusedVariables false
set_option linter.unusedSimpArgs false
set_option maxRecDepth 20000
namespace Go.Proofs.Ythcmiohbidencaa.SheetTexts
open Go E

theorem alive_true : ossuarylaw40_alive 200000 = some true := by kernel_rfl
theorem right_true (n : Int) : script_Right_NN 200000 n = some true := by kernel_rfl

/-! ### A number's text -/
def dig (n : Nat) : UInt8 := UInt8.ofNat (48 + n)
def digs (n : Nat) : List UInt8 := if n < 10 then [dig n] else digs (n / 10) ++ [dig (n % 10)]
theorem digs_small {n : Nat} (h : n < 10) : digs n = [dig n] := by unfold digs; rw [if_pos h]
theorem digs_big {n : Nat} (h : ¬ n < 10) : digs n = digs (n / 10) ++ [dig (n % 10)] := by conv => lhs; unfold digs; rw [if_neg h]
theorem digs_len : ∀ (f n : Nat), n < 10 ^ (f + 1) → (digs n).length ≤ f + 1
  | 0, n, h => by rw [digs_small (by simpa using h)]; simp
  | f + 1, n, h => by
    by_cases h10 : n < 10
    · rw [digs_small h10]; simp
    · rw [digs_big h10]
      have := digs_len f (n / 10) (by rw [Nat.div_lt_iff_lt_mul (by omega)]; rw [Nat.pow_succ] at h; exact h)
      simp; omega
theorem wu8_id {n : Int} (h : 0 ≤ n ∧ n ≤ 255) : wu8 n = n := by
  have : wu8 n = n % 256 := by simp [wu8, IntKind.wrap, IntKind.signed, IntKind.bits]
  rw [this]; omega
theorem dig_eq {n : Nat} (h : n < 10) : UInt8.ofNat (wu8 (w64 (48 + (n : Int)))).toNat = dig n := by
  rw [w64_id (by omega)]
  rw [wu8_id (by omega)]
  unfold dig
  congr 1
theorem refDec {K : Nat} : ∀ (f k n : Nat), n < 10 ^ (f + 1) → f ≤ 17 → f < k → ossuaryref34_Decimal_rec K k (n : Int) = some (digs n)
  | f, 0, n, h, hf, hk => by omega
  | 0, k + 1, n, h, hf, hk => by
    have h10 : n < 10 := by simpa using h
    unfold ossuaryref34_Decimal_rec
    rw [if_neg (by omega), if_neg (by omega), if_pos (by omega), digs_small h10]
    simp only [strs, List.map_cons, List.map_nil]
    rw [dig_eq h10]
  | f + 1, k + 1, n, h, hf, hk => by
    unfold ossuaryref34_Decimal_rec
    by_cases h10 : n < 10
    · rw [if_neg (by omega), if_neg (by omega), if_pos (by omega), digs_small h10]
      simp only [strs, List.map_cons, List.map_nil]
      rw [dig_eq h10]
    · rw [if_neg (by omega), if_neg (by omega), if_neg (by omega)]
      have hb : n < 10 ^ 19 := Nat.lt_of_lt_of_le h (Nat.pow_le_pow_right (by omega) (by omega))
      have e1 : Int.tdiv (n : Int) 10 = ((n / 10 : Nat) : Int) := by rw [Int.tdiv_eq_ediv_of_nonneg (by omega)]; rfl
      have e2 : Int.tmod (n : Int) 10 = ((n % 10 : Nat) : Int) := by rw [Int.tmod_eq_emod_of_nonneg (by omega)]; rfl
      have h1 : n / 10 < 10 ^ (f + 1) := by rw [Nat.div_lt_iff_lt_mul (by omega)]; rw [Nat.pow_succ] at h; exact h
      rw [e1, e2, w64_id (by omega), refDec f k (n / 10) h1 (by omega) (by omega)]
      simp only [Option.bind_some]
      rw [refDec 0 k (n % 10) (by simp; omega) (by omega) (by omega)]
      simp only [Option.bind_some]
      have l1 := digs_len f (n / 10) h1
      rw [digs_small (show n % 10 < 10 by omega), digs_big h10, if_pos (by simp; omega)]
/-- What stands in the array from a place on. -/
def tl (j : Nat → Int) (a : Nat) : List UInt8 := strs (((List.range 20).map j).drop a)
theorem tl_step {j : Nat → Int} {a : Nat} {x : Int} (h : a < 20) : tl (updF j a x) a = UInt8.ofNat x.toNat :: tl j (a + 1) := by
  unfold tl
  have hl : ((List.range 20).map (updF j a x)).length = 20 := by simp
  rw [List.drop_eq_getElem_cons (by rw [hl]; exact h)]
  have e2 : ((List.range 20).map (updF j a x)).drop (a + 1) = ((List.range 20).map j).drop (a + 1) := by
    apply List.ext_getElem?
    intro i
    rw [List.getElem?_drop, List.getElem?_drop, List.getElem?_map, List.getElem?_map]
    cases hq : (List.range 20)[a + 1 + i]? with
    | none => rfl
    | some q =>
      obtain ⟨h1, h2⟩ := List.getElem?_eq_some_iff.1 hq
      rw [List.getElem_range] at h2
      subst h2
      show some (updF j a x (a + 1 + i)) = some (j (a + 1 + i))
      unfold updF
      rw [if_neg (by omega)]
  rw [List.getElem_map, List.getElem_range, e2]
  have e1 : updF j a x a = x := by unfold updF; rw [if_pos rfl]
  rw [e1]
  rfl
theorem dec_l0 {K : Nat} : ∀ (f k m a : Nat) (j : Nat → Int), m < 10 ^ (f + 1) → f + 1 ≤ a → a ≤ 20 → f < k →
    ∃ (j' : Nat → Int) (a' : Nat), words_decimal_l0 K k (a : Int) (m : Int) j = some (j', (a' : Int)) ∧ a' < a ∧ tl j' a' = digs m ++ tl j a
  | f, 0, m, a, j, h, h1, h2, h3 => by omega
  | f, k + 1, m, a, j, h, h1, h2, h3 => by
    unfold words_decimal_l0
    have e0 : w64 ((a : Int) - 1) = ((a - 1 : Nat) : Int) := by rw [w64_id (by omega)]; omega
    have hm : m < 10 ^ 20 := Nat.lt_of_lt_of_le h (Nat.pow_le_pow_right (by omega) (by omega))
    rw [e0, if_pos (by omega), if_pos (by omega)]
    have e1 : Int.tdiv (m : Int) 10 = ((m / 10 : Nat) : Int) := by rw [Int.tdiv_eq_ediv_of_nonneg (by omega)]; rfl
    have e2 : Int.tmod (m : Int) 10 = ((m % 10 : Nat) : Int) := by rw [Int.tmod_eq_emod_of_nonneg (by omega)]; rfl
    rw [e1, e2]
    have hm64 : ((m / 10 : Nat) : Int) ≤ 18446744073709551615 := by omega
    have e3 : wu64 ((m / 10 : Nat) : Int) = ((m / 10 : Nat) : Int) := wu64_id (by omega)
    have e4 : wu8 (wu64 (48 + ((m % 10 : Nat) : Int))) = 48 + ((m % 10 : Nat) : Int) := by rw [wu64_id (by omega), wu8_id (by omega)]
    rw [e3, e4]
    simp only [Int.toNat_natCast]
    have st := tl_step (j := j) (a := a - 1) (x := 48 + ((m % 10 : Nat) : Int)) (by omega)
    have ea : a - 1 + 1 = a := by omega
    have ed : UInt8.ofNat (48 + ((m % 10 : Nat) : Int)).toNat = dig (m % 10) := by unfold dig; congr 1
    rw [ea, ed] at st
    by_cases h10 : m < 10
    · have : m / 10 = 0 := by omega
      rw [this, if_pos (show ((0 : Nat) : Int) = 0 from rfl)]
      refine ⟨_, _, rfl, by omega, ?_⟩
      rw [st, digs_small h10, show m % 10 = m by omega]; rfl
    · rw [if_neg (by omega)]
      cases f with
      | zero => simp at h; omega
      | succ f =>
        obtain ⟨j', a', h4, h5, h6⟩ := dec_l0 (K := K) f k (m / 10) (a - 1) (updF j (a - 1) (48 + ((m % 10 : Nat) : Int))) (by rw [Nat.div_lt_iff_lt_mul (by omega)]; rw [Nat.pow_succ] at h; exact h) (by omega) (by omega) (by omega)
        refine ⟨j', a', h4, by omega, ?_⟩
        rw [h6, st, digs_big h10]
        simp
theorem decimal_eq {K n : Nat} (hn : n ≤ 1048576) (hK : 200000 ≤ K) : words_decimal K (n : Int) = some (digs n) := by
  unfold words_decimal
  simp only [thn_eq]
  rw [if_neg (by omega), wu64_id (by omega)]
  obtain ⟨j', a', h1, h2, h3⟩ := dec_l0 (K := K) 6 K n 20 (fun _ => 0) (by omega) (by omega) (by omega) (by omega)
  have e0 : ((20 : Nat) : Int) = 20 := rfl
  rw [e0] at h1
  rw [h1]
  simp only [Option.bind_some]
  rw [if_neg (by omega), if_pos (by omega), if_pos (by omega)]
  simp only [Int.toNat_natCast]
  have h4 : strs (((List.range 20).map j').drop a') = tl j' a' := rfl
  rw [h4, h3]
  have h5 : tl (fun _ => 0) 20 = [] := by unfold tl; rw [List.drop_eq_nil_of_le (by simp)]; rfl
  rw [h5, List.append_nil]
theorem line_l0 {K n f : Nat} (hn : n ≤ 1048576) (hK : 200000 ≤ K) : words_Line_NN_l0 K (n : Int) (4, 5, 7, 8) (f + 5) 0 [] = some [[116, 105, 99, 107], digs n] := by
  have hl := digs_len 6 n (by omega)
  have s1 : w64 1 = 1 := w64_id (by omega)
  have s2 : w64 2 = 2 := w64_id (by omega)
  have s3 : w64 3 = 3 := w64_id (by omega)
  have s4 : w64 4 = 4 := w64_id (by omega)
  have hnum : words_line_num_O K [[116, 105, 99, 107]] (n : Int) = some [[116, 105, 99, 107], digs n] := by
    unfold words_line_num_O
    rw [decimal_eq hn hK]
    simp [words_line_put_OR]
  simp [words_Line_NN_l0, words_kinds, words_line_put_OR, hnum, s1, s2, s3, s4, thn_eq]
theorem line_eq {n : Nat} (hn : n ≤ 1048576) : words_Line_NN 200000 (n : Int) = some ([116, 105, 99, 107, 32] ++ digs n, 0) := by
  unfold words_Line_NN
  rw [right_true]
  simp only [Option.bind_some, Bool.not_true, Bool.false_eq_true, if_false, thn_eq]
  have h := line_l0 (K := 200000) (n := n) (f := 199995) hn (by omega)
  have hs : words_steps = (4, 5, 7, 8) := rfl
  rw [hs, h]
  simp only [Option.bind_some]
  have hl := digs_len 6 n (by omega)
  have hi : List.intercalate [32] [([116, 105, 99, 107] : List UInt8), digs n] = [116, 105, 99, 107, 32] ++ digs n := by simp [List.intercalate]
  unfold strings_Join
  rw [hi, if_pos (by simp; omega)]
  rfl
theorem number_eq {n : Nat} (hn : n ≤ 1048576) : sheet_number 200000 (n : Int) = some (digs n) := by
  unfold sheet_number
  rw [line_eq hn]
  simp only [Option.bind_some]
  unfold strings_Cut stringslite_Cut stringslite_Index
  have hix : idxB ([116, 105, 99, 107, 32] ++ digs n) 32 = 4 := by simp [idxB]
  simp only [hix, Option.bind_some]
  have hl := digs_len 6 n (by omega)
  have s5 : w64 (4 + (([32] : List UInt8).length : Int)) = 5 := by rw [w64_id (by simp)]; rfl
  rw [s5, if_pos (by omega), if_pos (by simp; omega), if_pos (by omega), if_pos (by simp; omega)]
  rfl

/-! ### Which policies are right -/
theorem in_def (x lo hi : Int) : ossuaryref18_in x lo hi = decide (lo ≤ x ∧ x ≤ hi) := by
  unfold ossuaryref18_in
  by_cases h : lo ≤ x <;> simp [h]
theorem two_if {α : Type} (x lo hi : Int) (A Y : α) : (if x < lo then A else if hi < x then A else Y) = if (!(ossuaryref18_in x lo hi)) = true then A else Y := by
  rw [in_def]
  by_cases h : x < lo
  · rw [if_pos h, if_pos (by simp; omega)]
  · rw [if_neg h]
    by_cases h2 : hi < x
    · rw [if_pos h2, if_pos (by simp; omega)]
    · rw [if_neg h2, if_neg (by simp; omega)]
theorem check_eq (a0 a1 a2 a3 a4 a5 a6 a7 a8 : Int) : policy_Check a0 a1 a2 a3 a4 a5 a6 a7 a8 = some (ossuaryref18_Check a0 a1 a2 a3 a4 a5 a6 a7 a8) := by
  unfold policy_Check ossuaryref18_Check
  simp only [thn_eq, policy_bounds, policy_numbers, two_if, apply_ite some]
  simp
theorem check0 {a0 a1 a2 a3 a4 a5 a6 a7 a8 : Int} (h : ossuaryref18_Check a0 a1 a2 a3 a4 a5 a6 a7 a8 = 0) : (0 ≤ a0 ∧ a0 ≤ 1048576) ∧ (0 ≤ a1 ∧ a1 ≤ 1048576) ∧ (0 ≤ a2 ∧ a2 ≤ 1048576) ∧ (0 ≤ a3 ∧ a3 ≤ 1048576) ∧ (0 ≤ a4 ∧ a4 ≤ 1048576) ∧ (0 ≤ a5 ∧ a5 ≤ 1048576) ∧ (0 ≤ a6 ∧ a6 ≤ 1048576) ∧ (0 ≤ a7 ∧ a7 ≤ 1048576) ∧ (0 ≤ a8 ∧ a8 ≤ 1048576) := by
  unfold ossuaryref18_Check at h
  simp only [thn_eq, in_def] at h
  split at h
  · simp at h
  rename_i c0
  split at h
  · simp at h
  rename_i c1
  split at h
  · simp at h
  rename_i c2
  split at h
  · simp at h
  rename_i c3
  split at h
  · simp at h
  rename_i c4
  split at h
  · simp at h
  rename_i c5
  split at h
  · simp at h
  rename_i c6
  split at h
  · simp at h
  rename_i c7
  split at h
  · simp at h
  rename_i c8
  simp at c0 c1 c2 c3 c4 c5 c6 c7 c8
  refine ⟨?_, ?_, ?_, ?_, ?_, ?_, ?_, ?_, ?_⟩ <;> omega

/-! ### The sheet -/
def rowT (nm : List UInt8) (n : Nat) : List UInt8 := nm ++ [32] ++ digs n ++ [10]
theorem names_len {i : Nat} (hi : i < 9) : (ossuaryref40_Names.getD i []).length ≤ 6 := by
  have : i = 0 ∨ i = 1 ∨ i = 2 ∨ i = 3 ∨ i = 4 ∨ i = 5 ∨ i = 6 ∨ i = 7 ∨ i = 8 := by omega
  rcases this with rfl | rfl | rfl | rfl | rfl | rfl | rfl | rfl | rfl <;> decide
theorem ref_step {K f i : Nat} {xs : List Int} {t : List UInt8} {n : Nat} (hi : i < 9) (hx : xs.length = 9) (hn : xs.getD i 0 = (n : Int)) (hb : n ≤ 1048576) (ht : t.length ≤ 100000) (hK : 200000 ≤ K) :
    ossuaryref40_Text_l0 K xs (f + 1) t (i : Int) = ossuaryref40_Text_l0 K xs f (t ++ rowT (ossuaryref40_Names.getD i []) n) ((i + 1 : Nat) : Int) := by
  conv => lhs; unfold ossuaryref40_Text_l0
  have hnl := names_len hi
  have hdl := digs_len 6 n (by omega)
  have hN : ossuaryref40_Names.length = 9 := rfl
  simp only [thn_eq, Int.toNat_natCast]
  generalize ossuaryref40_Names.getD i [] = nm at hnl ⊢
  rw [if_pos (by omega), if_pos (by omega), if_pos (by rw [hN]; omega), if_pos (by omega), if_pos (by simp; omega), if_pos (by omega), hn]
  have hd : ossuaryref34_Decimal K (n : Int) = some (digs n) := refDec 6 K n (by omega) (by omega) (by omega)
  rw [hd]
  simp only [Option.bind_some]
  rw [if_pos (by simp; omega), if_pos (by simp; omega), w64_id (by omega)]
  have e1 : ((i : Int) + 1) = ((i + 1 : Nat) : Int) := by omega
  rw [e1]
  unfold rowT
  simp only [List.append_assoc]
theorem row_len (nm : List UInt8) {n : Nat} (h : n ≤ 1048576) : (rowT nm n).length ≤ nm.length + 9 := by
  have := digs_len 6 n (by omega)
  unfold rowT; simp; omega
theorem ref_text {n0 n1 n2 n3 n4 n5 n6 n7 n8 : Nat} (h0 : n0 ≤ 1048576) (h1 : n1 ≤ 1048576) (h2 : n2 ≤ 1048576) (h3 : n3 ≤ 1048576) (h4 : n4 ≤ 1048576) (h5 : n5 ≤ 1048576) (h6 : n6 ≤ 1048576) (h7 : n7 ≤ 1048576) (h8 : n8 ≤ 1048576) : ossuaryref40_Text_l0 200000 [(n0 : Int), (n1 : Int), (n2 : Int), (n3 : Int), (n4 : Int), (n5 : Int), (n6 : Int), (n7 : Int), (n8 : Int)] 200000 [] 0 = some ((((((((((([] : List UInt8) ++ rowT [114, 101, 116, 97, 105, 110] n0) ++ rowT [115, 101, 97, 108] n1) ++ rowT [100, 97, 121] n2) ++ rowT [109, 111, 110, 116, 104] n3) ++ rowT [99, 111, 108, 100] n4) ++ rowT [98, 97, 115, 101] n5) ++ rowT [99, 97, 112] n6) ++ rowT [113, 117, 101, 117, 101] n7) ++ rowT [119, 97, 108] n8), 0) := by
  have r0 := row_len [114, 101, 116, 97, 105, 110] h0
  simp only [List.length_cons, List.length_nil] at r0
  have r1 := row_len [115, 101, 97, 108] h1
  simp only [List.length_cons, List.length_nil] at r1
  have r2 := row_len [100, 97, 121] h2
  simp only [List.length_cons, List.length_nil] at r2
  have r3 := row_len [109, 111, 110, 116, 104] h3
  simp only [List.length_cons, List.length_nil] at r3
  have r4 := row_len [99, 111, 108, 100] h4
  simp only [List.length_cons, List.length_nil] at r4
  have r5 := row_len [98, 97, 115, 101] h5
  simp only [List.length_cons, List.length_nil] at r5
  have r6 := row_len [99, 97, 112] h6
  simp only [List.length_cons, List.length_nil] at r6
  have r7 := row_len [113, 117, 101, 117, 101] h7
  simp only [List.length_cons, List.length_nil] at r7
  have r8 := row_len [119, 97, 108] h8
  simp only [List.length_cons, List.length_nil] at r8
  have hc : ∀ f : Nat, ossuaryref40_Text_l0 200000 [(n0 : Int), (n1 : Int), (n2 : Int), (n3 : Int), (n4 : Int), (n5 : Int), (n6 : Int), (n7 : Int), (n8 : Int)] (f + 10) [] ((0 : Nat) : Int) = some ((((((((((([] : List UInt8) ++ rowT [114, 101, 116, 97, 105, 110] n0) ++ rowT [115, 101, 97, 108] n1) ++ rowT [100, 97, 121] n2) ++ rowT [109, 111, 110, 116, 104] n3) ++ rowT [99, 111, 108, 100] n4) ++ rowT [98, 97, 115, 101] n5) ++ rowT [99, 97, 112] n6) ++ rowT [113, 117, 101, 117, 101] n7) ++ rowT [119, 97, 108] n8), 0) := by
    intro f
    rw [ref_step (i := 0) (n := n0) (by omega) rfl rfl h0 (by simp only [List.length_append, List.length_nil]; omega) (by omega)]
    rw [show ossuaryref40_Names.getD 0 [] = [114, 101, 116, 97, 105, 110] from rfl]
    rw [ref_step (i := 1) (n := n1) (by omega) rfl rfl h1 (by simp only [List.length_append, List.length_nil]; omega) (by omega)]
    rw [show ossuaryref40_Names.getD 1 [] = [115, 101, 97, 108] from rfl]
    rw [ref_step (i := 2) (n := n2) (by omega) rfl rfl h2 (by simp only [List.length_append, List.length_nil]; omega) (by omega)]
    rw [show ossuaryref40_Names.getD 2 [] = [100, 97, 121] from rfl]
    rw [ref_step (i := 3) (n := n3) (by omega) rfl rfl h3 (by simp only [List.length_append, List.length_nil]; omega) (by omega)]
    rw [show ossuaryref40_Names.getD 3 [] = [109, 111, 110, 116, 104] from rfl]
    rw [ref_step (i := 4) (n := n4) (by omega) rfl rfl h4 (by simp only [List.length_append, List.length_nil]; omega) (by omega)]
    rw [show ossuaryref40_Names.getD 4 [] = [99, 111, 108, 100] from rfl]
    rw [ref_step (i := 5) (n := n5) (by omega) rfl rfl h5 (by simp only [List.length_append, List.length_nil]; omega) (by omega)]
    rw [show ossuaryref40_Names.getD 5 [] = [98, 97, 115, 101] from rfl]
    rw [ref_step (i := 6) (n := n6) (by omega) rfl rfl h6 (by simp only [List.length_append, List.length_nil]; omega) (by omega)]
    rw [show ossuaryref40_Names.getD 6 [] = [99, 97, 112] from rfl]
    rw [ref_step (i := 7) (n := n7) (by omega) rfl rfl h7 (by simp only [List.length_append, List.length_nil]; omega) (by omega)]
    rw [show ossuaryref40_Names.getD 7 [] = [113, 117, 101, 117, 101] from rfl]
    rw [ref_step (i := 8) (n := n8) (by omega) rfl rfl h8 (by simp only [List.length_append, List.length_nil]; omega) (by omega)]
    rw [show ossuaryref40_Names.getD 8 [] = [119, 97, 108] from rfl]
    unfold ossuaryref40_Text_l0
    rw [if_neg (by omega)]
  exact hc 199990
theorem byts_app (a b : List UInt8) : byts (a ++ b) = byts a ++ byts b := by simp [byts]
theorem strs_byts (a : List UInt8) : strs (byts a) = a := by
  unfold strs byts
  rw [List.map_map]
  conv => rhs; rw [← List.map_id a]
  apply List.map_congr_left
  intro x _
  simp
theorem byts_range (a : List UInt8) : ((byts a).all fun n => decide (0 ≤ n ∧ n ≤ 255)) = true := by
  rw [List.all_eq_true]
  intro x hx
  simp only [byts, List.mem_map] at hx
  obtain ⟨c, _, rfl⟩ := hx
  have := c.toNat_lt
  simp only [decide_eq_true_eq]
  omega
theorem byts_len (a : List UInt8) : (byts a).length = a.length := by simp [byts]
theorem write_eq {t s : List UInt8} (ht : t.length ≤ 100000) (hs : s.length ≤ 100000) : strings_Builder_WriteString_O (byts t) s = some (byts (t ++ s), (s.length : Int)) := by
  unfold strings_Builder_WriteString_O
  simp only [thn_eq]
  rw [if_pos (by rw [byts_len]; omega), byts_app]
theorem write0_eq {s : List UInt8} (hs : s.length ≤ 100000) : strings_Builder_WriteString_ZN s = some (byts ([] ++ s), (s.length : Int)) := by
  unfold strings_Builder_WriteString_ZN
  simp only [thn_eq]
  rw [if_pos (by simp; omega), byts_app]
  rfl
theorem string_eq {t : List UInt8} (ht : 0 < t.length) : strings_Builder_String_O (byts t) = some t := by
  unfold strings_Builder_String_O
  rw [if_pos (by rw [byts_len]; exact ht), if_pos (byts_range t), strs_byts]
set_option maxRecDepth 1000000 in
theorem text_eq {K : Nat} (hnum : ∀ n : Nat, n ≤ 1048576 → sheet_number K (n : Int) = some (digs n)) {n0 n1 n2 n3 n4 n5 n6 n7 n8 : Nat} (h0 : n0 ≤ 1048576) (h1 : n1 ≤ 1048576) (h2 : n2 ≤ 1048576) (h3 : n3 ≤ 1048576) (h4 : n4 ≤ 1048576) (h5 : n5 ≤ 1048576) (h6 : n6 ≤ 1048576) (h7 : n7 ≤ 1048576) (h8 : n8 ≤ 1048576) (hc : ossuaryref18_Check n0 n1 n2 n3 n4 n5 n6 n7 n8 = 0) : sheet_Text K n0 n1 n2 n3 n4 n5 n6 n7 n8 = some ((((((((((([] : List UInt8) ++ rowT [114, 101, 116, 97, 105, 110] n0) ++ rowT [115, 101, 97, 108] n1) ++ rowT [100, 97, 121] n2) ++ rowT [109, 111, 110, 116, 104] n3) ++ rowT [99, 111, 108, 100] n4) ++ rowT [98, 97, 115, 101] n5) ++ rowT [99, 97, 112] n6) ++ rowT [113, 117, 101, 117, 101] n7) ++ rowT [119, 97, 108] n8), 0) := by
  have r0 := row_len [114, 101, 116, 97, 105, 110] h0
  simp only [List.length_cons, List.length_nil] at r0
  have r1 := row_len [115, 101, 97, 108] h1
  simp only [List.length_cons, List.length_nil] at r1
  have r2 := row_len [100, 97, 121] h2
  simp only [List.length_cons, List.length_nil] at r2
  have r3 := row_len [109, 111, 110, 116, 104] h3
  simp only [List.length_cons, List.length_nil] at r3
  have r4 := row_len [99, 111, 108, 100] h4
  simp only [List.length_cons, List.length_nil] at r4
  have r5 := row_len [98, 97, 115, 101] h5
  simp only [List.length_cons, List.length_nil] at r5
  have r6 := row_len [99, 97, 112] h6
  simp only [List.length_cons, List.length_nil] at r6
  have r7 := row_len [113, 117, 101, 117, 101] h7
  simp only [List.length_cons, List.length_nil] at r7
  have r8 := row_len [119, 97, 108] h8
  simp only [List.length_cons, List.length_nil] at r8
  unfold sheet_Text
  rw [check_eq, hc, Option.bind_some]
  dsimp only [thn, sheet_names, sheet_of]
  rw [if_neg (by simp), if_pos (by omega)]
  have d0 := digs_len 6 n0 (by omega)
  rw [if_pos (by decide), hnum _ h0]
  rw [Option.bind_some, if_pos (by simp only [List.length_append, List.length_cons, List.length_nil]; omega), if_pos (by simp only [List.length_append, List.length_cons, List.length_nil]; omega), show ([114, 101, 116, 97, 105, 110] ++ [32] ++ digs n0 ++ [10] : List UInt8) = rowT [114, 101, 116, 97, 105, 110] n0 from rfl]
  rw [write0_eq (by omega)]
  rw [Option.bind_some]
  rw [if_pos (by omega)]
  have d1 := digs_len 6 n1 (by omega)
  rw [if_pos (by decide), hnum _ h1]
  rw [Option.bind_some, if_pos (by simp only [List.length_append, List.length_cons, List.length_nil]; omega), if_pos (by simp only [List.length_append, List.length_cons, List.length_nil]; omega), show ([115, 101, 97, 108] ++ [32] ++ digs n1 ++ [10] : List UInt8) = rowT [115, 101, 97, 108] n1 from rfl]
  rw [write_eq (t := (([] : List UInt8) ++ rowT [114, 101, 116, 97, 105, 110] n0)) (by simp only [List.length_append, List.length_nil]; omega) (by omega)]
  rw [Option.bind_some]
  rw [if_pos (by omega)]
  have d2 := digs_len 6 n2 (by omega)
  rw [if_pos (by decide), hnum _ h2]
  rw [Option.bind_some, if_pos (by simp only [List.length_append, List.length_cons, List.length_nil]; omega), if_pos (by simp only [List.length_append, List.length_cons, List.length_nil]; omega), show ([100, 97, 121] ++ [32] ++ digs n2 ++ [10] : List UInt8) = rowT [100, 97, 121] n2 from rfl]
  rw [write_eq (t := ((([] : List UInt8) ++ rowT [114, 101, 116, 97, 105, 110] n0) ++ rowT [115, 101, 97, 108] n1)) (by simp only [List.length_append, List.length_nil]; omega) (by omega)]
  rw [Option.bind_some]
  rw [if_pos (by omega)]
  have d3 := digs_len 6 n3 (by omega)
  rw [if_pos (by decide), hnum _ h3]
  rw [Option.bind_some, if_pos (by simp only [List.length_append, List.length_cons, List.length_nil]; omega), if_pos (by simp only [List.length_append, List.length_cons, List.length_nil]; omega), show ([109, 111, 110, 116, 104] ++ [32] ++ digs n3 ++ [10] : List UInt8) = rowT [109, 111, 110, 116, 104] n3 from rfl]
  rw [write_eq (t := (((([] : List UInt8) ++ rowT [114, 101, 116, 97, 105, 110] n0) ++ rowT [115, 101, 97, 108] n1) ++ rowT [100, 97, 121] n2)) (by simp only [List.length_append, List.length_nil]; omega) (by omega)]
  rw [Option.bind_some]
  rw [if_pos (by omega)]
  have d4 := digs_len 6 n4 (by omega)
  rw [if_pos (by decide), hnum _ h4]
  rw [Option.bind_some, if_pos (by simp only [List.length_append, List.length_cons, List.length_nil]; omega), if_pos (by simp only [List.length_append, List.length_cons, List.length_nil]; omega), show ([99, 111, 108, 100] ++ [32] ++ digs n4 ++ [10] : List UInt8) = rowT [99, 111, 108, 100] n4 from rfl]
  rw [write_eq (t := ((((([] : List UInt8) ++ rowT [114, 101, 116, 97, 105, 110] n0) ++ rowT [115, 101, 97, 108] n1) ++ rowT [100, 97, 121] n2) ++ rowT [109, 111, 110, 116, 104] n3)) (by simp only [List.length_append, List.length_nil]; omega) (by omega)]
  rw [Option.bind_some]
  rw [if_pos (by omega)]
  have d5 := digs_len 6 n5 (by omega)
  rw [if_pos (by decide), hnum _ h5]
  rw [Option.bind_some, if_pos (by simp only [List.length_append, List.length_cons, List.length_nil]; omega), if_pos (by simp only [List.length_append, List.length_cons, List.length_nil]; omega), show ([98, 97, 115, 101] ++ [32] ++ digs n5 ++ [10] : List UInt8) = rowT [98, 97, 115, 101] n5 from rfl]
  rw [write_eq (t := (((((([] : List UInt8) ++ rowT [114, 101, 116, 97, 105, 110] n0) ++ rowT [115, 101, 97, 108] n1) ++ rowT [100, 97, 121] n2) ++ rowT [109, 111, 110, 116, 104] n3) ++ rowT [99, 111, 108, 100] n4)) (by simp only [List.length_append, List.length_nil]; omega) (by omega)]
  rw [Option.bind_some]
  rw [if_pos (by omega)]
  have d6 := digs_len 6 n6 (by omega)
  rw [if_pos (by decide), hnum _ h6]
  rw [Option.bind_some, if_pos (by simp only [List.length_append, List.length_cons, List.length_nil]; omega), if_pos (by simp only [List.length_append, List.length_cons, List.length_nil]; omega), show ([99, 97, 112] ++ [32] ++ digs n6 ++ [10] : List UInt8) = rowT [99, 97, 112] n6 from rfl]
  rw [write_eq (t := ((((((([] : List UInt8) ++ rowT [114, 101, 116, 97, 105, 110] n0) ++ rowT [115, 101, 97, 108] n1) ++ rowT [100, 97, 121] n2) ++ rowT [109, 111, 110, 116, 104] n3) ++ rowT [99, 111, 108, 100] n4) ++ rowT [98, 97, 115, 101] n5)) (by simp only [List.length_append, List.length_nil]; omega) (by omega)]
  rw [Option.bind_some]
  rw [if_pos (by omega)]
  have d7 := digs_len 6 n7 (by omega)
  rw [if_pos (by decide), hnum _ h7]
  rw [Option.bind_some, if_pos (by simp only [List.length_append, List.length_cons, List.length_nil]; omega), if_pos (by simp only [List.length_append, List.length_cons, List.length_nil]; omega), show ([113, 117, 101, 117, 101] ++ [32] ++ digs n7 ++ [10] : List UInt8) = rowT [113, 117, 101, 117, 101] n7 from rfl]
  rw [write_eq (t := (((((((([] : List UInt8) ++ rowT [114, 101, 116, 97, 105, 110] n0) ++ rowT [115, 101, 97, 108] n1) ++ rowT [100, 97, 121] n2) ++ rowT [109, 111, 110, 116, 104] n3) ++ rowT [99, 111, 108, 100] n4) ++ rowT [98, 97, 115, 101] n5) ++ rowT [99, 97, 112] n6)) (by simp only [List.length_append, List.length_nil]; omega) (by omega)]
  rw [Option.bind_some]
  rw [if_pos (by omega)]
  have d8 := digs_len 6 n8 (by omega)
  rw [if_pos (by decide), hnum _ h8]
  rw [Option.bind_some, if_pos (by simp only [List.length_append, List.length_cons, List.length_nil]; omega), if_pos (by simp only [List.length_append, List.length_cons, List.length_nil]; omega), show ([119, 97, 108] ++ [32] ++ digs n8 ++ [10] : List UInt8) = rowT [119, 97, 108] n8 from rfl]
  rw [write_eq (t := ((((((((([] : List UInt8) ++ rowT [114, 101, 116, 97, 105, 110] n0) ++ rowT [115, 101, 97, 108] n1) ++ rowT [100, 97, 121] n2) ++ rowT [109, 111, 110, 116, 104] n3) ++ rowT [99, 111, 108, 100] n4) ++ rowT [98, 97, 115, 101] n5) ++ rowT [99, 97, 112] n6) ++ rowT [113, 117, 101, 117, 101] n7)) (by simp only [List.length_append, List.length_nil]; omega) (by omega)]
  rw [Option.bind_some]
  rw [string_eq (by simp only [List.length_append, List.length_nil]; unfold rowT; simp; omega)]
  rfl
theorem same_l0 {K : Nat} (l : List (List UInt8)) (hl : l.length ≤ 100000) : ∀ (f i : Nat), i ≤ l.length → l.length - i < f → ossuaryref10_Same_RR_l0 K l l f i = some true
  | 0, i, h0, h1 => by omega
  | f + 1, i, h0, h1 => by
    unfold ossuaryref10_Same_RR_l0
    by_cases hi : i < l.length
    · rw [if_pos (by omega), if_pos (by omega), if_pos (by omega), if_neg (by simp), w64_id (by omega)]
      have e1 : ((i : Int) + 1) = ((i + 1 : Nat) : Int) := by omega
      rw [e1, same_l0 l hl f (i + 1) (by omega) (by omega)]
    · rw [if_neg (by omega)]
theorem names_same : (sheet_Names).bind (fun x9 => (ossuaryref10_Same_RR 200000 x9 ossuaryref40_Names)) = some true := by kernel_rfl
theorem fin : ((sheet_Names).bind fun x9 => (thn (ossuaryref40_Names) fun x10 => ((ossuaryref10_Same_RR 200000 x9 x10).bind fun x11 => (if x11 = true then ((ossuarylaw40_alive 200000).bind fun x12 => (some (x12))) else (some (false)))))) = some true := by
  have h := names_same
  simp only [thn_eq]
  cases hs : sheet_Names with
  | none => rw [hs] at h; cases h
  | some l =>
    rw [hs] at h
    simp only [Option.bind_some] at h ⊢
    rw [h]
    simp only [Option.bind_some, if_true, alive_true]
set_option maxRecDepth 1000000 in
theorem law (a0 a1 a2 a3 a4 a5 a6 a7 a8 : Int) : ∃ K, ossuarylaw40_SheetTexts K a0 a1 a2 a3 a4 a5 a6 a7 a8 = some true := by
  refine ⟨200000, ?_⟩
  unfold ossuarylaw40_SheetTexts
  by_cases hc : ossuaryref18_Check a0 a1 a2 a3 a4 a5 a6 a7 a8 = 0
  · obtain ⟨c0, c1, c2, c3, c4, c5, c6, c7, c8⟩ := check0 hc
    obtain ⟨n0, rfl⟩ : ∃ n : Nat, a0 = (n : Int) := ⟨a0.toNat, by omega⟩
    obtain ⟨n1, rfl⟩ : ∃ n : Nat, a1 = (n : Int) := ⟨a1.toNat, by omega⟩
    obtain ⟨n2, rfl⟩ : ∃ n : Nat, a2 = (n : Int) := ⟨a2.toNat, by omega⟩
    obtain ⟨n3, rfl⟩ : ∃ n : Nat, a3 = (n : Int) := ⟨a3.toNat, by omega⟩
    obtain ⟨n4, rfl⟩ : ∃ n : Nat, a4 = (n : Int) := ⟨a4.toNat, by omega⟩
    obtain ⟨n5, rfl⟩ : ∃ n : Nat, a5 = (n : Int) := ⟨a5.toNat, by omega⟩
    obtain ⟨n6, rfl⟩ : ∃ n : Nat, a6 = (n : Int) := ⟨a6.toNat, by omega⟩
    obtain ⟨n7, rfl⟩ : ∃ n : Nat, a7 = (n : Int) := ⟨a7.toNat, by omega⟩
    obtain ⟨n8, rfl⟩ : ∃ n : Nat, a8 = (n : Int) := ⟨a8.toNat, by omega⟩
    rw [text_eq (fun _ h => number_eq h) (by omega) (by omega) (by omega) (by omega) (by omega) (by omega) (by omega) (by omega) (by omega) hc]
    simp only [Option.bind_some]
    unfold ossuaryref40_Text
    simp only [thn_eq]
    rw [if_neg (by simp [hc])]
    unfold ossuaryref40_numbers
    rw [ref_text (by omega) (by omega) (by omega) (by omega) (by omega) (by omega) (by omega) (by omega) (by omega)]
    simp only [Option.bind_some, if_true]
    exact fin
  · unfold sheet_Text ossuaryref40_Text
    rw [check_eq, Option.bind_some, if_pos hc, thn_eq, if_pos hc, Option.bind_some, Option.bind_some, if_pos rfl, if_pos rfl]
    exact fin
end Go.Proofs.Ythcmiohbidencaa.SheetTexts
