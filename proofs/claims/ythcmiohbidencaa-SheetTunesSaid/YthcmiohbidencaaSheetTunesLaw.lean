/- The plain law of SheetTunes: what any policy is with any number at any name, and in which fields any two differ. -/
import Derived.Test.YthcmiohbidencaaSheetTunesPure
import Derived.Test.YthcmiohbidencaaELaw
import Derived.KernelRfl
set_option linter.unusedVariables false
set_option linter.unusedSimpArgs false
set_option maxRecDepth 20000
namespace Go.Proofs.Ythcmiohbidencaa.SheetTunes
open Go E
theorem alive_true : ossuarylaw40_alive 200000 = some true := by kernel_rfl
theorem in_def (x lo hi : Int) : ossuaryref18_in x lo hi = decide (lo ≤ x ∧ x ≤ hi) := by
  unfold ossuaryref18_in
  by_cases h : lo ≤ x <;> simp [h]
theorem two_if {α : Type} (x lo hi : Int) (A Y : α) : (if x < lo then A else if hi < x then A else Y) = if (!(ossuaryref18_in x lo hi)) = true then A else Y := by
  rw [in_def]
  by_cases h : x < lo
  · rw [if_pos h, if_pos (by simp; omega)]
  · rw [if_neg h]
    by_cases h2 : hi < x
    · rw [if_pos h2, if_pos (by simp; omega)]
    · rw [if_neg h2, if_neg (by simp; omega)]
theorem check_eq (a0 a1 a2 a3 a4 a5 a6 a7 a8 : Int) : policy_Check a0 a1 a2 a3 a4 a5 a6 a7 a8 = some (ossuaryref18_Check a0 a1 a2 a3 a4 a5 a6 a7 a8) := by
  unfold policy_Check ossuaryref18_Check
  simp only [thn_eq, policy_bounds, policy_numbers, two_if, apply_ite some]
  simp
theorem check2 {a0 a1 a2 a3 a4 a5 a6 a7 a8 : Int} (h : ¬ (1 ≤ a7 ∧ a7 ≤ 64)) : ossuaryref18_Check a0 a1 a2 a3 a4 a5 a6 a7 a8 = 2 := by
  unfold ossuaryref18_Check
  simp only [thn_eq]
  have hq : ossuaryref18_in a7 1 64 = false := by rw [in_def]; simp only [decide_eq_false_iff_not]; exact h
  simp only [hq, Bool.not_false, if_true]
  simp only [ite_self]
/-- What a policy comes to, as the program has it, and as the document. -/
def tuneR (p0 p1 p2 p3 p4 p5 p6 p7 p8 : Int) : Int × Int × Int × Int × Int × Int × Int × Int × Int × Int := if ossuaryref18_Check p0 p1 p2 p3 p4 p5 p6 p7 p8 = 0 then (p0, p1, p2, p3, p4, p5, p6, p7, p8, 0) else (0, 0, 0, 0, 0, 0, 0, 0, 0, ossuaryref18_Check p0 p1 p2 p3 p4 p5 p6 p7 p8)
def refR (p0 p1 p2 p3 p4 p5 p6 p7 p8 : Int) : Int × Int × Int × Int × Int × Int × Int × Int × Int × Int := if ossuaryref18_Check p0 p1 p2 p3 p4 p5 p6 p7 p8 = 0 then (0, p0, p1, p2, p3, p4, p5, p6, p7, p8) else (ossuaryref18_Check p0 p1 p2 p3 p4 p5 p6 p7 p8, 0, 0, 0, 0, 0, 0, 0, 0, 0)
theorem done_t (p0 p1 p2 p3 p4 p5 p6 p7 p8 p9 : Int) : (sheet_sheet_done p0 p1 p2 p3 p4 p5 p6 p7 p8 p9).bind (fun x => some ((x.2.2.1, x.2.2.2.1, x.2.2.2.2.1, x.2.2.2.2.2.1, x.2.2.2.2.2.2.1, x.2.2.2.2.2.2.2.1, x.2.2.2.2.2.2.2.2.1, x.2.2.2.2.2.2.2.2.2.1, x.2.2.2.2.2.2.2.2.2.2, x.1))) = some (tuneR p0 p1 p2 p3 p4 p5 p6 p9 p8) := by
  unfold sheet_sheet_done
  by_cases h1 : 2147483648 < p9
  · have hc : ossuaryref18_Check p0 p1 p2 p3 p4 p5 p6 p9 p8 = 2 := check2 (by omega)
    rw [if_pos h1]; simp [tuneR, hc]
  · rw [if_neg h1]
    by_cases h2 : p9 < (-2147483648)
    · have hc : ossuaryref18_Check p0 p1 p2 p3 p4 p5 p6 p9 p8 = 2 := check2 (by omega)
      rw [if_pos h2]; simp [tuneR, hc]
    · rw [if_neg h2, check_eq]
      by_cases hc : ossuaryref18_Check p0 p1 p2 p3 p4 p5 p6 p9 p8 = 0
      · simp [tuneR, hc]
      · simp [tuneR, hc]
theorem of_eq (p0 p1 p2 p3 p4 p5 p6 p7 p8 : Int) : ossuaryref40_of_R [p0, p1, p2, p3, p4, p5, p6, p7, p8] = some (p0, p1, p2, p3, p4, p5, p6, p7, p8) := rfl
theorem ref_t (p0 p1 p2 p3 p4 p5 p6 p7 p8 : Int) : ((ossuaryref40_of_R [p0, p1, p2, p3, p4, p5, p6, p7, p8]).bind fun x36 => (if ¬ (ossuaryref18_Check x36.1 x36.2.1 x36.2.2.1 x36.2.2.2.1 x36.2.2.2.2.1 x36.2.2.2.2.2.1 x36.2.2.2.2.2.2.1 x36.2.2.2.2.2.2.2.1 x36.2.2.2.2.2.2.2.2 = 0) then (some ((ossuaryref18_Check x36.1 x36.2.1 x36.2.2.1 x36.2.2.2.1 x36.2.2.2.2.1 x36.2.2.2.2.2.1 x36.2.2.2.2.2.2.1 x36.2.2.2.2.2.2.2.1 x36.2.2.2.2.2.2.2.2, 0, 0, 0, 0, 0, 0, 0, 0, 0))) else ((ossuaryref40_of_R [p0, p1, p2, p3, p4, p5, p6, p7, p8]).bind fun x38 => (some ((0, x38.1, x38.2.1, x38.2.2.1, x38.2.2.2.1, x38.2.2.2.2.1, x38.2.2.2.2.2.1, x38.2.2.2.2.2.2.1, x38.2.2.2.2.2.2.2.1, x38.2.2.2.2.2.2.2.2)))))) = some (refR p0 p1 p2 p3 p4 p5 p6 p7 p8) := by
  rw [of_eq]
  simp only [Option.bind_some]
  by_cases hc : ossuaryref18_Check p0 p1 p2 p3 p4 p5 p6 p7 p8 = 0
  · simp [refR, hc]
  · simp [refR, hc]
theorem idx0 : slices_Index_____string__string_R 200000 ([sheet_names.1, sheet_names.2.1, sheet_names.2.2.1, sheet_names.2.2.2.1, sheet_names.2.2.2.2.1, sheet_names.2.2.2.2.2.1, sheet_names.2.2.2.2.2.2.1, sheet_names.2.2.2.2.2.2.2.1, sheet_names.2.2.2.2.2.2.2.2].take 9) ([114, 101, 116, 97, 105, 110] : List UInt8) = some 0 := by kernel_rfl
theorem at0 : ossuaryref40_Tune_l0 200000 ([114, 101, 116, 97, 105, 110] : List UInt8) 200000 (-1) 0 = some 0 := by kernel_rfl
theorem tune0 (a0 a1 a2 a3 a4 a5 a6 a7 a8 n : Int) : sheet_Tune 200000 a0 a1 a2 a3 a4 a5 a6 a7 a8 ([114, 101, 116, 97, 105, 110] : List UInt8) n = some (tuneR n a1 a2 a3 a4 a5 a6 a7 a8) := by
  unfold sheet_Tune
  simp only [thn_eq]
  rw [idx0]
  simp only [Option.bind_some, Int.reduceLT, Int.reduceLE, Int.reduceEq, if_true, if_false]
  exact done_t n a1 a2 a3 a4 a5 a6 a7 a8 a7
theorem reft0 (a0 a1 a2 a3 a4 a5 a6 a7 a8 n : Int) : ossuaryref40_Tune 200000 a0 a1 a2 a3 a4 a5 a6 a7 a8 ([114, 101, 116, 97, 105, 110] : List UInt8) n = some (refR n a1 a2 a3 a4 a5 a6 a7 a8) := by
  unfold ossuaryref40_Tune
  simp only [thn_eq]
  rw [at0]
  simp only [Option.bind_some]
  rw [if_neg (by decide), if_pos (by decide), if_pos (show (0 : Int) < ((ossuaryref40_numbers a0 a1 a2 a3 a4 a5 a6 a7 a8).length : Int) by simp [ossuaryref40_numbers])]
  exact ref_t n a1 a2 a3 a4 a5 a6 a7 a8
theorem idx1 : slices_Index_____string__string_R 200000 ([sheet_names.1, sheet_names.2.1, sheet_names.2.2.1, sheet_names.2.2.2.1, sheet_names.2.2.2.2.1, sheet_names.2.2.2.2.2.1, sheet_names.2.2.2.2.2.2.1, sheet_names.2.2.2.2.2.2.2.1, sheet_names.2.2.2.2.2.2.2.2].take 9) ([115, 101, 97, 108] : List UInt8) = some 1 := by kernel_rfl
theorem at1 : ossuaryref40_Tune_l0 200000 ([115, 101, 97, 108] : List UInt8) 200000 (-1) 0 = some 1 := by kernel_rfl
theorem tune1 (a0 a1 a2 a3 a4 a5 a6 a7 a8 n : Int) : sheet_Tune 200000 a0 a1 a2 a3 a4 a5 a6 a7 a8 ([115, 101, 97, 108] : List UInt8) n = some (tuneR a0 n a2 a3 a4 a5 a6 a7 a8) := by
  unfold sheet_Tune
  simp only [thn_eq]
  rw [idx1]
  simp only [Option.bind_some, Int.reduceLT, Int.reduceLE, Int.reduceEq, if_true, if_false]
  exact done_t a0 n a2 a3 a4 a5 a6 a7 a8 a7
theorem reft1 (a0 a1 a2 a3 a4 a5 a6 a7 a8 n : Int) : ossuaryref40_Tune 200000 a0 a1 a2 a3 a4 a5 a6 a7 a8 ([115, 101, 97, 108] : List UInt8) n = some (refR a0 n a2 a3 a4 a5 a6 a7 a8) := by
  unfold ossuaryref40_Tune
  simp only [thn_eq]
  rw [at1]
  simp only [Option.bind_some]
  rw [if_neg (by decide), if_pos (by decide), if_pos (show (1 : Int) < ((ossuaryref40_numbers a0 a1 a2 a3 a4 a5 a6 a7 a8).length : Int) by simp [ossuaryref40_numbers])]
  exact ref_t a0 n a2 a3 a4 a5 a6 a7 a8
theorem idx2 : slices_Index_____string__string_R 200000 ([sheet_names.1, sheet_names.2.1, sheet_names.2.2.1, sheet_names.2.2.2.1, sheet_names.2.2.2.2.1, sheet_names.2.2.2.2.2.1, sheet_names.2.2.2.2.2.2.1, sheet_names.2.2.2.2.2.2.2.1, sheet_names.2.2.2.2.2.2.2.2].take 9) ([100, 97, 121] : List UInt8) = some 2 := by kernel_rfl
theorem at2 : ossuaryref40_Tune_l0 200000 ([100, 97, 121] : List UInt8) 200000 (-1) 0 = some 2 := by kernel_rfl
theorem tune2 (a0 a1 a2 a3 a4 a5 a6 a7 a8 n : Int) : sheet_Tune 200000 a0 a1 a2 a3 a4 a5 a6 a7 a8 ([100, 97, 121] : List UInt8) n = some (tuneR a0 a1 n a3 a4 a5 a6 a7 a8) := by
  unfold sheet_Tune
  simp only [thn_eq]
  rw [idx2]
  simp only [Option.bind_some, Int.reduceLT, Int.reduceLE, Int.reduceEq, if_true, if_false]
  exact done_t a0 a1 n a3 a4 a5 a6 a7 a8 a7
theorem reft2 (a0 a1 a2 a3 a4 a5 a6 a7 a8 n : Int) : ossuaryref40_Tune 200000 a0 a1 a2 a3 a4 a5 a6 a7 a8 ([100, 97, 121] : List UInt8) n = some (refR a0 a1 n a3 a4 a5 a6 a7 a8) := by
  unfold ossuaryref40_Tune
  simp only [thn_eq]
  rw [at2]
  simp only [Option.bind_some]
  rw [if_neg (by decide), if_pos (by decide), if_pos (show (2 : Int) < ((ossuaryref40_numbers a0 a1 a2 a3 a4 a5 a6 a7 a8).length : Int) by simp [ossuaryref40_numbers])]
  exact ref_t a0 a1 n a3 a4 a5 a6 a7 a8
theorem idx3 : slices_Index_____string__string_R 200000 ([sheet_names.1, sheet_names.2.1, sheet_names.2.2.1, sheet_names.2.2.2.1, sheet_names.2.2.2.2.1, sheet_names.2.2.2.2.2.1, sheet_names.2.2.2.2.2.2.1, sheet_names.2.2.2.2.2.2.2.1, sheet_names.2.2.2.2.2.2.2.2].take 9) ([109, 111, 110, 116, 104] : List UInt8) = some 3 := by kernel_rfl
theorem at3 : ossuaryref40_Tune_l0 200000 ([109, 111, 110, 116, 104] : List UInt8) 200000 (-1) 0 = some 3 := by kernel_rfl
theorem tune3 (a0 a1 a2 a3 a4 a5 a6 a7 a8 n : Int) : sheet_Tune 200000 a0 a1 a2 a3 a4 a5 a6 a7 a8 ([109, 111, 110, 116, 104] : List UInt8) n = some (tuneR a0 a1 a2 n a4 a5 a6 a7 a8) := by
  unfold sheet_Tune
  simp only [thn_eq]
  rw [idx3]
  simp only [Option.bind_some, Int.reduceLT, Int.reduceLE, Int.reduceEq, if_true, if_false]
  exact done_t a0 a1 a2 n a4 a5 a6 a7 a8 a7
theorem reft3 (a0 a1 a2 a3 a4 a5 a6 a7 a8 n : Int) : ossuaryref40_Tune 200000 a0 a1 a2 a3 a4 a5 a6 a7 a8 ([109, 111, 110, 116, 104] : List UInt8) n = some (refR a0 a1 a2 n a4 a5 a6 a7 a8) := by
  unfold ossuaryref40_Tune
  simp only [thn_eq]
  rw [at3]
  simp only [Option.bind_some]
  rw [if_neg (by decide), if_pos (by decide), if_pos (show (3 : Int) < ((ossuaryref40_numbers a0 a1 a2 a3 a4 a5 a6 a7 a8).length : Int) by simp [ossuaryref40_numbers])]
  exact ref_t a0 a1 a2 n a4 a5 a6 a7 a8
theorem idx4 : slices_Index_____string__string_R 200000 ([sheet_names.1, sheet_names.2.1, sheet_names.2.2.1, sheet_names.2.2.2.1, sheet_names.2.2.2.2.1, sheet_names.2.2.2.2.2.1, sheet_names.2.2.2.2.2.2.1, sheet_names.2.2.2.2.2.2.2.1, sheet_names.2.2.2.2.2.2.2.2].take 9) ([99, 111, 108, 100] : List UInt8) = some 4 := by kernel_rfl
theorem at4 : ossuaryref40_Tune_l0 200000 ([99, 111, 108, 100] : List UInt8) 200000 (-1) 0 = some 4 := by kernel_rfl
theorem tune4 (a0 a1 a2 a3 a4 a5 a6 a7 a8 n : Int) : sheet_Tune 200000 a0 a1 a2 a3 a4 a5 a6 a7 a8 ([99, 111, 108, 100] : List UInt8) n = some (tuneR a0 a1 a2 a3 n a5 a6 a7 a8) := by
  unfold sheet_Tune
  simp only [thn_eq]
  rw [idx4]
  simp only [Option.bind_some, Int.reduceLT, Int.reduceLE, Int.reduceEq, if_true, if_false]
  exact done_t a0 a1 a2 a3 n a5 a6 a7 a8 a7
theorem reft4 (a0 a1 a2 a3 a4 a5 a6 a7 a8 n : Int) : ossuaryref40_Tune 200000 a0 a1 a2 a3 a4 a5 a6 a7 a8 ([99, 111, 108, 100] : List UInt8) n = some (refR a0 a1 a2 a3 n a5 a6 a7 a8) := by
  unfold ossuaryref40_Tune
  simp only [thn_eq]
  rw [at4]
  simp only [Option.bind_some]
  rw [if_neg (by decide), if_pos (by decide), if_pos (show (4 : Int) < ((ossuaryref40_numbers a0 a1 a2 a3 a4 a5 a6 a7 a8).length : Int) by simp [ossuaryref40_numbers])]
  exact ref_t a0 a1 a2 a3 n a5 a6 a7 a8
theorem idx5 : slices_Index_____string__string_R 200000 ([sheet_names.1, sheet_names.2.1, sheet_names.2.2.1, sheet_names.2.2.2.1, sheet_names.2.2.2.2.1, sheet_names.2.2.2.2.2.1, sheet_names.2.2.2.2.2.2.1, sheet_names.2.2.2.2.2.2.2.1, sheet_names.2.2.2.2.2.2.2.2].take 9) ([98, 97, 115, 101] : List UInt8) = some 5 := by kernel_rfl
theorem at5 : ossuaryref40_Tune_l0 200000 ([98, 97, 115, 101] : List UInt8) 200000 (-1) 0 = some 5 := by kernel_rfl
theorem tune5 (a0 a1 a2 a3 a4 a5 a6 a7 a8 n : Int) : sheet_Tune 200000 a0 a1 a2 a3 a4 a5 a6 a7 a8 ([98, 97, 115, 101] : List UInt8) n = some (tuneR a0 a1 a2 a3 a4 n a6 a7 a8) := by
  unfold sheet_Tune
  simp only [thn_eq]
  rw [idx5]
  simp only [Option.bind_some, Int.reduceLT, Int.reduceLE, Int.reduceEq, if_true, if_false]
  exact done_t a0 a1 a2 a3 a4 n a6 a7 a8 a7
theorem reft5 (a0 a1 a2 a3 a4 a5 a6 a7 a8 n : Int) : ossuaryref40_Tune 200000 a0 a1 a2 a3 a4 a5 a6 a7 a8 ([98, 97, 115, 101] : List UInt8) n = some (refR a0 a1 a2 a3 a4 n a6 a7 a8) := by
  unfold ossuaryref40_Tune
  simp only [thn_eq]
  rw [at5]
  simp only [Option.bind_some]
  rw [if_neg (by decide), if_pos (by decide), if_pos (show (5 : Int) < ((ossuaryref40_numbers a0 a1 a2 a3 a4 a5 a6 a7 a8).length : Int) by simp [ossuaryref40_numbers])]
  exact ref_t a0 a1 a2 a3 a4 n a6 a7 a8
theorem idx6 : slices_Index_____string__string_R 200000 ([sheet_names.1, sheet_names.2.1, sheet_names.2.2.1, sheet_names.2.2.2.1, sheet_names.2.2.2.2.1, sheet_names.2.2.2.2.2.1, sheet_names.2.2.2.2.2.2.1, sheet_names.2.2.2.2.2.2.2.1, sheet_names.2.2.2.2.2.2.2.2].take 9) ([99, 97, 112] : List UInt8) = some 6 := by kernel_rfl
theorem at6 : ossuaryref40_Tune_l0 200000 ([99, 97, 112] : List UInt8) 200000 (-1) 0 = some 6 := by kernel_rfl
theorem tune6 (a0 a1 a2 a3 a4 a5 a6 a7 a8 n : Int) : sheet_Tune 200000 a0 a1 a2 a3 a4 a5 a6 a7 a8 ([99, 97, 112] : List UInt8) n = some (tuneR a0 a1 a2 a3 a4 a5 n a7 a8) := by
  unfold sheet_Tune
  simp only [thn_eq]
  rw [idx6]
  simp only [Option.bind_some, Int.reduceLT, Int.reduceLE, Int.reduceEq, if_true, if_false]
  exact done_t a0 a1 a2 a3 a4 a5 n a7 a8 a7
theorem reft6 (a0 a1 a2 a3 a4 a5 a6 a7 a8 n : Int) : ossuaryref40_Tune 200000 a0 a1 a2 a3 a4 a5 a6 a7 a8 ([99, 97, 112] : List UInt8) n = some (refR a0 a1 a2 a3 a4 a5 n a7 a8) := by
  unfold ossuaryref40_Tune
  simp only [thn_eq]
  rw [at6]
  simp only [Option.bind_some]
  rw [if_neg (by decide), if_pos (by decide), if_pos (show (6 : Int) < ((ossuaryref40_numbers a0 a1 a2 a3 a4 a5 a6 a7 a8).length : Int) by simp [ossuaryref40_numbers])]
  exact ref_t a0 a1 a2 a3 a4 a5 n a7 a8
theorem idx7 : slices_Index_____string__string_R 200000 ([sheet_names.1, sheet_names.2.1, sheet_names.2.2.1, sheet_names.2.2.2.1, sheet_names.2.2.2.2.1, sheet_names.2.2.2.2.2.1, sheet_names.2.2.2.2.2.2.1, sheet_names.2.2.2.2.2.2.2.1, sheet_names.2.2.2.2.2.2.2.2].take 9) ([113, 117, 101, 117, 101] : List UInt8) = some 7 := by kernel_rfl
theorem at7 : ossuaryref40_Tune_l0 200000 ([113, 117, 101, 117, 101] : List UInt8) 200000 (-1) 0 = some 7 := by kernel_rfl
theorem tune7 (a0 a1 a2 a3 a4 a5 a6 a7 a8 n : Int) : sheet_Tune 200000 a0 a1 a2 a3 a4 a5 a6 a7 a8 ([113, 117, 101, 117, 101] : List UInt8) n = some (tuneR a0 a1 a2 a3 a4 a5 a6 n a8) := by
  unfold sheet_Tune
  simp only [thn_eq]
  rw [idx7]
  simp only [Option.bind_some, Int.reduceLT, Int.reduceLE, Int.reduceEq, if_true, if_false]
  exact done_t a0 a1 a2 a3 a4 a5 a6 a7 a8 n
theorem reft7 (a0 a1 a2 a3 a4 a5 a6 a7 a8 n : Int) : ossuaryref40_Tune 200000 a0 a1 a2 a3 a4 a5 a6 a7 a8 ([113, 117, 101, 117, 101] : List UInt8) n = some (refR a0 a1 a2 a3 a4 a5 a6 n a8) := by
  unfold ossuaryref40_Tune
  simp only [thn_eq]
  rw [at7]
  simp only [Option.bind_some]
  rw [if_neg (by decide), if_pos (by decide), if_pos (show (7 : Int) < ((ossuaryref40_numbers a0 a1 a2 a3 a4 a5 a6 a7 a8).length : Int) by simp [ossuaryref40_numbers])]
  exact ref_t a0 a1 a2 a3 a4 a5 a6 n a8
theorem idx8 : slices_Index_____string__string_R 200000 ([sheet_names.1, sheet_names.2.1, sheet_names.2.2.1, sheet_names.2.2.2.1, sheet_names.2.2.2.2.1, sheet_names.2.2.2.2.2.1, sheet_names.2.2.2.2.2.2.1, sheet_names.2.2.2.2.2.2.2.1, sheet_names.2.2.2.2.2.2.2.2].take 9) ([119, 97, 108] : List UInt8) = some 8 := by kernel_rfl
theorem at8 : ossuaryref40_Tune_l0 200000 ([119, 97, 108] : List UInt8) 200000 (-1) 0 = some 8 := by kernel_rfl
theorem tune8 (a0 a1 a2 a3 a4 a5 a6 a7 a8 n : Int) : sheet_Tune 200000 a0 a1 a2 a3 a4 a5 a6 a7 a8 ([119, 97, 108] : List UInt8) n = some (tuneR a0 a1 a2 a3 a4 a5 a6 a7 n) := by
  unfold sheet_Tune
  simp only [thn_eq]
  rw [idx8]
  simp only [Option.bind_some, Int.reduceLT, Int.reduceLE, Int.reduceEq, if_true, if_false]
  exact done_t a0 a1 a2 a3 a4 a5 a6 a7 n a7
theorem reft8 (a0 a1 a2 a3 a4 a5 a6 a7 a8 n : Int) : ossuaryref40_Tune 200000 a0 a1 a2 a3 a4 a5 a6 a7 a8 ([119, 97, 108] : List UInt8) n = some (refR a0 a1 a2 a3 a4 a5 a6 a7 n) := by
  unfold ossuaryref40_Tune
  simp only [thn_eq]
  rw [at8]
  simp only [Option.bind_some]
  rw [if_neg (by decide), if_pos (by decide), if_pos (show (8 : Int) < ((ossuaryref40_numbers a0 a1 a2 a3 a4 a5 a6 a7 a8).length : Int) by simp [ossuaryref40_numbers])]
  exact ref_t a0 a1 a2 a3 a4 a5 a6 a7 n
theorem idxN {s : List UInt8} (h0 : s ≠ ([114, 101, 116, 97, 105, 110] : List UInt8)) (h1 : s ≠ ([115, 101, 97, 108] : List UInt8)) (h2 : s ≠ ([100, 97, 121] : List UInt8)) (h3 : s ≠ ([109, 111, 110, 116, 104] : List UInt8)) (h4 : s ≠ ([99, 111, 108, 100] : List UInt8)) (h5 : s ≠ ([98, 97, 115, 101] : List UInt8)) (h6 : s ≠ ([99, 97, 112] : List UInt8)) (h7 : s ≠ ([113, 117, 101, 117, 101] : List UInt8)) (h8 : s ≠ ([119, 97, 108] : List UInt8)) : slices_Index_____string__string_R 200000 ([sheet_names.1, sheet_names.2.1, sheet_names.2.2.1, sheet_names.2.2.2.1, sheet_names.2.2.2.2.1, sheet_names.2.2.2.2.2.1, sheet_names.2.2.2.2.2.2.1, sheet_names.2.2.2.2.2.2.2.1, sheet_names.2.2.2.2.2.2.2.2].take 9) s = some (-1) := by
  have e : ∀ f : Nat, slices_Index_____string__string_R_l0 200000 [([114, 101, 116, 97, 105, 110] : List UInt8), ([115, 101, 97, 108] : List UInt8), ([100, 97, 121] : List UInt8), ([109, 111, 110, 116, 104] : List UInt8), ([99, 111, 108, 100] : List UInt8), ([98, 97, 115, 101] : List UInt8), ([99, 97, 112] : List UInt8), ([113, 117, 101, 117, 101] : List UInt8), ([119, 97, 108] : List UInt8)] s (f + 10) 0 = some (-1) := by
    intro f
    have s1 : w64 1 = 1 := w64_id (by omega)
    have s2 : w64 2 = 2 := w64_id (by omega)
    have s3 : w64 3 = 3 := w64_id (by omega)
    have s4 : w64 4 = 4 := w64_id (by omega)
    have s5 : w64 5 = 5 := w64_id (by omega)
    have s6 : w64 6 = 6 := w64_id (by omega)
    have s7 : w64 7 = 7 := w64_id (by omega)
    have s8 : w64 8 = 8 := w64_id (by omega)
    have s9 : w64 9 = 9 := w64_id (by omega)
    simp [slices_Index_____string__string_R_l0, h0, h1, h2, h3, h4, h5, h6, h7, h8, s1, s2, s3, s4, s5, s6, s7, s8, s9]
  exact e 199990
theorem atN {s : List UInt8} (h0 : s ≠ ([114, 101, 116, 97, 105, 110] : List UInt8)) (h1 : s ≠ ([115, 101, 97, 108] : List UInt8)) (h2 : s ≠ ([100, 97, 121] : List UInt8)) (h3 : s ≠ ([109, 111, 110, 116, 104] : List UInt8)) (h4 : s ≠ ([99, 111, 108, 100] : List UInt8)) (h5 : s ≠ ([98, 97, 115, 101] : List UInt8)) (h6 : s ≠ ([99, 97, 112] : List UInt8)) (h7 : s ≠ ([113, 117, 101, 117, 101] : List UInt8)) (h8 : s ≠ ([119, 97, 108] : List UInt8)) : ossuaryref40_Tune_l0 200000 s 200000 (-1) 0 = some (-1) := by
  have e : ∀ f : Nat, ossuaryref40_Tune_l0 200000 s (f + 10) (-1) 0 = some (-1) := by
    intro f
    have s1 : w64 1 = 1 := w64_id (by omega)
    have s2 : w64 2 = 2 := w64_id (by omega)
    have s3 : w64 3 = 3 := w64_id (by omega)
    have s4 : w64 4 = 4 := w64_id (by omega)
    have s5 : w64 5 = 5 := w64_id (by omega)
    have s6 : w64 6 = 6 := w64_id (by omega)
    have s7 : w64 7 = 7 := w64_id (by omega)
    have s8 : w64 8 = 8 := w64_id (by omega)
    have s9 : w64 9 = 9 := w64_id (by omega)
    simp [ossuaryref40_Tune_l0, ossuaryref40_Names, thn_eq, Ne.symm h0, Ne.symm h1, Ne.symm h2, Ne.symm h3, Ne.symm h4, Ne.symm h5, Ne.symm h6, Ne.symm h7, Ne.symm h8, s1, s2, s3, s4, s5, s6, s7, s8, s9]
  exact e 199990
/-- In which fields two differ. -/
def st (l : List (List UInt8)) (x y : Int) (n : List UInt8) : List (List UInt8) := if x = y then l else l ++ [n]
theorem st_le {l : List (List UInt8)} {m : Nat} (x y : Int) (n : List UInt8) (h : l.length ≤ m) : (st l x y n).length ≤ m + 1 := by
  unfold st
  by_cases q : x = y
  · rw [if_pos q]; omega
  · rw [if_neg q]; simp; omega
theorem step_p {β : Type} {l : List (List UInt8)} {x y i : Int} {n : List UInt8} (f : List (List UInt8) → Option β) (hi : i < 9) (hl : l.length ≤ 100) : Option.bind (if i < (9 : Int) then (if ¬ (x = y) then (if (l.length + [n].length) * 16 ≤ 140737488355328 then (some ((l ++ [n]))) else none) else (some (l))) else none) f = f (st l x y n) := by
  rw [if_pos hi]
  unfold st
  by_cases q : x = y
  · rw [if_neg (by simp [q]), if_pos q]; rfl
  · rw [if_pos q, if_neg q, if_pos (by simp; omega)]; rfl
theorem step_r {K f i : Nat} {xs ys : List Int} {l : List (List UInt8)} (hi : i < 9) (hx : xs.length = 9) (hy : ys.length = 9) (hl : l.length ≤ 100) : ossuaryref40_Differ_l0 K xs ys (f + 1) (i : Int) l = ossuaryref40_Differ_l0 K xs ys f ((i + 1 : Nat) : Int) (st l (xs.getD i 0) (ys.getD i 0) (ossuaryref40_Names.getD i [])) := by
  conv => lhs; unfold ossuaryref40_Differ_l0
  have hN : ossuaryref40_Names.length = 9 := rfl
  simp only [thn_eq, Int.toNat_natCast]
  rw [if_pos (by omega), if_pos (by omega), if_pos (by omega), if_pos (by omega), w64_id (by omega)]
  have e1 : ((i : Int) + 1) = ((i + 1 : Nat) : Int) := by omega
  have hb : (i : Int) < ((ossuaryref40_Names.length : Nat) : Int) := by rw [hN]; omega
  rw [e1]
  unfold st
  by_cases q : xs.getD i 0 = ys.getD i 0
  · rw [if_neg (fun z => z q), if_pos q]
  · rw [if_pos q, if_neg q, if_pos hb, if_pos (by simp; omega)]
def dif (a0 a1 a2 a3 a4 a5 a6 a7 a8 b0 b1 b2 b3 b4 b5 b6 b7 b8 : Int) : List (List UInt8) := (st (st (st (st (st (st (st (st (st ([] : List (List UInt8)) a0 b0 ([114, 101, 116, 97, 105, 110] : List UInt8)) a1 b1 ([115, 101, 97, 108] : List UInt8)) a2 b2 ([100, 97, 121] : List UInt8)) a3 b3 ([109, 111, 110, 116, 104] : List UInt8)) a4 b4 ([99, 111, 108, 100] : List UInt8)) a5 b5 ([98, 97, 115, 101] : List UInt8)) a6 b6 ([99, 97, 112] : List UInt8)) a7 b7 ([113, 117, 101, 117, 101] : List UInt8)) a8 b8 ([119, 97, 108] : List UInt8))
theorem dif_len (a0 a1 a2 a3 a4 a5 a6 a7 a8 b0 b1 b2 b3 b4 b5 b6 b7 b8 : Int) : (dif a0 a1 a2 a3 a4 a5 a6 a7 a8 b0 b1 b2 b3 b4 b5 b6 b7 b8).length ≤ 9 := (st_le _ _ _ (st_le _ _ _ (st_le _ _ _ (st_le _ _ _ (st_le _ _ _ (st_le _ _ _ (st_le _ _ _ (st_le _ _ _ (st_le _ _ _ (Nat.zero_le 0))))))))))
set_option maxRecDepth 1000000 in
theorem differ_p (a0 a1 a2 a3 a4 a5 a6 a7 a8 b0 b1 b2 b3 b4 b5 b6 b7 b8 : Int) : sheet_Differ a0 a1 a2 a3 a4 a5 a6 a7 a8 b0 b1 b2 b3 b4 b5 b6 b7 b8 = some (dif a0 a1 a2 a3 a4 a5 a6 a7 a8 b0 b1 b2 b3 b4 b5 b6 b7 b8) := by
  unfold sheet_Differ
  simp only [thn_eq]
  rw [step_p _ (by decide) (Nat.le_trans (Nat.zero_le 0) (by decide))]
  rw [step_p _ (by decide) (Nat.le_trans (st_le _ _ _ (Nat.zero_le 0)) (by decide))]
  rw [step_p _ (by decide) (Nat.le_trans (st_le _ _ _ (st_le _ _ _ (Nat.zero_le 0))) (by decide))]
  rw [step_p _ (by decide) (Nat.le_trans (st_le _ _ _ (st_le _ _ _ (st_le _ _ _ (Nat.zero_le 0)))) (by decide))]
  rw [step_p _ (by decide) (Nat.le_trans (st_le _ _ _ (st_le _ _ _ (st_le _ _ _ (st_le _ _ _ (Nat.zero_le 0))))) (by decide))]
  rw [step_p _ (by decide) (Nat.le_trans (st_le _ _ _ (st_le _ _ _ (st_le _ _ _ (st_le _ _ _ (st_le _ _ _ (Nat.zero_le 0)))))) (by decide))]
  rw [step_p _ (by decide) (Nat.le_trans (st_le _ _ _ (st_le _ _ _ (st_le _ _ _ (st_le _ _ _ (st_le _ _ _ (st_le _ _ _ (Nat.zero_le 0))))))) (by decide))]
  rw [step_p _ (by decide) (Nat.le_trans (st_le _ _ _ (st_le _ _ _ (st_le _ _ _ (st_le _ _ _ (st_le _ _ _ (st_le _ _ _ (st_le _ _ _ (Nat.zero_le 0)))))))) (by decide))]
  rw [step_p _ (by decide) (Nat.le_trans (st_le _ _ _ (st_le _ _ _ (st_le _ _ _ (st_le _ _ _ (st_le _ _ _ (st_le _ _ _ (st_le _ _ _ (st_le _ _ _ (Nat.zero_le 0))))))))) (by decide))]
  simp only [dif, sheet_of, sheet_names]
theorem differ_k {K : Nat} (f : Nat) (a0 a1 a2 a3 a4 a5 a6 a7 a8 b0 b1 b2 b3 b4 b5 b6 b7 b8 : Int) : ossuaryref40_Differ_l0 K [a0, a1, a2, a3, a4, a5, a6, a7, a8] [b0, b1, b2, b3, b4, b5, b6, b7, b8] (f + 10) ((0 : Nat) : Int) [] = some (dif a0 a1 a2 a3 a4 a5 a6 a7 a8 b0 b1 b2 b3 b4 b5 b6 b7 b8) := by
  rw [step_r (i := 0) (by omega) rfl rfl (Nat.le_trans (Nat.zero_le 0) (by decide))]
  rw [step_r (i := 1) (by omega) rfl rfl (Nat.le_trans (st_le _ _ _ (Nat.zero_le 0)) (by decide))]
  rw [step_r (i := 2) (by omega) rfl rfl (Nat.le_trans (st_le _ _ _ (st_le _ _ _ (Nat.zero_le 0))) (by decide))]
  rw [step_r (i := 3) (by omega) rfl rfl (Nat.le_trans (st_le _ _ _ (st_le _ _ _ (st_le _ _ _ (Nat.zero_le 0)))) (by decide))]
  rw [step_r (i := 4) (by omega) rfl rfl (Nat.le_trans (st_le _ _ _ (st_le _ _ _ (st_le _ _ _ (st_le _ _ _ (Nat.zero_le 0))))) (by decide))]
  rw [step_r (i := 5) (by omega) rfl rfl (Nat.le_trans (st_le _ _ _ (st_le _ _ _ (st_le _ _ _ (st_le _ _ _ (st_le _ _ _ (Nat.zero_le 0)))))) (by decide))]
  rw [step_r (i := 6) (by omega) rfl rfl (Nat.le_trans (st_le _ _ _ (st_le _ _ _ (st_le _ _ _ (st_le _ _ _ (st_le _ _ _ (st_le _ _ _ (Nat.zero_le 0))))))) (by decide))]
  rw [step_r (i := 7) (by omega) rfl rfl (Nat.le_trans (st_le _ _ _ (st_le _ _ _ (st_le _ _ _ (st_le _ _ _ (st_le _ _ _ (st_le _ _ _ (st_le _ _ _ (Nat.zero_le 0)))))))) (by decide))]
  rw [step_r (i := 8) (by omega) rfl rfl (Nat.le_trans (st_le _ _ _ (st_le _ _ _ (st_le _ _ _ (st_le _ _ _ (st_le _ _ _ (st_le _ _ _ (st_le _ _ _ (st_le _ _ _ (Nat.zero_le 0))))))))) (by decide))]
  unfold ossuaryref40_Differ_l0
  rw [if_neg (by omega)]
  rfl
theorem differ_m {K m f : Nat} (hm : m = f + 10) (a0 a1 a2 a3 a4 a5 a6 a7 a8 b0 b1 b2 b3 b4 b5 b6 b7 b8 : Int) : ossuaryref40_Differ_l0 K [a0, a1, a2, a3, a4, a5, a6, a7, a8] [b0, b1, b2, b3, b4, b5, b6, b7, b8] m 0 [] = some (dif a0 a1 a2 a3 a4 a5 a6 a7 a8 b0 b1 b2 b3 b4 b5 b6 b7 b8) := by
  subst hm
  exact differ_k f a0 a1 a2 a3 a4 a5 a6 a7 a8 b0 b1 b2 b3 b4 b5 b6 b7 b8
theorem differ_K {K : Nat} (hK : K = 199990 + 10) (a0 a1 a2 a3 a4 a5 a6 a7 a8 b0 b1 b2 b3 b4 b5 b6 b7 b8 : Int) : ossuaryref40_Differ K a0 a1 a2 a3 a4 a5 a6 a7 a8 b0 b1 b2 b3 b4 b5 b6 b7 b8 = some (dif a0 a1 a2 a3 a4 a5 a6 a7 a8 b0 b1 b2 b3 b4 b5 b6 b7 b8) := by
  unfold ossuaryref40_Differ
  rw [thn_eq, thn_eq]
  exact differ_m hK a0 a1 a2 a3 a4 a5 a6 a7 a8 b0 b1 b2 b3 b4 b5 b6 b7 b8
theorem differ_r (a0 a1 a2 a3 a4 a5 a6 a7 a8 b0 b1 b2 b3 b4 b5 b6 b7 b8 : Int) : ossuaryref40_Differ 200000 a0 a1 a2 a3 a4 a5 a6 a7 a8 b0 b1 b2 b3 b4 b5 b6 b7 b8 = some (dif a0 a1 a2 a3 a4 a5 a6 a7 a8 b0 b1 b2 b3 b4 b5 b6 b7 b8) := differ_K rfl a0 a1 a2 a3 a4 a5 a6 a7 a8 b0 b1 b2 b3 b4 b5 b6 b7 b8
theorem same_l0 {K : Nat} (l : List (List UInt8)) (hl : l.length ≤ 100000) : ∀ (f i : Nat), i ≤ l.length → l.length - i < f → ossuaryref10_Same_RR_l0 K l l f i = some true
  | 0, i, h0, h1 => by omega
  | f + 1, i, h0, h1 => by
    unfold ossuaryref10_Same_RR_l0
    by_cases hi : i < l.length
    · rw [if_pos (by omega), if_pos (by omega), if_pos (by omega), if_neg (by simp), w64_id (by omega)]
      have e1 : ((i : Int) + 1) = ((i + 1 : Nat) : Int) := by omega
      rw [e1, same_l0 l hl f (i + 1) (by omega) (by omega)]
    · rw [if_neg (by omega)]
theorem same_eq {l : List (List UInt8)} (hl : l.length ≤ 100000) : ossuaryref10_Same_RR 200000 l l = some true := by
  unfold ossuaryref10_Same_RR
  rw [if_neg (by simp)]
  exact same_l0 l hl 200000 0 (by omega) (by omega)
theorem fin (a0 a1 a2 a3 a4 a5 a6 a7 a8 b0 b1 b2 b3 b4 b5 b6 b7 b8 : Int) : ((sheet_Differ a0 a1 a2 a3 a4 a5 a6 a7 a8 b0 b1 b2 b3 b4 b5 b6 b7 b8).bind fun x24 => ((ossuaryref40_Differ 200000 a0 a1 a2 a3 a4 a5 a6 a7 a8 b0 b1 b2 b3 b4 b5 b6 b7 b8).bind fun x25 => ((ossuaryref10_Same_RR 200000 x24 x25).bind fun x26 => (if x26 = true then ((ossuarylaw40_alive 200000).bind fun x27 => (some (x27))) else (some (false)))))) = some true := by
  rw [differ_p, differ_r]
  simp only [Option.bind_some]
  rw [same_eq (Nat.le_trans (dif_len a0 a1 a2 a3 a4 a5 a6 a7 a8 b0 b1 b2 b3 b4 b5 b6 b7 b8) (by decide))]
  simp only [Option.bind_some, if_true, alive_true]
theorem join (x22 x23 : Int × Int × Int × Int × Int × Int × Int × Int × Int × Int) (h : (x22.2.2.2.2.2.2.2.2.2 = x23.1 ∧ x22.1 = x23.2.1 ∧ x22.2.1 = x23.2.2.1 ∧ x22.2.2.1 = x23.2.2.2.1 ∧ x22.2.2.2.1 = x23.2.2.2.2.1 ∧ x22.2.2.2.2.1 = x23.2.2.2.2.2.1 ∧ x22.2.2.2.2.2.1 = x23.2.2.2.2.2.2.1 ∧ x22.2.2.2.2.2.2.1 = x23.2.2.2.2.2.2.2.1 ∧ x22.2.2.2.2.2.2.2.1 = x23.2.2.2.2.2.2.2.2.1 ∧ x22.2.2.2.2.2.2.2.2.1 = x23.2.2.2.2.2.2.2.2.2) = True) {Y : Option Bool} : (if ((x22.1 == x23.2.1) && ((x22.2.1 == x23.2.2.1) && ((x22.2.2.1 == x23.2.2.2.1) && ((x22.2.2.2.1 == x23.2.2.2.2.1) && ((x22.2.2.2.2.1 == x23.2.2.2.2.2.1) && ((x22.2.2.2.2.2.1 == x23.2.2.2.2.2.2.1) && ((x22.2.2.2.2.2.2.1 == x23.2.2.2.2.2.2.2.1) && ((x22.2.2.2.2.2.2.2.1 == x23.2.2.2.2.2.2.2.2.1) && ((x22.2.2.2.2.2.2.2.2.1 == x23.2.2.2.2.2.2.2.2.2) && true))))))))) = true then (if x22.2.2.2.2.2.2.2.2.2 = x23.1 then Y else (some (false))) else (some (false))) = Y := by
  simp only [eq_iff_iff, iff_true] at h
  obtain ⟨h0, h1, h2, h3, h4, h5, h6, h7, h8, h9⟩ := h
  rw [if_pos (by simp [h1, h2, h3, h4, h5, h6, h7, h8, h9]), if_pos h0]
theorem join_t (p0 p1 p2 p3 p4 p5 p6 p7 p8 : Int) {Y : Option Bool} : (fun x22 : Int × Int × Int × Int × Int × Int × Int × Int × Int × Int => fun x23 : Int × Int × Int × Int × Int × Int × Int × Int × Int × Int => (if ((x22.1 == x23.2.1) && ((x22.2.1 == x23.2.2.1) && ((x22.2.2.1 == x23.2.2.2.1) && ((x22.2.2.2.1 == x23.2.2.2.2.1) && ((x22.2.2.2.2.1 == x23.2.2.2.2.2.1) && ((x22.2.2.2.2.2.1 == x23.2.2.2.2.2.2.1) && ((x22.2.2.2.2.2.2.1 == x23.2.2.2.2.2.2.2.1) && ((x22.2.2.2.2.2.2.2.1 == x23.2.2.2.2.2.2.2.2.1) && ((x22.2.2.2.2.2.2.2.2.1 == x23.2.2.2.2.2.2.2.2.2) && true))))))))) = true then (if x22.2.2.2.2.2.2.2.2.2 = x23.1 then Y else (some (false))) else (some (false)))) (tuneR p0 p1 p2 p3 p4 p5 p6 p7 p8) (refR p0 p1 p2 p3 p4 p5 p6 p7 p8) = Y := by
  refine join _ _ ?_
  unfold tuneR refR
  by_cases hc : ossuaryref18_Check p0 p1 p2 p3 p4 p5 p6 p7 p8 = 0
  · simp [hc]
  · simp [hc]
set_option maxRecDepth 1000000 in
theorem law (a0 a1 a2 a3 a4 a5 a6 a7 a8 b0 b1 b2 b3 b4 b5 b6 b7 b8 : Int) (s : List UInt8) (n : Int) : ∃ K, ossuarylaw40_SheetTunes K a0 a1 a2 a3 a4 a5 a6 a7 a8 b0 b1 b2 b3 b4 b5 b6 b7 b8 s n = some true := by
  refine ⟨200000, ?_⟩
  unfold ossuarylaw40_SheetTunes
  rw [alive_true]
  by_cases hl : 60 < (s.length : Int)
  · rw [if_pos hl]; rfl
  rw [if_neg hl]
  by_cases q1 : 2147483648 < a7
  · rw [if_pos q1]; rfl
  rw [if_neg q1]
  by_cases q2 : a7 < (-2147483648)
  · rw [if_pos q2]; rfl
  rw [if_neg q2]
  have hf := fin a0 a1 a2 a3 a4 a5 a6 a7 a8 b0 b1 b2 b3 b4 b5 b6 b7 b8
  rw [alive_true] at hf
  rw [hf]
  by_cases h0 : s = ([114, 101, 116, 97, 105, 110] : List UInt8)
  · subst h0
    rw [tune0, reft0, Option.bind_some, Option.bind_some]
    exact join_t n a1 a2 a3 a4 a5 a6 a7 a8
  by_cases h1 : s = ([115, 101, 97, 108] : List UInt8)
  · subst h1
    rw [tune1, reft1, Option.bind_some, Option.bind_some]
    exact join_t a0 n a2 a3 a4 a5 a6 a7 a8
  by_cases h2 : s = ([100, 97, 121] : List UInt8)
  · subst h2
    rw [tune2, reft2, Option.bind_some, Option.bind_some]
    exact join_t a0 a1 n a3 a4 a5 a6 a7 a8
  by_cases h3 : s = ([109, 111, 110, 116, 104] : List UInt8)
  · subst h3
    rw [tune3, reft3, Option.bind_some, Option.bind_some]
    exact join_t a0 a1 a2 n a4 a5 a6 a7 a8
  by_cases h4 : s = ([99, 111, 108, 100] : List UInt8)
  · subst h4
    rw [tune4, reft4, Option.bind_some, Option.bind_some]
    exact join_t a0 a1 a2 a3 n a5 a6 a7 a8
  by_cases h5 : s = ([98, 97, 115, 101] : List UInt8)
  · subst h5
    rw [tune5, reft5, Option.bind_some, Option.bind_some]
    exact join_t a0 a1 a2 a3 a4 n a6 a7 a8
  by_cases h6 : s = ([99, 97, 112] : List UInt8)
  · subst h6
    rw [tune6, reft6, Option.bind_some, Option.bind_some]
    exact join_t a0 a1 a2 a3 a4 a5 n a7 a8
  by_cases h7 : s = ([113, 117, 101, 117, 101] : List UInt8)
  · subst h7
    rw [tune7, reft7, Option.bind_some, Option.bind_some]
    exact join_t a0 a1 a2 a3 a4 a5 a6 n a8
  by_cases h8 : s = ([119, 97, 108] : List UInt8)
  · subst h8
    rw [tune8, reft8, Option.bind_some, Option.bind_some]
    exact join_t a0 a1 a2 a3 a4 a5 a6 a7 n
  have e1 : sheet_Tune 200000 a0 a1 a2 a3 a4 a5 a6 a7 a8 s n = some (0, 0, 0, 0, 0, 0, 0, 0, 0, 11) := by
    unfold sheet_Tune
    simp only [thn_eq]
    rw [idxN h0 h1 h2 h3 h4 h5 h6 h7 h8, Option.bind_some, if_pos (by decide)]
  have e2 : ossuaryref40_Tune 200000 a0 a1 a2 a3 a4 a5 a6 a7 a8 s n = some (11, 0, 0, 0, 0, 0, 0, 0, 0, 0) := by
    unfold ossuaryref40_Tune
    simp only [thn_eq]
    rw [atN h0 h1 h2 h3 h4 h5 h6 h7 h8, Option.bind_some, if_pos (by decide)]
  rw [e1, e2, Option.bind_some, Option.bind_some]
  exact join _ _ (by simp)
end Go.Proofs.Ythcmiohbidencaa.SheetTunes
