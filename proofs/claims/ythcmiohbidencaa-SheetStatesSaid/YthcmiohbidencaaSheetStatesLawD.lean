/- The plain law of SheetStates, fourth part: the document's catalog says the same. No machine in it. -/
import Derived.Test.YthcmiohbidencaaSheetStatesLawA
set_option linter.unusedVariables false
set_option linter.unusedSimpArgs false
set_option maxRecDepth 20000
namespace Go.Proofs.Ythcmiohbidencaa.SheetStates
open Go E

structure Api_Part where
 Tier : Int
 Index : Int
def rtP (p : Api_Part) : Prop := 0 ≤ p.Index ∧ p.Index ≤ mostI p.Tier
def loP (p : Api_Part) : Int := fromI p.Tier p.Index
def hiP (p : Api_Part) : Int := toI p.Tier p.Index
theorem loP_lt {p : Api_Part} (h : rtP p) : 0 ≤ loP p ∧ loP p < hiP p ∧ hiP p ≤ 48000000 := span_lt h.1 h.2
instance (p : Api_Part) : Decidable (rtP p) := inferInstanceAs (Decidable (_ ∧ _))

theorem leap_eq {y : Int} (h : 0 ≤ y) : ossuaryref04_Leap y = leapY y := by
 unfold ossuaryref04_Leap leapY
 rw [tmod_of h, tmod_of h, tmod_of h]
 by_cases h1 : y % 4 = 0
 ·by_cases h2 : y % 100 = 0
  ·simp [h1, h2]
   rw [Bool.eq_iff_iff]; simp
  ·simp [h1, h2]
 ·simp [h1]
theorem days_eq {y : Int} (h : 0 ≤ y) : ossuaryref04_days y = if leapY y = true then 366 else 365 := by
 unfold ossuaryref04_days
 simp only [thn_eq, leap_eq h]
theorem length_eq {y m : Int} (h : 0 ≤ y) (h1 : 1 ≤ m) (h2 : m ≤ 12) : ossuaryref04_Length y m = lenM y m := by
 unfold ossuaryref04_Length lenM
 simp only [thn_eq, leap_eq h]
 have hm : m = 1 ∨ m = 2 ∨ m = 3 ∨ m = 4 ∨ m = 5 ∨ m = 6 ∨ m = 7 ∨ m = 8 ∨ m = 9 ∨ m = 10 ∨ m = 11 ∨ m = 12 := by omega
 rcases hm with rfl | rfl | rfl | rfl | rfl | rfl | rfl | rfl | rfl | rfl | rfl | rfl <;> simp
theorem mst_big {k : Int} (h0 : 0 ≤ k) (h1 : k ≤ 37000) : 0 ≤ mst k ∧ mst k ≤ 2000000 := by
 have a := mst_mono h0
 rw [mst_zero] at a
 have b := mst_mono h1
 have c : mst 37000 ≤ 2000000 := by decide
 omega
theorem number_l0 {K : Nat} {a : Int} (ha : a ≤ 4901) : ∀ (f : Nat) (n y : Int), 1970 ≤ y → y ≤ a → n = mst (12 * (y - 1970)) → a - y < f → ossuaryref04_Number_l0 K a f n y = some (mst (12 * (a - 1970)))
 | 0, n, y, h0, h1, h2, h3 => by omega
 | f + 1, n, y, h0, h1, h2, h3 => by
  unfold ossuaryref04_Number_l0
  by_cases hy : y < a
  ·rw [if_pos hy]
   have b := mst_big (k := 12 * (y - 1970)) (by omega) (by omega)
   simp only [thn_eq, days_eq (show 0 ≤ y by omega)]
   have e := mst_year y
   rw [w64_id (n := y + 1) (by omega), w64_id (by split <;> omega)]
   exact number_l0 ha f _ (y + 1) (by omega) (by omega) (by rw [h2, e]) (by omega)
  ·rw [if_neg hy]
   have : y = a := by omega
   rw [h2, this]
theorem number_l1 {K : Nat} {y a : Int} (hy : 1970 ≤ y) (hy2 : y ≤ 4901) (ha : a ≤ 12) : ∀ (f : Nat) (n m : Int), 1 ≤ m → m ≤ a → n = mst (12 * (y - 1970) + m - 1) → a - m < f → ossuaryref04_Number_l1 K y a f n m = some (mst (12 * (y - 1970) + a - 1))
 | 0, n, m, h0, h1, h2, h3 => by omega
 | f + 1, n, m, h0, h1, h2, h3 => by
  unfold ossuaryref04_Number_l1
  by_cases hm : m < a
  ·rw [if_pos hm]
   have b := mst_big (k := 12 * (y - 1970) + m - 1) (by omega) (by omega)
   simp only [thn_eq, length_eq (show 0 ≤ y by omega) h0 (by omega)]
   have c := lenM_pos y m
   have e := mst_succ (12 * (y - 1970) + m - 1)
   have e1 : 1970 + (12 * (y - 1970) + m - 1) / 12 = y := by omega
   have e2 : (12 * (y - 1970) + m - 1) % 12 + 1 = m := by omega
   rw [e1, e2] at e
   rw [w64_id (n := m + 1) (by omega), w64_id (by omega)]
   refine number_l1 hy hy2 ha f _ (m + 1) (by omega) (by omega) ?_ (by omega)
   rw [h2, ← e]; congr 1; omega
  ·rw [if_neg hm]
   have : m = a := by omega
   rw [h2, this]
theorem refNumber_eq {K : Nat} {y m : Int} (hK : 200000 ≤ K) (h0 : 1970 ≤ y) (h1 : y ≤ 4900) (h2 : 1 ≤ m) (h3 : m ≤ 12) : ossuaryref04_Number K y m 1 = some (mst (12 * (y - 1970) + m - 1), true) := by
 unfold ossuaryref04_Number
 have c := lenM_pos y m
 rw [if_neg (by omega), if_neg (by omega), if_neg (by omega)]
 simp only [thn_eq, length_eq (show 0 ≤ y by omega) h2 h3]
 rw [if_neg (by omega), number_l0 (by omega) K 0 1970 (by omega) h0 (by decide) (by omega)]
 simp only [Option.bind_some]
 rw [number_l1 h0 (by omega) h3 K _ 1 (by omega) h2 (by congr 1; omega) (by omega)]
 have b := mst_big (k := 12 * (y - 1970) + m - 1) (by omega) (by omega)
 simp only [Option.bind_some]
 rw [w64_id (n := mst (12 * (y - 1970) + m - 1) + 1) (by omega), w64_id (by omega)]
 congr 2; omega
theorem refSpan4_eq {K : Nat} {k : Int} (hK : 200000 ≤ K) (h0 : 0 ≤ k) (h1 : k ≤ 30000) : ossuaryref04_Span K k = some (mst k, mst (k + 1)) := by
 unfold ossuaryref04_Span
 have e1 : w64 (Int.tdiv k 12) = k / 12 := by rw [tdiv_of h0, w64_id (by omega)]
 have e2 : Int.tmod k 12 = k % 12 := tmod_of h0
 rw [e1, e2, w64_id (n := 1970 + k / 12) (by omega), w64_id (n := k % 12 + 1) (by omega), refNumber_eq hK (by omega) (by omega) (by omega) (by omega)]
 have e3 : 12 * (1970 + k / 12 - 1970) + (k % 12 + 1) - 1 = k := by omega
 have b := mst_big h0 (show k ≤ 37000 by omega)
 have c := lenM_pos (1970 + k / 12) (k % 12 + 1)
 simp only [Option.bind_some, thn_eq, length_eq (show 0 ≤ 1970 + k / 12 by omega) (show 1 ≤ k % 12 + 1 by omega) (by omega), e3]
 rw [w64_id (by omega), mst_succ]
theorem date_l0 {K : Nat} {d : Int} (hd : d ≤ 1000000) : ∀ (f : Nat) (r y : Int), 1970 ≤ y → r = d - mst (12 * (y - 1970)) → 0 ≤ r → 5000 - y < f →
  ∃ Y, ossuaryref04_Date_l0 K f r y = some (d - mst (12 * (Y - 1970)), Y) ∧ 1970 ≤ Y ∧ Y < 5000 ∧ mst (12 * (Y - 1970)) ≤ d ∧ d < mst (12 * (Y + 1 - 1970))
 | 0, r, y, h0, h1, h2, h3 => by
  have a := mst_mono (show 36360 ≤ 12 * (y - 1970) by omega)
  have b : (1000000 : Int) < mst 36360 := by decide
  omega
 | f + 1, r, y, h0, h1, h2, h3 => by
  have hy : y < 5000 := by
   apply Classical.byContradiction
   intro hc
   have a := mst_mono (show 36360 ≤ 12 * (y - 1970) by omega)
   have b : (1000000 : Int) < mst 36360 := by decide
   omega
  unfold ossuaryref04_Date_l0
  simp only [thn_eq, days_eq (show 0 ≤ y by omega)]
  have e := mst_year y
  have b := mst_big (k := 12 * (y - 1970)) (by omega) (by omega)
  by_cases hc : (if leapY y = true then 366 else 365) ≤ r
  ·rw [if_pos hc, if_pos hy, w64_id (n := y + 1) (by omega), w64_id (by split <;> omega)]
   exact date_l0 hd f _ (y + 1) (by omega) (by rw [e]; omega) (by omega) (by omega)
  ·rw [if_neg hc]
   exact ⟨y, by rw [h1], h0, hy, by omega, by rw [e]; omega⟩
theorem date_l1 {K : Nat} {d y z : Int} (hd : d ≤ 1000000) (hy : 1970 ≤ y) (hy2 : y < 5000) (hd2 : d < mst (12 * (y + 1 - 1970))) : ∀ (f : Nat) (r m : Int), 1 ≤ m → m ≤ 12 → r = d - mst (12 * (y - 1970) + m - 1) → 0 ≤ r → 12 - m < f →
  ∃ M, ossuaryref04_Date_l1 K (z, y) f r m = some (d - mst (12 * (y - 1970) + M - 1), M) ∧ 1 ≤ M ∧ M ≤ 12 ∧ mst (12 * (y - 1970) + M - 1) ≤ d ∧ d < mst (12 * (y - 1970) + M)
 | 0, r, m, h0, h1, h2, h3, h4 => by omega
 | f + 1, r, m, h0, h1, h2, h3, h4 => by
  unfold ossuaryref04_Date_l1
  simp only []
  have b := mst_big (k := 12 * (y - 1970) + m - 1) (by omega) (by omega)
  by_cases hm : m < 12
  ·rw [if_pos hm]
   simp only [thn_eq, length_eq (show 0 ≤ y by omega) h0 (by omega)]
   have c := lenM_pos y m
   have e := mst_succ (12 * (y - 1970) + m - 1)
   have e1 : 1970 + (12 * (y - 1970) + m - 1) / 12 = y := by omega
   have e2 : (12 * (y - 1970) + m - 1) % 12 + 1 = m := by omega
   have e3 : 12 * (y - 1970) + m - 1 + 1 = 12 * (y - 1970) + m := by omega
   rw [e1, e2, e3] at e
   by_cases hc : lenM y m ≤ r
   ·rw [if_pos hc, w64_id (n := m + 1) (by omega), w64_id (by omega)]
    refine date_l1 hd hy hy2 hd2 f _ (m + 1) (by omega) (by omega) ?_ (by omega) (by omega)
    have e4 : 12 * (y - 1970) + (m + 1) - 1 = 12 * (y - 1970) + m := by omega
    rw [e4, e]; omega
   ·rw [if_neg hc]
    exact ⟨m, by rw [h2], h0, h1, by omega, by rw [e]; omega⟩
  ·rw [if_neg hm]
   have e : m = 12 := by omega
   subst e
   refine ⟨12, by rw [h2], by omega, by omega, by omega, ?_⟩
   have e4 : 12 * (y - 1970) + 12 = 12 * (y + 1 - 1970) := by omega
   rw [e4]; exact hd2
theorem refMonthOf_eq {K : Nat} {d : Int} (hK : 200000 ≤ K) (h0 : 0 ≤ d) (h1 : d ≤ 1000000) : ossuaryref04_MonthOf K d = some (civil_MonthOf d) := by
 unfold ossuaryref04_MonthOf ossuaryref04_Date
 obtain ⟨Y, e1, y1, y2, y3, y4⟩ := date_l0 (K := K) h1 K d 1970 (by omega) (by rw [show (12 : Int) * (1970 - 1970) = 0 by decide, mst_zero]; omega) h0 (by omega)
 rw [e1]
 simp only [Option.bind_some]
 obtain ⟨M, e2, m1, m2, m3, m4⟩ := date_l1 (K := K) (z := d - mst (12 * (Y - 1970))) h1 y1 y2 y4 K (d - mst (12 * (Y - 1970))) 1 (by omega) (by omega) (by congr 2; omega) (by omega) (by omega)
 rw [e2]
 simp only [Option.bind_some]
 obtain ⟨a0, a1, a2⟩ := monthOf_ok h0 h1
 have e3 : civil_MonthOf d = 12 * (Y - 1970) + M - 1 := month_one a1 a2 m3 (by rw [show 12 * (Y - 1970) + M - 1 + 1 = 12 * (Y - 1970) + M by omega]; exact m4)
 rw [e3, w64_id (n := Y - 1970) (by omega), w64_id (n := (Y - 1970) * 12) (by omega), w64_id (n := (Y - 1970) * 12 + M) (by omega), w64_id (by omega)]
 congr 1; omega
theorem most_eq {K : Nat} (t : Int) (hK : 200000 ≤ K) : ossuaryref19_most K t = some (mostI t) := by
 unfold ossuaryref19_most mostI
 by_cases h1 : t = 1
 ·simp [h1]
 ·by_cases h2 : t = 2
  ·simp [h2]
  ·by_cases h3 : t = 3
   ·subst h3
    simp [refMonthOf_eq hK (show (0 : Int) ≤ 699050 by omega) (by omega), lastM_eq]
   ·simp [h1, h2, h3]
theorem refRight_eq {K : Nat} (t i : Int) (hK : 200000 ≤ K) : ossuaryref19_Right K t i = some (decide (rtP ⟨t, i⟩)) := by
 unfold ossuaryref19_Right rtP
 by_cases h : 0 ≤ i
 ·simp [h, most_eq t hK]
 ·simp [h]
theorem refSpan_right {K : Nat} {t i : Int} (hK : 200000 ≤ K) (h : rtP ⟨t, i⟩) : ossuaryref19_Span K t i = some (loP ⟨t, i⟩, hiP ⟨t, i⟩) := by
 have hm := mostI_le t
 have h0 : 0 ≤ i := h.1
 have h1 : i ≤ mostI t := h.2
 unfold ossuaryref19_Span
 rw [refRight_eq t i hK]
 simp only [Option.bind_some, h, decide_true, Bool.not_true, Bool.false_eq_true, if_false]
 rcases tier_of h0 h1 with rfl | rfl | rfl
 ·simp [loP, hiP, fromI, toI]
  rw [w64_id (by omega)]
 ·have h1' : i ≤ 699050 := h1
  simp [loP, hiP, fromI, toI]
  rw [w64_id (n := 24 * i) (by omega), w64_id (n := i + 1) (by omega), w64_id (by omega)]
  simp
 ·have h1' : i ≤ 22967 := h1
  have a := mst_small h0 (by omega)
  have b := mst_small (k := i + 1) (by omega) (by omega)
  simp [loP, hiP, fromI, toI, refSpan4_eq hK h0 (show i ≤ 30000 by omega)]
  rw [w64_id (n := 24 * mst i) (by omega), w64_id (by omega)]
  simp
theorem refSpan_wrong {K : Nat} {t i : Int} (hK : 200000 ≤ K) (h : ¬ rtP ⟨t, i⟩) : ossuaryref19_Span K t i = some (0, 0) := by
 unfold ossuaryref19_Span
 rw [refRight_eq t i hK]
 simp [h]
end Go.Proofs.Ythcmiohbidencaa.SheetStates
