/- The plain law of SheetStates, first part: partitions and the calendar. No machine in it. -/
import Derived.Test.YthcmiohbidencaaECal
import Derived.Test.YthcmiohbidencaaSheetStatesPure
set_option linter.unusedVariables false
set_option linter.unusedSimpArgs false
set_option maxRecDepth 20000
namespace Go.Proofs.Ythcmiohbidencaa.SheetStates
open Go E

theorem tdiv_of {a b : Int} (h : 0 ≤ a) : Int.tdiv a b = a / b := Int.tdiv_eq_ediv_of_nonneg h
theorem tmod_of {a b : Int} (h : 0 ≤ a) : Int.tmod a b = a % b := Int.tmod_eq_emod_of_nonneg h
theorem dayOf_eq {h : Int} (h0 : 0 ≤ h) (h1 : h ≤ 1000000000000) : civil_DayOf h = h / 24 := by
 unfold civil_DayOf
 rw [tdiv_of h0, w64_id (by omega)]
theorem monthOf_ok {d : Int} (h0 : 0 ≤ d) (h1 : d ≤ 1000000) : 0 ≤ civil_MonthOf d ∧ mst (civil_MonthOf d) ≤ d ∧ d < mst (civil_MonthOf d + 1) := by
 obtain ⟨D, hD⟩ : ∃ D, D = d + 719468 := ⟨_, rfl⟩
 have e1 : w64 (d + 719468) = D := by rw [w64_id (by omega), hD]
 obtain ⟨q, hq⟩ : ∃ q, q = (d + 719468) / 146097 := ⟨_, rfl⟩
 obtain ⟨n, hn⟩ : ∃ n, n = (d + 719468) % 146097 := ⟨_, rfl⟩
 have e2 : Int.tmod D 146097 = n := by rw [tmod_of (by omega), hn, hD]
 have e2b : w64 (Int.tdiv D 146097) = q := by rw [tdiv_of (by omega), w64_id (by omega), hq, hD]
 have n0 : 0 ≤ n ∧ n ≤ 146096 := by omega
 obtain ⟨t, ht⟩ : ∃ t, t = n / 1460 := ⟨_, rfl⟩
 have e3 : w64 (Int.tdiv n 1460) = t := by rw [tdiv_of (by omega), w64_id (by omega), ht]
 obtain ⟨c, hc⟩ : ∃ c, c = n / 36524 := ⟨_, rfl⟩
 have e4 : w64 (Int.tdiv n 36524) = c := by rw [tdiv_of (by omega), w64_id (by omega), hc]
 obtain ⟨e, he⟩ : ∃ e, e = n / 146096 := ⟨_, rfl⟩
 have e5 : w64 (Int.tdiv n 146096) = e := by rw [tdiv_of (by omega), w64_id (by omega), he]
 have e6 : w64 (n - t) = n - t := w64_id (by omega)
 have e7 : w64 (n - t + c) = n - t + c := w64_id (by omega)
 have e8 : w64 (n - t + c - e) = n - t + c - e := w64_id (by omega)
 obtain ⟨y, hy⟩ : ∃ y, y = (n - t + c - e) / 365 := ⟨_, rfl⟩
 have e9 : w64 (Int.tdiv (n - t + c - e) 365) = y := by rw [tdiv_of (by omega), w64_id (by omega), hy]
 obtain ⟨p, hp⟩ : ∃ p, p = n - (365 * y + y / 4 - y / 100) := ⟨_, rfl⟩
 obtain ⟨m, hm⟩ : ∃ m, m = (5 * p + 2) / 153 := ⟨_, rfl⟩
 obtain ⟨y0, y1, p0, p1, m0, m1, k0, k1, k2⟩ := day_month h0 hq hn (by rw [hy, ht, hc, he]) hp hm
 have q0 : 0 ≤ q ∧ q ≤ 20 := by omega
 have e10 : w64 (365 * y) = 365 * y := w64_id (by omega)
 have e11 : w64 (Int.tdiv y 4) = y / 4 := by rw [tdiv_of y0, w64_id (by omega)]
 have e12 : w64 (Int.tdiv y 100) = y / 100 := by rw [tdiv_of y0, w64_id (by omega)]
 have e13 : w64 (365 * y + y / 4) = 365 * y + y / 4 := w64_id (by omega)
 have e14 : w64 (365 * y + y / 4 - y / 100) = 365 * y + y / 4 - y / 100 := w64_id (by omega)
 have e15 : w64 (n - (365 * y + y / 4 - y / 100)) = p := by rw [w64_id (by omega), hp]
 have e16 : w64 (5 * p) = 5 * p := w64_id (by omega)
 have e17 : w64 (5 * p + 2) = 5 * p + 2 := w64_id (by omega)
 have e18 : w64 (Int.tdiv (5 * p + 2) 153) = m := by rw [tdiv_of (by omega), w64_id (by omega), hm]
 have e20 : w64 (q * 400) = q * 400 := w64_id (by omega)
 have e21 : w64 (q * 400 + y) = q * 400 + y := w64_id (by omega)
 have key : civil_MonthOf d = 12 * (q * 400 + y - 1970) + m + 2 := by
  unfold civil_MonthOf civil_Date
  simp only [thn_eq, e1, e2, e2b, e3, e4, e5, e6, e7, e8, e9, e10, e11, e12, e13, e14, e15, e16, e17, e18, e20, e21]
  clear hy hp hm hn hq ht hc he
  split
  ·simp only []
   rw [w64_id (n := m + 3) (by omega), w64_id (n := q * 400 + y - 1970) (by omega), w64_id (n := (q * 400 + y - 1970) * 12) (by omega), w64_id (n := m + 3 - 1) (by omega), w64_id (by omega)]
   omega
  ·simp only []
   rw [w64_id (n := m - 9) (by omega), w64_id (n := q * 400 + y + 1) (by omega), w64_id (n := q * 400 + y + 1 - 1970) (by omega), w64_id (n := (q * 400 + y + 1 - 1970) * 12) (by omega), w64_id (n := m - 9 - 1) (by omega), w64_id (by omega)]
   omega
 rw [key]
 exact ⟨k0, k1, k2⟩
theorem number_eq {y m : Int} (hy : 1970 ≤ y) (hy2 : y ≤ 10000) (h0 : 1 ≤ m) (h1 : m ≤ 12) : civil_number y m 1 = mst (12 * (y - 1970) + m - 1) := by
 have step : ∀ Y M : Int, 1000 ≤ Y → Y ≤ 11000 → 0 ≤ M → M ≤ 11 → w64 ((w64 ((w64 ((w64 (Int.tdiv Y 400)) * 146097)) + (w64 ((w64 ((w64 ((w64 ((w64 ((w64 (365 * (Int.tmod Y 400))) + (w64 (Int.tdiv (Int.tmod Y 400) 4)))) - (w64 (Int.tdiv (Int.tmod Y 400) 100)))) + (w64 (Int.tdiv (w64 ((w64 (153 * M)) + 2)) 5)))) + 1)) - 1)))) - 719468) = Mst Y M := by
  intro Y M a1 a2 a3 a4
  have f1 : w64 (Int.tdiv Y 400) = Y / 400 := by rw [tdiv_of (by omega), w64_id (by omega)]
  have f2 : Int.tmod Y 400 = Y % 400 := tmod_of (by omega)
  have f3 : w64 (Y / 400 * 146097) = Y / 400 * 146097 := w64_id (by omega)
  have f4 : w64 (365 * (Y % 400)) = 365 * (Y % 400) := w64_id (by omega)
  have f5 : w64 (Int.tdiv (Y % 400) 4) = Y % 400 / 4 := by rw [tdiv_of (by omega), w64_id (by omega)]
  have f6 : w64 (Int.tdiv (Y % 400) 100) = Y % 400 / 100 := by rw [tdiv_of (by omega), w64_id (by omega)]
  have f7 : w64 (153 * M) = 153 * M := w64_id (by omega)
  have f8 : w64 (153 * M + 2) = 153 * M + 2 := w64_id (by omega)
  have f9 : w64 (Int.tdiv (153 * M + 2) 5) = (153 * M + 2) / 5 := by rw [tdiv_of (by omega), w64_id (by omega)]
  simp only [f1, f2, f3, f4, f5, f6, f7, f8, f9]
  have g1 : w64 (365 * (Y % 400) + Y % 400 / 4) = 365 * (Y % 400) + Y % 400 / 4 := w64_id (by omega)
  have g2 : w64 (365 * (Y % 400) + Y % 400 / 4 - Y % 400 / 100) = 365 * (Y % 400) + Y % 400 / 4 - Y % 400 / 100 := w64_id (by omega)
  have g3 : w64 (365 * (Y % 400) + Y % 400 / 4 - Y % 400 / 100 + (153 * M + 2) / 5) = 365 * (Y % 400) + Y % 400 / 4 - Y % 400 / 100 + (153 * M + 2) / 5 := w64_id (by omega)
  simp only [g1, g2, g3]
  have g4 : w64 (365 * (Y % 400) + Y % 400 / 4 - Y % 400 / 100 + (153 * M + 2) / 5 + 1) = 365 * (Y % 400) + Y % 400 / 4 - Y % 400 / 100 + (153 * M + 2) / 5 + 1 := w64_id (by omega)
  rw [g4, w64_id (n := 365 * (Y % 400) + Y % 400 / 4 - Y % 400 / 100 + (153 * M + 2) / 5 + 1 - 1) (by omega), w64_id (n := Y / 400 * 146097 + (365 * (Y % 400) + Y % 400 / 4 - Y % 400 / 100 + (153 * M + 2) / 5 + 1 - 1)) (by omega), w64_id (by omega)]
  unfold Mst yst
  omega
 unfold civil_number
 have m3 : w64 (m - 3) = m - 3 := w64_id (by omega)
 by_cases hm : m - 3 < 0
 ·have m4 : w64 (m - 3 + 12) = m - 3 + 12 := w64_id (by omega)
  have y4 : w64 (y - 1) = y - 1 := w64_id (by omega)
  simp only [thn_eq, m3, hm, if_true, m4, y4]
  rw [step (y - 1) (m - 3 + 12) (by omega) (by omega) (by omega) (by omega), ← mst_of (by omega) (by omega)]
  congr 1; omega
 ·simp only [thn_eq, m3, hm, if_false]
  rw [step y (m - 3) (by omega) (by omega) (by omega) (by omega), ← mst_of (by omega) (by omega)]
  congr 1; omega
theorem span1_eq {k : Int} (h0 : 0 ≤ k) (h1 : k ≤ 40000) : civil_Span_1 k = mst k := by
 unfold civil_Span_1
 have e1 : w64 (Int.tdiv k 12) = k / 12 := by rw [tdiv_of h0, w64_id (by omega)]
 have e2 : Int.tmod k 12 = k % 12 := tmod_of h0
 rw [e1, e2, w64_id (n := 1970 + k / 12) (by omega), w64_id (n := k % 12 + 1) (by omega), number_eq (by omega) (by omega) (by omega) (by omega)]
 simp only [thn_eq]
 congr 1; omega
theorem civilSpan_eq {k : Int} (h0 : 0 ≤ k) (h1 : k ≤ 30000) : civil_Span k = (mst k, mst (k + 1)) := by
 unfold civil_Span
 rw [w64_id (n := k + 1) (by omega)]
 simp only [thn_eq, span1_eq h0 (by omega), span1_eq (k := k + 1) (by omega) (by omega)]
def lastM : Int := 22967
theorem mst_last : mst 22967 ≤ 699050 ∧ 699050 < mst 22968 := by decide
theorem lastM_eq : civil_MonthOf 699050 = 22967 := by
 obtain ⟨h0, h1, h2⟩ := monthOf_ok (d := 699050) (by omega) (by omega)
 exact month_one h1 h2 mst_last.1 mst_last.2
def mostI (t : Int) : Int := if t = 1 then 16777216 else if t = 2 then 699050 else if t = 3 then 22967 else -1
theorem right_eq (t i : Int) : part_Right t i = decide (0 ≤ i ∧ i ≤ mostI t) := by
 unfold part_Right part_Of mostI
 simp only [thn_eq]
 by_cases h1 : t = 1
 ·subst h1; simp
 ·by_cases h2 : t = 2
  ·subst h2
   simp [dayOf_eq (h := 16777216) (by omega) (by omega)]
  ·by_cases h3 : t = 3
   ·subst h3
    have e : (16777216 : Int) / 24 = 699050 := by decide
    simp [dayOf_eq (h := 16777216) (by omega) (by omega), e, lastM_eq]
   ·simp [h1, h2, h3]
    omega
def fromI (t i : Int) : Int := if t = 1 then i else if t = 2 then 24 * i else 24 * mst i
def toI (t i : Int) : Int := fromI t (i + 1)
theorem mst_small {k : Int} (h0 : 0 ≤ k) (h1 : k ≤ 30000) : 0 ≤ mst k ∧ mst k ≤ 2000000 := by
 have a := mst_mono h0
 rw [mst_zero] at a
 have b := mst_mono h1
 have c : mst 30000 ≤ 2000000 := by decide
 omega
theorem mostI_le (t : Int) : mostI t ≤ 16777216 := by unfold mostI; split <;> (try split) <;> (try split) <;> omega
theorem tier_of {t i : Int} (h0 : 0 ≤ i) (h1 : i ≤ mostI t) : t = 1 ∨ t = 2 ∨ t = 3 := by
 unfold mostI at h1
 split at h1
 ·omega
 ·split at h1
  ·omega
  ·split at h1 <;> omega
theorem span_wrong {t i : Int} (h : ¬ (0 ≤ i ∧ i ≤ mostI t)) : part_Span t i = (0, 0) := by
 unfold part_Span
 simp [thn_eq, right_eq, h]
theorem span_right {t i : Int} (h0 : 0 ≤ i) (h1 : i ≤ mostI t) : part_Span t i = (fromI t i, toI t i) := by
 have hm := mostI_le t
 unfold part_Span
 have e1 : w64 (i + 1) = i + 1 := w64_id (by omega)
 simp only [thn_eq, right_eq, h0, h1, and_self, decide_true, Bool.not_true, Bool.false_eq_true, if_false, e1]
 rcases tier_of h0 h1 with rfl | rfl | rfl
 ·simp [cas, fromI, toI]
 ·have h1' : i ≤ 699050 := h1
  simp [cas, fromI, toI]
  rw [w64_id (by omega), w64_id (by omega)]
  constructor <;> omega
 ·have h1' : i ≤ 22967 := h1
  have a := mst_small h0 (by omega)
  have b := mst_small (k := i + 1) (by omega) (by omega)
  simp [cas, fromI, toI, civilSpan_eq h0 (show i ≤ 30000 by omega)]
  rw [w64_id (by omega), w64_id (by omega)]
  constructor <;> omega
theorem span_lt {t i : Int} (h0 : 0 ≤ i) (h1 : i ≤ mostI t) : 0 ≤ fromI t i ∧ fromI t i < toI t i ∧ toI t i ≤ 48000000 := by
 rcases tier_of h0 h1 with rfl | rfl | rfl
 ·have h1' : i ≤ 16777216 := h1
  simp [fromI, toI]; omega
 ·have h1' : i ≤ 699050 := h1
  simp [fromI, toI]; omega
 ·have h1' : i ≤ 22967 := h1
  have a := mst_small h0 (by omega)
  have b := mst_small (k := i + 1) (by omega) (by omega)
  have c := mst_lt i
  simp [fromI, toI]; omega
end Go.Proofs.Ythcmiohbidencaa.SheetStates
