/- Plain law of the calendar: months as numbers, their first days; the formula by which a day's month is found. No machine in it. -/
import Derived.Test.YthcmiohbidencaaELaw
set_option linter.unusedVariables false
namespace Go.Proofs.Ythcmiohbidencaa.E
open Go

def leapY (y : Int) : Bool := decide (y % 4 = 0 ∧ (y % 100 ≠ 0 ∨ y % 400 = 0))
def lenM (y m : Int) : Int := if m = 2 then (if leapY y = true then 29 else 28) else if m = 4 ∨ m = 6 ∨ m = 9 ∨ m = 11 then 30 else 31
/-- Years that begin in March. -/
def yst (y : Int) : Int := y / 400 * 146097 + 365 * (y % 400) + (y % 400) / 4 - (y % 400) / 100
def Mst (y m : Int) : Int := yst y + (153 * m + 2) / 5 - 719468
def mst (k : Int) : Int := Mst (1970 + (k - 2) / 12) ((k - 2) % 12)
theorem yst_succ (y : Int) : yst (y + 1) = yst y + 365 + (if leapY (y + 1) = true then 1 else 0) := by
  unfold yst leapY
  simp only [decide_eq_true_eq]
  split
  · rename_i h
    omega
  · rename_i h
    omega
theorem mst_succ (k : Int) : mst (k + 1) = mst k + lenM (1970 + k / 12) (k % 12 + 1) := by
  unfold mst Mst
  have hm : (k - 2) % 12 = 0 ∨ (k - 2) % 12 = 1 ∨ (k - 2) % 12 = 2 ∨ (k - 2) % 12 = 3 ∨ (k - 2) % 12 = 4 ∨ (k - 2) % 12 = 5 ∨ (k - 2) % 12 = 6 ∨ (k - 2) % 12 = 7 ∨ (k - 2) % 12 = 8 ∨ (k - 2) % 12 = 9 ∨ (k - 2) % 12 = 10 ∨ (k - 2) % 12 = 11 := by omega
  rcases hm with h | h | h | h | h | h | h | h | h | h | h | h
  all_goals
    first
      | (have e1 : (k + 1 - 2) % 12 = (k - 2) % 12 + 1 := by omega
         have e2 : (k + 1 - 2) / 12 = (k - 2) / 12 := by omega
         rw [e1, e2, h]
         have e3 : k % 12 = 0 ∨ k % 12 = 2 ∨ k % 12 = 3 ∨ k % 12 = 4 ∨ k % 12 = 5 ∨ k % 12 = 6 ∨ k % 12 = 7 ∨ k % 12 = 8 ∨ k % 12 = 9 ∨ k % 12 = 10 ∨ k % 12 = 11 := by omega
         unfold lenM
         split
         · omega
         · split <;> omega)
      | (have e1 : (k + 1 - 2) % 12 = 0 := by omega
         have e2 : (k + 1 - 2) / 12 = (k - 2) / 12 + 1 := by omega
         have e3 : 1970 + ((k - 2) / 12 + 1) = (1970 + (k - 2) / 12) + 1 := by omega
         have e4 : 1970 + k / 12 = (1970 + (k - 2) / 12) + 1 := by omega
         rw [e1, e2, e3, e4, h, yst_succ]
         unfold lenM
         have e5 : k % 12 + 1 = 2 := by omega
         rw [if_pos e5]
         split <;> omega)
theorem lenM_pos (y m : Int) : 28 ≤ lenM y m ∧ lenM y m ≤ 31 := by
  unfold lenM; split
  · split <;> omega
  · split <;> omega
theorem mst_zero : mst 0 = 0 := by decide
theorem mst_lt (k : Int) : mst k + 28 ≤ mst (k + 1) := by
  have := lenM_pos (1970 + k / 12) (k % 12 + 1)
  rw [mst_succ]; omega
theorem mst_add (k : Int) : ∀ n : Nat, mst k + 28 * n ≤ mst (k + n)
  | 0 => by simp
  | n + 1 => by
    have h1 := mst_add k n
    have h2 := mst_lt (k + n)
    have e : k + ((n + 1 : Nat) : Int) = k + n + 1 := by omega
    rw [e]; omega
theorem mst_mono {j k : Int} (h : j ≤ k) : mst j ≤ mst k := by
  obtain ⟨n, hn⟩ : ∃ n : Nat, k = j + n := ⟨(k - j).toNat, by omega⟩
  have := mst_add j n
  rw [hn]; omega
theorem mst_smono {j k : Int} (h : j < k) : mst j < mst k := by
  have h1 := mst_mono (show j + 1 ≤ k by omega)
  have h2 := mst_lt j
  omega
/-- The month of a day is one. -/
theorem month_one {d j k : Int} (h1 : mst j ≤ d) (h2 : d < mst (j + 1)) (h3 : mst k ≤ d) (h4 : d < mst (k + 1)) : j = k := by
  rcases Int.lt_trichotomy j k with h | h | h
  · have := mst_mono (show j + 1 ≤ k by omega); omega
  · exact h
  · have := mst_mono (show k + 1 ≤ j by omega); omega
/-- Years of an era out of its days. -/
theorem era_low {n y t c e : Int} (h0 : 0 ≤ n) (h1 : n ≤ 146096) (ht : t = n / 1460) (hc : c = n / 36524) (he : e = n / 146096) (hy : y = (n - t + c - e) / 365) : 0 ≤ y ∧ y ≤ 399 ∧ 365 * y + y / 4 - y / 100 ≤ n := by
  have h2 : c ≤ t := by omega
  have h3 : 365 * y ≤ n - t + c - e := by omega
  have h4 : 0 ≤ y := by omega
  have h5 : y ≤ 399 := by omega
  have h6 : y / 4 ≤ t := by omega
  have h7 : n - t + c - e - 365 * y < 365 := by omega
  have he2 : 0 ≤ e := by omega
  refine ⟨h4, h5, ?_⟩
  have h8 : c ≤ y / 100 + e := by
    have hc4 : c = 0 ∨ c = 1 ∨ c = 2 ∨ c = 3 ∨ c = 4 := by omega
    rcases hc4 with h | h | h | h | h <;> omega
  omega
theorem era_high {n y t c e : Int} (h0 : 0 ≤ n) (h1 : n ≤ 146096) (ht : t = n / 1460) (hc : c = n / 36524) (he : e = n / 146096) (hy : y = (n - t + c - e) / 365) (h9 : y < 399) : n < 365 * (y + 1) + (y + 1) / 4 - (y + 1) / 100 := by
  apply Classical.byContradiction
  intro hn
  have hlo := era_low h0 h1 ht hc he hy
  obtain ⟨f, hf⟩ : ∃ f, f = (y + 1) / 4 := ⟨_, rfl⟩
  obtain ⟨g, hg⟩ : ∃ g, g = (y + 1) / 100 := ⟨_, rfl⟩
  rw [← hf, ← hg] at hn
  obtain ⟨n0, hn0⟩ : ∃ n0, n0 = 365 * (y + 1) + f - g := ⟨_, rfl⟩
  rw [← hn0] at hn
  have e0 : e = 0 := by omega
  have t0 : n0 / 1460 = f := by omega
  have c0 : g ≤ n0 / 36524 := by omega
  have m1 : n0 - n0 / 1460 ≤ n - t := by omega
  have m2 : n0 / 36524 ≤ c := by omega
  omega
theorem era_years {n y : Int} (h0 : 0 ≤ n) (h1 : n ≤ 146096) (hy : y = (n - n / 1460 + n / 36524 - n / 146096) / 365) :
    0 ≤ y ∧ y ≤ 399 ∧ 365 * y + y / 4 - y / 100 ≤ n ∧ (y < 399 → n < 365 * (y + 1) + (y + 1) / 4 - (y + 1) / 100) ∧ n - (365 * y + y / 4 - y / 100) ≤ 365 := by
  obtain ⟨h2, h3, h4⟩ := era_low h0 h1 rfl rfl rfl hy
  refine ⟨h2, h3, h4, fun h => era_high h0 h1 rfl rfl rfl hy h, ?_⟩
  by_cases h : y < 399
  · have := era_high h0 h1 rfl rfl rfl hy h
    clear hy
    omega
  · have : y = 399 := by omega
    clear hy
    subst this
    omega
theorem mst_of {Y m : Int} (h0 : 0 ≤ m) (h1 : m ≤ 11) : mst (12 * (Y - 1970) + m + 2) = Mst Y m := by
  unfold mst
  have e1 : (12 * (Y - 1970) + m + 2 - 2) / 12 = Y - 1970 := by omega
  have e2 : (12 * (Y - 1970) + m + 2 - 2) % 12 = m := by omega
  rw [e1, e2]; congr 1; omega
/-- A day's month, by the formula. -/
theorem day_month {d q n y p m : Int} (h0 : 0 ≤ d) (hq : q = (d + 719468) / 146097) (hn : n = (d + 719468) % 146097) (hy : y = (n - n / 1460 + n / 36524 - n / 146096) / 365) (hp : p = n - (365 * y + y / 4 - y / 100)) (hm : m = (5 * p + 2) / 153) :
    0 ≤ y ∧ y ≤ 399 ∧ 0 ≤ p ∧ p ≤ 365 ∧ 0 ≤ m ∧ m ≤ 11 ∧ 0 ≤ 12 * (q * 400 + y - 1970) + m + 2 ∧ mst (12 * (q * 400 + y - 1970) + m + 2) ≤ d ∧ d < mst (12 * (q * 400 + y - 1970) + m + 2 + 1) := by
  have hn0 : 0 ≤ n := by omega
  have hn1 : n ≤ 146096 := by omega
  have hD : d + 719468 = 146097 * q + n := by omega
  obtain ⟨y0, y1, y2, y3, y4⟩ := era_years hn0 hn1 hy
  clear hy
  have p0 : 0 ≤ p := by omega
  have p1 : p ≤ 365 := by omega
  have m0 : 0 ≤ m := by omega
  have m1 : m ≤ 11 := by omega
  have hlow : mst (12 * (q * 400 + y - 1970) + m + 2) ≤ d := by
    rw [mst_of m0 m1]
    unfold Mst yst
    have e1 : (q * 400 + y) / 400 = q := by omega
    have e2 : (q * 400 + y) % 400 = y := by omega
    rw [e1, e2]
    have e3 : (153 * m + 2) / 5 ≤ p := by omega
    omega
  have hhigh : d < mst (12 * (q * 400 + y - 1970) + m + 2 + 1) := by
    by_cases h : m < 11
    · have e0 : 12 * (q * 400 + y - 1970) + m + 2 + 1 = 12 * (q * 400 + y - 1970) + (m + 1) + 2 := by omega
      rw [e0, mst_of (by omega) (by omega)]
      unfold Mst yst
      have e1 : (q * 400 + y) / 400 = q := by omega
      have e2 : (q * 400 + y) % 400 = y := by omega
      rw [e1, e2]
      have e3 : p < (153 * (m + 1) + 2) / 5 := by omega
      omega
    · have e0 : 12 * (q * 400 + y - 1970) + m + 2 + 1 = 12 * (q * 400 + y + 1 - 1970) + 0 + 2 := by omega
      rw [e0, mst_of (by omega) (by omega)]
      unfold Mst yst
      by_cases hy9 : y < 399
      · have e1 : (q * 400 + y + 1) / 400 = q := by omega
        have e2 : (q * 400 + y + 1) % 400 = y + 1 := by omega
        rw [e1, e2]
        have := y3 hy9
        omega
      · have e1 : (q * 400 + y + 1) / 400 = q + 1 := by omega
        have e2 : (q * 400 + y + 1) % 400 = 0 := by omega
        rw [e1, e2]
        omega
  refine ⟨y0, y1, p0, p1, m0, m1, ?_, hlow, hhigh⟩
  apply Classical.byContradiction
  intro hk
  have := mst_mono (show 12 * (q * 400 + y - 1970) + m + 2 + 1 ≤ 0 by omega)
  rw [mst_zero] at this
  omega
/-- The first day of a year. -/
theorem mst_year (y : Int) : mst (12 * (y + 1 - 1970)) = mst (12 * (y - 1970)) + (if leapY y = true then 366 else 365) := by
  have a1 : 12 * (y + 1 - 1970) = 12 * (y - 1970) + 10 + 2 := by omega
  have a2 : 12 * (y - 1970) = 12 * (y - 1 - 1970) + 10 + 2 := by omega
  rw [a1, mst_of (by omega) (by omega)]
  conv => rhs; rw [a2, mst_of (by omega) (by omega)]
  unfold Mst
  have := yst_succ (y - 1)
  have e : y - 1 + 1 = y := by omega
  rw [e] at this
  rw [this]
  split <;> omega
end Go.Proofs.Ythcmiohbidencaa.E
