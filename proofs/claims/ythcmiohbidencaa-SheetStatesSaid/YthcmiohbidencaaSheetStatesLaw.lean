/- The plain law of SheetStates: any partition's state, and from which hours on what is due. -/
import Derived.Test.YthcmiohbidencaaSheetStatesLawD
import Derived.KernelRfl
set_option linter.unusedVariables false
set_option linter.unusedSimpArgs false
set_option maxRecDepth 20000
namespace Go.Proofs.Ythcmiohbidencaa.SheetStates
open Go E

theorem alive_true : ossuarylaw40_alive 200000 = some true := by kernel_rfl
theorem in_def (x lo hi : Int) : ossuaryref18_in x lo hi = decide (lo ≤ x ∧ x ≤ hi) := by
 unfold ossuaryref18_in
 by_cases h : lo ≤ x <;> simp [h]
theorem two_if {α : Type} (x lo hi : Int) (A Y : α) : (if x < lo then A else if hi < x then A else Y) = if (!(ossuaryref18_in x lo hi)) = true then A else Y := by
 rw [in_def]
 by_cases h : x < lo
 ·rw [if_pos h, if_pos (by simp; omega)]
 ·rw [if_neg h]
  by_cases h2 : hi < x
  ·rw [if_pos h2, if_pos (by simp; omega)]
  ·rw [if_neg h2, if_neg (by simp; omega)]
theorem check_eq (a0 a1 a2 a3 a4 a5 a6 a7 a8 : Int) : policy_Check a0 a1 a2 a3 a4 a5 a6 a7 a8 = some (ossuaryref18_Check a0 a1 a2 a3 a4 a5 a6 a7 a8) := by
 unfold policy_Check ossuaryref18_Check
 simp only [thn_eq, policy_bounds, policy_numbers, two_if, apply_ite some]
 simp
theorem check0 {a0 a1 a2 a3 a4 a5 a6 a7 a8 : Int} (h : ossuaryref18_Check a0 a1 a2 a3 a4 a5 a6 a7 a8 = 0) : (0 ≤ a0 ∧ a0 ≤ 1048576) ∧ (0 ≤ a1 ∧ a1 ≤ 1048576) ∧ (0 ≤ a2 ∧ a2 ≤ 1048576) ∧ (0 ≤ a3 ∧ a3 ≤ 1048576) ∧ (0 ≤ a4 ∧ a4 ≤ 1048576) ∧ (0 ≤ a5 ∧ a5 ≤ 1048576) ∧ (0 ≤ a6 ∧ a6 ≤ 1048576) ∧ (0 ≤ a7 ∧ a7 ≤ 1048576) ∧ (0 ≤ a8 ∧ a8 ≤ 1048576) := by
 unfold ossuaryref18_Check at h
 simp only [thn_eq, in_def] at h
 split at h
 ·simp at h
 rename_i c0
 split at h
 ·simp at h
 rename_i c1
 split at h
 ·simp at h
 rename_i c2
 split at h
 ·simp at h
 rename_i c3
 split at h
 ·simp at h
 rename_i c4
 split at h
 ·simp at h
 rename_i c5
 split at h
 ·simp at h
 rename_i c6
 split at h
 ·simp at h
 rename_i c7
 split at h
 ·simp at h
 rename_i c8
 simp at c0 c1 c2 c3 c4 c5 c6 c7 c8
 refine ⟨?_, ?_, ?_, ?_, ?_, ?_, ?_, ?_, ?_⟩ <;> omega

theorem lag_eq {a0_0 a0_1 a0_2 a0_3 a0_4 a0_5 a0_6 a0_7 a0_8 : Int} {t : Int} (h1 : 1 ≤ t) (h2 : t ≤ 3) : policy_Lag a0_0 a0_1 a0_2 a0_3 a0_4 a0_5 a0_6 a0_7 a0_8 t = some (ossuaryref18_Lag a0_0 a0_1 a0_2 a0_3 a0_4 a0_5 a0_6 a0_7 a0_8 t) := by
 unfold policy_Lag ossuaryref18_Lag
 rw [if_neg (by omega), if_neg (by omega), if_pos (by omega), if_pos (by omega)]
 have h : t = 1 ∨ t = 2 ∨ t = 3 := by omega
 rcases h with rfl | rfl | rfl <;> rfl
theorem lag_in {a0_0 a0_1 a0_2 a0_3 a0_4 a0_5 a0_6 a0_7 a0_8 : Int} {t : Int} (hc : ossuaryref18_Check a0_0 a0_1 a0_2 a0_3 a0_4 a0_5 a0_6 a0_7 a0_8 = 0) : 0 ≤ (ossuaryref18_Lag a0_0 a0_1 a0_2 a0_3 a0_4 a0_5 a0_6 a0_7 a0_8 t).1 ∧ (ossuaryref18_Lag a0_0 a0_1 a0_2 a0_3 a0_4 a0_5 a0_6 a0_7 a0_8 t).1 ≤ 1048576 := by
 obtain ⟨c0, c1, c2, c3, c4, c5, c6, c7, c8⟩ := check0 hc
 unfold ossuaryref18_Lag
 split
 ·exact c1
 ·split
  ·exact c2
  ·split
   ·exact c3
   ·simp
theorem month_in {d : Int} (h0 : 0 ≤ d) (h1 : d ≤ 699050) : 0 ≤ civil_MonthOf d ∧ civil_MonthOf d ≤ 22967 := by
 obtain ⟨m1, m2, m3⟩ := monthOf_ok h0 (by omega)
 refine ⟨m1, ?_⟩
 have a := mst_last.2
 rcases Int.lt_or_le 22967 (civil_MonthOf d) with h | h
 ·have b := mst_mono (j := 22968) (k := civil_MonthOf d) (by omega)
  omega
 ·exact h
def ixOf (t h : Int) : Int := if t = 1 then h else if t = 2 then h / 24 else civil_MonthOf (h / 24)
def endOf (t h : Int) : Int := toI t (ixOf t h)
theorem of_rt {t h : Int} (ht : t = 1 ∨ t = 2 ∨ t = 3) (h0 : 0 ≤ h) (h1 : h ≤ 16777216) : rtP ⟨t, ixOf t h⟩ := by
 have hm := month_in (d := h / 24) (by omega) (by omega)
 unfold ixOf
 rcases ht with rfl | rfl | rfl
 ·exact ⟨h0, h1⟩
 ·refine ⟨?_, ?_⟩ <;> simp [mostI] <;> omega
 ·refine ⟨?_, ?_⟩ <;> simp [mostI] <;> omega
theorem dates1_eq {t h : Int} (ht : t = 1 ∨ t = 2 ∨ t = 3) (h0 : 0 ≤ h) (h1 : h ≤ 16777216) : sheet_Dates_1 t h = endOf t h := by
 have hr := of_rt ht h0 h1
 have hd := dayOf_eq h0 (by omega)
 have hp : part_Of t h = (t, (ixOf t h), true) := by
  unfold part_Of ixOf
  rw [if_neg (by omega), if_neg (by omega)]
  simp only [thn_eq, hd]
  rcases ht with rfl | rfl | rfl <;> simp
 unfold sheet_Dates_1
 simp only [thn_eq]
 rw [hp, span_right hr.1 hr.2]
 rfl
theorem refOf_eq {K : Nat} {t h : Int} (hK : 200000 ≤ K) (ht : t = 1 ∨ t = 2 ∨ t = 3) (h0 : 0 ≤ h) (h1 : h ≤ 16777216) : ossuaryref19_Of K t h = some (t, (ixOf t h), true) := by
 unfold ossuaryref19_Of ixOf
 rw [if_neg (by omega), if_neg (by omega), most_eq t hK]
 simp only [Option.bind_some]
 have hn : ¬ mostI t < 0 := by rcases ht with rfl | rfl | rfl <;> simp [mostI]
 rw [if_neg hn, tdiv_of h0, w64_id (by omega), refMonthOf_eq hK (by omega) (by omega)]
 rcases ht with rfl | rfl | rfl <;> simp
theorem refEnd_eq {K : Nat} {t h : Int} (hK : 200000 ≤ K) (ht : t = 1 ∨ t = 2 ∨ t = 3) (h0 : 0 ≤ h) (h1 : h ≤ 16777216) : ∃ b, ossuaryref19_Span K t (ixOf t h) = some (b, endOf t h) :=
 ⟨_, refSpan_right hK (of_rt ht h0 h1)⟩
theorem dates_eq {K : Nat} {a0_0 a0_1 a0_2 a0_3 a0_4 a0_5 a0_6 a0_7 a0_8 : Int} (a1 : Int) (hK : 200000 ≤ K) : ∃ x, sheet_Dates a0_0 a0_1 a0_2 a0_3 a0_4 a0_5 a0_6 a0_7 a0_8 a1 = some x ∧ ossuaryref40_Dates K a0_0 a0_1 a0_2 a0_3 a0_4 a0_5 a0_6 a0_7 a0_8 a1 = some x := by
 unfold sheet_Dates ossuaryref40_Dates
 rw [check_eq, Option.bind_some, thn_eq]
 by_cases hc : ossuaryref18_Check a0_0 a0_1 a0_2 a0_3 a0_4 a0_5 a0_6 a0_7 a0_8 = 0
 ·have hcn : ¬ ¬ (ossuaryref18_Check a0_0 a0_1 a0_2 a0_3 a0_4 a0_5 a0_6 a0_7 a0_8 = 0) := fun h => h hc
  rw [if_neg hcn, if_neg hcn]
  by_cases h0 : a1 < 0
  ·rw [if_pos h0, if_pos h0]; exact ⟨_, rfl, rfl⟩
  ·rw [if_neg h0, if_neg h0]
   by_cases h1 : 16777216 < a1
   ·rw [if_pos h1, if_pos h1]; exact ⟨_, rfl, rfl⟩
   ·rw [if_neg h1, if_neg h1]
    obtain ⟨b1, e1⟩ := refEnd_eq (K := K) (t := 1) (h := a1) hK (.inl rfl) (by omega) (by omega)
    obtain ⟨b2, e2⟩ := refEnd_eq (K := K) (t := 2) (h := a1) hK (.inr (.inl rfl)) (by omega) (by omega)
    obtain ⟨b3, e3⟩ := refEnd_eq (K := K) (t := 3) (h := a1) hK (.inr (.inr rfl)) (by omega) (by omega)
    rw [lag_eq (t := 1) (by omega) (by omega), lag_eq (t := 2) (by omega) (by omega), lag_eq (t := 3) (by omega) (by omega)]
    rw [refOf_eq (t := 1) hK (.inl rfl) (by omega) (by omega), refOf_eq (t := 2) hK (.inr (.inl rfl)) (by omega) (by omega), refOf_eq (t := 3) hK (.inr (.inr rfl)) (by omega) (by omega)]
    simp only [Option.bind_some, thn_eq]
    rw [dates1_eq (t := 1) (.inl rfl) (by omega) (by omega), dates1_eq (t := 2) (.inr (.inl rfl)) (by omega) (by omega), dates1_eq (t := 3) (.inr (.inr rfl)) (by omega) (by omega), e1, e2, e3]
    simp only [Option.bind_some]
    exact ⟨_, rfl, rfl⟩
 ·rw [if_pos hc, if_pos hc]; exact ⟨_, rfl, rfl⟩
theorem state_eq {K : Nat} {a0_0 a0_1 a0_2 a0_3 a0_4 a0_5 a0_6 a0_7 a0_8 : Int} (t i a2 a3 : Int) (hK : 200000 ≤ K) : ∃ x, sheet_State a0_0 a0_1 a0_2 a0_3 a0_4 a0_5 a0_6 a0_7 a0_8 t i a2 a3 = some x ∧ ossuaryref40_State K a0_0 a0_1 a0_2 a0_3 a0_4 a0_5 a0_6 a0_7 a0_8 t i a2 a3 = some x := by
 unfold sheet_State ossuaryref40_State
 rw [check_eq, Option.bind_some, thn_eq (ossuaryref18_Check a0_0 a0_1 a0_2 a0_3 a0_4 a0_5 a0_6 a0_7 a0_8)]
 by_cases hc : ossuaryref18_Check a0_0 a0_1 a0_2 a0_3 a0_4 a0_5 a0_6 a0_7 a0_8 = 0
 ·have hcn : ¬ ¬ (ossuaryref18_Check a0_0 a0_1 a0_2 a0_3 a0_4 a0_5 a0_6 a0_7 a0_8 = 0) := fun h => h hc
  rw [if_neg hcn, if_neg hcn]
  by_cases h0 : a2 < 0
  ·rw [if_pos h0, if_pos h0]; exact ⟨_, rfl, rfl⟩
  ·rw [if_neg h0, if_neg h0]
   by_cases h1 : 1099511627776 < a2
   ·rw [if_pos h1, if_pos h1]; exact ⟨_, rfl, rfl⟩
   ·rw [if_neg h1, if_neg h1]
    by_cases h2 : a3 < 0
    ·rw [if_pos h2, if_pos h2]; exact ⟨_, rfl, rfl⟩
    ·rw [if_neg h2, if_neg h2]
     by_cases h3 : 16777217 < a3
     ·rw [if_pos h3, if_pos h3]; exact ⟨_, rfl, rfl⟩
     ·rw [if_neg h3, if_neg h3, refRight_eq t i hK, right_eq]
      simp only [Option.bind_some, thn_eq]
      by_cases hr : rtP ⟨t, i⟩
      ·have hr' : 0 ≤ i ∧ i ≤ mostI t := hr
       have hlt := loP_lt hr
       obtain ⟨c0, c1, c2, c3, c4, c5, c6, c7, c8⟩ := check0 hc
       have hl := lag_in (t := t) hc
       have ht : t = 1 ∨ t = 2 ∨ t = 3 := tier_of hr.1 hr.2
       rw [refSpan_right hK hr, span_right hr.1 hr.2]
       simp only [hr, hr', and_self, decide_true, Bool.not_true, Bool.false_eq_true, if_false, Option.bind_some]
       have hd1 : part_Due t i a0_0 a0_1 a0_2 a0_3 a0_4 a0_5 a0_6 a0_7 a0_8 a2 = some (decide (toI t i + (ossuaryref18_Lag a0_0 a0_1 a0_2 a0_3 a0_4 a0_5 a0_6 a0_7 a0_8 t).1 ≤ a2)) := by
        unfold part_Due
        rw [right_eq, check_eq, lag_eq (by omega) (by omega), span_right hr.1 hr.2]
        simp only [thn_eq, hr', and_self, decide_true, Bool.not_true, Bool.false_eq_true, if_false, Option.bind_some, hc]
        rw [if_neg (by simp), w64_id (by omega)]
        congr 1
        rw [decide_eq_decide]
        omega
       have hlt' : 0 ≤ toI t i ∧ toI t i ≤ 48000000 := ⟨by have := hlt.1; have := hlt.2.1; show 0 ≤ hiP ⟨t, i⟩; omega, hlt.2.2⟩
       have hd2 : ossuaryref19_Due K t i a0_0 a0_1 a0_2 a0_3 a0_4 a0_5 a0_6 a0_7 a0_8 a2 = some (decide (toI t i + (ossuaryref18_Lag a0_0 a0_1 a0_2 a0_3 a0_4 a0_5 a0_6 a0_7 a0_8 t).1 ≤ a2)) := by
        unfold ossuaryref19_Due
        rw [refSpan_right hK hr, refRight_eq t i hK]
        simp only [thn_eq, hr, decide_true, if_true, Option.bind_some, hc]
        have : hiP ⟨t, i⟩ = toI t i := rfl
        rw [this, w64_id (by omega)]
       have e1 : hiP ⟨t, i⟩ = toI t i := rfl
       rw [hd1, hd2, e1, w64_id (n := a2 - toI t i) (by omega), w64_id (n := toI t i + a0_4) (by omega)]
       simp only [Option.bind_some]
       by_cases q1 : toI t i ≤ a3
       ·rw [if_pos q1, if_pos q1]; exact ⟨_, rfl, rfl⟩
       ·rw [if_neg q1, if_neg q1]
        by_cases q2 : t = 3
        ·rw [if_pos q2, if_pos q2]
         by_cases q3 : a0_4 ≤ a2 - toI t i
         ·rw [if_pos q3, if_pos (show toI t i + a0_4 ≤ a2 by omega)]; exact ⟨_, rfl, rfl⟩
         ·rw [if_neg q3, if_neg (show ¬ (toI t i + a0_4 ≤ a2) by omega)]
          split
          ·exact ⟨_, rfl, rfl⟩
          ·exact ⟨_, rfl, rfl⟩
        ·rw [if_neg q2, if_neg q2]
         split
         ·exact ⟨_, rfl, rfl⟩
         ·exact ⟨_, rfl, rfl⟩
      ·have hr' : ¬ (0 ≤ i ∧ i ≤ mostI t) := hr
       simp only [hr, hr', decide_false, Bool.not_false, if_true]
       exact ⟨_, rfl, rfl⟩
 ·rw [if_pos hc, if_pos hc]; exact ⟨_, rfl, rfl⟩
theorem law (a0_0 a0_1 a0_2 a0_3 a0_4 a0_5 a0_6 a0_7 a0_8 : Int) (t i a2 a3 a4 : Int) : ∃ K, ossuarylaw40_SheetStates K a0_0 a0_1 a0_2 a0_3 a0_4 a0_5 a0_6 a0_7 a0_8 t i a2 a3 a4 = some true := by
 obtain ⟨K, hKK⟩ : ∃ K : Nat, K = 200000 := ⟨_, rfl⟩
 refine ⟨K, ?_⟩
 have hK : 200000 ≤ K := by omega
 have hal : ossuarylaw40_alive K = some true := by rw [hKK]; exact alive_true
 clear hKK
 unfold ossuarylaw40_SheetStates
 obtain ⟨x, h1, h2⟩ := dates_eq (K := K) (a0_0 := a0_0) (a0_1 := a0_1) (a0_2 := a0_2) (a0_3 := a0_3) (a0_4 := a0_4) (a0_5 := a0_5) (a0_6 := a0_6) (a0_7 := a0_7) (a0_8 := a0_8) a4 hK
 obtain ⟨y, h3, h4⟩ := state_eq (K := K) (a0_0 := a0_0) (a0_1 := a0_1) (a0_2 := a0_2) (a0_3 := a0_3) (a0_4 := a0_4) (a0_5 := a0_5) (a0_6 := a0_6) (a0_7 := a0_7) (a0_8 := a0_8) t i a2 a3 hK
 rw [h1, h2, h3, h4]
 simp only [Option.bind_some, hal, if_true, beq_self_eq_true]
end Go.Proofs.Ythcmiohbidencaa.SheetStates
