/- The plain law of CatalogEach, fourth part: the document's catalog says the same. No machine in it. -/
import Derived.Test.YthdggcleffadeaaCatalogEachLawC
set_option linter.unusedVariables false
set_option linter.unusedSimpArgs false
set_option maxRecDepth 20000
namespace Go.Proofs.Ythdggcleffadeaa.CatalogEach
open Go E

theorem leap_eq {y : Int} (h : 0 ≤ y) : ossuaryref04_Leap y = leapY y := by
  unfold ossuaryref04_Leap leapY
  rw [tmod_of h, tmod_of h, tmod_of h]
  by_cases h1 : y % 4 = 0
  · by_cases h2 : y % 100 = 0
    · simp [h1, h2]
      rw [Bool.eq_iff_iff]; simp
    · simp [h1, h2]
  · simp [h1]
theorem days_eq {y : Int} (h : 0 ≤ y) : ossuaryref04_days y = if leapY y = true then 366 else 365 := by
  unfold ossuaryref04_days
  simp only [thn_eq, leap_eq h]
theorem length_eq {y m : Int} (h : 0 ≤ y) (h1 : 1 ≤ m) (h2 : m ≤ 12) : ossuaryref04_Length y m = lenM y m := by
  unfold ossuaryref04_Length lenM
  simp only [thn_eq, leap_eq h]
  have hm : m = 1 ∨ m = 2 ∨ m = 3 ∨ m = 4 ∨ m = 5 ∨ m = 6 ∨ m = 7 ∨ m = 8 ∨ m = 9 ∨ m = 10 ∨ m = 11 ∨ m = 12 := by omega
  rcases hm with rfl | rfl | rfl | rfl | rfl | rfl | rfl | rfl | rfl | rfl | rfl | rfl <;> simp
theorem mst_big {k : Int} (h0 : 0 ≤ k) (h1 : k ≤ 37000) : 0 ≤ mst k ∧ mst k ≤ 2000000 := by
  have a := mst_mono h0
  rw [mst_zero] at a
  have b := mst_mono h1
  have c : mst 37000 ≤ 2000000 := by decide
  omega
theorem number_l0 {K : Nat} {a : Int} (ha : a ≤ 4901) : ∀ (f : Nat) (n y : Int), 1970 ≤ y → y ≤ a → n = mst (12 * (y - 1970)) → a - y < f → ossuaryref04_Number_l0 K a f n y = some (mst (12 * (a - 1970)))
  | 0, n, y, h0, h1, h2, h3 => by omega
  | f + 1, n, y, h0, h1, h2, h3 => by
    unfold ossuaryref04_Number_l0
    by_cases hy : y < a
    · rw [if_pos hy]
      have b := mst_big (k := 12 * (y - 1970)) (by omega) (by omega)
      simp only [thn_eq, days_eq (show 0 ≤ y by omega)]
      have e := mst_year y
      rw [w64_id (n := y + 1) (by omega), w64_id (by split <;> omega)]
      exact number_l0 ha f _ (y + 1) (by omega) (by omega) (by rw [h2, e]) (by omega)
    · rw [if_neg hy]
      have : y = a := by omega
      rw [h2, this]
theorem number_l1 {K : Nat} {y a : Int} (hy : 1970 ≤ y) (hy2 : y ≤ 4901) (ha : a ≤ 12) : ∀ (f : Nat) (n m : Int), 1 ≤ m → m ≤ a → n = mst (12 * (y - 1970) + m - 1) → a - m < f → ossuaryref04_Number_l1 K y a f n m = some (mst (12 * (y - 1970) + a - 1))
  | 0, n, m, h0, h1, h2, h3 => by omega
  | f + 1, n, m, h0, h1, h2, h3 => by
    unfold ossuaryref04_Number_l1
    by_cases hm : m < a
    · rw [if_pos hm]
      have b := mst_big (k := 12 * (y - 1970) + m - 1) (by omega) (by omega)
      simp only [thn_eq, length_eq (show 0 ≤ y by omega) h0 (by omega)]
      have c := lenM_pos y m
      have e := mst_succ (12 * (y - 1970) + m - 1)
      have e1 : 1970 + (12 * (y - 1970) + m - 1) / 12 = y := by omega
      have e2 : (12 * (y - 1970) + m - 1) % 12 + 1 = m := by omega
      rw [e1, e2] at e
      rw [w64_id (n := m + 1) (by omega), w64_id (by omega)]
      refine number_l1 hy hy2 ha f _ (m + 1) (by omega) (by omega) ?_ (by omega)
      rw [h2, ← e]; congr 1; omega
    · rw [if_neg hm]
      have : m = a := by omega
      rw [h2, this]
theorem refNumber_eq {K : Nat} {y m : Int} (hK : 200000 ≤ K) (h0 : 1970 ≤ y) (h1 : y ≤ 4900) (h2 : 1 ≤ m) (h3 : m ≤ 12) : ossuaryref04_Number K y m 1 = some (mst (12 * (y - 1970) + m - 1), true) := by
  unfold ossuaryref04_Number
  have c := lenM_pos y m
  rw [if_neg (by omega), if_neg (by omega), if_neg (by omega)]
  simp only [thn_eq, length_eq (show 0 ≤ y by omega) h2 h3]
  rw [if_neg (by omega), number_l0 (by omega) K 0 1970 (by omega) h0 (by decide) (by omega)]
  simp only [Option.bind_some]
  rw [number_l1 h0 (by omega) h3 K _ 1 (by omega) h2 (by congr 1; omega) (by omega)]
  have b := mst_big (k := 12 * (y - 1970) + m - 1) (by omega) (by omega)
  simp only [Option.bind_some]
  rw [w64_id (n := mst (12 * (y - 1970) + m - 1) + 1) (by omega), w64_id (by omega)]
  congr 2; omega
theorem refSpan4_eq {K : Nat} {k : Int} (hK : 200000 ≤ K) (h0 : 0 ≤ k) (h1 : k ≤ 30000) : ossuaryref04_Span K k = some (mst k, mst (k + 1)) := by
  unfold ossuaryref04_Span
  have e1 : w64 (Int.tdiv k 12) = k / 12 := by rw [tdiv_of h0, w64_id (by omega)]
  have e2 : Int.tmod k 12 = k % 12 := tmod_of h0
  rw [e1, e2, w64_id (n := 1970 + k / 12) (by omega), w64_id (n := k % 12 + 1) (by omega), refNumber_eq hK (by omega) (by omega) (by omega) (by omega)]
  have e3 : 12 * (1970 + k / 12 - 1970) + (k % 12 + 1) - 1 = k := by omega
  have b := mst_big h0 (show k ≤ 37000 by omega)
  have c := lenM_pos (1970 + k / 12) (k % 12 + 1)
  simp only [Option.bind_some, thn_eq, length_eq (show 0 ≤ 1970 + k / 12 by omega) (show 1 ≤ k % 12 + 1 by omega) (by omega), e3]
  rw [w64_id (by omega), mst_succ]
theorem date_l0 {K : Nat} {d : Int} (hd : d ≤ 1000000) : ∀ (f : Nat) (r y : Int), 1970 ≤ y → r = d - mst (12 * (y - 1970)) → 0 ≤ r → 5000 - y < f →
    ∃ Y, ossuaryref04_Date_l0 K f r y = some (d - mst (12 * (Y - 1970)), Y) ∧ 1970 ≤ Y ∧ Y < 5000 ∧ mst (12 * (Y - 1970)) ≤ d ∧ d < mst (12 * (Y + 1 - 1970))
  | 0, r, y, h0, h1, h2, h3 => by
    have a := mst_mono (show 36360 ≤ 12 * (y - 1970) by omega)
    have b : (1000000 : Int) < mst 36360 := by decide
    omega
  | f + 1, r, y, h0, h1, h2, h3 => by
    have hy : y < 5000 := by
      apply Classical.byContradiction
      intro hc
      have a := mst_mono (show 36360 ≤ 12 * (y - 1970) by omega)
      have b : (1000000 : Int) < mst 36360 := by decide
      omega
    unfold ossuaryref04_Date_l0
    simp only [thn_eq, days_eq (show 0 ≤ y by omega)]
    have e := mst_year y
    have b := mst_big (k := 12 * (y - 1970)) (by omega) (by omega)
    by_cases hc : (if leapY y = true then 366 else 365) ≤ r
    · rw [if_pos hc, if_pos hy, w64_id (n := y + 1) (by omega), w64_id (by split <;> omega)]
      exact date_l0 hd f _ (y + 1) (by omega) (by rw [e]; omega) (by omega) (by omega)
    · rw [if_neg hc]
      exact ⟨y, by rw [h1], h0, hy, by omega, by rw [e]; omega⟩
theorem date_l1 {K : Nat} {d y z : Int} (hd : d ≤ 1000000) (hy : 1970 ≤ y) (hy2 : y < 5000) (hd2 : d < mst (12 * (y + 1 - 1970))) : ∀ (f : Nat) (r m : Int), 1 ≤ m → m ≤ 12 → r = d - mst (12 * (y - 1970) + m - 1) → 0 ≤ r → 12 - m < f →
    ∃ M, ossuaryref04_Date_l1 K (z, y) f r m = some (d - mst (12 * (y - 1970) + M - 1), M) ∧ 1 ≤ M ∧ M ≤ 12 ∧ mst (12 * (y - 1970) + M - 1) ≤ d ∧ d < mst (12 * (y - 1970) + M)
  | 0, r, m, h0, h1, h2, h3, h4 => by omega
  | f + 1, r, m, h0, h1, h2, h3, h4 => by
    unfold ossuaryref04_Date_l1
    simp only []
    have b := mst_big (k := 12 * (y - 1970) + m - 1) (by omega) (by omega)
    by_cases hm : m < 12
    · rw [if_pos hm]
      simp only [thn_eq, length_eq (show 0 ≤ y by omega) h0 (by omega)]
      have c := lenM_pos y m
      have e := mst_succ (12 * (y - 1970) + m - 1)
      have e1 : 1970 + (12 * (y - 1970) + m - 1) / 12 = y := by omega
      have e2 : (12 * (y - 1970) + m - 1) % 12 + 1 = m := by omega
      have e3 : 12 * (y - 1970) + m - 1 + 1 = 12 * (y - 1970) + m := by omega
      rw [e1, e2, e3] at e
      by_cases hc : lenM y m ≤ r
      · rw [if_pos hc, w64_id (n := m + 1) (by omega), w64_id (by omega)]
        refine date_l1 hd hy hy2 hd2 f _ (m + 1) (by omega) (by omega) ?_ (by omega) (by omega)
        have e4 : 12 * (y - 1970) + (m + 1) - 1 = 12 * (y - 1970) + m := by omega
        rw [e4, e]; omega
      · rw [if_neg hc]
        exact ⟨m, by rw [h2], h0, h1, by omega, by rw [e]; omega⟩
    · rw [if_neg hm]
      have e : m = 12 := by omega
      subst e
      refine ⟨12, by rw [h2], by omega, by omega, by omega, ?_⟩
      have e4 : 12 * (y - 1970) + 12 = 12 * (y + 1 - 1970) := by omega
      rw [e4]; exact hd2
theorem refMonthOf_eq {K : Nat} {d : Int} (hK : 200000 ≤ K) (h0 : 0 ≤ d) (h1 : d ≤ 1000000) : ossuaryref04_MonthOf K d = some (civil_MonthOf d) := by
  unfold ossuaryref04_MonthOf ossuaryref04_Date
  obtain ⟨Y, e1, y1, y2, y3, y4⟩ := date_l0 (K := K) h1 K d 1970 (by omega) (by rw [show (12 : Int) * (1970 - 1970) = 0 by decide, mst_zero]; omega) h0 (by omega)
  rw [e1]
  simp only [Option.bind_some]
  obtain ⟨M, e2, m1, m2, m3, m4⟩ := date_l1 (K := K) (z := d - mst (12 * (Y - 1970))) h1 y1 y2 y4 K (d - mst (12 * (Y - 1970))) 1 (by omega) (by omega) (by congr 2; omega) (by omega) (by omega)
  rw [e2]
  simp only [Option.bind_some]
  obtain ⟨a0, a1, a2⟩ := monthOf_ok h0 h1
  have e3 : civil_MonthOf d = 12 * (Y - 1970) + M - 1 := month_one a1 a2 m3 (by rw [show 12 * (Y - 1970) + M - 1 + 1 = 12 * (Y - 1970) + M by omega]; exact m4)
  rw [e3, w64_id (n := Y - 1970) (by omega), w64_id (n := (Y - 1970) * 12) (by omega), w64_id (n := (Y - 1970) * 12 + M) (by omega), w64_id (by omega)]
  congr 1; omega
theorem most_eq {K : Nat} (t : Int) (hK : 200000 ≤ K) : ossuaryref19_most K t = some (mostI t) := by
  unfold ossuaryref19_most mostI
  by_cases h1 : t = 1
  · simp [h1]
  · by_cases h2 : t = 2
    · simp [h2]
    · by_cases h3 : t = 3
      · subst h3
        simp [refMonthOf_eq hK (show (0 : Int) ≤ 699050 by omega) (by omega), lastM_eq]
      · simp [h1, h2, h3]
theorem refRight_eq {K : Nat} (t i : Int) (hK : 200000 ≤ K) : ossuaryref19_Right K t i = some (decide (rtP ⟨t, i⟩)) := by
  unfold ossuaryref19_Right rtP
  by_cases h : 0 ≤ i
  · simp [h, most_eq t hK]
  · simp [h]
theorem refSpan_right {K : Nat} {t i : Int} (hK : 200000 ≤ K) (h : rtP ⟨t, i⟩) : ossuaryref19_Span K t i = some (loP ⟨t, i⟩, hiP ⟨t, i⟩) := by
  have hm := mostI_le t
  have h0 : 0 ≤ i := h.1
  have h1 : i ≤ mostI t := h.2
  unfold ossuaryref19_Span
  rw [refRight_eq t i hK]
  simp only [Option.bind_some, h, decide_true, Bool.not_true, Bool.false_eq_true, if_false]
  rcases tier_of h0 h1 with rfl | rfl | rfl
  · simp [loP, hiP, fromI, toI]
    rw [w64_id (by omega)]
  · have h1' : i ≤ 699050 := h1
    simp [loP, hiP, fromI, toI]
    rw [w64_id (n := 24 * i) (by omega), w64_id (n := i + 1) (by omega), w64_id (by omega)]
    simp
  · have h1' : i ≤ 22967 := h1
    have a := mst_small h0 (by omega)
    have b := mst_small (k := i + 1) (by omega) (by omega)
    simp [loP, hiP, fromI, toI, refSpan4_eq hK h0 (show i ≤ 30000 by omega)]
    rw [w64_id (n := 24 * mst i) (by omega), w64_id (by omega)]
    simp
theorem refSpan_wrong {K : Nat} {t i : Int} (hK : 200000 ≤ K) (h : ¬ rtP ⟨t, i⟩) : ossuaryref19_Span K t i = some (0, 0) := by
  unfold ossuaryref19_Span
  rw [refRight_eq t i hK]
  simp [h]
theorem refMeets_eq {K : Nat} {p q : Api_Part} (hK : 200000 ≤ K) (hp : rtP p) (hq : rtP q) : ossuaryref19_Meets K p.Tier p.Index q.Tier q.Index = some (decide (loP p < hiP q ∧ loP q < hiP p)) := by
  unfold ossuaryref19_Meets
  rw [refSpan_right hK (show rtP ⟨p.Tier, p.Index⟩ from hp), refSpan_right hK (show rtP ⟨q.Tier, q.Index⟩ from hq), refRight_eq _ _ hK, refRight_eq _ _ hK]
  have e1 : decide (rtP ⟨p.Tier, p.Index⟩) = true := decide_eq_true hp
  have e2 : decide (rtP ⟨q.Tier, q.Index⟩) = true := decide_eq_true hq
  rw [e1, e2]
  simp only [Option.bind_some, if_true]
  by_cases h : loP ⟨p.Tier, p.Index⟩ < hiP ⟨q.Tier, q.Index⟩
  · simp [h]
  · simp [h]
theorem refLess_eq {K : Nat} {p q : Api_Part} (hK : 200000 ≤ K) (hp : rtP p) (hq : rtP q) : ossuaryref19_Less K p.Tier p.Index q.Tier q.Index = some (decide (loP p < loP q ∨ loP p = loP q ∧ p.Tier < q.Tier)) := by
  unfold ossuaryref19_Less
  rw [refSpan_right hK (show rtP ⟨p.Tier, p.Index⟩ from hp), refSpan_right hK (show rtP ⟨q.Tier, q.Index⟩ from hq), refRight_eq _ _ hK, refRight_eq _ _ hK]
  have e1 : decide (rtP ⟨p.Tier, p.Index⟩) = true := decide_eq_true hp
  have e2 : decide (rtP ⟨q.Tier, q.Index⟩) = true := decide_eq_true hq
  rw [e1, e2]
  simp only [Option.bind_some, if_true]
  by_cases h : loP ⟨p.Tier, p.Index⟩ < loP ⟨q.Tier, q.Index⟩
  · simp [h]
  · by_cases h2 : loP ⟨p.Tier, p.Index⟩ = loP ⟨q.Tier, q.Index⟩
    · simp [h2]
    · simp [h, h2]
theorem refIn_eq (a b c : Int) : ossuaryref20_in a b c = decide (b ≤ a ∧ a ≤ c) := by
  unfold ossuaryref20_in
  by_cases h : b ≤ a <;> simp [h]
theorem refOk_eq {K : Nat} (e : En) (hK : 200000 ≤ K) : ossuaryref20_Right K e.Part.Tier e.Part.Index e.Seg e.Mark e.Rows e.Cold = some (decide (okE e)) := by
  unfold ossuaryref20_Right
  rw [refRight_eq _ _ hK]
  have e0 : decide (rtP ⟨e.Part.Tier, e.Part.Index⟩) = decide (rtP e.Part) := rfl
  rw [e0]
  unfold okE
  simp only [thn_eq, refIn_eq, Option.bind_some]
  by_cases h1 : rtP e.Part
  · by_cases h2 : 1 ≤ e.Seg ∧ e.Seg ≤ 4611686018427387904
    · by_cases h3 : 1 ≤ e.Rows ∧ e.Rows ≤ 4611686018427387904
      · by_cases h4 : 0 ≤ e.Mark ∧ e.Mark ≤ 4611686018427387904
        · by_cases h5 : e.Cold = true
          · simp [h1, h2, h3, h4, h5]
            rw [Bool.eq_iff_iff]; simp
          · simp [h1, h2, h3, h4, h5]
        · simp [h1, h2, h3, h4]
      · simp [h1, h2, h3]
    · simp [h1, h2]
  · simp [h1]
theorem map_get {l : List Pr} {i : Nat} (hi : i < l.length) : (l.map (·.v)).getD i z_Api_Entry = (l.getD i zP).v := by
  simp [List.getD_eq_getElem?_getD, List.getElem?_eq_getElem hi]
theorem ref_put_meets {K : Nat} {l : List Pr} (h : Cat l) {e : En} (he : rtP e.Part) (hK : 200000 ≤ K) : ∀ (f i : Nat) (k : Int), (∃ j, i ≤ j ∧ j < l.length ∧ ovl kk hh (loP e.Part) (hiP e.Part) (l.getD j zP) = true) → l.length - i < f →
    ossuaryref20_put_R_l0 K (l.map (·.v)) e.Part.Tier e.Part.Index f k i = some (Sum.inr (12, []))
  | 0, i, k, hj, hf => by omega
  | f + 1, i, k, ⟨j, h1, h2, h3⟩, hf => by
    have hlen := h.len
    have hi : i < l.length := by omega
    unfold ossuaryref20_put_R_l0
    rw [if_pos (by simp; omega), if_pos (by omega)]
    simp only [Int.toNat_natCast]
    rw [map_get hi]
    have hm := getD_mem hi
    rw [refMeets_eq hK (h.rt _ hm) he]
    simp only [Option.bind_some]
    have hk := h.key _ hm
    by_cases hc : loP (l.getD i zP).v.Part < hiP e.Part ∧ loP e.Part < hiP (l.getD i zP).v.Part
    · rw [if_pos (decide_eq_true hc)]
    · have e0 : decide (loP (l.getD i zP).v.Part < hiP e.Part ∧ loP e.Part < hiP (l.getD i zP).v.Part) = false := decide_eq_false hc
      rw [e0]
      simp only [Bool.false_eq_true, if_false]
      have hij : i ≠ j := by
        rintro rfl
        rw [mem_ovl] at h3
        apply hc
        rw [← hk]
        exact ⟨h3.2, h3.1⟩
      rw [refLess_eq hK (h.rt _ hm) he]
      simp only [Option.bind_some]
      rw [w64_id (by omega)]
      have e1 : ((i : Int) + 1) = ((i + 1 : Nat) : Int) := by omega
      rw [e1]
      split
      · exact ref_put_meets h he hK f (i + 1) _ ⟨j, by omega, h2, h3⟩ (by omega)
      · exact ref_put_meets h he hK f (i + 1) _ ⟨j, by omega, h2, h3⟩ (by omega)
theorem ref_put_none {K : Nat} {l : List Pr} (h : Cat l) {e : En} (he : rtP e.Part) (hK : 200000 ≤ K) (hno : l.filter (ovl kk hh (loP e.Part) (hiP e.Part)) = []) : ∀ (f i : Nat) (k : Int), i ≤ l.length → k = ((min i (cnt kk l (loP e.Part)) : Nat) : Int) → l.length - i < f →
    ossuaryref20_put_R_l0 K (l.map (·.v)) e.Part.Tier e.Part.Index f k i = some (Sum.inl (cnt kk l (loP e.Part) : Int))
  | 0, i, k, hi0, hk0, hf => by omega
  | f + 1, i, k, hi0, hk0, hf => by
    have hlen := h.len
    have hcl := cnt_le (key := kk) l (loP e.Part)
    unfold ossuaryref20_put_R_l0
    by_cases hi : i < l.length
    · rw [if_pos (by simp; omega), if_pos (by omega)]
      simp only [Int.toNat_natCast]
      rw [map_get hi]
      have hm := getD_mem hi
      have hk := h.key _ hm
      rw [refMeets_eq hK (h.rt _ hm) he]
      simp only [Option.bind_some]
      have hc : ¬ (loP (l.getD i zP).v.Part < hiP e.Part ∧ loP e.Part < hiP (l.getD i zP).v.Part) := by
        intro hc
        have := List.filter_eq_nil_iff.1 hno _ hm
        apply this
        rw [mem_ovl]
        refine ⟨hc.2, ?_⟩
        show (l.getD i zP).k < _
        rw [hk]; exact hc.1
      have e0 : decide (loP (l.getD i zP).v.Part < hiP e.Part ∧ loP e.Part < hiP (l.getD i zP).v.Part) = false := decide_eq_false hc
      rw [e0]
      simp only [Bool.false_eq_true, if_false]
      rw [refLess_eq hK (h.rt _ hm) he]
      simp only [Option.bind_some]
      rw [w64_id (by omega)]
      have e1 : ((i : Int) + 1) = ((i + 1 : Nat) : Int) := by omega
      rw [e1]
      have hl1 := loP_lt he
      have hl2 := loP_lt (h.rt _ hm)
      have hcl2 := cnt_lt h.srt (k := loP e.Part) (z := zP) hi
      simp only [kk] at hcl2
      rw [hk] at hcl2
      by_cases hls : loP (l.getD i zP).v.Part < loP e.Part
      · rw [if_pos (by simp; exact .inl hls)]
        exact ref_put_none h he hK hno f (i + 1) _ (by omega) (by have := hcl2.1 hls; omega) (by omega)
      · have : ¬ i < cnt kk l (loP e.Part) := fun hx => hls (hcl2.2 hx)
        rw [if_neg (by simp only [decide_eq_true_eq]; omega)]
        exact ref_put_none h he hK hno f (i + 1) _ (by omega) (by omega) (by omega)
    · rw [if_neg (by simp; omega)]
      congr 2
      omega
theorem ref_put_eq {K : Nat} {l : List Pr} (h : Cat l) (hl : l.length ≤ 99999) (e : En) (hK : 200000 ≤ K) :
    ossuaryref20_put_R K (l.map (·.v)) e.Part.Tier e.Part.Index e.Seg e.Mark e.Rows e.Cold = some ((put1 l e).1, if (put1 l e).1 = 0 then (put1 l e).2.map (·.v) else []) := by
  unfold ossuaryref20_put_R put1
  rw [refOk_eq e hK]
  simp only [Option.bind_some]
  by_cases he : okE e
  · simp only [he, decide_true, Bool.not_true, Bool.false_eq_true, if_false, if_true]
    by_cases hno : l.filter (ovl kk hh (loP e.Part) (hiP e.Part)) = []
    · have hcl := cnt_le (key := kk) l (loP e.Part)
      have hp := ref_put_none h he.1 hK hno K 0 0 (by omega) (by simp) (by have := h.len; omega)
      have e0 : ((0 : Nat) : Int) = 0 := rfl
      rw [e0] at hp
      rw [hp, if_pos hno]
      simp only [Option.bind_some, cas]
      rw [if_pos (by omega), if_pos (by simp; omega)]
      simp only [Int.toNat_natCast]
      rw [if_pos (by simp; omega), if_pos (by simp; omega), if_pos (by simp; omega)]
      simp [ins]
    · have hex : ∃ j, 0 ≤ j ∧ j < l.length ∧ ovl kk hh (loP e.Part) (hiP e.Part) (l.getD j zP) = true := by
        obtain ⟨x, hx⟩ := List.exists_mem_of_ne_nil _ hno
        obtain ⟨hx1, hx2⟩ := List.mem_filter.1 hx
        obtain ⟨i, hi1, hi2⟩ := List.getElem_of_mem hx1
        refine ⟨i, by omega, hi1, ?_⟩
        have e3 : l.getD i zP = x := by simp [List.getD_eq_getElem?_getD, List.getElem?_eq_getElem hi1, hi2]
        rw [e3]; exact hx2
      have hp := ref_put_meets h he.1 hK K 0 0 hex (by have := h.len; omega)
      have e0 : ((0 : Nat) : Int) = 0 := rfl
      rw [e0] at hp
      rw [hp, if_neg hno]
      simp [cas]
  · simp only [he, decide_false, Bool.not_false, if_true, if_false]
    simp
theorem refApply_l1 {K : Nat} {es : List En} (hes : es.length ≤ 10000) (hK : 200000 ≤ K) (l0 : List En) : ∀ (f i : Nat) (l : List Pr), Cat l → l.length + (es.length - i) ≤ 99999 → i ≤ es.length → es.length - i < f →
    ossuaryref20_Apply_RRR_l1 K es f i l0 (l.map (·.v)) = some ((putAll l (es.drop i)).1, if (putAll l (es.drop i)).1 = 0 then (putAll l (es.drop i)).2.map (·.v) else l0)
  | 0, i, l, h, h1, h2, h3 => by omega
  | f + 1, i, l, h, h1, h2, h3 => by
    unfold ossuaryref20_Apply_RRR_l1
    by_cases hi : i < es.length
    · rw [if_pos (by omega), if_pos (by omega)]
      simp only [Int.toNat_natCast]
      rw [ref_put_eq h (by omega) (es.getD i z_Api_Entry) hK]
      simp only [Option.bind_some]
      rw [List.drop_eq_getElem_cons hi, getE hi]
      unfold putAll
      by_cases h0 : (put1 l es[i]).1 = 0
      · obtain ⟨c1, c2⟩ := put1_cat h (by omega) es[i]
        rw [if_neg (by simp [h0]), if_pos h0, if_pos h0, w64_id (by omega)]
        have e : ((i : Int) + 1) = ((i + 1 : Nat) : Int) := by omega
        rw [e]
        exact refApply_l1 hes hK l0 f (i + 1) _ c1 (by omega) (by omega) (by omega)
      · rw [if_pos h0, if_neg h0]
        simp [h0]
    · rw [if_neg (by omega), List.drop_eq_nil_of_le (by omega)]
      simp [putAll]
theorem applyL_cat {l : List Pr} (h : Cat l) (ps : List Api_Part) {es : List En} (hes : l.length + es.length ≤ 10000) : Cat (applyL l ps es).2 ∧ (applyL l ps es).2.length ≤ l.length + es.length := by
  unfold applyL
  cases hd : dropAll l ps with
  | none => exact ⟨h, by simp⟩
  | some m =>
    obtain ⟨c1, c2⟩ := dropAll_cat h hd
    obtain ⟨c3, c4⟩ := putAll_cat (es := es) c1 (by omega)
    simp only
    split
    · exact ⟨c3, by simp; omega⟩
    · exact ⟨h, by simp⟩
end Go.Proofs.Ythdggcleffadeaa.CatalogEach
