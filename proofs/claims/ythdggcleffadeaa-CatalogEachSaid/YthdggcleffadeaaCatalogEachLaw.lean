/- The plain law of CatalogEach: all entries, as far as they are asked, and that a copy stays as it is, behind any edits. -/
import Derived.Test.YthdggcleffadeaaCatalogEachLawF
import Derived.KernelRfl
set_option linter.unusedVariables false
set_option linter.unusedSimpArgs false
set_option maxRecDepth 20000
namespace Go.Proofs.Ythdggcleffadeaa.CatalogEach
open Go E

theorem alive_true : ossuarylaw20_alive 200000 = some true := by kernel_rfl
theorem light_l0 {K : Nat} {l : List Ossuarylaw20_Act} (hl : l.length ≤ 40) : ∀ (f i : Nat), i ≤ l.length → l.length - i < f →
    ∃ b, ossuarylaw20_light_R_l0 K l f i = some b ∧ (b = true → ∀ x ∈ l.drop i, okA x)
  | 0, i, h1, h2 => by omega
  | f + 1, i, h1, h2 => by
    unfold ossuarylaw20_light_R_l0
    by_cases hi : i < l.length
    · rw [if_pos (by omega), if_pos (by omega)]
      simp only [Int.toNat_natCast, getA hi]
      rw [List.drop_eq_getElem_cons hi]
      by_cases ha : 30 < (l[i].Drop.xs.length : Int)
      · rw [if_pos ha]; exact ⟨_, rfl, by simp⟩
      · rw [if_neg ha]
        by_cases hb : 30 < (l[i].Put.xs.length : Int)
        · rw [if_pos hb]; exact ⟨_, rfl, by simp⟩
        · rw [if_neg hb, w64_id (by omega)]
          have e1 : ((i : Int) + 1) = ((i + 1 : Nat) : Int) := by omega
          rw [e1]
          obtain ⟨b, h3, h4⟩ := light_l0 (K := K) hl f (i + 1) (by omega) (by omega)
          refine ⟨b, h3, fun hb2 x hx => ?_⟩
          rcases List.mem_cons.1 hx with rfl | hx
          · exact ⟨by omega, by omega⟩
          · exact h4 hb2 x hx
    · rw [if_neg (by omega), List.drop_eq_nil_of_le (by omega)]
      exact ⟨_, rfl, by simp⟩
theorem light_eq {K : Nat} (l : List Ossuarylaw20_Act) (hK : 200000 ≤ K) : ∃ b, ossuarylaw20_light_R K l = some b ∧ (b = true → l.length ≤ 40 ∧ ∀ x ∈ l, okA x) := by
  unfold ossuarylaw20_light_R
  by_cases h : 40 < (l.length : Int)
  · rw [if_pos h]; exact ⟨_, rfl, by simp⟩
  · rw [if_neg h]
    obtain ⟨b, h3, h4⟩ := light_l0 (K := K) (l := l) (by omega) K 0 (by omega) (by omega)
    exact ⟨b, h3, fun hb => ⟨by omega, by simpa using h4 hb⟩⟩
theorem light2_l0 {K : Nat} {l : List Ossuarylaw20_Act} (hl : l.length ≤ 40) : ∀ (f i : Nat), i ≤ l.length → l.length - i < f →
    ∃ b, ossuarylaw20_light_R_2_l0 K l f i = some b ∧ (b = true → ∀ x ∈ l.drop i, okA x)
  | 0, i, h1, h2 => by omega
  | f + 1, i, h1, h2 => by
    unfold ossuarylaw20_light_R_2_l0
    by_cases hi : i < l.length
    · rw [if_pos (by omega), if_pos (by omega)]
      simp only [Int.toNat_natCast, getA hi]
      rw [List.drop_eq_getElem_cons hi]
      by_cases ha : 30 < (l[i].Drop.xs.length : Int)
      · rw [if_pos ha]; exact ⟨_, rfl, by simp⟩
      · rw [if_neg ha]
        by_cases hb : 30 < (l[i].Put.xs.length : Int)
        · rw [if_pos hb]; exact ⟨_, rfl, by simp⟩
        · rw [if_neg hb, w64_id (by omega)]
          have e1 : ((i : Int) + 1) = ((i + 1 : Nat) : Int) := by omega
          rw [e1]
          obtain ⟨b, h3, h4⟩ := light2_l0 (K := K) hl f (i + 1) (by omega) (by omega)
          refine ⟨b, h3, fun hb2 x hx => ?_⟩
          rcases List.mem_cons.1 hx with rfl | hx
          · exact ⟨by omega, by omega⟩
          · exact h4 hb2 x hx
    · rw [if_neg (by omega), List.drop_eq_nil_of_le (by omega)]
      exact ⟨_, rfl, by simp⟩
theorem light2_eq {K : Nat} (l : List Ossuarylaw20_Act) (hK : 200000 ≤ K) : ∃ b, ossuarylaw20_light_R_2 K l = some b ∧ (b = true → l.length ≤ 40 ∧ ∀ x ∈ l, okA x) := by
  unfold ossuarylaw20_light_R_2
  by_cases h : 40 < (l.length : Int)
  · rw [if_pos h]; exact ⟨_, rfl, by simp⟩
  · rw [if_neg h]
    obtain ⟨b, h3, h4⟩ := light2_l0 (K := K) (l := l) (by omega) K 0 (by omega) (by omega)
    exact ⟨b, h3, fun hb => ⟨by omega, by simpa using h4 hb⟩⟩
abbrev Gm : Type := Sum Int (Sum Unit (List Api_Entry × Int))
theorem round_eq {K : Nat} {a2 : Int} {c : List Pr} {i : Nat} (hi : i < c.length) (hl : c.length ≤ 100000) :
    ossuarylaw20_CatalogEach_r0 K a2 (c, c.map (·.v)) (c.getD i zP).v (Sum.inl (i : Int)) = some (if ((i + 1 : Nat) : Int) = a2 then (Sum.inr (Sum.inr (c.map (·.v), ((i + 1 : Nat) : Int))), false) else (Sum.inl ((i + 1 : Nat) : Int), true)) := by
  unfold ossuarylaw20_CatalogEach_r0
  simp only [cas]
  have e2 : (c.map (·.v)).getD i z_Api_Entry = (c.getD i zP).v := by simp [List.getD_eq_getElem?_getD, List.getElem?_eq_getElem hi]
  rw [if_neg (by simp; omega), if_pos (by omega), if_pos (by simp; omega)]
  simp only [Int.toNat_natCast, e2]
  have e1 : ((i : Int) + 1) = ((i + 1 : Nat) : Int) := by omega
  rw [w64_id (by omega), e1]
  simp only [beq_self_eq_true, Bool.and_self, Bool.not_true, Bool.false_eq_true, if_false]
  split <;> rfl
theorem each_l0 {K : Nat} {a2 : Int} {c : List Pr} (hl : c.length ≤ 100000) (hK : 200000 ≤ K) : ∀ (f i : Nat), i ≤ c.length → c.length - i < f →
    omap_each__int64__api_Entry_1_YR_l0 K (Sum Gm Gm) (catalog_Catalog_All_1_YO_r0 K Gm (ossuarylaw20_CatalogEach_r0 K a2 (c, c.map (·.v)))) c f i (Sum.inl (Sum.inl (i : Int))) =
      some (if (i : Int) < a2 ∧ a2 ≤ c.length then Sum.inr (Sum.inr (Sum.inr (c.map (·.v), a2))) else Sum.inl (Sum.inl (c.length : Int)))
  | 0, i, h1, h2 => by omega
  | f + 1, i, h1, h2 => by
    unfold omap_each__int64__api_Entry_1_YR_l0
    by_cases hi : i < c.length
    · rw [if_pos (by omega), if_pos (by omega)]
      simp only [Int.toNat_natCast]
      have hy : catalog_Catalog_All_1_YO_r0 K Gm (ossuarylaw20_CatalogEach_r0 K a2 (c, c.map (·.v))) (c.getD i zP).k (c.getD i zP).v (Sum.inl (Sum.inl (i : Int))) = some (if ((i + 1 : Nat) : Int) = a2 then (Sum.inr (Sum.inr (Sum.inr (c.map (·.v), ((i + 1 : Nat) : Int)))), false) else (Sum.inl (Sum.inl ((i + 1 : Nat) : Int)), true)) := by
        unfold catalog_Catalog_All_1_YO_r0
        simp only [cas]
        have h := round_eq (K := K) (a2 := a2) hi hl
        have e3 : (⟨(⟨(c.getD i zP).v.Part.Tier, (c.getD i zP).v.Part.Index⟩ : Api_Part), (c.getD i zP).v.Seg, (c.getD i zP).v.Mark, (c.getD i zP).v.Rows, (c.getD i zP).v.Cold⟩ : Api_Entry) = (c.getD i zP).v := rfl
        rw [e3, h]
        by_cases h0 : ((i + 1 : Nat) : Int) = a2
        · rw [if_pos h0]; simp [h0]
        · rw [if_neg h0, if_neg h0]; rfl
      have hy' : catalog_Catalog_All_1_YO_r0 K Gm (ossuarylaw20_CatalogEach_r0 K a2 (c, c.map (·.v))) (c.getD i zP).k (⟨(⟨(c.getD i zP).v.Part.Tier, (c.getD i zP).v.Part.Index⟩ : Api_Part), (c.getD i zP).v.Seg, (c.getD i zP).v.Mark, (c.getD i zP).v.Rows, (c.getD i zP).v.Cold⟩ : Api_Entry) (Sum.inl (Sum.inl (i : Int))) = _ := hy
      rw [hy']
      simp only [Option.bind_some]
      by_cases h0 : ((i + 1 : Nat) : Int) = a2
      · rw [if_pos h0, if_pos (by rfl), if_pos (by omega), h0]
      · rw [if_neg h0]
        simp only [Bool.not_true, Bool.false_eq_true, if_false]
        have e1 : ((i : Int) + 1) = ((i + 1 : Nat) : Int) := by omega
        rw [w64_id (by omega), e1, each_l0 hl hK f (i + 1) (by omega) (by omega)]
        congr 1
        by_cases hc : ((i + 1 : Nat) : Int) < a2 ∧ a2 ≤ c.length
        · rw [if_pos hc, if_pos (by omega)]
        · rw [if_neg hc, if_neg (by omega)]
    · rw [if_neg (by omega), if_neg (by omega)]
      have : i = c.length := by omega
      rw [this]
theorem law (l0 : List Ossuarylaw20_Act) (s1_0 : Value) (l1_0 : List Api_Part) (s1_1 : Value) (l1_1 : List Api_Entry) (a2 : Int) : ∃ K, ossuarylaw20_CatalogEach K l0 s1_0 l1_0 s1_1 l1_1 a2 = some true := by
  obtain ⟨K, hKK⟩ : ∃ K : Nat, K = 200000 := ⟨_, rfl⟩
  refine ⟨K, ?_⟩
  have hK : 200000 ≤ K := by omega
  have hal : ossuarylaw20_alive K = some true := by rw [hKK]; exact alive_true
  clear hKK
  unfold ossuarylaw20_CatalogEach
  rw [hal]
  simp only [Option.bind_some, Bool.not_true, Bool.false_eq_true, if_false]
  obtain ⟨b, hb1, hb2⟩ := light_eq (K := K) l0 hK
  rw [hb1]
  simp only [Option.bind_some]
  cases b with
  | false => rfl
  | true =>
    obtain ⟨hl, ho⟩ := hb2 rfl
    simp only [Bool.not_true, Bool.false_eq_true, if_false]
    obtain ⟨b, hb1, hb2⟩ := light2_eq (K := K) [(⟨(⟨s1_0, l1_0⟩ : Sl Api_Part), (⟨s1_1, l1_1⟩ : Sl Api_Entry)⟩ : Ossuarylaw20_Act)] hK
    rw [hb1]
    simp only [Option.bind_some]
    cases b with
    | false => rfl
    | true =>
      obtain ⟨o1, o2⟩ := (hb2 rfl).2 _ (List.mem_singleton.2 rfl)
      replace o1 : l1_0.length ≤ 30 := o1
      replace o2 : l1_1.length ≤ 30 := o2
      simp only [Bool.not_true, Bool.false_eq_true, if_false]
      obtain ⟨d, hd, hdl, hm⟩ := made_eq (K := K) hl ho hK
      rw [hm]
      simp only [Option.bind_some]
      rw [copy_eq (by omega) hK]
      simp only [Option.bind_some]
      rw [applyORR_eq hd l1_0 (by omega) l1_1 (by omega) hK]
      simp only [Option.bind_some]
      rw [back_eq hd hK]
      simp only [Option.bind_some]
      rw [same_self _ (by simp; omega) hK]
      simp only [Option.bind_some, Bool.not_true, Bool.false_eq_true, if_false, thn_eq]
      have he := each_l0 (K := K) (a2 := a2) (c := d) (by omega) hK K 0 (by omega) (by omega)
      have e0 : ((0 : Nat) : Int) = 0 := rfl
      rw [e0] at he
      unfold catalog_Catalog_All_1_YO omap_each__int64__api_Entry_1_YR
      simp only [thn_eq]
      rw [he]
      by_cases hc : (0 : Int) < a2 ∧ a2 ≤ d.length
      · rw [if_pos hc]
        simp only [Option.bind_some, cas, List.length_map]
        rw [if_pos hc.1]
        by_cases hlt : a2 < (d.length : Int)
        · rw [if_pos hlt]; simp
        · rw [if_neg hlt]; simp; omega
      · rw [if_neg hc]
        simp only [Option.bind_some, cas, List.length_map]
        by_cases h1 : 0 < a2
        · rw [if_pos h1, if_neg (by omega)]; simp
        · rw [if_neg h1]; simp
end Go.Proofs.Ythdggcleffadeaa.CatalogEach
