/- The plain law of BuildTakes: a catalog takes the edit that puts an entry in its sources' place, one that cools it, and one by which it is gone. -/
import Derived.Test.YthdggcleffadeaaBuildTakesLawE
import Derived.KernelRfl
set_option linter.unusedVariables false
set_option linter.unusedSimpArgs false
set_option maxRecDepth 20000
namespace Go.Proofs.Ythdggcleffadeaa.BuildTakes
open Go E

theorem same_l0 {K : Nat} (l : List En) (hl : l.length ≤ 100000) : ∀ (f i : Nat), i ≤ l.length → l.length - i < f → ossuaryref20_Same_RR_l0 K l l f i = some true
  | 0, i, h0, h1 => by omega
  | f + 1, i, h0, h1 => by
    unfold ossuaryref20_Same_RR_l0
    by_cases hi : i < l.length
    · rw [if_pos (by omega), if_pos (by omega), if_pos (by omega)]
      rw [w64_id (by omega)]
      have e1 : ((i : Int) + 1) = ((i + 1 : Nat) : Int) := by omega
      rw [e1, same_l0 l hl f (i + 1) (by omega) (by omega)]
      simp
    · rw [if_neg (by omega)]
theorem same_self {K : Nat} (l : List En) (hl : l.length ≤ 100000) (hK : 200000 ≤ K) : ossuaryref20_Same_RR K l l = some true := by
  unfold ossuaryref20_Same_RR
  rw [if_neg (by simp)]
  have := same_l0 (K := K) l hl K 0 (by omega) (by omega)
  have e0 : ((0 : Nat) : Int) = 0 := rfl
  rw [e0] at this
  exact this
theorem alive_true : ossuarylaw28_alive 200000 = some true := by kernel_rfl
theorem back_len {K : Nat} {l : List Pr} (h : Cat l) (hK : 200000 ≤ K) : ossuarylaw20_Back_O K l = some (l.map (·.v)) := by
  unfold ossuarylaw20_Back_O
  rw [over_eq h hK, if_pos (by omega)]
  simp only [Option.bind_some]
  unfold ovL
  rw [filter_all]
  intro x hx
  have h1 := loP_lt (h.rt x hx)
  have h2 := h.key x hx
  rw [mem_ovl]
  simp only [kk, hh]
  omega
theorem len_eq (l : List Pr) : catalog_Catalog_Len_O l = (l.length : Int) := rfl
theorem applyL_ok {l m : List Pr} {ps : List Api_Part} {e e' : En} (hd : dropAll l ps = some m) (he : okE e') (hp : e'.Part = e.Part) (hno : m.filter (ovl kk hh (loP e.Part) (hiP e.Part)) = []) : applyL l ps [e'] = (0, ins m e') := by
  unfold applyL
  rw [hd]
  have h1 : put1 m e' = (0, ins m e') := by
    unfold put1
    rw [if_pos he, hp, if_pos hno]
  have h2 : putAll m [e'] = (0, ins m e') := by
    unfold putAll
    rw [h1]
    simp [putAll]
  simp only [h2, if_true]
theorem law (l0 : List Api_Entry) (a1_0_0 a1_0_1 a1_1 a1_2 a1_3 : Int) (a1_4 : Bool) : ∃ K, ossuarylaw28_BuildTakes K l0 a1_0_0 a1_0_1 a1_1 a1_2 a1_3 a1_4 = some true := by
  obtain ⟨K, hKK⟩ : ∃ K : Nat, K = 200000 := ⟨_, rfl⟩
  refine ⟨K, ?_⟩
  have hK : 200000 ≤ K := by omega
  have hal : ossuarylaw28_alive K = some true := by rw [hKK]; exact alive_true
  clear hKK
  unfold ossuarylaw28_BuildTakes
  by_cases h40 : 40 < (l0.length : Int)
  · rw [if_pos h40, hal]; rfl
  · rw [if_neg h40]
    obtain ⟨c, hc, hcl, hm⟩ := made_eq (K := K) (l := l0) (by omega) hK
    rw [hm]
    simp only [Option.bind_some]
    obtain ⟨e, he⟩ : ∃ e : En, e = ⟨⟨a1_0_0, a1_0_1⟩, a1_1, a1_2, a1_3, a1_4⟩ := ⟨_, rfl⟩
    have f1 : a1_0_0 = e.Part.Tier := by rw [he]
    have f2 : a1_0_1 = e.Part.Index := by rw [he]
    have f3 : a1_1 = e.Seg := by rw [he]
    have f4 : a1_2 = e.Mark := by rw [he]
    have f5 : a1_3 = e.Rows := by rw [he]
    have f6 : a1_4 = e.Cold := by rw [he]
    subst f1; subst f2; subst f3; subst f4; subst f5; subst f6
    clear he
    rw [edit_eq hc e hK]
    simp only [Option.bind_some]
    unfold editL
    by_cases hok : okE e
    · rw [if_pos hok]
      by_cases hw : ∀ x ∈ ovL c (loP e.Part) (hiP e.Part), within x.Part e.Part
      · rw [if_pos hw]
        simp only [not_true_eq_false, if_false]
        have hps : ((ovL c (loP e.Part) (hiP e.Part)).map (·.Part)).length ≤ c.length := by rw [List.length_map]; exact ovL_len ..
        have hrl := rest_len c e
        have hrc := rest_cat hc e
        have hno := rest_no c e
        rw [applyOOO_eq hc _ (by omega) [e] (by simp; omega) hK, applyL_ok (drop_ovl hc e) hok rfl hno]
        simp only [Option.bind_some, not_true_eq_false, if_false, thn_eq]
        have hc1 := cat_ins hrc hok hno (by omega)
        have hlt := loP_lt hok.1
        rw [span_right hok.1.1 hok.1.2]
        have e1 : fromI e.Part.Tier e.Part.Index = loP e.Part := rfl
        have e2 : toI e.Part.Tier e.Part.Index = hiP e.Part := rfl
        simp only [e1, e2]
        rw [over_eq hc1 hK, if_pos hlt.2.1, ins_over hok.1 rfl hno]
        simp only [Option.bind_some]
        have hsame : ossuaryref20_Same_RR K [e] [(⟨(⟨e.Part.Tier, e.Part.Index⟩ : Api_Part), e.Seg, e.Mark, e.Rows, e.Cold⟩ : Api_Entry)] = some true := same_self [e] (by simp) hK
        rw [hsame]
        simp only [Option.bind_some, Bool.not_true, Bool.false_eq_true, if_false]
        rw [len_eq, ins_len]
        have hlen2 : ((rest c e).length + 1 : Nat) = w64 (w64 (((c.map (·.v)).length : Int) - (((ovL c (loP e.Part) (hiP e.Part)).map (·.Part)).length : Int)) + 1) := by
          rw [List.length_map, List.length_map]
          rw [w64_id (n := (c.length : Int) - _) (by omega), w64_id (by omega)]
          omega
        rw [if_neg (by rw [← hlen2]; simp)]
        -- what is there behind it: one in the entry's place
        have fin : ∀ e' : En, okE e' → e'.Part = e.Part → ((ossuarylaw20_Back_O K (ins (rest c e) e')).bind fun x60 => (thn (build_Gone e.Part.Tier e.Part.Index) fun x61 => ((catalog_Catalog_Apply_OON K (ins (rest c e) e') x61).bind fun x62 => (if x62.1 = 0 then ((catalog_Catalog_Over_O K x62.2 (loP e.Part) (hiP e.Part)).bind fun x63 => (if (x63.length : Int) = 0 then (thn (catalog_Catalog_Len_O x62.2) fun x64 => (if x64 = (w64 ((x60.length : Int) - 1)) then ((ossuarylaw28_alive K).bind fun x65 => (some (x65))) else (some (false)))) else (some (false)))) else (some (false)))))) = some true := by
          intro e' ok' hp'
          have hc2 : Cat (ins (rest c e) e') := cat_ins hrc ok' (by rw [hp']; exact hno) (by omega)
          rw [back_len hc2 hK]
          simp only [Option.bind_some, thn_eq]
          have hg : build_Gone e.Part.Tier e.Part.Index = [e.Part] := rfl
          rw [hg, applyOON_eq hc2 [e.Part] (by simp) hK]
          have hd := ins_drop (e := e) ok'.1 hp' hrc hno
          have ha : applyL (ins (rest c e) e') [e.Part] [] = (0, rest c e) := by
            unfold applyL
            rw [hd]
            simp [putAll]
          rw [ha]
          simp only [Option.bind_some, if_true]
          rw [over_eq hrc hK, if_pos hlt.2.1]
          simp only [Option.bind_some]
          have hov : ovL (rest c e) (loP e.Part) (hiP e.Part) = [] := by unfold ovL; rw [hno]; rfl
          rw [hov]
          simp only [List.length_nil]
          rw [if_pos (by omega), len_eq, List.length_map, ins_len, w64_id (by omega), if_pos (by omega), hal]
          rfl
        by_cases h3 : e.Part.Tier = 3
        · rw [if_pos h3]
          have hcool : build_Cooled e.Part.Tier e.Part.Index e.Seg e.Mark e.Rows e.Cold = some ([e.Part], [(⟨e.Part, e.Seg, e.Mark, e.Rows, true⟩ : En)]) := by
            unfold build_Cooled
            simp only [thn_eq]
            rw [if_pos (by simp)]
            rfl
          rw [hcool]
          simp only [Option.bind_some]
          obtain ⟨e', he'⟩ : ∃ e' : En, e' = ⟨e.Part, e.Seg, e.Mark, e.Rows, true⟩ := ⟨_, rfl⟩
          have hp' : e'.Part = e.Part := by rw [he']
          have ok' : okE e' := by rw [he']; exact ⟨hok.1, hok.2.1, hok.2.2.1, hok.2.2.2.1, .inl h3⟩
          rw [← he']
          have hd := ins_drop (e := e) hok.1 rfl hrc hno
          rw [applyOOO_eq hc1 [e.Part] (by simp) [e'] (by simp [ins_len]; omega) hK, applyL_ok hd ok' hp' hno]
          simp only [Option.bind_some, not_true_eq_false, if_false]
          have hc2 : Cat (ins (rest c e) e') := cat_ins hrc ok' (by rw [hp']; exact hno) (by omega)
          rw [over_eq hc2 hK, if_pos hlt.2.1, ins_over ok'.1 hp' hno]
          simp only [Option.bind_some]
          have hsame2 : ossuaryref20_Same_RR K [e'] [e'] = some true := same_self [e'] (by simp) hK
          rw [hsame2]
          simp only [Option.bind_some, Bool.not_true, Bool.false_eq_true, if_false, cas]
          exact fin e' ok' hp'
        · rw [if_neg h3]
          simp only [Option.bind_some, cas]
          exact fin e hok rfl
      · rw [if_neg hw]
        simp [hal]
        decide
    · rw [if_neg hok]
      simp [hal]
      decide
end Go.Proofs.Ythdggcleffadeaa.BuildTakes
