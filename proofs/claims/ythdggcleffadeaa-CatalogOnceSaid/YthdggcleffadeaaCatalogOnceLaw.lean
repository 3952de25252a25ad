/- The plain law of CatalogOnce: each hour is in one entry at most, and an edit with a fault changes nothing. -/
import Derived.Test.YthdggcleffadeaaCatalogOnceLawD
import Derived.KernelRfl
set_option linter.unusedVariables false
set_option linter.unusedSimpArgs false
set_option maxRecDepth 20000
namespace Go.Proofs.Ythdggcleffadeaa.CatalogOnce
open Go E

theorem alive_true : ossuarylaw20_alive 200000 = some true := by kernel_rfl
def okA (x : Ossuarylaw20_Act) : Prop := x.Drop.xs.length ≤ 30 ∧ x.Put.xs.length ≤ 30
theorem getA {l : List Ossuarylaw20_Act} {i : Nat} (hi : i < l.length) : l.getD i z_Ossuarylaw20_Act = l[i] := by simp [List.getD_eq_getElem?_getD, List.getElem?_eq_getElem hi]
theorem light_l0 {K : Nat} {l : List Ossuarylaw20_Act} (hl : l.length ≤ 40) : ∀ (f i : Nat), i ≤ l.length → l.length - i < f →
    ∃ b, ossuarylaw20_light_R_l0 K l f i = some b ∧ (b = true → ∀ x ∈ l.drop i, okA x)
  | 0, i, h1, h2 => by omega
  | f + 1, i, h1, h2 => by
    unfold ossuarylaw20_light_R_l0
    by_cases hi : i < l.length
    · rw [if_pos (by omega), if_pos (by omega)]
      simp only [Int.toNat_natCast, getA hi]
      rw [List.drop_eq_getElem_cons hi]
      by_cases ha : 30 < (l[i].Drop.xs.length : Int)
      · rw [if_pos ha]; exact ⟨_, rfl, by simp⟩
      · rw [if_neg ha]
        by_cases hb : 30 < (l[i].Put.xs.length : Int)
        · rw [if_pos hb]; exact ⟨_, rfl, by simp⟩
        · rw [if_neg hb, w64_id (by omega)]
          have e1 : ((i : Int) + 1) = ((i + 1 : Nat) : Int) := by omega
          rw [e1]
          obtain ⟨b, h3, h4⟩ := light_l0 (K := K) hl f (i + 1) (by omega) (by omega)
          refine ⟨b, h3, fun hb2 x hx => ?_⟩
          rcases List.mem_cons.1 hx with rfl | hx
          · exact ⟨by omega, by omega⟩
          · exact h4 hb2 x hx
    · rw [if_neg (by omega), List.drop_eq_nil_of_le (by omega)]
      exact ⟨_, rfl, by simp⟩
theorem light_eq {K : Nat} (l : List Ossuarylaw20_Act) (hK : 200000 ≤ K) : ∃ b, ossuarylaw20_light_R K l = some b ∧ (b = true → l.length ≤ 40 ∧ ∀ x ∈ l, okA x) := by
  unfold ossuarylaw20_light_R
  by_cases h : 40 < (l.length : Int)
  · rw [if_pos h]; exact ⟨_, rfl, by simp⟩
  · rw [if_neg h]
    obtain ⟨b, h3, h4⟩ := light_l0 (K := K) (l := l) (by omega) K 0 (by omega) (by omega)
    exact ⟨b, h3, fun hb => ⟨by omega, by simpa using h4 hb⟩⟩
theorem same_l0 {K : Nat} (l : List En) (hl : l.length ≤ 100000) : ∀ (f i : Nat), i ≤ l.length → l.length - i < f → ossuaryref20_Same_RR_l0 K l l f i = some true
  | 0, i, h0, h1 => by omega
  | f + 1, i, h0, h1 => by
    unfold ossuaryref20_Same_RR_l0
    by_cases hi : i < l.length
    · rw [if_pos (by omega), if_pos (by omega), if_pos (by omega)]
      rw [w64_id (by omega)]
      have e1 : ((i : Int) + 1) = ((i + 1 : Nat) : Int) := by omega
      rw [e1, same_l0 l hl f (i + 1) (by omega) (by omega)]
      simp
    · rw [if_neg (by omega)]
theorem same_self {K : Nat} (l : List En) (hl : l.length ≤ 100000) (hK : 200000 ≤ K) : ossuaryref20_Same_RR K l l = some true := by
  unfold ossuaryref20_Same_RR
  rw [if_neg (by simp)]
  have := same_l0 (K := K) l hl K 0 (by omega) (by omega)
  have e0 : ((0 : Nat) : Int) = 0 := rfl
  rw [e0] at this
  exact this
theorem back_eq {K : Nat} {c : List Pr} (h : Cat c) (hK : 200000 ≤ K) : ossuarylaw20_Back_O K c = some (c.map (·.v)) := by
  unfold ossuarylaw20_Back_O
  rw [over_eq h hK, if_pos (by omega)]
  unfold ovL
  rw [filter_all (fun x hx => by
    have h1 := loP_lt (h.rt x hx)
    have h2 := h.key x hx
    simp only [ovl, decide_eq_true_eq, kk, hh, h2]
    omega)]
  rfl
theorem apply_fault {l : List Pr} {ps : List Api_Part} {es : List En} (h : (applyL l ps es).1 ≠ 0) : (applyL l ps es).2 = l := by
  unfold applyL at *
  split
  · rfl
  · rename_i m hm
    rw [hm] at h
    by_cases h0 : (putAll m es).1 = 0
    · exact absurd (by simp only [h0, if_true]) h
    · simp only [h0, if_false]
theorem apply_cat {l : List Pr} (h : Cat l) (ps : List Api_Part) {es : List En} (hes : l.length + es.length ≤ 10000) : Cat (applyL l ps es).2 ∧ (applyL l ps es).2.length ≤ l.length + es.length := by
  unfold applyL
  cases hm : dropAll l ps with
  | none => exact ⟨h, by simp⟩
  | some m =>
    obtain ⟨c1, c2⟩ := dropAll_cat h hm
    obtain ⟨c3, c4⟩ := putAll_cat (es := es) c1 (by omega)
    simp only
    split
    · exact ⟨c3, by simp only; omega⟩
    · exact ⟨h, by simp⟩
theorem edits_l0 {K : Nat} {l : List Ossuarylaw20_Act} (hl : l.length ≤ 40) (ho : ∀ x ∈ l, okA x) (hK : 200000 ≤ K) : ∀ (f i : Nat) (c : List Pr), Cat c → c.length ≤ 30 * i → i ≤ l.length → l.length - i < f →
    ∃ d, Cat d ∧ d.length ≤ 1200 ∧ ossuarylaw20_CatalogOnce_l0 K l f i c = some (Sum.inl d)
  | 0, i, c, h, h1, h2, h3 => by omega
  | f + 1, i, c, h, h1, h2, h3 => by
    unfold ossuarylaw20_CatalogOnce_l0
    by_cases hi : i < l.length
    · rw [if_pos (by omega), back_eq h hK]
      simp only [Option.bind_some]
      rw [if_pos (by omega)]
      simp only [Int.toNat_natCast, getA hi]
      obtain ⟨o1, o2⟩ := ho _ (List.getElem_mem hi)
      generalize l[i] = x at o1 o2 ⊢
      rw [applyORR_eq h x.Drop.xs (by omega) x.Put.xs (by omega) hK]
      simp only [Option.bind_some]
      obtain ⟨c1, c2⟩ := apply_cat h x.Drop.xs (es := x.Put.xs) (by omega)
      rw [w64_id (by omega)]
      have e1 : ((i : Int) + 1) = ((i + 1 : Nat) : Int) := by omega
      rw [e1]
      by_cases h0 : (applyL c x.Drop.xs x.Put.xs).1 = 0
      · rw [if_neg (by simp [h0])]
        exact edits_l0 hl ho hK f (i + 1) _ c1 (by omega) (by omega) (by omega)
      · rw [if_pos h0, apply_fault h0, back_eq h hK]
        simp only [Option.bind_some]
        rw [same_self _ (by simp; omega) hK]
        simp only [Option.bind_some, Bool.not_true, Bool.false_eq_true, if_false]
        exact edits_l0 hl ho hK f (i + 1) _ h (by omega) (by omega) (by omega)
    · rw [if_neg (by omega)]
      exact ⟨c, h, by omega, rfl⟩
theorem over1 {K : Nat} {x : En} (hx : rtP x.Part) {n : Int} (h0 : 0 ≤ n) (h1 : n ≤ 1099511627776) (hK : 200000 ≤ K) : ossuaryref20_Over_R K [x] n (n + 1) = some (if loP x.Part ≤ n ∧ n < hiP x.Part then [x] else []) := by
  obtain ⟨k, hk⟩ : ∃ k, K = k + 2 := ⟨K - 2, by omega⟩
  unfold ossuaryref20_Over_R
  have e : ([x].getD (0 : Int).toNat z_Api_Entry) = x := rfl
  have e3 : (⟨(⟨x.Part.Tier, x.Part.Index⟩ : Api_Part), x.Seg, x.Mark, x.Rows, x.Cold⟩ : Api_Entry) = x := rfl
  have step : ∀ z, ossuaryref20_Over_R_l0 K [x] n (n + 1) (k + 1) (w64 (0 + 1)) z = some z := by
    intro z
    unfold ossuaryref20_Over_R_l0
    rw [w64_id (by omega), if_neg (by simp)]
  have one : ossuaryref20_Over_R_l0 K [x] n (n + 1) (k + 2) 0 [] = some (if loP x.Part ≤ n ∧ n < hiP x.Part then [x] else []) := by
    unfold ossuaryref20_Over_R_l0
    rw [if_pos (by simp), if_pos (by omega), e, refSpan_right hK (show rtP ⟨x.Part.Tier, x.Part.Index⟩ from hx)]
    simp only [Option.bind_some]
    rw [e3, step, step]
    have e4 : loP ⟨x.Part.Tier, x.Part.Index⟩ = loP x.Part := rfl
    have e5 : hiP ⟨x.Part.Tier, x.Part.Index⟩ = hiP x.Part := rfl
    rw [e4, e5]
    by_cases hc : loP x.Part ≤ n ∧ n < hiP x.Part
    · rw [if_pos hc, if_pos (by unfold mx mn; split <;> split <;> omega), if_pos (by simp)]; rfl
    · rw [if_neg hc, if_neg (by unfold mx mn; split <;> split <;> omega)]
  rw [← hk] at one
  exact one
theorem con_le {l : List Pr} (h : Srt kk hh l) (n : Int) : l.countP (con kk hh n) ≤ 1 := by
  induction l with
  | nil => simp
  | cons x l ih =>
    have h1 := ih h.tail
    have h2 := h.head
    rw [List.countP_cons]
    by_cases hc : con kk hh n x = true
    · have : l.countP (con kk hh n) = 0 := by
        rw [List.countP_eq_zero]
        intro y hy
        have h3 := (h2.2 y hy).1
        simp only [con, decide_eq_true_eq] at hc ⊢
        omega
      rw [this]; simp [hc]
    · simp [hc]; exact h1
theorem count_l2 {K : Nat} {c : List Pr} (h : Cat c) {hs : List Int} {j : Int} (h0 : 0 ≤ hs.getD j.toNat 0) (h1 : hs.getD j.toNat 0 ≤ 1099511627776) (hK : 200000 ≤ K) : ∀ (f i : Nat) (z : Int), 0 ≤ z → z ≤ i → i ≤ c.length → c.length - i < f →
    ossuarylaw20_CatalogOnce_l2 K hs (c.map (·.v)) j f z i = some (z + ((c.drop i).countP (con kk hh (hs.getD j.toNat 0)) : Nat))
  | 0, i, z, z0, z1, h2, h3 => by omega
  | f + 1, i, z, z0, z1, h2, h3 => by
    have hlen := h.len
    unfold ossuarylaw20_CatalogOnce_l2
    by_cases hi : i < c.length
    · rw [if_pos (by simp; omega), if_pos (by omega)]
      simp only [Int.toNat_natCast]
      have e2 : (c.map (·.v)).getD i z_Api_Entry = (c.getD i zP).v := by simp [List.getD_eq_getElem?_getD, List.getElem?_eq_getElem hi]
      have e3 : c[i] = c.getD i zP := by simp [List.getD_eq_getElem?_getD, List.getElem?_eq_getElem hi]
      rw [e2, List.drop_eq_getElem_cons hi, List.countP_cons, e3]
      have hm := getD_mem hi
      have hk := h.key _ hm
      have hr := h.rt _ hm
      generalize c.getD i zP = x at hk hr ⊢
      rw [w64_id (n := hs.getD j.toNat 0 + 1) (by omega)]
      have e4 : (⟨(⟨x.v.Part.Tier, x.v.Part.Index⟩ : Api_Part), x.v.Seg, x.v.Mark, x.v.Rows, x.v.Cold⟩ : Api_Entry) = x.v := rfl
      rw [e4, over1 hr h0 h1 hK]
      simp only [Option.bind_some]
      rw [w64_id (n := (i : Int) + 1) (by omega), w64_id (n := z + 1) (by omega)]
      have e1 : ((i : Int) + 1) = ((i + 1 : Nat) : Int) := by omega
      rw [e1]
      by_cases hc : loP x.v.Part ≤ hs.getD j.toNat 0 ∧ hs.getD j.toNat 0 < hiP x.v.Part
      · have hcc : con kk hh (hs.getD j.toNat 0) x = true := by
          simp only [con, decide_eq_true_eq, kk, hh, hk]; exact hc
        rw [if_pos hc, if_pos (by simp), hcc, count_l2 h h0 h1 hK f (i + 1) (z + 1) (by omega) (by omega) (by omega) (by omega)]
        simp only [if_true]
        congr 1; omega
      · have hcc : con kk hh (hs.getD j.toNat 0) x = false := by
          simp only [con, decide_eq_false_iff_not, kk, hh, hk]; exact hc
        rw [if_neg hc, if_neg (by simp), hcc, count_l2 h h0 h1 hK f (i + 1) z (by omega) (by omega) (by omega) (by omega)]
        simp
    · rw [if_neg (by simp; omega), List.drop_eq_nil_of_le (by omega)]
      simp
theorem tup_is (o : Option En) : (tupE o).2.2.2.2.2.2 = o.isSome := by cases o <;> rfl
theorem find_is {l : List Pr} (p : Pr → Bool) : (l.find? p).isSome = decide (1 ≤ l.countP p) := by
  induction l with
  | nil => simp
  | cons x l ih =>
    rw [List.countP_cons, List.find?_cons]
    by_cases h : p x = true
    · simp [h]
    · have h' : p x = false := by simpa using h
      rw [h', ih]; simp
theorem hours_l1 {K : Nat} {c : List Pr} (h : Cat c) {hs : List Int} (hh0 : hs.length ≤ 60) (hK : 200000 ≤ K) (hal : ossuarylaw20_alive K = some true) : ∀ (f i : Nat), i ≤ hs.length → hs.length - i < f →
    ossuarylaw20_CatalogOnce_l1 K hs c (c.map (·.v)) f i = some true
  | 0, i, h2, h3 => by omega
  | f + 1, i, h2, h3 => by
    unfold ossuarylaw20_CatalogOnce_l1
    by_cases hi : i < hs.length
    · rw [if_pos (by omega), if_pos (by omega)]
      by_cases c1 : hs.getD (i : Int).toNat 0 < 0
      · rw [if_pos c1, hal]; rfl
      · rw [if_neg c1]
        by_cases c2 : 1099511627776 < hs.getD (i : Int).toNat 0
        · rw [if_pos c2, hal]; rfl
        · rw [if_neg c2]
          have hc := count_l2 (K := K) h (hs := hs) (j := (i : Int)) (by omega) (by omega) hK K 0 0 (by omega) (by omega) (by omega) (by have := h.len; omega)
          have e0 : ((0 : Nat) : Int) = 0 := rfl
          rw [e0] at hc
          rw [hc]
          simp only [Option.bind_some]
          rw [at_eq h _ hK]
          simp only [Option.bind_some]
          rw [tup_is, List.drop_zero]
          have hle := con_le h.srt (hs.getD (i : Int).toNat 0)
          rw [if_neg (by omega)]
          have hat : (atL c (hs.getD (i : Int).toNat 0)).isSome = decide (1 ≤ c.countP (con kk hh (hs.getD (i : Int).toNat 0))) := by
            unfold atL
            rw [Option.isSome_map, find_is]
          rw [hat]
          have hb : (decide (1 ≤ c.countP (con kk hh (hs.getD (i : Int).toNat 0))) != ((0 + (c.countP (con kk hh (hs.getD (i : Int).toNat 0)) : Nat) : Int) == 1)) = false := by
            generalize c.countP (con kk hh (hs.getD (i : Int).toNat 0)) = n at hle
            have : n = 0 ∨ n = 1 := by omega
            rcases this with rfl | rfl <;> rfl
          rw [hb]
          simp only [Bool.false_eq_true, if_false, Option.bind_some, cas]
          rw [w64_id (by omega)]
          have e1 : ((i : Int) + 1) = ((i + 1 : Nat) : Int) := by omega
          rw [e1]
          exact hours_l1 h hh0 hK hal f (i + 1) (by omega) (by omega)
    · rw [if_neg (by omega), hal]; rfl
theorem law (l0 : List Ossuarylaw20_Act) (l1 : List Int) : ∃ K, ossuarylaw20_CatalogOnce K l0 l1 = some true := by
  obtain ⟨K, hKK⟩ : ∃ K : Nat, K = 200000 := ⟨_, rfl⟩
  refine ⟨K, ?_⟩
  have hK : 200000 ≤ K := by omega
  have hal : ossuarylaw20_alive K = some true := by rw [hKK]; exact alive_true
  clear hKK
  unfold ossuarylaw20_CatalogOnce
  obtain ⟨b, hb1, hb2⟩ := light_eq (K := K) l0 hK
  rw [hb1]
  simp only [Option.bind_some, hal]
  cases b with
  | false => rfl
  | true =>
    obtain ⟨hl, ho⟩ := hb2 rfl
    simp only [Bool.not_true, Bool.false_eq_true, if_false]
    by_cases h60 : 60 < (l1.length : Int)
    · rw [if_pos h60]
    · rw [if_neg h60]
      obtain ⟨d, hd, hdl, hm⟩ := edits_l0 (K := K) hl ho hK K 0 [] Cat.nil (by simp) (by omega) (by omega)
      have e0 : ((0 : Nat) : Int) = 0 := rfl
      rw [e0] at hm
      simp only [thn_eq]
      rw [hm]
      simp only [Option.bind_some, cas]
      rw [back_eq hd hK]
      simp only [Option.bind_some]
      have := hours_l1 (K := K) hd (hs := l1) (by omega) hK hal K 0 (by omega) (by omega)
      rw [e0] at this
      exact this
end Go.Proofs.Ythdggcleffadeaa.CatalogOnce
