/- The plain law of CatalogEach, second part: what a catalog's functions come to. No machine in it. -/
import Derived.Test.YthdggcleffadeaaECat
import Derived.Test.YthdggcleffadeaaCatalogEachLawA
set_option linter.unusedVariables false
set_option linter.unusedSimpArgs false
set_option maxRecDepth 20000
namespace Go.Proofs.Ythdggcleffadeaa.CatalogEach
open Go E

abbrev Pr := Omap_pair__int64__api_Entry
abbrev En := Api_Entry
abbrev zP : Pr := z_Omap_pair__int64__api_Entry
def rtP (p : Api_Part) : Prop := 0 ≤ p.Index ∧ p.Index ≤ mostI p.Tier
def loP (p : Api_Part) : Int := fromI p.Tier p.Index
def hiP (p : Api_Part) : Int := toI p.Tier p.Index
def kk (x : Pr) : Int := x.k
def hh (x : Pr) : Int := hiP x.v.Part
structure Cat (l : List Pr) : Prop where
  srt : Srt kk hh l
  rt : ∀ x ∈ l, rtP x.v.Part
  key : ∀ x ∈ l, x.k = loP x.v.Part
  len : l.length ≤ 100000
theorem loP_lt {p : Api_Part} (h : rtP p) : 0 ≤ loP p ∧ loP p < hiP p ∧ hiP p ≤ 48000000 := span_lt h.1 h.2
theorem Cat.sub {l m : List Pr} (h : Cat l) (s : m.Sublist l) : Cat m := ⟨h.srt.sub s, fun x hx => h.rt x (s.subset hx), fun x hx => h.key x (s.subset hx), Nat.le_trans s.length_le h.len⟩
theorem Cat.nil : Cat [] := ⟨Srt.nil, by simp, by simp, by simp⟩
theorem getD_mem {l : List Pr} {j : Nat} (hj : j < l.length) : l.getD j zP ∈ l := by
  have e : l.getD j zP = l[j] := by simp [List.getD_eq_getElem?_getD, List.getElem?_eq_getElem hj]
  rw [e]; exact List.getElem_mem hj
theorem getD_lt {l : List Pr} (h : Cat l) {i j : Nat} (hij : i < j) (hj : j < l.length) : (l.getD i zP).k < (l.getD j zP).k := by
  have e : l.getD j zP = l[j] := by simp [List.getD_eq_getElem?_getD, List.getElem?_eq_getElem hj]
  have e2 : l.getD i zP = l[i] := by simp [List.getD_eq_getElem?_getD, List.getElem?_eq_getElem (show i < l.length by omega)]
  rw [e, e2]
  have h1 := List.pairwise_iff_getElem.1 h.srt.2 i j (by omega) hj hij
  have h2 := h.srt.1 l[i] (List.getElem_mem (by omega))
  simp only [kk] at h1 h2
  omega
theorem mid_eq {a b : Int} (h0 : 0 ≤ a) (h1 : a ≤ b) (h2 : b ≤ 1000000000) : w64 (bShr .u64 (wu64 (w64 (a + b))) 1) = (a + b) / 2 := by
  rw [w64_id (n := a + b) (by omega), wu64_id (by omega)]
  have e : bShr .u64 (a + b) 1 = (a + b) / 2 := by
    unfold bShr
    have e2 : (2 : Int) ^ min (1 : Int).toNat IntKind.u64.bits = 2 := by decide
    rw [e2, Int.fdiv_eq_ediv_of_nonneg _ (by decide)]
  rw [e, w64_id (by omega)]
theorem search_l0 {K : Nat} {l : List Pr} (h : Cat l) (k : Int) : ∀ (f : Nat) (a b : Int), 0 ≤ a → a ≤ b → b ≤ l.length → a ≤ cnt kk l k → (cnt kk l k : Int) ≤ b → b - a < f → sort_Search_O_l0 K l k f a b = some (cnt kk l k : Int)
  | 0, a, b, h0, h1, h2, h3, h4, h5 => by omega
  | f + 1, a, b, h0, h1, h2, h3, h4, h5 => by
    have hlen := h.len
    unfold sort_Search_O_l0
    by_cases hab : a < b
    · rw [if_pos hab, mid_eq h0 h1 (by omega)]
      have m0 : 0 ≤ (a + b) / 2 := by omega
      have m1 : (a + b) / 2 < l.length := by omega
      unfold omap_Map__int64__api_Entry_place_1_O
      rw [if_pos m0, if_pos m1]
      have hc := cnt_lt h.srt (k := k) (z := zP) (show ((a + b) / 2).toNat < l.length by omega)
      simp only [kk] at hc
      by_cases hk : k ≤ (l.getD ((a + b) / 2).toNat zP).k
      · have : ¬ ((a + b) / 2).toNat < cnt kk l k := fun hx => by have := hc.2 hx; omega
        simp only [Option.bind_some, hk, decide_true, Bool.not_true, Bool.false_eq_true, if_false]
        exact search_l0 h k f a ((a + b) / 2) h0 (by omega) (by omega) h3 (by omega) (by omega)
      · have : ((a + b) / 2).toNat < cnt kk l k := hc.1 (by omega)
        simp only [Option.bind_some, hk, decide_false, Bool.not_false, if_true]
        rw [w64_id (by omega)]
        exact search_l0 h k f ((a + b) / 2 + 1) b (by omega) (by omega) h2 (by omega) h4 (by omega)
    · rw [if_neg hab]; congr 1; omega
theorem place_eq {K : Nat} {l : List Pr} (h : Cat l) (k : Int) (hK : 200000 ≤ K) : omap_Map__int64__api_Entry_place_O K l k = some (decide (cnt kk l k < l.length ∧ (l.getD (cnt kk l k) zP).k = k), (cnt kk l k : Int)) := by
  have hlen := h.len
  have hc := cnt_le (key := kk) l k
  unfold omap_Map__int64__api_Entry_place_O sort_Search_O
  rw [search_l0 h k K 0 l.length (by omega) (by omega) (by omega) (by omega) (by omega) (by omega)]
  simp only [Option.bind_some]
  by_cases h1 : (cnt kk l k : Int) < l.length
  · rw [if_pos h1, if_pos (by omega)]
    have h2 : cnt kk l k < l.length := by omega
    simp only [h2, true_and, Int.toNat_natCast]
    congr 2
  · rw [if_neg h1]
    have h2 : ¬ cnt kk l k < l.length := by omega
    simp [h2]
def tupE : Option En → Int × Int × Int × Int × Int × Bool × Bool
  | none => (0, 0, 0, 0, 0, false, false)
  | some e => (e.Part.Tier, e.Part.Index, e.Seg, e.Mark, e.Rows, e.Cold, true)
def atL (l : List Pr) (n : Int) : Option En := (l.find? (con kk hh n)).map (·.v)
theorem at_eq {K : Nat} {l : List Pr} (h : Cat l) (n : Int) (hK : 200000 ≤ K) : catalog_Catalog_At_O K l n = some (tupE (atL l n)) := by
  have hlen := h.len
  have hc := cnt_le (key := kk) l n
  have fin : ∀ j : Nat, j < l.length → (l.getD j zP).k ≤ n → (∀ i, j < i → i < l.length → n < (l.getD i zP).k) →
      ((if (0 : Int) ≤ j then if (j : Int) < l.length then some ((l.getD (j : Int).toNat zP).k, (l.getD (j : Int).toNat zP).v.Part.Tier, (l.getD (j : Int).toNat zP).v.Part.Index, (l.getD (j : Int).toNat zP).v.Seg, (l.getD (j : Int).toNat zP).v.Mark, (l.getD (j : Int).toNat zP).v.Rows, (l.getD (j : Int).toNat zP).v.Cold, true) else none else none).bind fun x4 => if (!x4.2.2.2.2.2.2.2) = true then some (0, 0, 0, 0, 0, false, false) else thn (part_Has x4.2.1 x4.2.2.1 n) fun x6 => if (!x6) = true then some (0, 0, 0, 0, 0, false, false) else some (x4.2.1, x4.2.2.1, x4.2.2.2.1, x4.2.2.2.2.1, x4.2.2.2.2.2.1, x4.2.2.2.2.2.2.1, true)) = some (tupE (atL l n)) := by
    intro j hj h1 h2
    rw [if_pos (by omega), if_pos (by omega)]
    have hm := getD_mem hj
    have hr := h.rt _ hm
    have hk := h.key _ hm
    simp only [Option.bind_some, Int.toNat_natCast, Bool.not_true, Bool.false_eq_true, if_false, thn_eq]
    rw [has_eq hr.1 hr.2]
    unfold atL
    rw [find_floor h.srt (z := zP) hj h1 h2]
    have e1 : fromI (l.getD j zP).v.Part.Tier (l.getD j zP).v.Part.Index = (l.getD j zP).k := hk.symm
    have e2 : toI (l.getD j zP).v.Part.Tier (l.getD j zP).v.Part.Index = hh (l.getD j zP) := rfl
    rw [e1, e2]
    generalize l.getD j zP = x at *
    by_cases hn : n < hh x
    · have e3 : decide (x.k ≤ n ∧ n < hh x) = true := by simp [h1, hn]
      rw [e3, if_pos hn]
      rfl
    · have e3 : decide (x.k ≤ n ∧ n < hh x) = false := by simp [hn]
      rw [e3, if_neg hn]
      rfl
  unfold catalog_Catalog_At_O omap_Map__int64__api_Entry_Floor_O
  rw [place_eq h n hK]
  simp only [Option.bind_some, thn_eq]
  by_cases his : cnt kk l n < l.length ∧ (l.getD (cnt kk l n) zP).k = n
  · have e : decide (cnt kk l n < l.length ∧ (l.getD (cnt kk l n) zP).k = n) = true := by simp only [his.1, his.2, true_and, decide_true]
    simp only [e, Bool.not_true, Bool.false_eq_true, if_false]
    rw [if_neg (by omega)]
    exact fin (cnt kk l n) his.1 (by omega) fun i h1 h2 => by have := getD_lt h h1 h2; omega
  · have e : decide (cnt kk l n < l.length ∧ (l.getD (cnt kk l n) zP).k = n) = false := by simpa using his
    simp only [e, Bool.not_false, if_true]
    rw [w64_id (by omega)]
    by_cases h0 : cnt kk l n = 0
    · rw [if_pos (by omega)]
      simp only [Option.bind_some, Bool.not_false, if_true]
      have : atL l n = none := by
        unfold atL
        rw [find_none]
        · rfl
        · intro x hx
          obtain ⟨_, a2⟩ := cnt_split h.srt n
          rw [h0] at a2
          have h1 := a2 x (by simpa using hx)
          have h2 : kk x ≠ n := by
            intro hxn
            obtain ⟨i, hi1, hi2⟩ := List.getElem_of_mem hx
            have e3 : l.getD i zP = x := by simp [List.getD_eq_getElem?_getD, List.getElem?_eq_getElem hi1, hi2]
            have e4 : ¬ 0 < i := fun hi0 => by
              have h5 := getD_lt h hi0 hi1
              have h6 := a2 (l.getD 0 zP) (by simpa using getD_mem (show 0 < l.length by omega))
              rw [e3] at h5
              simp only [kk] at hxn h6
              omega
            have e5 : i = 0 := by omega
            subst e5
            apply his
            rw [h0]
            exact ⟨by omega, by rw [e3]; exact hxn⟩
          simp [con]; omega
      rw [this]; rfl
    · rw [if_neg (by omega)]
      have e1 : (cnt kk l n : Int) - 1 = ((cnt kk l n - 1 : Nat) : Int) := by omega
      rw [e1]
      have hlt := (cnt_lt h.srt (k := n) (z := zP) (show cnt kk l n - 1 < l.length by omega)).2 (by omega)
      refine fin (cnt kk l n - 1) (by omega) (by simp only [kk] at hlt; omega) fun i h1 h2 => ?_
      have h3 : ¬ i < cnt kk l n := by omega
      have h4 : ¬ kk (l.getD i zP) < n := fun hx => h3 ((cnt_lt h.srt (z := zP) h2).1 hx)
      simp only [kk] at h4
      by_cases h5 : i = cnt kk l n
      · subst h5
        have : (l.getD (cnt kk l n) zP).k ≠ n := fun hx => his ⟨h2, hx⟩
        omega
      · have h6 := getD_lt h (show cnt kk l n < i by omega) h2
        have h7 : ¬ kk (l.getD (cnt kk l n) zP) < n := fun hx => by
          have := (cnt_lt h.srt (z := zP) (show cnt kk l n < l.length by omega)).1 hx
          omega
        simp only [kk] at h7
        omega
theorem range_O {K : Nat} {l : List Pr} (h : Cat l) {a b : Int} (hab : a < b) (hK : 200000 ≤ K) : omap_Map__int64__api_Entry_Range_O K l a b = some (l.filter fun x => decide (a ≤ kk x ∧ kk x < b)) := by
  have hc := cnt_le (key := kk) l b
  have hm : cnt kk l a ≤ cnt kk l b := cnt_mono (by omega)
  unfold omap_Map__int64__api_Entry_Range_O
  rw [place_eq h a hK, place_eq h b hK]
  simp only [Option.bind_some, thn_eq]
  have hr := range_eq h.srt (show a ≤ b by omega)
  by_cases h1 : (cnt kk l b : Int) ≤ cnt kk l a
  · rw [if_pos h1]
    have : cnt kk l b - cnt kk l a = 0 := by omega
    rw [this] at hr
    simp at hr
    rw [← filter_none (l := l) (p := fun x => decide (a ≤ kk x ∧ kk x < b)) (fun x hx => by simpa using hr x hx)]
  · rw [if_neg h1, if_pos (by omega), if_pos (by omega), if_pos (by omega)]
    simp only [Int.toNat_natCast]
    rw [hr]
theorem each_loop {K : Nat} {γ : Type} {y : Int → Api_Entry → γ → Option (γ × Bool)} {l : List Pr} (inv : Nat → γ → Prop) (f : γ → Pr → γ) (hl : l.length ≤ 1000000)
    (hy : ∀ i, i < l.length → ∀ z, inv i z → y (l.getD i zP).k (l.getD i zP).v z = some (f z (l.getD i zP), true) ∧ inv (i + 1) (f z (l.getD i zP))) :
    ∀ (n i : Nat) (z : γ), l.length - i < n → i ≤ l.length → inv i z → omap_each__int64__api_Entry_1_YR_l0 K γ y l n i z = some ((l.drop i).foldl f z)
  | 0, i, z, h1, h2, h3 => by omega
  | n + 1, i, z, h1, h2, h3 => by
    unfold omap_each__int64__api_Entry_1_YR_l0
    by_cases hi : i < l.length
    · rw [if_pos (by omega), if_pos (by omega)]
      simp only [Int.toNat_natCast]
      obtain ⟨h4, h5⟩ := hy i hi z h3
      have h4' : y (l.getD i zP).k (⟨(⟨(l.getD i zP).v.Part.Tier, (l.getD i zP).v.Part.Index⟩ : Api_Part), (l.getD i zP).v.Seg, (l.getD i zP).v.Mark, (l.getD i zP).v.Rows, (l.getD i zP).v.Cold⟩ : Api_Entry) z = some (f z (l.getD i zP), true) := h4
      rw [h4']
      simp only [Option.bind_some, Bool.not_true, Bool.false_eq_true, if_false]
      rw [w64_id (by omega)]
      have e : ((i : Int) + 1) = ((i + 1 : Nat) : Int) := by omega
      rw [e, each_loop inv f hl hy n (i + 1) _ (by omega) (by omega) h5]
      have e2 : l.getD i zP = l[i] := by simp [List.getD_eq_getElem?_getD, List.getElem?_eq_getElem hi]
      rw [List.drop_eq_getElem_cons hi, List.foldl_cons, e2]
    · rw [if_neg (by omega), List.drop_eq_nil_of_le (by omega)]; rfl
def ovL (l : List Pr) (a b : Int) : List En := (l.filter (ovl kk hh a b)).map (·.v)
theorem over_eq {K : Nat} {l : List Pr} (h : Cat l) {a b : Int} (hK : 200000 ≤ K) : catalog_Catalog_Over_O K l a b = some (if a < b then ovL l a b else []) := by
  have hlen := h.len
  unfold catalog_Catalog_Over_O
  by_cases hab : a < b
  · rw [if_neg (by omega), if_pos hab, at_eq h a hK]
    simp only [Option.bind_some]
    have e0 : (if (tupE (atL l a)).2.2.2.2.2.2 = true then (if (([] : List Api_Entry).length + [(⟨(⟨(tupE (atL l a)).1, (tupE (atL l a)).2.1⟩ : Api_Part), (tupE (atL l a)).2.2.1, (tupE (atL l a)).2.2.2.1, (tupE (atL l a)).2.2.2.2.1, (tupE (atL l a)).2.2.2.2.2.1⟩ : Api_Entry)].length) * 48 ≤ 140737488355328 then (some ((([] : List Api_Entry) ++ [(⟨(⟨(tupE (atL l a)).1, (tupE (atL l a)).2.1⟩ : Api_Part), (tupE (atL l a)).2.2.1, (tupE (atL l a)).2.2.2.1, (tupE (atL l a)).2.2.2.2.1, (tupE (atL l a)).2.2.2.2.2.1⟩ : Api_Entry)]))) else none) else (some (([] : List Api_Entry)))) = some (atL l a).toList := by
      cases atL l a with
      | none => simp [tupE]
      | some e => simp [tupE]
    rw [e0]
    simp only [Option.bind_some]
    rw [range_O h hab hK]
    simp only [Option.bind_some]
    have hfl : (l.filter fun x => decide (a ≤ kk x ∧ kk x < b)).length ≤ l.length := List.length_filter_le ..
    have hal : (atL l a).toList.length ≤ 1 := by cases atL l a <;> simp
    unfold omap_each__int64__api_Entry_1_YR
    have hloop := each_loop (K := K) (y := catalog_Catalog_Over_O_r0 K a) (l := l.filter fun x => decide (a ≤ kk x ∧ kk x < b)) (fun i z => z.length ≤ i + 1) (fun z x => if x.k = a then z else z ++ [x.v]) (by omega)
      (fun i hi z hz => by
        unfold catalog_Catalog_Over_O_r0
        by_cases hk : ((l.filter fun x => decide (a ≤ kk x ∧ kk x < b)).getD i zP).k = a
        · rw [if_pos hk, if_pos hk]; exact ⟨rfl, by omega⟩
        · rw [if_neg hk, if_neg hk, if_pos (by simp; omega)]
          exact ⟨rfl, by simp; omega⟩) K 0 (atL l a).toList (by omega) (by omega) (by omega)
    have e1 : ((0 : Nat) : Int) = 0 := rfl
    rw [e1] at hloop
    rw [hloop]
    simp only [Option.bind_some, List.drop_zero]
    congr 1
    have hf : ∀ (m : List Pr) (z : List En), m.foldl (fun z x => if x.k = a then z else z ++ [x.v]) z = z ++ (m.filter fun x => !decide (x.k = a)).map (·.v) := by
      intro m
      induction m with
      | nil => simp
      | cons x m ih =>
        intro z
        rw [List.foldl_cons, ih]
        by_cases hx : x.k = a <;> simp [hx]
    rw [hf, List.filter_filter]
    unfold ovL atL
    rw [over_split h.srt hab, List.map_append]
    congr 1
    · cases l.find? (con kk hh a) <;> rfl
    · congr 1
      apply List.filter_congr
      intro x hx
      show (!decide (x.k = a) && decide (a ≤ x.k ∧ x.k < b)) = decide (a < x.k ∧ x.k < b)
      rw [Bool.eq_iff_iff]
      simp only [Bool.and_eq_true, Bool.not_eq_true', decide_eq_false_iff_not, decide_eq_true_eq]
      omega
  · rw [if_pos (by omega), if_neg hab]
end Go.Proofs.Ythdggcleffadeaa.CatalogEach
