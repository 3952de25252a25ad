/- The plain law of BuildEdits: the sources of any partition, the edit that puts any entry in their place, and the segments that are local, and away. -/
import Derived.Test.YthdggcleffadeaaBuildEditsLawE
import Derived.Test.YthdggcleffadeaaESortL
import Derived.KernelRfl
set_option linter.unusedVariables false
set_option linter.unusedSimpArgs false
set_option maxRecDepth 20000
namespace Go.Proofs.Ythdggcleffadeaa.BuildEdits
open Go E

theorem same_l0 {K : Nat} (l : List En) (hl : l.length ≤ 100000) : ∀ (f i : Nat), i ≤ l.length → l.length - i < f → ossuaryref20_Same_RR_l0 K l l f i = some true
  | 0, i, h0, h1 => by omega
  | f + 1, i, h0, h1 => by
    unfold ossuaryref20_Same_RR_l0
    by_cases hi : i < l.length
    · rw [if_pos (by omega), if_pos (by omega), if_pos (by omega)]
      rw [w64_id (by omega)]
      have e1 : ((i : Int) + 1) = ((i + 1 : Nat) : Int) := by omega
      rw [e1, same_l0 l hl f (i + 1) (by omega) (by omega)]
      simp
    · rw [if_neg (by omega)]
theorem same_self {K : Nat} (l : List En) (hl : l.length ≤ 100000) (hK : 200000 ≤ K) : ossuaryref20_Same_RR K l l = some true := by
  unfold ossuaryref20_Same_RR
  rw [if_neg (by simp)]
  have := same_l0 (K := K) l hl K 0 (by omega) (by omega)
  have e0 : ((0 : Nat) : Int) = 0 := rfl
  rw [e0] at this
  exact this
theorem same8_l0 {K : Nat} (l : List Int) (hl : l.length ≤ 100000) : ∀ (f i : Nat), i ≤ l.length → l.length - i < f → ossuaryref08_Same_RR_l0 K l l f i = some true
  | 0, i, h0, h1 => by omega
  | f + 1, i, h0, h1 => by
    unfold ossuaryref08_Same_RR_l0
    by_cases hi : i < l.length
    · rw [if_pos (by omega), if_pos (by omega), if_pos (by omega)]
      rw [w64_id (by omega)]
      have e1 : ((i : Int) + 1) = ((i + 1 : Nat) : Int) := by omega
      rw [e1, same8_l0 l hl f (i + 1) (by omega) (by omega)]
      simp
    · rw [if_neg (by omega)]
theorem same8_self {K : Nat} (l : List Int) (hl : l.length ≤ 100000) (hK : 200000 ≤ K) : ossuaryref08_Same_RR K l l = some true := by
  unfold ossuaryref08_Same_RR
  rw [if_neg (by simp)]
  have := same8_l0 (K := K) l hl K 0 (by omega) (by omega)
  have e0 : ((0 : Nat) : Int) = 0 := rfl
  rw [e0] at this
  exact this
theorem alive_true : ossuarylaw28_alive 200000 = some true := by kernel_rfl

/-! ### The sources -/
theorem refMeets_any {K : Nat} {p q : Api_Part} (hK : 200000 ≤ K) (hp : rtP p) : ossuaryref19_Meets K p.Tier p.Index q.Tier q.Index = some (decide (rtP q ∧ loP p < hiP q ∧ loP q < hiP p)) := by
  by_cases hq : rtP q
  · rw [refMeets_eq hK hp hq]
    simp [hq]
  · unfold ossuaryref19_Meets
    rw [refSpan_right hK (show rtP ⟨p.Tier, p.Index⟩ from hp), refSpan_wrong hK (show ¬ rtP ⟨q.Tier, q.Index⟩ from hq), refRight_eq _ _ hK, refRight_eq _ _ hK]
    have e1 : decide (rtP ⟨p.Tier, p.Index⟩) = true := decide_eq_true hp
    have e2 : decide (rtP ⟨q.Tier, q.Index⟩) = false := decide_eq_false hq
    rw [e1, e2]
    simp [hq]
def srcL (c : List Pr) (p : Api_Part) : List En := if rtP p then ovL c (loP p) (hiP p) else []
theorem sources_any {K : Nat} {c : List Pr} (h : Cat c) (p : Api_Part) (hK : 200000 ≤ K) : build_Sources_O K c p.Tier p.Index = some (srcL c p) := by
  unfold srcL
  by_cases hp : rtP p
  · rw [if_pos hp, sources_eq h hp hK]
  · rw [if_neg hp]
    unfold build_Sources_O
    rw [span_wrong hp]
    simp only [thn_eq]
    rw [over_eq h hK, if_neg (by omega)]
    rfl
theorem refSources_l0 {K : Nat} {c : List Pr} (h : Cat c) (p : Api_Part) (hK : 200000 ≤ K) : ∀ (f i : Nat) (z : List En), z.length ≤ i → i ≤ c.length → c.length - i < f →
    ossuaryref28_Sources_R_l0 K (c.map (·.v)) p.Tier p.Index f i z = some (z ++ ((c.drop i).filter (fun x => decide (rtP p ∧ ovl kk hh (loP p) (hiP p) x = true))).map (·.v))
  | 0, i, z, h0, h1, h2 => by omega
  | f + 1, i, z, h0, h1, h2 => by
    have hlen := h.len
    unfold ossuaryref28_Sources_R_l0
    by_cases hi : i < c.length
    · rw [if_pos (by simp; omega), if_pos (by omega)]
      simp only [Int.toNat_natCast]
      rw [map_get hi]
      have hm := getD_mem hi
      have hk := h.key _ hm
      rw [refMeets_any hK (h.rt _ hm)]
      simp only [Option.bind_some]
      rw [w64_id (by omega)]
      have e1 : ((i : Int) + 1) = ((i + 1 : Nat) : Int) := by omega
      rw [e1]
      have e2 : c[i] = c.getD i zP := by simp [List.getD_eq_getElem?_getD, List.getElem?_eq_getElem hi]
      rw [List.drop_eq_getElem_cons hi, List.filter_cons, e2]
      have e3 : decide (rtP p ∧ loP (c.getD i zP).v.Part < hiP p ∧ loP p < hiP (c.getD i zP).v.Part) = decide (rtP p ∧ ovl kk hh (loP p) (hiP p) (c.getD i zP) = true) := by
        rw [decide_eq_decide, mem_ovl]
        have : kk (c.getD i zP) = loP (c.getD i zP).v.Part := hk
        rw [this]
        constructor
        · rintro ⟨a, b, d⟩; exact ⟨a, d, b⟩
        · rintro ⟨a, b, d⟩; exact ⟨a, d, b⟩
      rw [e3]
      generalize c.getD i zP = x
      by_cases hc : rtP p ∧ ovl kk hh (loP p) (hiP p) x = true
      · rw [decide_eq_true hc]
        simp only [if_true]
        rw [if_pos (by simp; omega), refSources_l0 h p hK f (i + 1) _ (by simp; omega) (by omega) (by omega)]
        simp
      · rw [decide_eq_false hc]
        simp only [Bool.false_eq_true, if_false]
        exact refSources_l0 h p hK f (i + 1) _ (by omega) (by omega) (by omega)
    · rw [if_neg (by simp; omega), List.drop_eq_nil_of_le (by omega)]
      simp
theorem refSources_eq {K : Nat} {c : List Pr} (h : Cat c) (p : Api_Part) (hK : 200000 ≤ K) : ossuaryref28_Sources_R K (c.map (·.v)) p.Tier p.Index = some (srcL c p) := by
  unfold ossuaryref28_Sources_R
  have hlen := h.len
  have hl := refSources_l0 h p hK K 0 [] (by simp) (by omega) (by omega)
  have e0 : ((0 : Nat) : Int) = 0 := rfl
  rw [e0] at hl
  rw [hl, List.drop_zero, List.nil_append]
  congr 1
  unfold srcL ovL
  by_cases hp : rtP p
  · rw [if_pos hp]
    congr 1
    apply List.filter_congr
    intro x _
    simp [hp]
  · rw [if_neg hp]
    simp [hp]
theorem srcL_rt {c : List Pr} (h : Cat c) {p : Api_Part} {x : En} (hx : x ∈ srcL c p) : rtP x.Part := by
  unfold srcL at hx
  split at hx
  · exact ovL_rt h hx
  · cases hx

/-! ### The edit -/
theorem refWithin_eq {K : Nat} {p q : Api_Part} (hK : 200000 ≤ K) (hp : rtP p) (hq : rtP q) : ossuaryref19_Within K p.Tier p.Index q.Tier q.Index = some (decide (within p q)) := by
  unfold ossuaryref19_Within
  rw [refSpan_right hK (show rtP ⟨p.Tier, p.Index⟩ from hp), refSpan_right hK (show rtP ⟨q.Tier, q.Index⟩ from hq), refRight_eq _ _ hK, refRight_eq _ _ hK]
  have e1 : decide (rtP ⟨p.Tier, p.Index⟩) = true := decide_eq_true hp
  have e2 : decide (rtP ⟨q.Tier, q.Index⟩) = true := decide_eq_true hq
  rw [e1, e2]
  simp only [Option.bind_some, if_true]
  unfold within
  by_cases h : loP ⟨q.Tier, q.Index⟩ ≤ loP ⟨p.Tier, p.Index⟩
  · simp [h]
  · simp [h]
theorem refEdit_l0 {K : Nat} {e : En} {xs : List En} (he : rtP e.Part) (hr : ∀ x ∈ xs, rtP x.Part) (hl : xs.length ≤ 100000) (hK : 200000 ≤ K) : ∀ (f i : Nat) (z : List Api_Part), z.length ≤ i → i ≤ xs.length → xs.length - i < f →
    ossuaryref28_Edit_R_l0 K e.Part.Tier e.Part.Index xs f i z = some (if ∀ x ∈ xs.drop i, within x.Part e.Part then (0, z ++ (xs.drop i).map (·.Part)) else (12, []))
  | 0, i, z, h0, h1, h2 => by omega
  | f + 1, i, z, h0, h1, h2 => by
    unfold ossuaryref28_Edit_R_l0
    by_cases hi : i < xs.length
    · rw [if_pos (by omega), if_pos (by omega)]
      simp only [Int.toNat_natCast]
      rw [List.drop_eq_getElem_cons hi, getE hi, refWithin_eq hK (hr _ (List.getElem_mem hi)) he]
      simp only [Option.bind_some]
      by_cases hw : within xs[i].Part e.Part
      · rw [decide_eq_true hw]
        simp only [Bool.not_true, Bool.false_eq_true, if_false]
        rw [if_pos (by simp; omega), w64_id (by omega)]
        have e1 : ((i : Int) + 1) = ((i + 1 : Nat) : Int) := by omega
        rw [e1, refEdit_l0 he hr hl hK f (i + 1) _ (by simp; omega) (by omega) (by omega)]
        generalize xs.drop (i + 1) = ys
        generalize xs[i] = x at hw ⊢
        simp [hw]
      · rw [decide_eq_false hw]
        generalize xs.drop (i + 1) = ys
        generalize xs[i] = x at hw ⊢
        simp [hw]
    · rw [if_neg (by omega), List.drop_eq_nil_of_le (by omega)]
      simp
theorem refEdit_eq {K : Nat} {c : List Pr} (h : Cat c) (e : En) (hK : 200000 ≤ K) : ossuaryref28_Edit_R K (c.map (·.v)) e.Part.Tier e.Part.Index e.Seg e.Mark e.Rows e.Cold = some ((editL c e).1, (editL c e).2.1) := by
  unfold ossuaryref28_Edit_R editL
  rw [refOk_eq e hK]
  simp only [Option.bind_some]
  by_cases he : okE e
  · simp only [he, decide_true, Bool.not_true, Bool.false_eq_true, if_false, if_true]
    rw [refSources_eq h e.Part hK]
    have es : srcL c e.Part = ovL c (loP e.Part) (hiP e.Part) := by unfold srcL; rw [if_pos he.1]
    rw [es]
    simp only [Option.bind_some]
    have hlen := h.len
    have hle := ovL_len c (loP e.Part) (hiP e.Part)
    have hlo := refEdit_l0 (K := K) (e := e) he.1 (fun x hx => ovL_rt h hx) (show (ovL c (loP e.Part) (hiP e.Part)).length ≤ 100000 by omega) hK K 0 [] (by simp) (by omega) (by omega)
    have e0 : ((0 : Nat) : Int) = 0 := rfl
    rw [e0] at hlo
    rw [hlo, List.drop_zero]
    by_cases hw : ∀ x ∈ ovL c (loP e.Part) (hiP e.Part), within x.Part e.Part
    · rw [if_pos hw, if_pos hw]; rfl
    · rw [if_neg hw, if_neg hw]
  · simp only [he, decide_false, Bool.not_false, if_true, if_false]

/-! ### The segments -/
theorem all_eq {K : Nat} {γ : Type} {y : Api_Entry → γ → Option (γ × Bool)} {l : List Pr} (inv : Nat → γ → Prop) (f : γ → Pr → γ) (hl : l.length ≤ 100000) (hK : 200000 ≤ K)
    (hy : ∀ i, i < l.length → ∀ z, inv i z → y (l.getD i zP).v z = some (f z (l.getD i zP), true) ∧ inv (i + 1) (f z (l.getD i zP))) (z : γ) (hz : inv 0 z) : catalog_Catalog_All_1_YO K γ y z l = some (l.foldl f z) := by
  unfold catalog_Catalog_All_1_YO omap_each__int64__api_Entry_1_YR
  simp only [thn_eq]
  have hloop := each_loop (K := K) (y := catalog_Catalog_All_1_YO_r0 K γ y) (l := l) (fun i s => ∃ z, s = Sum.inl z ∧ inv i z) (fun s x => match s with | .inl z => .inl (f z x) | .inr d => .inr d) (by omega)
    (fun i hi s hs => by
      obtain ⟨z, rfl, hz⟩ := hs
      obtain ⟨h1, h2⟩ := hy i hi z hz
      refine ⟨?_, f z (l.getD i zP), rfl, h2⟩
      unfold catalog_Catalog_All_1_YO_r0
      have h1' : y (⟨(⟨(l.getD i zP).v.Part.Tier, (l.getD i zP).v.Part.Index⟩ : Api_Part), (l.getD i zP).v.Seg, (l.getD i zP).v.Mark, (l.getD i zP).v.Rows, (l.getD i zP).v.Cold⟩ : Api_Entry) z = some (f z (l.getD i zP), true) := h1
      simp only [cas]
      rw [h1']
      simp) K 0 (Sum.inl z) (by omega) (by omega) ⟨z, rfl, hz⟩
  have e0 : ((0 : Nat) : Int) = 0 := rfl
  rw [e0] at hloop
  rw [hloop, List.drop_zero]
  have hf : ∀ (m : List Pr) (z : γ), m.foldl (fun (s : Sum γ γ) x => match s with | .inl z => .inl (f z x) | .inr d => .inr d) (Sum.inl z) = Sum.inl (m.foldl f z) := by
    intro m
    induction m with
    | nil => intro z; rfl
    | cons x m ih => intro z; rw [List.foldl_cons, List.foldl_cons, ih]
  rw [hf]
  simp [cas]
theorem segs_fold (q : En → Bool) : ∀ (m : List Pr) (z : List Int), m.foldl (fun z x => if q x.v = true then z ++ [x.v.Seg] else z) z = z ++ ((m.map (·.v)).filter q).map (·.Seg)
  | [], z => by simp
  | x :: m, z => by
    rw [List.foldl_cons, segs_fold q m]
    by_cases h : q x.v = true
    · simp [h]
    · simp [h]
theorem local_eq {K : Nat} {c : List Pr} (hc : c.length ≤ 100000) (hK : 200000 ≤ K) : build_Local_O K c = some (sortI (((c.map (·.v)).filter (fun e => !e.Cold)).map (·.Seg))) := by
  unfold build_Local_O build_segs_O
  simp only [thn_eq]
  rw [all_eq (y := build_segs_O_r0 K) (fun i z => z.length ≤ i) (fun z x => if (!x.v.Cold) = true then z ++ [x.v.Seg] else z) hc hK (fun i hi z hz => by
    unfold build_segs_O_r0 build_Local_1
    simp only [thn_eq]
    by_cases h : (!(c.getD i zP).v.Cold) = true
    · rw [if_pos h, if_pos h, if_pos (by simp; omega)]
      exact ⟨rfl, by simp; omega⟩
    · rw [if_neg h, if_neg h]
      exact ⟨rfl, by omega⟩) [] (by simp)]
  rw [segs_fold (fun e => !e.Cold)]
  simp only [Option.bind_some, List.nil_append]
  have hl : (((c.map (·.v)).filter (fun e => !e.Cold)).map (·.Seg)).length ≤ c.length := by
    rw [List.length_map]
    exact Nat.le_trans (List.length_filter_le ..) (by simp)
  unfold slices_Sort_____int64__int64
  rw [if_pos (Nat.le_trans hl (by omega))]
  rfl
theorem away_eq {K : Nat} {c : List Pr} (hc : c.length ≤ 100000) (hK : 200000 ≤ K) : build_Away_O K c = some (sortI (((c.map (·.v)).filter (fun e => e.Cold)).map (·.Seg))) := by
  unfold build_Away_O build_segs_O_2
  simp only [thn_eq]
  rw [all_eq (y := build_segs_O_2_r0 K) (fun i z => z.length ≤ i) (fun z x => if x.v.Cold = true then z ++ [x.v.Seg] else z) hc hK (fun i hi z hz => by
    unfold build_segs_O_2_r0 build_Away_1
    simp only [thn_eq]
    by_cases h : (c.getD i zP).v.Cold = true
    · rw [if_pos h, if_pos h, if_pos (by simp; omega)]
      exact ⟨rfl, by simp; omega⟩
    · rw [if_neg h, if_neg h]
      exact ⟨rfl, by omega⟩) [] (by simp)]
  rw [segs_fold (fun e => e.Cold)]
  simp only [Option.bind_some, List.nil_append]
  have hl : (((c.map (·.v)).filter (fun e => e.Cold)).map (·.Seg)).length ≤ c.length := by
    rw [List.length_map]
    exact Nat.le_trans (List.length_filter_le ..) (by simp)
  unfold slices_Sort_____int64__int64
  rw [if_pos (Nat.le_trans hl (by omega))]
  rfl
theorem insI_len (x : Int) (l : List Int) : (insI x l).length = l.length + 1 := (insI_perm x l).length_eq
theorem insI_split (x : Int) : ∀ l : List Int, insI x l = l.takeWhile (fun y => decide (y < x)) ++ x :: l.dropWhile (fun y => decide (y < x))
  | [] => rfl
  | y :: l => by
    unfold insI
    by_cases h : x ≤ y
    · have : decide (y < x) = false := by simp; omega
      rw [if_pos h]; simp [this]
    · have : decide (y < x) = true := by simp; omega
      rw [if_neg h, insI_split x l]; simp [this]
theorem tw_getD {p : Int → Bool} : ∀ (l : List Int) (i : Nat), i < (l.takeWhile p).length → p (l.getD i 0) = true
  | [], i, h => by simp at h
  | y :: l, i, h => by
    by_cases hp : p y = true
    · cases i with
      | zero => simpa using hp
      | succ i => simpa using tw_getD l i (by simpa [hp] using h)
    · simp [hp] at h
theorem tw_end {p : Int → Bool} : ∀ (l : List Int), (l.takeWhile p).length < l.length → p (l.getD (l.takeWhile p).length 0) = false
  | [], h => by simp at h
  | y :: l, h => by
    by_cases hp : p y = true
    · have := tw_end (p := p) l (by simpa [hp] using h)
      simpa [hp] using this
    · simp [hp]
theorem tw_le {p : Int → Bool} (l : List Int) : (l.takeWhile p).length ≤ l.length := (List.takeWhile_sublist p).length_le
theorem tw_split {p : Int → Bool} : ∀ (l : List Int), l.take (l.takeWhile p).length = l.takeWhile p ∧ l.drop (l.takeWhile p).length = l.dropWhile p
  | [] => by simp
  | y :: l => by
    by_cases hp : p y = true
    · have := tw_split (p := p) l
      simp [hp, this.1, this.2]
    · simp [hp]
theorem refSegs_l1 {K : Nat} {es : List En} {j : Nat} (out : List Int) (hl : out.length ≤ 100000) : ∀ (f i : Nat), i ≤ (out.takeWhile fun y => decide (y < (es.getD j z_Api_Entry).Seg)).length → out.length - i < f →
    ossuaryref20_Segs_R_l1 K es j out f i = some (((out.takeWhile fun y => decide (y < (es.getD j z_Api_Entry).Seg)).length : Nat) : Int)
  | 0, i, h0, h1 => by have := tw_le (p := fun y => decide (y < (es.getD j z_Api_Entry).Seg)) out; omega
  | f + 1, i, h0, h1 => by
    have hle := tw_le (p := fun y => decide (y < (es.getD j z_Api_Entry).Seg)) out
    unfold ossuaryref20_Segs_R_l1
    by_cases hi : i < out.length
    · rw [if_pos (by omega), if_pos (by omega), if_pos (by omega)]
      simp only [Int.toNat_natCast]
      by_cases hlt : i < (out.takeWhile fun y => decide (y < (es.getD j z_Api_Entry).Seg)).length
      · have h2 := tw_getD out i hlt
        simp only [decide_eq_true_eq] at h2
        rw [if_pos h2, w64_id (by omega)]
        have e1 : ((i : Int) + 1) = ((i + 1 : Nat) : Int) := by omega
        rw [e1]
        exact refSegs_l1 out hl f (i + 1) (by omega) (by omega)
      · have e : i = (out.takeWhile fun y => decide (y < (es.getD j z_Api_Entry).Seg)).length := by omega
        have h2 := tw_end (p := fun y => decide (y < (es.getD j z_Api_Entry).Seg)) out (by omega)
        rw [← e] at h2 ⊢
        simp only [decide_eq_false_iff_not] at h2
        rw [if_neg h2]
    · rw [if_neg (by omega)]
      congr 2; omega
theorem refSegs_l0 {K : Nat} {es : List En} (he : es.length ≤ 50000) (hK : 200000 ≤ K) : ∀ (f i : Nat) (out : List Int), out.length ≤ i → i ≤ es.length → es.length - i < f →
    ossuaryref20_Segs_R_l0 K es f i out = some ((es.drop i).foldl (fun o e => insI e.Seg o) out)
  | 0, i, out, h0, h1, h2 => by omega
  | f + 1, i, out, h0, h1, h2 => by
    unfold ossuaryref20_Segs_R_l0
    by_cases hi : i < es.length
    · rw [if_pos (by omega)]
      have hle := tw_le (p := fun y => decide (y < (es.getD i z_Api_Entry).Seg)) out
      have hl1 := refSegs_l1 (K := K) (es := es) (j := i) out (by omega) K 0 (by omega) (by omega)
      have e0 : ((0 : Nat) : Int) = 0 := rfl
      rw [e0] at hl1
      rw [hl1]
      simp only [Option.bind_some]
      rw [if_pos (by omega), if_pos (by omega)]
      simp only [Int.toNat_natCast]
      rw [if_pos (by simp; omega), if_pos (by omega), if_pos (by simp; omega), if_pos (by simp; omega)]
      simp only [Option.bind_some]
      obtain ⟨s1, s2⟩ := tw_split (p := fun y => decide (y < (es.getD i z_Api_Entry).Seg)) out
      rw [s1, s2, w64_id (by omega)]
      have e1 : ((i : Int) + 1) = ((i + 1 : Nat) : Int) := by omega
      have e2 : ([] : List Int) ++ (out.takeWhile fun y => decide (y < (es.getD i z_Api_Entry).Seg)) ++ [(es.getD i z_Api_Entry).Seg] ++ (out.dropWhile fun y => decide (y < (es.getD i z_Api_Entry).Seg)) = insI (es.getD i z_Api_Entry).Seg out := by
        rw [insI_split]; simp
      rw [e1, e2, refSegs_l0 he hK f (i + 1) _ (by rw [insI_len]; omega) (by omega) (by omega)]
      rw [List.drop_eq_getElem_cons hi, List.foldl_cons, getE hi]
    · rw [if_neg (by omega), List.drop_eq_nil_of_le (by omega)]; rfl
theorem foldl_ins : ∀ (l : List Int) (o : List Int), o.Pairwise (· ≤ ·) → (l.foldl (fun o x => insI x o) o).Perm (l ++ o) ∧ (l.foldl (fun o x => insI x o) o).Pairwise (· ≤ ·)
  | [], o, h => ⟨List.Perm.refl _, h⟩
  | x :: l, o, h => by
    obtain ⟨h1, h2⟩ := foldl_ins l (insI x o) (insI_sorted x o h)
    refine ⟨h1.trans ?_, h2⟩
    exact ((insI_perm x o).append_left l).trans List.perm_middle
theorem foldl_sortI (es : List En) : es.foldl (fun o e => insI e.Seg o) [] = sortI (es.map (·.Seg)) := by
  have e : es.foldl (fun o e => insI e.Seg o) [] = (es.map (·.Seg)).foldl (fun o x => insI x o) [] := by rw [List.foldl_map]
  rw [e]
  obtain ⟨h1, h2⟩ := foldl_ins (es.map (·.Seg)) [] List.Pairwise.nil
  refine sorted_one (h1.trans ?_) h2 (sortI_sorted _)
  simpa using (sortI_perm (es.map (·.Seg))).symm
theorem refSegs28_l0 {K : Nat} {es : List En} (he : es.length ≤ 50000) (b : Bool) (hK : 200000 ≤ K) : ∀ (f i : Nat) (z : List En), z.length ≤ i → i ≤ es.length → es.length - i < f →
    ossuaryref28_Segs_R_l0 K es b f i z = ossuaryref20_Segs_R K (z ++ (es.drop i).filter fun e => e.Cold == b)
  | 0, i, z, h0, h1, h2 => by omega
  | f + 1, i, z, h0, h1, h2 => by
    unfold ossuaryref28_Segs_R_l0
    by_cases hi : i < es.length
    · rw [if_pos (by omega), if_pos (by omega)]
      simp only [Int.toNat_natCast]
      rw [getE hi, List.drop_eq_getElem_cons hi, List.filter_cons, w64_id (by omega)]
      have e1 : ((i : Int) + 1) = ((i + 1 : Nat) : Int) := by omega
      rw [e1]
      by_cases hc : (es[i].Cold == b) = true
      · rw [if_pos hc, if_pos hc, if_pos (by simp; omega), refSegs28_l0 he b hK f (i + 1) _ (by simp; omega) (by omega) (by omega)]
        have e3 : (⟨(⟨es[i].Part.Tier, es[i].Part.Index⟩ : Api_Part), es[i].Seg, es[i].Mark, es[i].Rows, es[i].Cold⟩ : Api_Entry) = es[i] := rfl
        rw [e3, List.append_assoc]; rfl
      · rw [if_neg hc, if_neg hc]
        exact refSegs28_l0 he b hK f (i + 1) _ (by omega) (by omega) (by omega)
    · rw [if_neg (by omega), List.drop_eq_nil_of_le (by omega)]
      simp only [List.filter_nil, List.append_nil]
      cases ossuaryref20_Segs_R K z <;> rfl
theorem refSegs_eq {K : Nat} {es : List En} (he : es.length ≤ 50000) (b : Bool) (hK : 200000 ≤ K) : ossuaryref28_Segs_R K es b = some (sortI ((es.filter fun e => e.Cold == b).map (·.Seg))) := by
  unfold ossuaryref28_Segs_R
  have hl := refSegs28_l0 (K := K) he b hK K 0 [] (by simp) (by omega) (by omega)
  have e0 : ((0 : Nat) : Int) = 0 := rfl
  rw [e0] at hl
  rw [hl, List.drop_zero, List.nil_append]
  unfold ossuaryref20_Segs_R
  have hfl : (es.filter fun e => e.Cold == b).length ≤ es.length := List.length_filter_le ..
  have h2 := refSegs_l0 (K := K) (es := es.filter fun e => e.Cold == b) (by omega) hK K 0 [] (by simp) (by omega) (by omega)
  rw [e0] at h2
  rw [h2, List.drop_zero, foldl_sortI]

/-! ### The law -/
theorem drops_l0 {K : Nat} (x26 : List Omap_pair__int64__api_Entry × List Api_Entry) (x27 : Int × List Api_Part × List Api_Entry) (x28 : Int × List Api_Part) (he : x27.2.1 = x28.2) (hl : x28.2.length ≤ 100000) : ∀ (f i : Nat), i ≤ x28.2.length → x28.2.length - i < f →
    ossuarylaw28_BuildEdits_l0 K x26 x27 x28 f i = some (Sum.inl x26.2)
  | 0, i, h1, h2 => by omega
  | f + 1, i, h1, h2 => by
    unfold ossuarylaw28_BuildEdits_l0
    by_cases hi : i < x28.2.length
    · rw [if_pos (by omega), if_pos (by omega), if_pos (by rw [he]; omega), w64_id (by omega)]
      have e1 : ((i : Int) + 1) = ((i + 1 : Nat) : Int) := by omega
      rw [e1, drops_l0 x26 x27 x28 he hl f (i + 1) (by omega) (by omega), he]
      simp
    · rw [if_neg (by omega)]
theorem law (l0 : List Api_Entry) (a1_0 a1_1 a2_0_0 a2_0_1 a2_1 a2_2 a2_3 : Int) (a2_4 : Bool) : ∃ K, ossuarylaw28_BuildEdits K l0 a1_0 a1_1 a2_0_0 a2_0_1 a2_1 a2_2 a2_3 a2_4 = some true := by
  obtain ⟨K, hKK⟩ : ∃ K : Nat, K = 200000 := ⟨_, rfl⟩
  refine ⟨K, ?_⟩
  have hK : 200000 ≤ K := by omega
  have hal : ossuarylaw28_alive K = some true := by rw [hKK]; exact alive_true
  clear hKK
  unfold ossuarylaw28_BuildEdits
  by_cases h40 : 40 < (l0.length : Int)
  · rw [if_pos h40, hal]; rfl
  · rw [if_neg h40]
    obtain ⟨c, hc, hcl, hm⟩ := made_eq (K := K) (l := l0) (by omega) hK
    rw [hm]
    simp only [Option.bind_some]
    obtain ⟨e, he⟩ : ∃ e : En, e = ⟨⟨a2_0_0, a2_0_1⟩, a2_1, a2_2, a2_3, a2_4⟩ := ⟨_, rfl⟩
    have f1 : a2_0_0 = e.Part.Tier := by rw [he]
    have f2 : a2_0_1 = e.Part.Index := by rw [he]
    have f3 : a2_1 = e.Seg := by rw [he]
    have f4 : a2_2 = e.Mark := by rw [he]
    have f5 : a2_3 = e.Rows := by rw [he]
    have f6 : a2_4 = e.Cold := by rw [he]
    subst f1; subst f2; subst f3; subst f4; subst f5; subst f6
    clear he
    obtain ⟨p, hp⟩ : ∃ p : Api_Part, p = ⟨a1_0, a1_1⟩ := ⟨_, rfl⟩
    have g1 : a1_0 = p.Tier := by rw [hp]
    have g2 : a1_1 = p.Index := by rw [hp]
    subst g1; subst g2
    clear hp
    rw [edit_eq hc e hK, refEdit_eq hc e hK]
    simp only [Option.bind_some]
    rw [if_neg (by simp), if_neg (by simp), sources_any hc p hK, refSources_eq hc p hK]
    simp only [Option.bind_some]
    have hsl : (srcL c p).length ≤ 100000 := by
      unfold srcL
      split
      · have := ovL_len c (loP p) (hiP p); omega
      · simp
    rw [same_self _ hsl hK]
    simp only [Option.bind_some, Bool.not_true, Bool.false_eq_true, if_false]
    have hel : (editL c e).2.1.length ≤ c.length := by
      unfold editL
      split
      · split
        · simp only [List.length_map]; exact ovL_len ..
        · simp
      · simp
    have hd := drops_l0 (K := K) (c, c.map (·.v)) (editL c e) ((editL c e).1, (editL c e).2.1) rfl (by simp only; omega) K 0 (by omega) (by simp only; omega)
    have e0 : ((0 : Nat) : Int) = 0 := rfl
    rw [e0] at hd
    rw [hd]
    simp only [Option.bind_some, cas]
    have hput : ((editL c e).1 = 0 → (editL c e).2.2 = [e]) ∧ ((editL c e).1 ≠ 0 → (editL c e).2.2 = []) := by
      unfold editL
      split
      · split
        · exact ⟨fun _ => rfl, fun h => absurd rfl h⟩
        · exact ⟨fun h => by simp at h, fun _ => rfl⟩
      · exact ⟨fun h => by simp at h, fun _ => rfl⟩
    have fin : ((build_Local_O K c).bind fun x37 => ((ossuaryref28_Segs_R K (c.map (·.v)) false).bind fun x38 => ((ossuaryref08_Same_RR K x37 x38).bind fun x39 => (if x39 = true then ((build_Away_O K c).bind fun x40 => ((ossuaryref28_Segs_R K (c.map (·.v)) true).bind fun x41 => ((ossuaryref08_Same_RR K x40 x41).bind fun x42 => (if x42 = true then (thn (build_Sources_Z p.Tier p.Index) fun u2 => ((ossuarylaw28_alive K).bind fun x43 => (some (x43)))) else (some (false)))))) else (some (false)))))) = some true := by
      rw [local_eq (by omega) hK, refSegs_eq (by simp; omega) false hK]
      have q1 : ((c.map (·.v)).filter fun e => e.Cold == false) = (c.map (·.v)).filter fun e => !e.Cold := by
        apply List.filter_congr; intro x _; cases x.Cold <;> rfl
      have q2 : ((c.map (·.v)).filter fun e => e.Cold == true) = (c.map (·.v)).filter fun e => e.Cold := by
        apply List.filter_congr; intro x _; cases x.Cold <;> rfl
      rw [q1]
      simp only [Option.bind_some]
      rw [same8_self _ (by rw [sortI_length, List.length_map]; exact Nat.le_trans (List.length_filter_le ..) (by simp; omega)) hK]
      simp only [Option.bind_some, if_true]
      rw [away_eq (by omega) hK, refSegs_eq (by simp; omega) true hK, q2]
      simp only [Option.bind_some]
      rw [same8_self _ (by rw [sortI_length, List.length_map]; exact Nat.le_trans (List.length_filter_le ..) (by simp; omega)) hK]
      simp only [Option.bind_some, if_true, thn_eq, hal]
    by_cases h0 : (editL c e).1 = 0
    · have hp2 := hput.1 h0
      rw [if_pos h0, hp2]
      simp only [List.length_cons, List.length_nil, h0]
      simpa using fin
    · have hp2 := hput.2 h0
      rw [if_neg h0, if_pos h0, hp2]
      simpa using fin
end Go.Proofs.Ythdggcleffadeaa.BuildEdits
