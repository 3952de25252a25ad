/- The plain law of CatalogEach, third part: edits of a catalog. No machine in it. -/
import Derived.Test.YthdggcleffadeaaCatalogEachLawB
set_option linter.unusedVariables false
set_option linter.unusedSimpArgs false
set_option maxRecDepth 20000
namespace Go.Proofs.Ythdggcleffadeaa.CatalogEach
open Go E

theorem omapCopy_eq {K : Nat} {l : List Pr} (hl : l.length ≤ 100000) (hK : 200000 ≤ K) : omap_Map__int64__api_Entry_Copy_O K l = some l := by
  unfold omap_Map__int64__api_Entry_Copy_O omap_each__int64__api_Entry_1_YR
  simp only [thn_eq]
  have hloop := each_loop (K := K) (y := omap_Map__int64__api_Entry_Copy_O_r0 K) (l := l) (fun i z => z.length ≤ i) (fun z x => z ++ [x]) (by omega)
    (fun i hi z hz => by
      unfold omap_Map__int64__api_Entry_Copy_O_r0
      rw [if_pos (by simp; omega)]
      exact ⟨rfl, by simp; omega⟩) K 0 [] (by omega) (by omega) (by simp)
  have e1 : ((0 : Nat) : Int) = 0 := rfl
  rw [e1] at hloop
  rw [hloop]
  have hf : ∀ (m z : List Pr), m.foldl (fun z x => z ++ [x]) z = z ++ m := by
    intro m
    induction m with
    | nil => simp
    | cons x m ih => intro z; rw [List.foldl_cons, ih]; simp
  rw [List.drop_zero, hf]; rfl
theorem copy_eq {K : Nat} {l : List Pr} (hl : l.length ≤ 100000) (hK : 200000 ≤ K) : catalog_Catalog_Copy_O K l = some l := by
  unfold catalog_Catalog_Copy_O
  rw [omapCopy_eq hl hK]; rfl
def okE (e : En) : Prop := rtP e.Part ∧ (1 ≤ e.Seg ∧ e.Seg ≤ 4611686018427387904) ∧ (1 ≤ e.Rows ∧ e.Rows ≤ 4611686018427387904) ∧ (0 ≤ e.Mark ∧ e.Mark ≤ 4611686018427387904) ∧ (e.Part.Tier = 3 ∨ e.Cold = false)
instance (p : Api_Part) : Decidable (rtP p) := inferInstanceAs (Decidable (_ ∧ _))
instance (e : En) : Decidable (okE e) := inferInstanceAs (Decidable (_ ∧ _))
theorem in_eq (a b : Int) : catalog_Right_1 a b = decide (b ≤ a ∧ a ≤ 4611686018427387904) := by
  unfold catalog_Right_1
  by_cases h : b ≤ a <;> simp [h]
theorem ok_eq (e : En) : catalog_Right e.Part.Tier e.Part.Index e.Seg e.Mark e.Rows e.Cold = decide (okE e) := by
  unfold catalog_Right okE rtP
  simp only [thn_eq, right_eq, in_eq]
  rw [Bool.eq_iff_iff]
  by_cases h1 : 0 ≤ e.Part.Index ∧ e.Part.Index ≤ mostI e.Part.Tier
  · by_cases h2 : 1 ≤ e.Seg ∧ e.Seg ≤ 4611686018427387904
    · by_cases h3 : 1 ≤ e.Rows ∧ e.Rows ≤ 4611686018427387904
      · by_cases h4 : 0 ≤ e.Mark ∧ e.Mark ≤ 4611686018427387904
        · by_cases h5 : e.Part.Tier = 3
          · simp [h1, h2, h3, h4, h5]
          · simp [h1, h2, h3, h4, h5]
        · simp [h1, h2, h3, h4]
      · simp [h1, h2, h3]
    · simp [h1, h2]
  · simp [h1]
def ins (l : List Pr) (e : En) : List Pr := l.take (cnt kk l (loP e.Part)) ++ (⟨loP e.Part, e⟩ : Pr) :: l.drop (cnt kk l (loP e.Part))
def put1 (l : List Pr) (e : En) : Int × List Pr := if okE e then (if l.filter (ovl kk hh (loP e.Part) (hiP e.Part)) = [] then (0, ins l e) else (12, l)) else (4, l)
theorem ins_len (l : List Pr) (e : En) : (ins l e).length = l.length + 1 := by
  have := cnt_le (key := kk) l (loP e.Part)
  simp [ins]; omega
theorem cat_ins {l : List Pr} (h : Cat l) {e : En} (he : okE e) (hno : l.filter (ovl kk hh (loP e.Part) (hiP e.Part)) = []) (hl : l.length ≤ 99999) : Cat (ins l e) := by
  have hm : ∀ x ∈ ins l e, x = ⟨loP e.Part, e⟩ ∨ x ∈ l := by
    intro x hx
    unfold ins at hx
    rcases List.mem_append.1 hx with hx | hx
    · exact .inr (List.mem_of_mem_take hx)
    · rcases List.mem_cons.1 hx with hx | hx
      · exact .inl hx
      · exact .inr (List.mem_of_mem_drop hx)
  refine ⟨srt_insert h.srt (x := (⟨loP e.Part, e⟩ : Pr)) (loP_lt he.1).2.1 hno, fun x hx => ?_, fun x hx => ?_, by rw [ins_len]; omega⟩
  · rcases hm x hx with rfl | hx
    · exact he.1
    · exact h.rt x hx
  · rcases hm x hx with rfl | hx
    · rfl
    · exact h.key x hx
/-- The one that begins at a key, if there is one. -/
theorem key_at {l : List Pr} (h : Cat l) {k : Int} {x : Pr} (hx : x ∈ l) (hk : x.k = k) : cnt kk l k < l.length ∧ (l.getD (cnt kk l k) zP).k = k := by
  obtain ⟨i, hi1, hi2⟩ := List.getElem_of_mem hx
  have e3 : l.getD i zP = x := by simp [List.getD_eq_getElem?_getD, List.getElem?_eq_getElem hi1, hi2]
  have h1 : ¬ i < cnt kk l k := fun hc => by
    have := (cnt_lt h.srt (z := zP) hi1).2 hc
    rw [e3] at this
    simp only [kk] at this
    omega
  have h2 : ¬ cnt kk l k < i := fun hc => by
    have h3 := getD_lt h hc hi1
    have h4 : ¬ kk (l.getD (cnt kk l k) zP) < k := fun h5 => by
      have := (cnt_lt h.srt (z := zP) (show cnt kk l k < l.length by omega)).1 h5
      omega
    rw [e3] at h3
    simp only [kk] at h4
    omega
  have h5 : cnt kk l k = i := by omega
  rw [h5]
  exact ⟨hi1, by rw [e3]; exact hk⟩
theorem put_eq {K : Nat} {l : List Pr} (h : Cat l) (hl : l.length ≤ 99999) (e : En) (hK : 200000 ≤ K) : catalog_Catalog_put_O K l e.Part.Tier e.Part.Index e.Seg e.Mark e.Rows e.Cold = some (put1 l e) := by
  unfold catalog_Catalog_put_O put1
  rw [ok_eq]
  simp only [thn_eq]
  by_cases he : okE e
  · have hlt := loP_lt he.1
    simp only [he, decide_true, Bool.not_true, Bool.false_eq_true, if_false, if_true]
    rw [span_right he.1.1 he.1.2]
    have e1 : fromI e.Part.Tier e.Part.Index = loP e.Part := rfl
    have e2 : toI e.Part.Tier e.Part.Index = hiP e.Part := rfl
    simp only [e1, e2]
    rw [over_eq h hK, if_pos hlt.2.1]
    simp only [Option.bind_some]
    unfold ovL
    by_cases hno : l.filter (ovl kk hh (loP e.Part) (hiP e.Part)) = []
    · rw [hno]
      simp only [List.map_nil, List.length_nil, if_true]
      rw [if_neg (by omega)]
      unfold omap_Map__int64__api_Entry_Put_O
      rw [place_eq h _ hK]
      have hn : decide (cnt kk l (loP e.Part) < l.length ∧ (l.getD (cnt kk l (loP e.Part)) zP).k = loP e.Part) = false := by
        simp only [decide_eq_false_iff_not]
        rintro ⟨h1, h2⟩
        have hm := getD_mem h1
        have := List.filter_eq_nil_iff.1 hno _ hm
        apply this
        have h3 := h.srt.1 _ hm
        simp only [kk] at h3
        rw [mem_ovl]
        simp only [kk]
        omega
      rw [hn]
      simp only [Option.bind_some, Bool.false_eq_true, if_false]
      have hc := cnt_le (key := kk) l (loP e.Part)
      have hi : slices_Insert____omap_pair__int64__api_Entry__omap_pair__int64__api_Entry l (cnt kk l (loP e.Part) : Int) [(⟨loP e.Part, e⟩ : Pr)] = some (ins l e) := by
        unfold slices_Insert____omap_pair__int64__api_Entry__omap_pair__int64__api_Entry insL
        simp only []
        rw [if_pos ⟨by omega, by omega, by omega⟩, Int.toNat_natCast, insert_mid' _ _ _ hc]
        rfl
      show ((slices_Insert____omap_pair__int64__api_Entry__omap_pair__int64__api_Entry l (cnt kk l (loP e.Part) : Int) [(⟨loP e.Part, e⟩ : Pr)]).bind _).bind _ = _
      rw [hi]
      rfl
    · rw [if_neg hno, if_pos]
      have : (l.filter (ovl kk hh (loP e.Part) (hiP e.Part))).length ≠ 0 := fun h0 => hno (List.eq_nil_of_length_eq_zero h0)
      simp only [List.length_map]
      omega
  · simp only [he, decide_false, Bool.not_false, if_true, if_false]
def putAll : List Pr → List En → Int × List Pr
  | l, [] => (0, l)
  | l, e :: es => if (put1 l e).1 = 0 then putAll (put1 l e).2 es else ((put1 l e).1, l)
theorem put1_cat {l : List Pr} (h : Cat l) (hl : l.length ≤ 99999) (e : En) : Cat (put1 l e).2 ∧ (put1 l e).2.length ≤ l.length + 1 := by
  unfold put1
  split
  · rename_i he
    split
    · rename_i hno
      exact ⟨cat_ins h he hno hl, by simp [ins_len]⟩
    · exact ⟨h, by simp⟩
  · exact ⟨h, by simp⟩
theorem putAll_cat : ∀ {es : List En} {l : List Pr}, Cat l → l.length + es.length ≤ 99999 → Cat (putAll l es).2 ∧ (putAll l es).2.length ≤ l.length + es.length
  | [], l, h, hl => ⟨h, by simp [putAll]⟩
  | e :: es, l, h, hl => by
    simp only [List.length_cons] at hl
    obtain ⟨h1, h2⟩ := put1_cat h (by omega) e
    unfold putAll
    split
    · obtain ⟨h3, h4⟩ := putAll_cat (es := es) h1 (by omega)
      exact ⟨h3, by simp; omega⟩
    · exact ⟨h, by simp⟩
theorem getE {l : List En} {i : Nat} (hi : i < l.length) : l.getD i z_Api_Entry = l[i] := by simp [List.getD_eq_getElem?_getD, List.getElem?_eq_getElem hi]
theorem getPt {l : List Api_Part} {i : Nat} (hi : i < l.length) : l.getD i z_Api_Part = l[i] := by simp [List.getD_eq_getElem?_getD, List.getElem?_eq_getElem hi]
theorem applyORR_puts {K : Nat} (l0 : List Pr) (es : List En) (hes : es.length ≤ 10000) (hK : 200000 ≤ K) : ∀ (f i : Nat) (l : List Pr), Cat l → l.length + (es.length - i) ≤ 99999 → i ≤ es.length → es.length - i < f →
    catalog_Catalog_Apply_ORR_l1 K l0 es f i l = some (if (putAll l (es.drop i)).1 = 0 then Sum.inl (putAll l (es.drop i)).2 else Sum.inr ((putAll l (es.drop i)).1, l0))
  | 0, i, l, h, h1, h2, h3 => by omega
  | f + 1, i, l, h, h1, h2, h3 => by
    unfold catalog_Catalog_Apply_ORR_l1
    by_cases hi : i < es.length
    · rw [if_pos (by omega), if_pos (by omega)]
      simp only [Int.toNat_natCast]
      rw [put_eq h (by omega) (es.getD i z_Api_Entry) hK]
      simp only [Option.bind_some]
      rw [List.drop_eq_getElem_cons hi, getE hi]
      unfold putAll
      by_cases h0 : (put1 l es[i]).1 = 0
      · obtain ⟨c1, c2⟩ := put1_cat h (by omega) es[i]
        rw [if_neg (by simp [h0]), if_pos h0, w64_id (by omega)]
        have e : ((i : Int) + 1) = ((i + 1 : Nat) : Int) := by omega
        rw [e]
        exact applyORR_puts l0 es hes hK f (i + 1) _ c1 (by omega) (by omega) (by omega)
      · rw [if_pos h0, if_neg h0, if_neg h0]
    · rw [if_neg (by omega), List.drop_eq_nil_of_le (by omega)]
      simp [putAll]
def hasP (l : List Pr) (p : Api_Part) : Bool := l.any fun x => decide (x.v.Part = p)
def drop1 (l : List Pr) (p : Api_Part) : List Pr := l.filter fun x => !decide (x.k = loP p)
def dropAll : List Pr → List Api_Part → Option (List Pr)
  | l, [] => some l
  | l, p :: ps => if hasP l p = true then dropAll (drop1 l p) ps else none
theorem hasP_iff {l : List Pr} {p : Api_Part} : hasP l p = true ↔ ∃ x ∈ l, x.v.Part = p := by simp [hasP]
theorem find_con {l : List Pr} (h : Cat l) {n : Int} {x : Pr} (hx : x ∈ l) (hc : con kk hh n x = true) : l.find? (con kk hh n) = some x := by
  obtain ⟨i, hi1, hi2⟩ := List.getElem_of_mem hx
  have e3 : l.getD i zP = x := by simp [List.getD_eq_getElem?_getD, List.getElem?_eq_getElem hi1, hi2]
  have hc' : kk x ≤ n ∧ n < hh x := by simpa [con] using hc
  rw [find_floor h.srt (z := zP) hi1 (by rw [e3]; exact hc'.1) (fun j h1 h2 => by
    have h3 := List.pairwise_iff_getElem.1 h.srt.2 i j hi1 h2 h1
    have e4 : l.getD j zP = l[j] := by simp [List.getD_eq_getElem?_getD, List.getElem?_eq_getElem h2]
    rw [e4]
    rw [hi2] at h3
    omega), e3, if_pos hc'.2]
theorem get_eq {K : Nat} {l : List Pr} (h : Cat l) (p : Api_Part) (hK : 200000 ≤ K) : ∃ t, catalog_Catalog_Get_O K l p.Tier p.Index = some t ∧ t.2.2.2.2.2.2 = hasP l p := by
  unfold catalog_Catalog_Get_O
  simp only [thn_eq]
  rw [at_eq h _ hK]
  simp only [Option.bind_some]
  have no : ∀ e, atL l (part_Span p.Tier p.Index).1 = some e → e.Part = p → hasP l p = true := by
    intro e he hp
    unfold atL at he
    simp only [Option.map_eq_some_iff] at he
    obtain ⟨x, hx, rfl⟩ := he
    exact hasP_iff.2 ⟨x, List.mem_of_find?_eq_some hx, hp⟩
  have yes : hasP l p = true → ∃ e, atL l (part_Span p.Tier p.Index).1 = some e ∧ e.Part = p := by
    intro hp
    obtain ⟨x, hx, hxp⟩ := hasP_iff.1 hp
    have hr : rtP p := hxp ▸ h.rt x hx
    rw [span_right hr.1 hr.2]
    have hk := h.key x hx
    have hlt := h.srt.1 x hx
    refine ⟨x.v, ?_, hxp⟩
    unfold atL
    rw [find_con h hx]
    · rfl
    · have e1 : fromI p.Tier p.Index = kk x := by simp only [kk]; rw [hk, hxp]; rfl
      simp only [con, e1]
      simp; omega
  cases ha : atL l (part_Span p.Tier p.Index).1 with
  | none =>
    refine ⟨_, rfl, ?_⟩
    cases hp : hasP l p with
    | false => rfl
    | true =>
      obtain ⟨e, he, _⟩ := yes hp
      rw [ha] at he; cases he
  | some e =>
    show ∃ t, (if (!((e.Part.Tier == p.Tier) && ((e.Part.Index == p.Index) && true))) = true then some (0, 0, 0, 0, 0, false, false) else some (e.Part.Tier, e.Part.Index, e.Seg, e.Mark, e.Rows, e.Cold, true)) = some t ∧ _
    by_cases hp : e.Part = p
    · have e2 : ((e.Part.Tier == p.Tier) && ((e.Part.Index == p.Index) && true)) = true := by rw [hp]; simp
      rw [e2, no e ha hp]
      exact ⟨_, rfl, rfl⟩
    · have e2 : ((e.Part.Tier == p.Tier) && ((e.Part.Index == p.Index) && true)) = false := by
        rw [Bool.eq_false_iff]
        intro hc
        simp at hc
        apply hp
        have : e.Part = ⟨e.Part.Tier, e.Part.Index⟩ := rfl
        rw [this, hc.1, hc.2]
      rw [e2]
      refine ⟨_, rfl, ?_⟩
      cases hp2 : hasP l p with
      | false => rfl
      | true =>
        obtain ⟨e', he', hp'⟩ := yes hp2
        rw [ha] at he'
        cases he'
        exact absurd hp' hp
theorem hasP_rt {l : List Pr} (h : Cat l) {p : Api_Part} (hp : hasP l p = true) : rtP p := by
  obtain ⟨x, hx, hxp⟩ := hasP_iff.1 hp
  exact hxp ▸ h.rt x hx
theorem omapDrop_eq {K : Nat} {l : List Pr} (h : Cat l) {p : Api_Part} (hp : hasP l p = true) (hK : 200000 ≤ K) : omap_Map__int64__api_Entry_Drop_O K l (loP p) = some (drop1 l p, true) := by
  obtain ⟨x, hx, hxp⟩ := hasP_iff.1 hp
  have hk : x.k = loP p := by rw [h.key x hx, hxp]
  obtain ⟨h1, h2⟩ := key_at h hx hk
  have hlen := h.len
  unfold omap_Map__int64__api_Entry_Drop_O
  rw [place_eq h _ hK]
  have hd : decide (cnt kk l (loP p) < l.length ∧ (l.getD (cnt kk l (loP p)) zP).k = loP p) = true := by simp only [h1, h2, and_self, decide_true]
  rw [hd]
  simp only [Option.bind_some, if_true]
  rw [w64_id (by omega)]
  unfold slices_Delete____omap_pair__int64__api_Entry__omap_pair__int64__api_Entry delL
  rw [if_pos ⟨by omega, by omega, by omega⟩]
  simp only [Option.bind_some, Int.toNat_natCast]
  have e : ((cnt kk l (loP p) : Int) + 1).toNat = cnt kk l (loP p) + 1 := by omega
  rw [e, at_key h.srt h1 h2]
  rfl
theorem drop1_cat {l : List Pr} (h : Cat l) (p : Api_Part) : Cat (drop1 l p) := h.sub List.filter_sublist
theorem dropAll_cat : ∀ {ps : List Api_Part} {l m : List Pr}, Cat l → dropAll l ps = some m → Cat m ∧ m.length ≤ l.length
  | [], l, m, h, hd => by
    simp [dropAll] at hd; subst hd; exact ⟨h, Nat.le_refl _⟩
  | p :: ps, l, m, h, hd => by
    unfold dropAll at hd
    split at hd
    · obtain ⟨h1, h2⟩ := dropAll_cat (drop1_cat h p) hd
      have : (drop1 l p).length ≤ l.length := List.length_filter_le ..
      exact ⟨h1, by omega⟩
    · cases hd
theorem applyORR_drops {K : Nat} (l0 : List Pr) (ps : List Api_Part) (hps : ps.length ≤ 100000) (hK : 200000 ≤ K) : ∀ (f i : Nat) (l : List Pr), Cat l → i ≤ ps.length → ps.length - i < f →
    catalog_Catalog_Apply_ORR_l0 K l0 ps f i l = some (match dropAll l (ps.drop i) with | some m => Sum.inl m | none => Sum.inr (11, l0))
  | 0, i, l, h, h2, h3 => by omega
  | f + 1, i, l, h, h2, h3 => by
    unfold catalog_Catalog_Apply_ORR_l0
    by_cases hi : i < ps.length
    · rw [if_pos (by omega), if_pos (by omega)]
      simp only [Int.toNat_natCast]
      rw [List.drop_eq_getElem_cons hi]
      rw [getPt hi]
      obtain ⟨t, ht1, ht2⟩ := get_eq h ps[i] hK
      rw [ht1]
      simp only [Option.bind_some, ht2]
      unfold dropAll
      by_cases hp : hasP l ps[i] = true
      · rw [hp]
        simp only [Bool.not_true, Bool.false_eq_true, if_false, if_true, thn_eq]
        have hr := hasP_rt h hp
        rw [span_right hr.1 hr.2]
        have e1 : fromI ps[i].Tier ps[i].Index = loP ps[i] := rfl
        simp only [e1]
        rw [omapDrop_eq h hp hK]
        simp only [Option.bind_some]
        rw [w64_id (by omega)]
        have e : ((i : Int) + 1) = ((i + 1 : Nat) : Int) := by omega
        rw [e]
        exact applyORR_drops l0 ps hps hK f (i + 1) _ (drop1_cat h _) (by omega) (by omega)
      · have hp' : hasP l ps[i] = false := by simpa using hp
        rw [hp']
        simp
    · rw [if_neg (by omega), List.drop_eq_nil_of_le (by omega)]
      simp [dropAll]
def applyL (l : List Pr) (ps : List Api_Part) (es : List En) : Int × List Pr := match dropAll l ps with | none => (11, l) | some m => if (putAll m es).1 = 0 then (0, (putAll m es).2) else ((putAll m es).1, l)
theorem applyORR_eq {K : Nat} {l : List Pr} (h : Cat l) (ps : List Api_Part) (hps : ps.length ≤ 100000) (es : List En) (hes : l.length + es.length ≤ 10000) (hK : 200000 ≤ K) : catalog_Catalog_Apply_ORR K l ps es = some (applyL l ps es) := by
  have hlen := h.len
  unfold catalog_Catalog_Apply_ORR applyL
  rw [copy_eq (by omega) hK]
  simp only [Option.bind_some]
  have hd := applyORR_drops (K := K) l ps hps hK K 0 l h (by omega) (by omega)
  have e0 : ((0 : Nat) : Int) = 0 := rfl
  rw [e0] at hd
  rw [hd, List.drop_zero]
  simp only [Option.bind_some]
  cases hm : dropAll l ps with
  | none => simp [cas]
  | some m =>
  obtain ⟨cm, lm⟩ := dropAll_cat h hm
  simp only [cas]
  have hp := applyORR_puts (K := K) l es (by omega) hK K 0 m cm (by omega) (by omega) (by omega)
  have e1 : ((0 : Nat) : Int) = 0 := rfl
  rw [e1] at hp
  rw [hp, List.drop_zero]
  simp only [Option.bind_some]
  by_cases h0 : (putAll m es).1 = 0
  · rw [if_pos h0, if_pos h0] <;> rfl
  · rw [if_neg h0, if_neg h0] <;> rfl
end Go.Proofs.Ythdggcleffadeaa.CatalogEach
