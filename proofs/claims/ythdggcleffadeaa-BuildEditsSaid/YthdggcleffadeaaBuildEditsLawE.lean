/- The plain law of BuildEdits, fifth part: edits by building. No machine in it. -/
import Derived.Test.YthdggcleffadeaaBuildEditsLawD
set_option linter.unusedVariables false
set_option linter.unusedSimpArgs false
set_option maxRecDepth 20000
namespace Go.Proofs.Ythdggcleffadeaa.BuildEdits
open Go E

theorem made_l0 {K : Nat} {l : List En} (hl : l.length ≤ 100) (hK : 200000 ≤ K) : ∀ (f i : Nat) (c : List Pr), Cat c → c.length ≤ i → i ≤ l.length → l.length - i < f →
    ∃ d, Cat d ∧ d.length ≤ l.length ∧ ossuarylaw28_made_R_l0 K l f i c (c.map (·.v)) = some (d, d.map (·.v))
  | 0, i, c, h, h1, h2, h3 => by omega
  | f + 1, i, c, h, h1, h2, h3 => by
    unfold ossuarylaw28_made_R_l0
    by_cases hi : i < l.length
    · rw [if_pos (by omega), if_pos (by omega), w64_id (by omega), if_pos (by omega), if_pos (by omega)]
      have e1 : ((i : Int) + 1) = ((i + 1 : Nat) : Int) := by omega
      rw [e1]
      simp only [Int.toNat_natCast]
      generalize hes : ((l.drop i).take (i + 1 - i)) = es
      have hel : es.length ≤ 1 := by rw [← hes]; simp; omega
      rw [applyONR_eq h es (by omega) hK]
      simp only [Option.bind_some]
      rw [refApply_eq h (by omega) hK]
      simp only [Option.bind_some]
      obtain ⟨c1, c2⟩ := applyL_cat h [] (es := es) (by omega)
      exact made_l0 hl hK f (i + 1) _ c1 (by omega) (by omega) (by omega)
    · rw [if_neg (by omega)]
      exact ⟨c, h, by omega, rfl⟩
theorem made_eq {K : Nat} {l : List En} (hl : l.length ≤ 100) (hK : 200000 ≤ K) : ∃ d, Cat d ∧ d.length ≤ l.length ∧ ossuarylaw28_made_R K l = some (d, d.map (·.v)) := by
  unfold ossuarylaw28_made_R
  simp only [thn_eq]
  exact made_l0 hl hK K 0 [] Cat.nil (by simp) (by omega) (by omega)
def within (p q : Api_Part) : Prop := loP q ≤ loP p ∧ hiP p ≤ hiP q
instance (p q : Api_Part) : Decidable (within p q) := inferInstanceAs (Decidable (_ ∧ _))
theorem within_eq {p q : Api_Part} (hp : rtP p) (hq : rtP q) : part_Within p.Tier p.Index q.Tier q.Index = decide (within p q) := by
  unfold part_Within part_spans
  have h1 := loP_lt hp
  have h2 := loP_lt hq
  rw [span_right hp.1 hp.2, span_right hq.1 hq.2]
  have e1 : fromI p.Tier p.Index = loP p := rfl
  have e2 : toI p.Tier p.Index = hiP p := rfl
  have e3 : fromI q.Tier q.Index = loP q := rfl
  have e4 : toI q.Tier q.Index = hiP q := rfl
  simp only [thn_eq, e1, e2, e3, e4]
  have p0 : 0 < hiP p := by omega
  have q0 : 0 < hiP q := by omega
  simp only [p0, q0, decide_true, if_true]
  unfold within
  by_cases h : loP q ≤ loP p <;> simp [h]
def editL (c : List Pr) (e : En) : Int × List Api_Part × List En :=
  if okE e then (if ∀ x ∈ ovL c (loP e.Part) (hiP e.Part), within x.Part e.Part then (0, (ovL c (loP e.Part) (hiP e.Part)).map (·.Part), [e]) else (12, [], [])) else (4, [], [])
theorem ovL_len (c : List Pr) (a b : Int) : (ovL c a b).length ≤ c.length := by
  unfold ovL; rw [List.length_map]; exact List.length_filter_le ..
theorem ovL_rt {c : List Pr} (h : Cat c) {a b : Int} {x : En} (hx : x ∈ ovL c a b) : rtP x.Part := by
  unfold ovL at hx
  obtain ⟨y, hy, rfl⟩ := List.mem_map.1 hx
  exact h.rt y (List.mem_filter.1 hy).1
theorem edit_l0 {K : Nat} {e : En} {xs : List En} (he : rtP e.Part) (hr : ∀ x ∈ xs, rtP x.Part) (hl : xs.length ≤ 100000) : ∀ (f i : Nat) (z : List Api_Part), z.length ≤ i → i ≤ xs.length → xs.length - i < f →
    build_Edit_O_l0 K e.Part.Tier e.Part.Index xs f i z = some (if ∀ x ∈ xs.drop i, within x.Part e.Part then Sum.inl (z ++ (xs.drop i).map (·.Part)) else Sum.inr (12, [], []))
  | 0, i, z, h0, h1, h2 => by omega
  | f + 1, i, z, h0, h1, h2 => by
    unfold build_Edit_O_l0
    by_cases hi : i < xs.length
    · rw [if_pos (by omega), if_pos (by omega)]
      simp only [Int.toNat_natCast, thn_eq]
      rw [List.drop_eq_getElem_cons hi, getE hi, within_eq (hr _ (List.getElem_mem hi)) he]
      by_cases hw : within xs[i].Part e.Part
      · rw [decide_eq_true hw]
        simp only [Bool.not_true, Bool.false_eq_true, if_false]
        rw [if_pos (by simp; omega), w64_id (by omega)]
        have e1 : ((i : Int) + 1) = ((i + 1 : Nat) : Int) := by omega
        rw [e1, edit_l0 he hr hl f (i + 1) _ (by simp; omega) (by omega) (by omega)]
        generalize xs.drop (i + 1) = ys
        generalize xs[i] = x at hw ⊢
        simp [hw]
      · rw [decide_eq_false hw]
        generalize xs.drop (i + 1) = ys
        generalize xs[i] = x at hw ⊢
        simp [hw]
    · rw [if_neg (by omega), List.drop_eq_nil_of_le (by omega)]
      simp
theorem sources_eq {K : Nat} {c : List Pr} (h : Cat c) {p : Api_Part} (hp : rtP p) (hK : 200000 ≤ K) : build_Sources_O K c p.Tier p.Index = some (ovL c (loP p) (hiP p)) := by
  unfold build_Sources_O
  rw [span_right hp.1 hp.2]
  have e1 : fromI p.Tier p.Index = loP p := rfl
  have e2 : toI p.Tier p.Index = hiP p := rfl
  simp only [thn_eq, e1, e2]
  rw [over_eq h hK, if_pos (loP_lt hp).2.1]
  rfl
theorem edit_eq {K : Nat} {c : List Pr} (h : Cat c) (e : En) (hK : 200000 ≤ K) : build_Edit_O K c e.Part.Tier e.Part.Index e.Seg e.Mark e.Rows e.Cold = some (editL c e) := by
  unfold build_Edit_O editL
  rw [ok_eq]
  simp only [thn_eq]
  by_cases he : okE e
  · simp only [he, decide_true, Bool.not_true, Bool.false_eq_true, if_false, if_true]
    rw [sources_eq h he.1 hK]
    simp only [Option.bind_some]
    have hlen := h.len
    have hle := ovL_len c (loP e.Part) (hiP e.Part)
    have hlo := edit_l0 (K := K) (e := e) he.1 (fun x hx => ovL_rt h hx) (show (ovL c (loP e.Part) (hiP e.Part)).length ≤ 100000 by omega) K 0 [] (by simp) (by omega) (by omega)
    have e0 : ((0 : Nat) : Int) = 0 := rfl
    rw [e0] at hlo
    rw [hlo, List.drop_zero]
    simp only [Option.bind_some, List.nil_append]
    by_cases hw : ∀ x ∈ ovL c (loP e.Part) (hiP e.Part), within x.Part e.Part
    · rw [if_pos hw, if_pos hw]
      simp [cas]
    · rw [if_neg hw, if_neg hw]
      simp [cas]
  · simp only [he, decide_false, Bool.not_false, if_true, if_false]
theorem drop_some : ∀ {S : List Pr} {l : List Pr}, Cat l → (∀ x ∈ S, x ∈ l) → S.Pairwise (fun x y => x.k ≠ y.k) → dropAll l (S.map (·.v.Part)) = some (l.filter fun x => !(S.any fun y => decide (x.k = y.k)))
  | [], l, h, hs, hp => by
    have : l.filter (fun x => !(([] : List Pr).any fun y => decide (x.k = y.k))) = l := filter_all fun x _ => rfl
    rw [this]; rfl
  | y :: S, l, h, hs, hp => by
    have hy := hs y (by simp)
    obtain ⟨h1, h2⟩ := List.pairwise_cons.1 hp
    rw [List.map_cons]
    unfold dropAll
    rw [if_pos (hasP_iff.2 ⟨y, hy, rfl⟩)]
    have hk : loP y.v.Part = y.k := (h.key y hy).symm
    rw [drop_some (drop1_cat h _) (fun x hx => List.mem_filter.2 ⟨hs x (by simp [hx]), by rw [hk]; have := h1 x hx; simp; exact fun hc => this hc.symm⟩) h2]
    congr 1
    unfold drop1
    rw [List.filter_filter, hk]
    apply List.filter_congr
    intro x _
    simp [Bool.and_comm]
theorem key_inj {l : List Pr} (h : Cat l) {x y : Pr} (hx : x ∈ l) (hy : y ∈ l) (hk : x.k = y.k) : x = y := by
  obtain ⟨a1, a2⟩ := key_at h hx hk
  obtain ⟨i, hi1, hi2⟩ := List.getElem_of_mem hx
  obtain ⟨j, hj1, hj2⟩ := List.getElem_of_mem hy
  have e1 : l.getD i zP = x := by simp [List.getD_eq_getElem?_getD, List.getElem?_eq_getElem hi1, hi2]
  have e2 : l.getD j zP = y := by simp [List.getD_eq_getElem?_getD, List.getElem?_eq_getElem hj1, hj2]
  rcases Nat.lt_trichotomy i j with hij | hij | hij
  · have := getD_lt h hij hj1
    rw [e1, e2] at this; omega
  · subst hij; rw [← hi2, ← hj2]
  · have := getD_lt h hij hi1
    rw [e1, e2] at this; omega
/-- What is left where all that meet a range are gone. -/
def rest (c : List Pr) (e : En) : List Pr := c.filter fun x => !ovl kk hh (loP e.Part) (hiP e.Part) x
theorem drop_ovl {c : List Pr} (h : Cat c) (e : En) : dropAll c ((ovL c (loP e.Part) (hiP e.Part)).map (·.Part)) = some (rest c e) := by
  have e0 : (ovL c (loP e.Part) (hiP e.Part)).map (·.Part) = (c.filter (ovl kk hh (loP e.Part) (hiP e.Part))).map (·.v.Part) := by
    unfold ovL; rw [List.map_map]; rfl
  rw [e0, drop_some h (fun x hx => (List.mem_filter.1 hx).1)]
  · congr 1
    unfold rest
    apply List.filter_congr
    intro x hx
    congr 1
    rw [Bool.eq_iff_iff]
    simp only [List.any_eq_true, decide_eq_true_eq]
    constructor
    · rintro ⟨y, hy, hk⟩
      obtain ⟨hy1, hy2⟩ := List.mem_filter.1 hy
      rw [key_inj h hx hy1 hk]; exact hy2
    · intro ho
      exact ⟨x, List.mem_filter.2 ⟨hx, ho⟩, rfl⟩
  · have hs := (h.srt.sub (List.filter_sublist (p := ovl kk hh (loP e.Part) (hiP e.Part))))
    refine List.Pairwise.imp_of_mem ?_ hs.2
    intro x y hx hy hxy
    have := hs.1 x hx
    simp only [kk] at hxy this
    omega
theorem rest_cat {c : List Pr} (h : Cat c) (e : En) : Cat (rest c e) := h.sub List.filter_sublist
theorem rest_no (c : List Pr) (e : En) : (rest c e).filter (ovl kk hh (loP e.Part) (hiP e.Part)) = [] := by
  unfold rest
  rw [List.filter_filter]
  exact filter_none fun x _ => by simp
theorem rest_len (c : List Pr) (e : En) : (rest c e).length + (ovL c (loP e.Part) (hiP e.Part)).length = c.length := by
  unfold rest ovL
  rw [List.length_map]
  induction c with
  | nil => rfl
  | cons x c ih =>
    simp only [List.filter_cons]
    cases ovl kk hh (loP e.Part) (hiP e.Part) x <;> simp <;> omega
theorem ins_over {m : List Pr} {e e' : En} (he : rtP e'.Part) (hp : e'.Part = e.Part) (hno : m.filter (ovl kk hh (loP e.Part) (hiP e.Part)) = []) : ovL (ins m e') (loP e.Part) (hiP e.Part) = [e'] := by
  unfold ovL ins
  rw [hp] at he
  have hlt := loP_lt he
  have hn : ∀ x ∈ m, ovl kk hh (loP e.Part) (hiP e.Part) x = false := fun x hx => by
    have := List.filter_eq_nil_iff.1 hno x hx; simpa using this
  rw [List.filter_append, List.filter_cons, filter_none (fun x hx => hn x (List.mem_of_mem_take hx)), filter_none (fun x hx => hn x (List.mem_of_mem_drop hx))]
  have h1 : ovl kk hh (loP e.Part) (hiP e.Part) ⟨loP e'.Part, e'⟩ = true := by
    rw [mem_ovl]
    show loP e.Part < hiP e'.Part ∧ loP e'.Part < hiP e.Part
    rw [hp]; omega
  rw [h1]; simp
theorem ins_drop {m : List Pr} {e e' : En} (he : rtP e'.Part) (hp : e'.Part = e.Part) (h : Cat m) (hno : m.filter (ovl kk hh (loP e.Part) (hiP e.Part)) = []) : dropAll (ins m e') [e.Part] = some m := by
  unfold dropAll
  have hin : (⟨loP e'.Part, e'⟩ : Pr) ∈ ins m e' := by unfold ins; simp
  rw [if_pos (hasP_iff.2 ⟨_, hin, hp⟩)]
  unfold dropAll drop1 ins
  rw [hp] at he
  have hlt := loP_lt he
  have hn : ∀ x ∈ m, (!decide (x.k = loP e.Part)) = true := fun x hx => by
    have h1 := List.filter_eq_nil_iff.1 hno x hx
    have h2 := h.srt.1 x hx
    simp only [Bool.not_eq_true', decide_eq_false_iff_not]
    intro hk
    apply h1
    rw [mem_ovl]
    simp only [kk] at h2 ⊢
    omega
  rw [List.filter_append, List.filter_cons, filter_all (fun x hx => hn x (List.mem_of_mem_take hx)), filter_all (fun x hx => hn x (List.mem_of_mem_drop hx))]
  rw [hp]
  simp
end Go.Proofs.Ythdggcleffadeaa.BuildEdits
