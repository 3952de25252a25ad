/- The plain law of CatalogEach, a part of its own: the document's edits with drops, and what many edits come to. No machine in it. -/
import Derived.Test.YthdggcleffadeaaCatalogEachLawD
set_option linter.unusedVariables false
set_option linter.unusedSimpArgs false
set_option maxRecDepth 20000
namespace Go.Proofs.Ythdggcleffadeaa.CatalogEach
open Go E

theorem refDrop_l0 {K : Nat} (l : List En) (p : Api_Part) (hl : l.length ≤ 100000) : ∀ (f i : Nat) (q : Bool) (z : List En), z.length ≤ i → i ≤ l.length → l.length - i < f →
    ossuaryref20_drop_R_l0 K l p.Tier p.Index f q i z = some (z ++ (l.drop i).filter (fun x => !decide (x.Part = p)), q || (l.drop i).any fun x => decide (x.Part = p))
  | 0, i, q, z, h0, h1, h2 => by omega
  | f + 1, i, q, z, h0, h1, h2 => by
    unfold ossuaryref20_drop_R_l0
    by_cases hi : i < l.length
    · rw [if_pos (by omega), if_pos (by omega)]
      simp only [Int.toNat_natCast, getE hi]
      rw [List.drop_eq_getElem_cons hi, List.filter_cons, List.any_cons, w64_id (by omega)]
      have e1 : ((i : Int) + 1) = ((i + 1 : Nat) : Int) := by omega
      rw [e1]
      generalize l[i] = x
      have e2 : ((x.Part.Tier == p.Tier) && ((x.Part.Index == p.Index) && true)) = decide (x.Part = p) := by
        rw [Bool.eq_iff_iff]
        simp only [Bool.and_eq_true, beq_iff_eq, and_true, decide_eq_true_eq]
        constructor
        · rintro ⟨a, b⟩
          have : x.Part = ⟨x.Part.Tier, x.Part.Index⟩ := rfl
          rw [this, a, b]
        · intro h; rw [h]; exact ⟨rfl, rfl⟩
      simp only [e2]
      by_cases hp : x.Part = p
      · simp only [hp, decide_true, if_true, Bool.not_true, Bool.false_eq_true, if_false]
        rw [refDrop_l0 l p hl f (i + 1) true z (by omega) (by omega) (by omega)]
        simp
      · simp only [hp, decide_false, Bool.false_eq_true, if_false, Bool.not_false, if_true]
        rw [if_pos (by simp; omega), refDrop_l0 l p hl f (i + 1) q _ (by simp; omega) (by omega) (by omega)]
        simp
    · rw [if_neg (by omega), List.drop_eq_nil_of_le (by omega)]
      simp
theorem key_one {l : List Pr} (h : Cat l) {x y : Pr} (hx : x ∈ l) (hy : y ∈ l) (hk : x.k = y.k) : x = y := by
  have hp : l.Pairwise fun a b => a.k < b.k := by
    refine List.Pairwise.imp_of_mem (fun {a b} ha hb hab => ?_) h.srt.2
    have := h.srt.1 a ha
    simp only [kk] at this hab
    omega
  rcases List.getElem_of_mem hx with ⟨i, hi, rfl⟩
  rcases List.getElem_of_mem hy with ⟨j, hj, rfl⟩
  rcases Nat.lt_trichotomy i j with hij | rfl | hij
  · have := List.pairwise_iff_getElem.1 hp i j hi hj hij; omega
  · rfl
  · have := List.pairwise_iff_getElem.1 hp j i hj hi hij; omega
theorem drop1_part {l : List Pr} (h : Cat l) {p : Api_Part} (hp : hasP l p = true) : l.filter (fun x => !decide (x.v.Part = p)) = drop1 l p := by
  obtain ⟨y, hy, hyp⟩ := hasP_iff.1 hp
  unfold drop1
  apply List.filter_congr
  intro x hx
  congr 1
  rw [decide_eq_decide]
  constructor
  · intro e; rw [h.key x hx, e]
  · intro e
    have : x = y := key_one h hx hy (by rw [e, h.key y hy, hyp])
    rw [this, hyp]
theorem refDrop_eq {K : Nat} {l : List Pr} (h : Cat l) (p : Api_Part) (hK : 200000 ≤ K) : ∃ m, ossuaryref20_drop_R K (l.map (·.v)) p.Tier p.Index = some (m, hasP l p) ∧ (hasP l p = true → m = (drop1 l p).map (·.v)) := by
  unfold ossuaryref20_drop_R
  have hlen := h.len
  have hl := refDrop_l0 (K := K) (l.map (·.v)) p (by simp; omega) K 0 false [] (by simp) (by omega) (by simp; omega)
  have e0 : ((0 : Nat) : Int) = 0 := rfl
  rw [e0] at hl
  rw [hl, List.drop_zero, List.nil_append]
  refine ⟨_, by simp only [Bool.false_or, List.any_map]; rfl, fun hp => ?_⟩
  rw [List.filter_map, ← drop1_part h hp]
  rfl
theorem refDrops_l0 {K : Nat} {ps : List Api_Part} (hps : ps.length ≤ 100000) (hK : 200000 ≤ K) (l0 : List En) : ∀ (f i : Nat) (l : List Pr), Cat l → i ≤ ps.length → ps.length - i < f →
    ossuaryref20_Apply_RRR_l0 K ps f i l0 (l.map (·.v)) = some (match dropAll l (ps.drop i) with | some m => Sum.inl (l0, m.map (·.v)) | none => Sum.inr (11, l0))
  | 0, i, l, h, h2, h3 => by omega
  | f + 1, i, l, h, h2, h3 => by
    unfold ossuaryref20_Apply_RRR_l0
    by_cases hi : i < ps.length
    · rw [if_pos (by omega), if_pos (by omega)]
      simp only [Int.toNat_natCast, getPt hi]
      rw [List.drop_eq_getElem_cons hi]
      obtain ⟨m, hm1, hm2⟩ := refDrop_eq (K := K) h ps[i] hK
      rw [hm1]
      simp only [Option.bind_some]
      unfold dropAll
      by_cases hp : hasP l ps[i] = true
      · rw [hp, hm2 hp]
        simp only [Bool.not_true, Bool.false_eq_true, if_false, if_true]
        rw [w64_id (by omega)]
        have e : ((i : Int) + 1) = ((i + 1 : Nat) : Int) := by omega
        rw [e]
        exact refDrops_l0 hps hK l0 f (i + 1) _ (drop1_cat h _) (by omega) (by omega)
      · have hp' : hasP l ps[i] = false := by simpa using hp
        rw [hp']
        simp
    · rw [if_neg (by omega), List.drop_eq_nil_of_le (by omega)]
      simp [dropAll]
theorem refApplyD_eq {K : Nat} {l : List Pr} (h : Cat l) (ps : List Api_Part) (hps : ps.length ≤ 100000) {es : List En} (hes : l.length + es.length ≤ 10000) (hK : 200000 ≤ K) : ossuaryref20_Apply_RRR K (l.map (·.v)) ps es = some ((applyL l ps es).1, (applyL l ps es).2.map (·.v)) := by
  unfold ossuaryref20_Apply_RRR applyL
  have hd := refDrops_l0 (K := K) hps hK (l.map (·.v)) K 0 l h (by omega) (by omega)
  have e0 : ((0 : Nat) : Int) = 0 := rfl
  rw [e0] at hd
  rw [hd, List.drop_zero]
  cases hm : dropAll l ps with
  | none => simp [cas]
  | some m =>
    obtain ⟨cm, lm⟩ := dropAll_cat h hm
    simp only [Option.bind_some, cas]
    have hp := refApply_l1 (K := K) (es := es) (by omega) hK (l.map (·.v)) K 0 m cm (by omega) (by omega) (by omega)
    rw [e0] at hp
    rw [hp, List.drop_zero]
    by_cases h0 : (putAll m es).1 = 0
    · simp [h0]
    · simp [h0]
def okA (x : Ossuarylaw20_Act) : Prop := x.Drop.xs.length ≤ 30 ∧ x.Put.xs.length ≤ 30
theorem getA {l : List Ossuarylaw20_Act} {i : Nat} (hi : i < l.length) : l.getD i z_Ossuarylaw20_Act = l[i] := by simp [List.getD_eq_getElem?_getD, List.getElem?_eq_getElem hi]
theorem made_l0 {K : Nat} {l : List Ossuarylaw20_Act} (hl : l.length ≤ 40) (ho : ∀ x ∈ l, okA x) (hK : 200000 ≤ K) : ∀ (f i : Nat) (c : List Pr), Cat c → c.length ≤ 30 * i → i ≤ l.length → l.length - i < f →
    ∃ d, Cat d ∧ d.length ≤ 1200 ∧ ossuarylaw20_made_R_l0 K l f i c (c.map (·.v)) = some (d, d.map (·.v))
  | 0, i, c, h, h1, h2, h3 => by omega
  | f + 1, i, c, h, h1, h2, h3 => by
    unfold ossuarylaw20_made_R_l0
    by_cases hi : i < l.length
    · rw [if_pos (by omega), if_pos (by omega)]
      simp only [Int.toNat_natCast, getA hi]
      obtain ⟨o1, o2⟩ := ho _ (List.getElem_mem hi)
      generalize l[i] = x at o1 o2 ⊢
      rw [applyORR_eq h x.Drop.xs (by omega) x.Put.xs (by omega) hK]
      simp only [Option.bind_some]
      rw [refApplyD_eq h x.Drop.xs (by omega) (es := x.Put.xs) (by omega) hK]
      simp only [Option.bind_some]
      obtain ⟨c1, c2⟩ := applyL_cat h x.Drop.xs (es := x.Put.xs) (by omega)
      rw [w64_id (by omega)]
      have e1 : ((i : Int) + 1) = ((i + 1 : Nat) : Int) := by omega
      rw [e1]
      exact made_l0 hl ho hK f (i + 1) _ c1 (by omega) (by omega) (by omega)
    · rw [if_neg (by omega)]
      exact ⟨c, h, by omega, rfl⟩
theorem made_eq {K : Nat} {l : List Ossuarylaw20_Act} (hl : l.length ≤ 40) (ho : ∀ x ∈ l, okA x) (hK : 200000 ≤ K) : ∃ d, Cat d ∧ d.length ≤ 1200 ∧ ossuarylaw20_made_R K l = some (d, d.map (·.v)) := by
  unfold ossuarylaw20_made_R
  simp only [thn_eq]
  exact made_l0 hl ho hK K 0 [] Cat.nil (by simp) (by omega) (by omega)
theorem back_eq {K : Nat} {c : List Pr} (h : Cat c) (hK : 200000 ≤ K) : ossuarylaw20_Back_O K c = some (c.map (·.v)) := by
  unfold ossuarylaw20_Back_O
  rw [over_eq h hK, if_pos (by omega)]
  unfold ovL
  rw [filter_all (fun x hx => by
    have h1 := loP_lt (h.rt x hx)
    have h2 := h.key x hx
    simp only [ovl, decide_eq_true_eq, kk, hh, h2]
    omega)]
  rfl
theorem same_l0 {K : Nat} (l : List En) (hl : l.length ≤ 100000) : ∀ (f i : Nat), i ≤ l.length → l.length - i < f → ossuaryref20_Same_RR_l0 K l l f i = some true
  | 0, i, h0, h1 => by omega
  | f + 1, i, h0, h1 => by
    unfold ossuaryref20_Same_RR_l0
    by_cases hi : i < l.length
    · rw [if_pos (by omega), if_pos (by omega), if_pos (by omega)]
      rw [w64_id (by omega)]
      have e1 : ((i : Int) + 1) = ((i + 1 : Nat) : Int) := by omega
      rw [e1, same_l0 l hl f (i + 1) (by omega) (by omega)]
      simp
    · rw [if_neg (by omega)]
theorem same_self {K : Nat} (l : List En) (hl : l.length ≤ 100000) (hK : 200000 ≤ K) : ossuaryref20_Same_RR K l l = some true := by
  unfold ossuaryref20_Same_RR
  rw [if_neg (by simp)]
  have := same_l0 (K := K) l hl K 0 (by omega) (by omega)
  have e0 : ((0 : Nat) : Int) = 0 := rfl
  rw [e0] at this
  exact this
end Go.Proofs.Ythdggcleffadeaa.CatalogEach
