/- The plain law of words: the text of any word. No machine in it. -/
import Derived.Test.YtgbjponaoeiglaaDoorWordsBaresLawA
set_option linter.unusedVariables false
set_option linter.unusedSimpArgs false
set_option maxRecDepth 20000
namespace Go.Proofs.YtgbjponaoeiglaaDoor.WordsBares
open Go E
def ix (c : UInt8) : Int := idxB ([48, 49, 50, 51, 52, 53, 54, 55, 56, 57, 97, 98, 99, 100, 101, 102] : List UInt8) c
theorem ix_eq (c : UInt8) : strings_IndexByte ([48, 49, 50, 51, 52, 53, 54, 55, 56, 57, 97, 98, 99, 100, 101, 102] : List UInt8) (c.toNat : Int) = ix c := by
  unfold strings_IndexByte ix
  rw [Int.toNat_natCast]
  congr 1
  exact UInt8.ofNat_toNat
theorem ix_all (c : UInt8) : ix c = -1 ∨ ∃ k : Nat, k < 16 ∧ ix c = k ∧ c = hx k := by
  have := byte_all (p := fun n => ix (UInt8.ofNat n) == -1 || (decide (0 ≤ ix (UInt8.ofNat n)) && decide (ix (UInt8.ofNat n) < 16) && hx (ix (UInt8.ofNat n)).toNat == UInt8.ofNat n)) (by decide +kernel) c
  rw [UInt8.ofNat_toNat] at this
  simp only [Bool.or_eq_true, Bool.and_eq_true, beq_iff_eq, decide_eq_true_eq] at this
  rcases this with h | ⟨⟨h1, h2⟩, h3⟩
  · exact .inl h
  · exact .inr ⟨(ix c).toNat, by omega, by omega, h3.symm⟩
theorem ix_hx : ∀ k, k < 16 → ix (hx k) = k := by decide +kernel
theorem val_eq : ∀ x, x < 16 → ∀ y, y < 16 → wu8 (bOr .i64 (bShl .i64 ((x : Nat) : Int) 4) ((y : Nat) : Int)) = ((16 * x + y : Nat) : Int) := by decide +kernel
theorem pl37 : pl 37 = false := by decide +kernel
/-- The byte of two digits, if it is one that is told so. -/
def dig2 (a b : UInt8) : Option UInt8 := if ix a < 0 then none else if ix b < 0 then none else
  if pl (UInt8.ofNat (16 * (ix a).toNat + (ix b).toNat)) = true then none else some (UInt8.ofNat (16 * (ix a).toNat + (ix b).toNat))
def D : List UInt8 → Option (List UInt8)
  | [] => some []
  | [c] => if pl c = true then some [c] else none
  | [c, a] => if pl c = true then (if pl a = true then some [c, a] else none) else none
  | c :: a :: b :: l => if pl c = true then (D (a :: b :: l)).map (c :: ·) else if c = 37 then (dig2 a b).bind fun v => (D l).map (v :: ·) else none
theorem D_plain (c : UInt8) (l : List UInt8) (h : pl c = true) : D (c :: l) = (D l).map (c :: ·) := by
  match l with
  | [] => simp [D, h]
  | [a] => by_cases ha : pl a = true <;> simp [D, h, ha]
  | a :: b :: l => simp [D, h]
theorem D_pct (a b : UInt8) (l : List UInt8) : D (37 :: a :: b :: l) = (dig2 a b).bind fun v => (D l).map (v :: ·) := by
  rw [D, if_neg (by rw [pl37]; simp), if_pos rfl]
theorem D_other (c : UInt8) (l : List UInt8) (h : ¬ pl c = true) (hc : ¬ c = 37) : D (c :: l) = none := by
  match l with
  | [] => simp [D, h]
  | [a] => simp [D, h]
  | a :: b :: l => simp [D, h, hc]
theorem D_short (c : UInt8) (l : List UInt8) (h : ¬ pl c = true) (hl : l.length ≤ 1) : D (c :: l) = none := by
  match l, hl with
  | [], _ => simp [D, h]
  | [a], _ => simp [D, h]
theorem ofNat_hi (c : UInt8) : UInt8.ofNat (16 * (c.toNat / 16) + c.toNat % 16) = c := by
  rw [Nat.div_add_mod]; exact UInt8.ofNat_toNat
theorem dig2_of (c : UInt8) (h : ¬ pl c = true) : dig2 (hx (c.toNat / 16)) (hx (c.toNat % 16)) = some c := by
  have h1 : c.toNat / 16 < 16 := by have := c.toNat_lt; omega
  have h2 : c.toNat % 16 < 16 := by omega
  unfold dig2
  rw [ix_hx _ h1, ix_hx _ h2, if_neg (by omega), if_neg (by omega), Int.toNat_natCast, Int.toNat_natCast, ofNat_hi, if_neg h]
theorem DQ : ∀ b : List UInt8, D (Q b) = some b
  | [] => rfl
  | c :: b => by
    have e : Q (c :: b) = qb c ++ Q b := rfl
    rw [e]
    unfold qb
    by_cases h : pl c = true
    · rw [if_pos h, List.singleton_append, D_plain c _ h, DQ b]; rfl
    · rw [if_neg h]
      simp only [List.cons_append, List.nil_append]
      rw [D_pct, dig2_of c h, Option.bind_some, DQ b]; rfl
theorem dig2_back {a b v : UInt8} (h : dig2 a b = some v) : ¬ pl v = true ∧ a = hx (v.toNat / 16) ∧ b = hx (v.toNat % 16) := by
  unfold dig2 at h
  rcases ix_all a with ha | ⟨x, hx1, ha, ea⟩
  · rw [ha, if_pos (by decide)] at h; cases h
  · rcases ix_all b with hb | ⟨y, hy1, hb, eb⟩
    · rw [ha, hb, if_neg (by omega), if_pos (by decide)] at h; cases h
    · rw [ha, hb, if_neg (by omega), if_neg (by omega), Int.toNat_natCast, Int.toNat_natCast] at h
      by_cases hp : pl (UInt8.ofNat (16 * x + y)) = true
      · rw [if_pos hp] at h; cases h
      · rw [if_neg hp] at h
        have hv := Option.some.inj h
        have hn : v.toNat = 16 * x + y := by rw [← hv, UInt8.toNat_ofNat']; omega
        refine ⟨by rw [← hv]; exact hp, ?_, ?_⟩
        · rw [ea, hn]; congr 1; omega
        · rw [eb, hn]; congr 1; omega
theorem QD : ∀ (n : Nat) (s b : List UInt8), s.length ≤ n → D s = some b → s = Q b
  | _, [], b, _, h => by cases h; rfl
  | 0, c :: s, b, hn, _ => by simp at hn
  | n + 1, c :: s, b, hn, h => by
    simp only [List.length_cons] at hn
    by_cases hp : pl c = true
    · rw [D_plain c s hp, Option.map_eq_some_iff] at h
      obtain ⟨b', h1, rfl⟩ := h
      have e : Q (c :: b') = qb c ++ Q b' := rfl
      rw [e, ← QD n s b' (by omega) h1]
      unfold qb
      rw [if_pos hp]; rfl
    · by_cases hc : c = 37
      · subst hc
        match s with
        | [] => simp [D, pl37] at h
        | [a] => simp [D, pl37] at h
        | a :: b2 :: s =>
          rw [D_pct, Option.bind_eq_some_iff] at h
          obtain ⟨v, hv, h⟩ := h
          rw [Option.map_eq_some_iff] at h
          obtain ⟨b', h1, rfl⟩ := h
          obtain ⟨q1, q2, q3⟩ := dig2_back hv
          have e : Q (v :: b') = qb v ++ Q b' := rfl
          simp only [List.length_cons] at hn
          rw [e, ← QD n s b' (by omega) h1]
          unfold qb
          rw [if_neg q1, ← q2, ← q3]; rfl
      · rw [D_other c s hp hc] at h; cases h
/-- What the program's loop comes to. -/
theorem bare0 (s : List UInt8) (hs : s.length ≤ 600) : ∀ (f i : Nat) (out : List UInt8), i ≤ s.length → s.length - i < f → out.length ≤ i →
    words_Bare_l0 W s f i (byts out) = some (match D (s.drop i) with | some b => Sum.inl (byts (out ++ b)) | none => Sum.inr (false, []))
  | 0, i, out, h0, h1, h2 => by omega
  | f + 1, i, out, h0, h1, h2 => by
    rw [words_Bare_l0]
    have hbo := byts_len out
    by_cases h : i < s.length
    · have e1 : s.drop i = s[i] :: s.drop (i + 1) := List.drop_eq_getElem_cons h
      rw [if_pos (by omega), if_pos (by omega)]
      simp only [Int.toNat_natCast, getD_at s i h, thn_eq]
      by_cases hp : pl s[i] = true
      · have hp' : words_plain (s[i].toNat : Int) = true := hp
        rw [if_pos hp', if_pos (by rw [hbo]; simp; omega), up1 (by omega)]
        have hb : byts out ++ [(s[i].toNat : Int)] = byts (out ++ [s[i]]) := by rw [byts_app]; rfl
        rw [hb, bare0 s hs f (i + 1) (out ++ [s[i]]) (by omega) (by omega) (by simp; omega), e1, D_plain _ _ hp]
        cases D (s.drop (i + 1)) with
        | none => rfl
        | some b => simp
      · have hp' : ¬ words_plain (s[i].toNat : Int) = true := hp
        rw [if_neg hp']
        by_cases hc : s[i] = 37
        · have hc' : (s[i].toNat : Int) = 37 := by rw [hc]; rfl
          rw [if_neg (by simpa using hc'), up1 (by omega), up2 (by omega)]
          by_cases hl : (s.length : Int) ≤ ((i + 2 : Nat) : Int)
          · rw [if_pos hl, e1, D_short _ _ hp (by simp; omega)]
          · have e2 : s.drop (i + 1) = s[i + 1] :: s.drop (i + 2) := List.drop_eq_getElem_cons (by omega)
            have e3 : s.drop (i + 2) = s[i + 2] :: s.drop (i + 3) := List.drop_eq_getElem_cons (by omega)
            rw [if_neg hl, if_pos (by omega), if_pos (by omega), if_pos (by omega), if_pos (by omega)]
            simp only [Int.toNat_natCast, getD_at s (i + 1) (by omega), getD_at s (i + 2) (by omega), ix_eq]
            rw [e1, e2, e3, hc, D_pct]
            unfold dig2
            rcases ix_all s[i + 1] with ha | ⟨x, hx1, ha, ea⟩
            · rw [ha, if_pos (by decide)]; simp
            · rcases ix_all s[i + 2] with hb | ⟨y, hy1, hb, eb⟩
              · rw [ha, hb, if_neg (by omega), if_pos (by decide)]; simp
              · rw [ha, hb, if_neg (by omega), if_neg (by omega), val_eq x hx1 y hy1, Int.toNat_natCast, Int.toNat_natCast]
                have hn : (UInt8.ofNat (16 * x + y)).toNat = 16 * x + y := by rw [UInt8.toNat_ofNat']; omega
                have hpv : words_plain ((16 * x + y : Nat) : Int) = pl (UInt8.ofNat (16 * x + y)) := by unfold pl; rw [hn]
                rw [hpv]
                have ne1 : ¬ ((x : Int) < 0) := by omega
                have ne2 : ¬ ((y : Int) < 0) := by omega
                by_cases hv : pl (UInt8.ofNat (16 * x + y)) = true
                · rw [if_pos hv, if_neg ne1, if_neg ne2, if_pos hv]; rfl
                · have hb2 : byts out ++ [((16 * x + y : Nat) : Int)] = byts (out ++ [UInt8.ofNat (16 * x + y)]) := by
                    rw [byts_app]
                    have : byts [UInt8.ofNat (16 * x + y)] = [((16 * x + y : Nat) : Int)] := by simp only [byts, List.map_cons, List.map_nil, hn]
                    rw [this]
                  have h3 : w64 (((i + 2 : Nat) : Int) + 1) = ((i + 3 : Nat) : Int) := up1 (by omega)
                  rw [if_neg hv, if_pos (by rw [hbo]; simp; omega), hb2, h3, bare0 s hs f (i + 3) _ (by omega) (by omega) (by simp; omega)]
                  simp only [ne1, ne2, hv, if_false, Option.bind_some, Bool.false_eq_true]
                  cases D (s.drop (i + 3)) with
                  | none => rfl
                  | some b => simp
        · have hc' : ¬ (s[i].toNat : Int) = 37 := fun e => hc (UInt8.toNat_inj.1 (show s[i].toNat = 37 by omega))
          rw [if_pos hc', e1, D_other _ _ hp hc]
    · rw [if_neg (by omega), List.drop_eq_nil_of_le (by omega)]
      simp [D]
/-! ### The document's -/
def hr (c : UInt8) : Nat := ((ossuaryref34_hex W (c.toNat : Int)).getD 0).toNat
theorem hr_eq (c : UInt8) : ossuaryref34_hex W (c.toNat : Int) = some ((hr c : Nat) : Int) ∧ hr c < 16 := by
  have := byte_all (p := fun n => match ossuaryref34_hex W (n : Int) with | some h => decide (0 ≤ h) && decide (h < 16) | none => false) (by decide +kernel) c
  unfold hr
  cases hh : ossuaryref34_hex W (c.toNat : Int) with
  | none => rw [hh] at this; cases this
  | some h =>
    rw [hh] at this
    simp only [Bool.and_eq_true, decide_eq_true_eq] at this
    simp only [Option.getD_some]
    exact ⟨by congr 1; omega, by omega⟩
theorem hr_hx : ∀ k, k < 16 → hr (hx k) = k := by decide +kernel
def R : List UInt8 → List UInt8
  | [] => []
  | [c] => [c]
  | [c, a] => [c, a]
  | c :: a :: b :: l => if c = 37 then UInt8.ofNat (16 * hr a + hr b) :: R l else c :: R (a :: b :: l)
theorem R_other (c : UInt8) (l : List UInt8) (h : ¬ c = 37) : R (c :: l) = c :: R l := by
  match l with
  | [] => rfl
  | [a] => rfl
  | a :: b :: l => simp [R, h]
theorem R_short (c : UInt8) (l : List UInt8) (h : l.length ≤ 1) : R (c :: l) = c :: R l := by
  match l, h with
  | [], _ => rfl
  | [a], _ => rfl
theorem R_pct (a b : UInt8) (l : List UInt8) : R (37 :: a :: b :: l) = UInt8.ofNat (16 * hr a + hr b) :: R l := by simp [R]
theorem RQ : ∀ b : List UInt8, R (Q b) = b
  | [] => rfl
  | c :: b => by
    have e : Q (c :: b) = qb c ++ Q b := rfl
    rw [e]
    unfold qb
    by_cases h : pl c = true
    · have hc : ¬ c = 37 := fun e => by rw [e, pl37] at h; cases h
      rw [if_pos h, List.singleton_append, R_other c _ hc, RQ b]
    · have h1 : c.toNat / 16 < 16 := by have := c.toNat_lt; omega
      rw [if_neg h]
      simp only [List.cons_append, List.nil_append]
      rw [R_pct, RQ b, hr_hx _ h1, hr_hx _ (by omega), ofNat_hi]
theorem R_len : ∀ (n : Nat) (s : List UInt8), s.length ≤ n → (R s).length ≤ s.length
  | _, [], _ => by simp [R]
  | 0, c :: s, h => by simp at h
  | n + 1, c :: s, h => by
    simp only [List.length_cons] at h
    match s with
    | [] => simp [R]
    | [a] => simp [R]
    | a :: b :: s =>
      simp only [List.length_cons] at h
      by_cases hc : c = 37
      · subst hc
        have := R_len n s (by omega)
        rw [R_pct]; simp only [List.length_cons]; omega
      · have := R_len n (a :: b :: s) (by simp; omega)
        rw [R_other c _ hc]; simp only [List.length_cons] at this ⊢; omega
theorem rbare0 (s : List UInt8) (hs : s.length ≤ 600) : ∀ (f i : Nat) (out : List UInt8), i ≤ s.length → s.length - i < f → out.length ≤ i →
    ossuaryref34_Bare_l0 W s f i (byts out) = some (byts (out ++ R (s.drop i)))
  | 0, i, out, h0, h1, h2 => by omega
  | f + 1, i, out, h0, h1, h2 => by
    rw [ossuaryref34_Bare_l0]
    have hbo := byts_len out
    by_cases h : i < s.length
    · have e1 : s.drop i = s[i] :: s.drop (i + 1) := List.drop_eq_getElem_cons h
      have hb : byts out ++ [(s[i].toNat : Int)] = byts (out ++ [s[i]]) := by rw [byts_app]; rfl
      have one : R (s[i] :: s.drop (i + 1)) = s[i] :: R (s.drop (i + 1)) → (if ((byts out).length + [(s[i].toNat : Int)].length) * 1 ≤ 140737488355328 then ossuaryref34_Bare_l0 W s f (w64 ((i : Int) + 1)) (byts out ++ [(s[i].toNat : Int)]) else none) = some (byts (out ++ R (s.drop i))) := by
        intro hR
        rw [if_pos (by rw [hbo]; simp; omega), up1 (by omega), hb, rbare0 s hs f (i + 1) _ (by omega) (by omega) (by simp; omega), e1, hR]
        simp
      rw [if_pos (by omega), if_pos (by omega)]
      simp only [Int.toNat_natCast, getD_at s i h]
      by_cases hc : s[i] = 37
      · have hc' : (s[i].toNat : Int) = 37 := by rw [hc]; rfl
        rw [if_pos hc', up2 (by omega)]
        by_cases hl : ((i + 2 : Nat) : Int) < (s.length : Int)
        · have e2 : s.drop (i + 1) = s[i + 1] :: s.drop (i + 2) := List.drop_eq_getElem_cons (by omega)
          have e3 : s.drop (i + 2) = s[i + 2] :: s.drop (i + 3) := List.drop_eq_getElem_cons (by omega)
          have q1 := hr_eq s[i + 1]
          have q2 := hr_eq s[i + 2]
          rw [if_pos hl, up1 (by omega), if_pos (by omega), if_pos (by omega)]
          simp only [Int.toNat_natCast, getD_at s (i + 1) (by omega), getD_at s (i + 2) (by omega)]
          rw [q1.1]
          simp only [Option.bind_some]
          rw [if_pos (by omega), q2.1]
          simp only [Option.bind_some]
          have hv : wu8 (w64 ((w64 (16 * (hr s[i + 1] : Int))) + (hr s[i + 2] : Int))) = ((16 * hr s[i + 1] + hr s[i + 2] : Nat) : Int) := by
            rw [w64_id (n := 16 * (hr s[i + 1] : Int)) (by omega), w64_id (by omega), wu8_id (by omega)]; omega
          have hn : (UInt8.ofNat (16 * hr s[i + 1] + hr s[i + 2])).toNat = 16 * hr s[i + 1] + hr s[i + 2] := by rw [UInt8.toNat_ofNat']; omega
          have hb2 : byts out ++ [((16 * hr s[i + 1] + hr s[i + 2] : Nat) : Int)] = byts (out ++ [UInt8.ofNat (16 * hr s[i + 1] + hr s[i + 2])]) := by
            rw [byts_app]
            have : byts [UInt8.ofNat (16 * hr s[i + 1] + hr s[i + 2])] = [((16 * hr s[i + 1] + hr s[i + 2] : Nat) : Int)] := by simp only [byts, List.map_cons, List.map_nil, hn]
            rw [this]
          have h3 : w64 (((i + 2 : Nat) : Int) + 1) = ((i + 3 : Nat) : Int) := up1 (by omega)
          rw [hv, if_pos (by rw [hbo]; simp; omega), h3, hb2, rbare0 s hs f (i + 3) _ (by omega) (by omega) (by simp; omega), e1, e2, e3, hc, R_pct]
          simp
        · rw [if_neg hl]
          exact one (R_short _ _ (by simp; omega))
      · have hc' : ¬ (s[i].toNat : Int) = 37 := fun e => hc (UInt8.toNat_inj.1 (show s[i].toNat = 37 by omega))
        rw [if_neg hc']
        exact one (R_other _ _ hc)
    · rw [if_neg (by omega), List.drop_eq_nil_of_le (by omega)]
      simp [R]
/-- Both say the same of any word. -/
theorem bares (s : List UInt8) (hs : s.length ≤ 600) : ∃ b t, words_Bare W s = some (b, t) ∧ ossuaryref34_Bare W s = some (t, b) := by
  unfold words_Bare ossuaryref34_Bare
  by_cases h45 : s = [45]
  · rw [if_pos h45, if_neg (by simpa using h45)]
    simp only [Option.bind_some]
    rw [show strs ([] : List Int) = [] from rfl, rquote_eq [] (by simp)]
    simp only [Option.bind_some]
    rw [if_neg (by rw [h45]; simp [word])]
    exact ⟨true, [], rfl, rfl⟩
  · have e := bare0 s hs W 0 [] (by omega) (by unfold W; omega) (by simp)
    have r := rbare0 s hs W 0 [] (by omega) (by unfold W; omega) (by simp)
    have e0 : ((0 : Nat) : Int) = 0 := rfl
    rw [e0, List.drop_zero] at e r
    have eb : byts ([] : List UInt8) = [] := rfl
    rw [eb] at e r
    rw [List.nil_append] at r
    have hrl := R_len s.length s (Nat.le_refl _)
    rw [if_neg h45, if_pos h45, e, r]
    simp only [Option.bind_some]
    rw [strs_byts, rquote_eq (R s) (by omega)]
    simp only [Option.bind_some]
    cases hD : D s with
    | none =>
      simp only [cas]
      have : ¬ word (R s) = s := by
        intro hw
        unfold word at hw
        by_cases hR : R s = []
        · rw [if_pos hR] at hw; exact h45 hw.symm
        · rw [if_neg hR] at hw
          rw [← hw, DQ] at hD; cases hD
      rw [if_pos this]
      exact ⟨false, [], rfl, rfl⟩
    | some b =>
      simp only [cas, List.nil_append]
      have hq := QD s.length s b (Nat.le_refl _) hD
      have hR : R s = b := by rw [hq, RQ]
      have hlb := byts_len b
      have hdec : decide (0 < ((byts b).length : Int)) = decide (0 < (b.length : Int)) := by rw [decide_eq_decide]; omega
      rw [hR, hdec, strs_byts]
      by_cases hb : b = []
      · subst hb
        have hs0 : s = [] := hq
        rw [if_pos (by rw [hs0]; simp [word])]
        exact ⟨false, [], rfl, rfl⟩
      · have hl : 0 < b.length := by cases b with | nil => exact absurd rfl hb | cons _ _ => simp
        have hw : word b = s := by unfold word; rw [if_neg hb, hq]
        rw [if_neg (by rw [hw]; simp)]
        exact ⟨true, b, by rw [show decide (0 < (b.length : Int)) = true from decide_eq_true (by omega)], rfl⟩
end Go.Proofs.YtgbjponaoeiglaaDoor.WordsBares
