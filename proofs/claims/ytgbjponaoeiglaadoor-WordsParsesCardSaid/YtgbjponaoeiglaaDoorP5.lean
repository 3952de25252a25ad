/- wordsParses_card: the given statement is proved: no condition ahead of it; before it what its proof rests on. -/
import Derived.Test.YtgbjponaoeiglaaDoorP4
import Derived.Test.YtgbjponaoeiglaaDoorRows
set_option linter.unusedVariables false
set_option linter.unusedSimpArgs false
section
set_option linter.unusedVariables false
set_option linter.unusedSimpArgs false
set_option maxRecDepth 20000
namespace Go.Proofs.YtgbjponaoeiglaaDoor.WordsParses
open Go E
def ix (c : UInt8) : Int := sV ([48, 49, 50, 51, 52, 53, 54, 55, 56, 57, 97, 98, 99, 100, 101, 102] : List UInt8) c
theorem AZ (c : UInt8) : strings_IndexByte ([48, 49, 50, 51, 52, 53, 54, 55, 56, 57, 97, 98, 99, 100, 101, 102] : List UInt8) (c.toNat : Int) = ix c := by
  unfold strings_IndexByte ix
  rw [Int.toNat_natCast]
  congr 1
  exact UInt8.ofNat_toNat
theorem sm (c : UInt8) : ix c = -1 ∨ ∃ k : Nat, k < 16 ∧ ix c = k ∧ c = hx k := by
  have := od (p := fun n => ix (UInt8.ofNat n) == -1 || (decide (0 ≤ ix (UInt8.ofNat n)) && decide (ix (UInt8.ofNat n) < 16) && hx (ix (UInt8.ofNat n)).toNat == UInt8.ofNat n)) (by decide +kernel) c
  rw [UInt8.ofNat_toNat] at this
  simp only [Bool.or_eq_true, Bool.and_eq_true, beq_iff_eq, decide_eq_true_eq] at this
  rcases this with h | ⟨⟨h1, h2⟩, h3⟩
  · exact .inl h
  · exact .inr ⟨(ix c).toNat, by omega, by omega, h3.symm⟩
theorem zj : ∀ k, k < 16 → ix (hx k) = k := by decide +kernel
theorem zQ : ∀ x, x < 16 → ∀ y, y < 16 → dR (wT .i64 (ot .i64 ((x : Nat) : Int) 4) ((y : Nat) : Int)) = ((16 * x + y : Nat) : Int) := by decide +kernel
theorem yI : pl 37 = false := by decide +kernel
def tL (a b : UInt8) : Option UInt8 := if ix a < 0 then none else if ix b < 0 then none else
  if pl (UInt8.ofNat (16 * (ix a).toNat + (ix b).toNat)) = true then none else some (UInt8.ofNat (16 * (ix a).toNat + (ix b).toNat))
def D : List UInt8 → Option (List UInt8)
  | [] => some []
  | [c] => if pl c = true then some [c] else none
  | [c, a] => if pl c = true then (if pl a = true then some [c, a] else none) else none
  | c :: a :: b :: l => if pl c = true then (D (a :: b :: l)).map (c :: ·) else if c = 37 then (tL a b).bind fun v => (D l).map (v :: ·) else none
theorem sn (c : UInt8) (l : List UInt8) (h : pl c = true) : D (c :: l) = (D l).map (c :: ·) := by
  match l with
  | [] => simp [D, h]
  | [a] => by_cases ha : pl a = true <;> simp [D, h, ha]
  | a :: b :: l => simp [D, h]
theorem xh (a b : UInt8) (l : List UInt8) : D (37 :: a :: b :: l) = (tL a b).bind fun v => (D l).map (v :: ·) := by
  rw [D, if_neg (by rw [yI]; simp), if_pos Z]
theorem vl (c : UInt8) (l : List UInt8) (h : ¬ pl c = true) (hc : ¬ c = 37) : D (c :: l) = none := by
  match l with
  | [] => simp [D, h]
  | [a] => simp [D, h]
  | a :: b :: l => simp [D, h, hc]
theorem yM (c : UInt8) (l : List UInt8) (h : ¬ pl c = true) (hl : l.length ≤ 1) : D (c :: l) = none := by
  match l, hl with
  | [], _ => simp [D, h]
  | [a], _ => simp [D, h]
theorem tn (c : UInt8) : UInt8.ofNat (16 * (c.toNat / 16) + c.toNat % 16) = c := by
  rw [Nat.div_add_mod]; exact UInt8.ofNat_toNat
theorem yF (c : UInt8) (h : ¬ pl c = true) : tL (hx (c.toNat / 16)) (hx (c.toNat % 16)) = some c := by
  have h1 : c.toNat / 16 < 16 := by have := c.toNat_lt; omega
  have h2 : c.toNat % 16 < 16 := by omega
  unfold tL
  rw [zj _ h1, zj _ h2, if_neg (by omega), if_neg (by omega), Int.toNat_natCast, Int.toNat_natCast, tn, if_neg h]
theorem DQ : ∀ b : List UInt8, D (Q b) = some b
  | [] => rfl
  | c :: b => by
    have e : Q (c :: b) = qb c ++ Q b := rfl
    rw [e]
    unfold qb
    by_cases h : pl c = true
    · rw [if_pos h, List.singleton_append, sn c _ h, DQ b]; rfl
    · rw [if_neg h]
      simp only [List.cons_append, List.nil_append]
      rw [xh, yF c h, Option.bind_some, DQ b]; rfl
theorem wx {a b v : UInt8} (h : tL a b = some v) : ¬ pl v = true ∧ a = hx (v.toNat / 16) ∧ b = hx (v.toNat % 16) := by
  unfold tL at h
  rcases sm a with ha | ⟨x, hx1, ha, ea⟩
  · rw [ha, if_pos (by decide)] at h; cases h
  · rcases sm b with hb | ⟨y, hy1, hb, eb⟩
    · rw [ha, hb, if_neg (by omega), if_pos (by decide)] at h; cases h
    · rw [ha, hb, if_neg (by omega), if_neg (by omega), Int.toNat_natCast, Int.toNat_natCast] at h
      by_cases hp : pl (UInt8.ofNat (16 * x + y)) = true
      · rw [if_pos hp] at h; cases h
      · rw [if_neg hp] at h
        have hv := Option.some.inj h
        have hn : v.toNat = 16 * x + y := by rw [← hv, UInt8.toNat_ofNat']; omega
        refine ⟨by rw [← hv]; exact hp, ?_, ?_⟩
        · rw [ea, hn]; congr 1; omega
        · rw [eb, hn]; congr 1; omega
theorem QD : ∀ (n : Nat) (s b : List UInt8), s.length ≤ n → D s = some b → s = Q b
  | _, [], b, _, h => by cases h; rfl
  | 0, c :: s, b, hn, _ => by simp at hn
  | n + 1, c :: s, b, hn, h => by
    simp only [List.length_cons] at hn
    by_cases hp : pl c = true
    · rw [sn c s hp, Option.map_eq_some_iff] at h
      obtain ⟨b', h1, rfl⟩ := h
      have e : Q (c :: b') = qb c ++ Q b' := rfl
      rw [e, ← QD n s b' (by omega) h1]
      unfold qb
      rw [if_pos hp]; rfl
    · by_cases hc : c = 37
      · subst hc
        match s with
        | [] => simp [D, yI] at h
        | [a] => simp [D, yI] at h
        | a :: b2 :: s =>
          rw [xh, Option.bind_eq_some_iff] at h
          obtain ⟨v, hv, h⟩ := h
          rw [Option.map_eq_some_iff] at h
          obtain ⟨b', h1, rfl⟩ := h
          obtain ⟨q1, q2, q3⟩ := wx hv
          have e : Q (v :: b') = qb v ++ Q b' := rfl
          simp only [List.length_cons] at hn
          rw [e, ← QD n s b' (by omega) h1]
          unfold qb
          rw [if_neg q1, ← q2, ← q3]; rfl
      · rw [vl c s hp hc] at h; cases h
theorem uP (s : List UInt8) (hs : s.length ≤ 600) : ∀ (f i : Nat) (out : List UInt8), i ≤ s.length → s.length - i < f → out.length ≤ i →
    ik W s f i (dj out) = some (match D (s.drop i) with | some b => Sum.inl (dj (out ++ b)) | none => Sum.inr (false, []))
  | 0, i, out, h0, h1, h2 => by omega
  | f + 1, i, out, h0, h1, h2 => by
    rw [ik]
    have hbo := kj out
    by_cases h : i < s.length
    · have e1 : s.drop i = s[i] :: s.drop (i + 1) := List.drop_eq_getElem_cons h
      rw [if_pos (by omega), if_pos (by omega)]
      simp only [Int.toNat_natCast, ga s i h, eZ]
      by_cases hp : pl s[i] = true
      · have hp' : gD (s[i].toNat : Int) = true := hp
        rw [if_pos hp', if_pos (by rw [hbo]; simp; omega), mA (by omega)]
        have hb : dj out ++ [(s[i].toNat : Int)] = dj (out ++ [s[i]]) := by rw [nM]; rfl
        rw [hb, uP s hs f (i + 1) (out ++ [s[i]]) (by omega) (by omega) (by simp; omega), e1, sn _ _ hp]
        cases D (s.drop (i + 1)) with
        | none => rfl
        | some b => simp
      · have hp' : ¬ gD (s[i].toNat : Int) = true := hp
        rw [if_neg hp']
        by_cases hc : s[i] = 37
        · have hc' : (s[i].toNat : Int) = 37 := by rw [hc]; rfl
          rw [if_neg (by simpa using hc'), mA (by omega), Bl (by omega)]
          by_cases hl : (s.length : Int) ≤ ((i + 2 : Nat) : Int)
          · rw [if_pos hl, e1, yM _ _ hp (by simp; omega)]
          · have e2 : s.drop (i + 1) = s[i + 1] :: s.drop (i + 2) := List.drop_eq_getElem_cons (by omega)
            have e3 : s.drop (i + 2) = s[i + 2] :: s.drop (i + 3) := List.drop_eq_getElem_cons (by omega)
            rw [if_neg hl, if_pos (by omega), if_pos (by omega), if_pos (by omega), if_pos (by omega)]
            simp only [Int.toNat_natCast, ga s (i + 1) (by omega), ga s (i + 2) (by omega), AZ]
            rw [e1, e2, e3, hc, xh]
            unfold tL
            rcases sm s[i + 1] with ha | ⟨x, hx1, ha, ea⟩
            · rw [ha, if_pos (by decide)]; simp
            · rcases sm s[i + 2] with hb | ⟨y, hy1, hb, eb⟩
              · rw [ha, hb, if_neg (by omega), if_pos (by decide)]; simp
              · rw [ha, hb, if_neg (by omega), if_neg (by omega), zQ x hx1 y hy1, Int.toNat_natCast, Int.toNat_natCast]
                have hn : (UInt8.ofNat (16 * x + y)).toNat = 16 * x + y := by rw [UInt8.toNat_ofNat']; omega
                have hpv : gD ((16 * x + y : Nat) : Int) = pl (UInt8.ofNat (16 * x + y)) := by unfold pl; rw [hn]
                rw [hpv]
                have ne1 : ¬ ((x : Int) < 0) := by omega
                have ne2 : ¬ ((y : Int) < 0) := by omega
                by_cases hv : pl (UInt8.ofNat (16 * x + y)) = true
                · rw [if_pos hv, if_neg ne1, if_neg ne2, if_pos hv]; rfl
                · have hb2 : dj out ++ [((16 * x + y : Nat) : Int)] = dj (out ++ [UInt8.ofNat (16 * x + y)]) := by
                    rw [nM]
                    have : dj [UInt8.ofNat (16 * x + y)] = [((16 * x + y : Nat) : Int)] := by simp only [dj, List.map_cons, List.map_nil, hn]
                    rw [this]
                  have h3 : bm (((i + 2 : Nat) : Int) + 1) = ((i + 3 : Nat) : Int) := mA (by omega)
                  rw [if_neg hv, if_pos (by rw [hbo]; simp; omega), hb2, h3, uP s hs f (i + 3) _ (by omega) (by omega) (by simp; omega)]
                  simp only [ne1, ne2, hv, if_false, Option.bind_some, Bool.false_eq_true]
                  cases D (s.drop (i + 3)) with
                  | none => rfl
                  | some b => simp
        · have hc' : ¬ (s[i].toNat : Int) = 37 := fun e => hc (UInt8.toNat_inj.1 (show s[i].toNat = 37 by omega))
          rw [if_pos hc', e1, vl _ _ hp hc]
    · rw [if_neg (by omega), List.drop_eq_nil_of_le (by omega)]
      simp [D]
def hr (c : UInt8) : Nat := ((eQ W (c.toNat : Int)).getD 0).toNat
theorem zB (c : UInt8) : eQ W (c.toNat : Int) = some ((hr c : Nat) : Int) ∧ hr c < 16 := by
  have := od (p := fun n => match eQ W (n : Int) with | some h => decide (0 ≤ h) && decide (h < 16) | none => false) (by decide +kernel) c
  unfold hr
  cases hh : eQ W (c.toNat : Int) with
  | none => rw [hh] at this; cases this
  | some h =>
    rw [hh] at this
    simp only [Bool.and_eq_true, decide_eq_true_eq] at this
    simp only [Option.getD_some]
    exact ⟨by congr 1; omega, by omega⟩
theorem zw : ∀ k, k < 16 → hr (hx k) = k := by decide +kernel
def R : List UInt8 → List UInt8
  | [] => []
  | [c] => [c]
  | [c, a] => [c, a]
  | c :: a :: b :: l => if c = 37 then UInt8.ofNat (16 * hr a + hr b) :: R l else c :: R (a :: b :: l)
theorem so (c : UInt8) (l : List UInt8) (h : ¬ c = 37) : R (c :: l) = c :: R l := by
  match l with
  | [] => rfl
  | [a] => rfl
  | a :: b :: l => simp [R, h]
theorem yR (c : UInt8) (l : List UInt8) (h : l.length ≤ 1) : R (c :: l) = c :: R l := by
  match l, h with
  | [], _ => rfl
  | [a], _ => rfl
theorem yl (a b : UInt8) (l : List UInt8) : R (37 :: a :: b :: l) = UInt8.ofNat (16 * hr a + hr b) :: R l := by simp [R]
theorem RQ : ∀ b : List UInt8, R (Q b) = b
  | [] => rfl
  | c :: b => by
    have e : Q (c :: b) = qb c ++ Q b := rfl
    rw [e]
    unfold qb
    by_cases h : pl c = true
    · have hc : ¬ c = 37 := fun e => by rw [e, yI] at h; cases h
      rw [if_pos h, List.singleton_append, so c _ hc, RQ b]
    · have h1 : c.toNat / 16 < 16 := by have := c.toNat_lt; omega
      rw [if_neg h]
      simp only [List.cons_append, List.nil_append]
      rw [yl, RQ b, zw _ h1, zw _ (by omega), tn]
theorem uT : ∀ (n : Nat) (s : List UInt8), s.length ≤ n → (R s).length ≤ s.length
  | _, [], _ => by simp [R]
  | 0, c :: s, h => by simp at h
  | n + 1, c :: s, h => by
    simp only [List.length_cons] at h
    match s with
    | [] => simp [R]
    | [a] => simp [R]
    | a :: b :: s =>
      simp only [List.length_cons] at h
      by_cases hc : c = 37
      · subst hc
        have := uT n s (by omega)
        rw [yl]; simp only [List.length_cons]; omega
      · have := uT n (a :: b :: s) (by simp; omega)
        rw [so c _ hc]; simp only [List.length_cons] at this ⊢; omega
theorem sa (s : List UInt8) (hs : s.length ≤ 600) : ∀ (f i : Nat) (out : List UInt8), i ≤ s.length → s.length - i < f → out.length ≤ i →
    dN W s f i (dj out) = some (dj (out ++ R (s.drop i)))
  | 0, i, out, h0, h1, h2 => by omega
  | f + 1, i, out, h0, h1, h2 => by
    rw [dN]
    have hbo := kj out
    by_cases h : i < s.length
    · have e1 : s.drop i = s[i] :: s.drop (i + 1) := List.drop_eq_getElem_cons h
      have hb : dj out ++ [(s[i].toNat : Int)] = dj (out ++ [s[i]]) := by rw [nM]; rfl
      have one : R (s[i] :: s.drop (i + 1)) = s[i] :: R (s.drop (i + 1)) → (if ((dj out).length + [(s[i].toNat : Int)].length) * 1 ≤ 140737488355328 then dN W s f (bm ((i : Int) + 1)) (dj out ++ [(s[i].toNat : Int)]) else none) = some (dj (out ++ R (s.drop i))) := by
        intro hR
        rw [if_pos (by rw [hbo]; simp; omega), mA (by omega), hb, sa s hs f (i + 1) _ (by omega) (by omega) (by simp; omega), e1, hR]
        simp
      rw [if_pos (by omega), if_pos (by omega)]
      simp only [Int.toNat_natCast, ga s i h]
      by_cases hc : s[i] = 37
      · have hc' : (s[i].toNat : Int) = 37 := by rw [hc]; rfl
        rw [if_pos hc', Bl (by omega)]
        by_cases hl : ((i + 2 : Nat) : Int) < (s.length : Int)
        · have e2 : s.drop (i + 1) = s[i + 1] :: s.drop (i + 2) := List.drop_eq_getElem_cons (by omega)
          have e3 : s.drop (i + 2) = s[i + 2] :: s.drop (i + 3) := List.drop_eq_getElem_cons (by omega)
          have q1 := zB s[i + 1]
          have q2 := zB s[i + 2]
          rw [if_pos hl, mA (by omega), if_pos (by omega), if_pos (by omega)]
          simp only [Int.toNat_natCast, ga s (i + 1) (by omega), ga s (i + 2) (by omega)]
          rw [q1.1]
          simp only [Option.bind_some]
          rw [if_pos (by omega), q2.1]
          simp only [Option.bind_some]
          have hv : dR (bm ((bm (16 * (hr s[i + 1] : Int))) + (hr s[i + 2] : Int))) = ((16 * hr s[i + 1] + hr s[i + 2] : Nat) : Int) := by
            rw [cj (n := 16 * (hr s[i + 1] : Int)) (by omega), cj (by omega), pv (by omega)]; omega
          have hn : (UInt8.ofNat (16 * hr s[i + 1] + hr s[i + 2])).toNat = 16 * hr s[i + 1] + hr s[i + 2] := by rw [UInt8.toNat_ofNat']; omega
          have hb2 : dj out ++ [((16 * hr s[i + 1] + hr s[i + 2] : Nat) : Int)] = dj (out ++ [UInt8.ofNat (16 * hr s[i + 1] + hr s[i + 2])]) := by
            rw [nM]
            have : dj [UInt8.ofNat (16 * hr s[i + 1] + hr s[i + 2])] = [((16 * hr s[i + 1] + hr s[i + 2] : Nat) : Int)] := by simp only [dj, List.map_cons, List.map_nil, hn]
            rw [this]
          have h3 : bm (((i + 2 : Nat) : Int) + 1) = ((i + 3 : Nat) : Int) := mA (by omega)
          rw [hv, if_pos (by rw [hbo]; simp; omega), h3, hb2, sa s hs f (i + 3) _ (by omega) (by omega) (by simp; omega), e1, e2, e3, hc, yl]
          simp
        · rw [if_neg hl]
          exact one (yR _ _ (by simp; omega))
      · have hc' : ¬ (s[i].toNat : Int) = 37 := fun e => hc (UInt8.toNat_inj.1 (show s[i].toNat = 37 by omega))
        rw [if_neg hc']
        exact one (so _ _ hc)
    · rw [if_neg (by omega), List.drop_eq_nil_of_le (by omega)]
      simp [R]
theorem AU (s : List UInt8) (hs : s.length ≤ 600) : ∃ b t, gi W s = some (b, t) ∧ eG W s = some (t, b) := by
  unfold gi eG
  by_cases h45 : s = [45]
  · rw [if_pos h45, if_neg (by simpa using h45)]
    simp only [Option.bind_some]
    rw [show lT ([] : List Int) = [] from rfl, lH [] (by simp)]
    simp only [Option.bind_some]
    rw [if_neg (by rw [h45]; simp [jA])]
    exact ⟨true, [], rfl, rfl⟩
  · have e := uP s hs W 0 [] (by omega) (by unfold W; omega) (by simp)
    have r := sa s hs W 0 [] (by omega) (by unfold W; omega) (by simp)
    have e0 : ((0 : Nat) : Int) = 0 := rfl
    rw [e0, List.drop_zero] at e r
    have eb : dj ([] : List UInt8) = [] := rfl
    rw [eb] at e r
    rw [List.nil_append] at r
    have hrl := uT s.length s (Nat.le_refl _)
    rw [if_neg h45, if_pos h45, e, r]
    simp only [Option.bind_some]
    rw [nj, lH (R s) (by omega)]
    simp only [Option.bind_some]
    cases hD : D s with
    | none =>
      simp only [mB]
      have : ¬ jA (R s) = s := by
        intro hw
        unfold jA at hw
        by_cases hR : R s = []
        · rw [if_pos hR] at hw; exact h45 hw.symm
        · rw [if_neg hR] at hw
          rw [← hw, DQ] at hD; cases hD
      rw [if_pos this]
      exact ⟨false, [], rfl, rfl⟩
    | some b =>
      simp only [mB, List.nil_append]
      have hq := QD s.length s b (Nat.le_refl _) hD
      have hR : R s = b := by rw [hq, RQ]
      have hlb := kj b
      have hdec : decide (0 < ((dj b).length : Int)) = decide (0 < (b.length : Int)) := by rw [decide_eq_decide]; omega
      rw [hR, hdec, nj]
      by_cases hb : b = []
      · subst hb
        have hs0 : s = [] := hq
        rw [if_pos (by rw [hs0]; simp [jA])]
        exact ⟨false, [], rfl, rfl⟩
      · have hl : 0 < b.length := by cases b with | nil => exact absurd rfl hb | cons _ _ => simp
        have hw : jA b = s := by unfold jA; rw [if_neg hb, hq]
        rw [if_neg (by rw [hw]; simp)]
        exact ⟨true, b, by rw [show decide (0 < (b.length : Int)) = true from decide_eq_true (by omega)], rfl⟩
end Go.Proofs.YtgbjponaoeiglaaDoor.WordsParses
end
section
set_option linter.unusedVariables false
set_option linter.unusedSimpArgs false
set_option maxRecDepth 20000
namespace Go.Proofs.YtgbjponaoeiglaaDoor.WordsParses
open Go E
def tr (n : Int) (c : UInt8) : Option Int := if 48 ≤ (c.toNat : Int) ∧ (c.toNat : Int) ≤ 57 ∧ -9223372036854775808 ≤ n * 10 - ((c.toNat : Int) - 48) then some (n * 10 - ((c.toNat : Int) - 48)) else none
def go : List UInt8 → Int → Option Int
  | [], n => some n
  | c :: l, n => (tr n c).bind (go l)
theorem vh (c : UInt8) (l : List UInt8) (n : Int) : go (c :: l) n = (tr n c).bind (go l) := rfl
theorem uo : ∀ (l l' : List UInt8) (n : Int), go (l ++ l') n = (go l n).bind (go l')
  | [], l', n => rfl
  | c :: l, l', n => by
    show (tr n c).bind (go (l ++ l')) = ((tr n c).bind (go l)).bind (go l')
    cases tr n c with
    | none => rfl
    | some m => exact uo l l' m
theorem Ao {n m : Int} {c : UInt8} (hn : n ≤ 0) (h : tr n c = some m) : -9223372036854775808 ≤ m ∧ m ≤ 0 := by
  unfold tr at h
  split at h
  · rename_i q
    cases h; omega
  · cases h
theorem oi : ∀ (l : List UInt8) (n m : Int), -9223372036854775808 ≤ n ∧ n ≤ 0 → go l n = some m → -9223372036854775808 ≤ m ∧ m ≤ 0
  | [], n, m, h, e => by cases e; exact h
  | c :: l, n, m, h, e => by
    obtain ⟨k, h1, h2⟩ := Option.bind_eq_some_iff.1 (show (tr n c).bind (go l) = some m from e)
    exact oi l k m (Ao h.2 h1) h2
theorem AB (x : List UInt8 × Bool) (hx : x.1.length ≤ 600) : ∀ (f i : Nat) (n : Int), i ≤ x.1.length → x.1.length - i < f → -9223372036854775808 ≤ n ∧ n ≤ 0 →
    gC W x f n i = some (match go (x.1.drop i) n with | some m => Sum.inl m | none => Sum.inr (0, false))
  | 0, i, n, h0, h1, h2 => by omega
  | f + 1, i, n, h0, h1, h2 => by
    rw [gC]
    have hl := kj x.1
    by_cases h : i < x.1.length
    · have e1 : x.1.drop i = x.1[i] :: x.1.drop (i + 1) := List.drop_eq_getElem_cons h
      have hc := x.1[i].toNat_lt
      rw [if_pos (by omega), if_pos (by omega)]
      simp only [Int.toNat_natCast, oc x.1 i h]
      have hd : bm ((bm ((x.1[i].toNat : Nat) : Int)) - 48) = (x.1[i].toNat : Int) - 48 := by rw [cj (n := ((x.1[i].toNat : Nat) : Int)) (by omega), cj (by omega)]
      rw [hd, e1, vh]
      unfold tr
      by_cases c1 : (x.1[i].toNat : Int) - 48 < 0
      · rw [if_pos c1, if_neg (by omega)]; rfl
      · rw [if_neg c1]
        by_cases c2 : 9 < (x.1[i].toNat : Int) - 48
        · rw [if_pos c2, if_neg (by omega)]; rfl
        · rw [if_neg c2]
          by_cases c3 : n < -922337203685477580
          · rw [if_pos c3, if_neg (by omega)]; rfl
          · rw [if_neg c3, cj (n := n * 10) (by omega), cj (n := -9223372036854775808 + _) (by omega)]
            by_cases c4 : n * 10 < -9223372036854775808 + ((x.1[i].toNat : Int) - 48)
            · rw [if_pos c4, if_neg (by omega)]; rfl
            · rw [if_neg c4, if_pos (by omega), cj (n := n * 10 - _) (by omega), mA (by omega)]
              exact AB x hx f (i + 1) _ (by omega) (by omega) (by omega)
    · rw [if_neg (by omega), List.drop_eq_nil_of_le (by omega)]; rfl
theorem xC (s : List UInt8) (hs : s.length ≤ 600) : ∀ (f i : Nat) (n : Int), i ≤ s.length → s.length - i < f → -9223372036854775808 ≤ n ∧ n ≤ 0 →
    fe W s f n i = some (match go (s.drop i) n with | some m => Sum.inl m | none => Sum.inr (0, false))
  | 0, i, n, h0, h1, h2 => by omega
  | f + 1, i, n, h0, h1, h2 => by
    rw [fe]
    by_cases h : i < s.length
    · have e1 : s.drop i = s[i] :: s.drop (i + 1) := List.drop_eq_getElem_cons h
      have hc := s[i].toNat_lt
      rw [if_pos (by omega), if_pos (by omega)]
      simp only [Int.toNat_natCast, ga s i h]
      have hd : bm ((bm ((s[i].toNat : Nat) : Int)) - 48) = (s[i].toNat : Int) - 48 := by rw [cj (n := ((s[i].toNat : Nat) : Int)) (by omega), cj (by omega)]
      rw [hd, e1, vh]
      unfold tr
      by_cases c1 : (s[i].toNat : Int) - 48 < 0
      · rw [if_pos c1, if_neg (by omega)]; rfl
      · rw [if_neg c1]
        by_cases c2 : 9 < (s[i].toNat : Int) - 48
        · rw [if_pos c2, if_neg (by omega)]; rfl
        · rw [if_neg c2, cj (n := -9223372036854775808 + _) (by omega)]
          have ht : Int.tdiv (-9223372036854775808 + ((s[i].toNat : Int) - 48)) 10 = -((9223372036854775808 - ((s[i].toNat : Int) - 48)) / 10) := by
            rw [show (-9223372036854775808 + ((s[i].toNat : Int) - 48)) = -(9223372036854775808 - ((s[i].toNat : Int) - 48)) by omega, Int.neg_tdiv, Int.tdiv_eq_ediv_of_nonneg (by omega)]
          rw [ht, cj (by omega)]
          by_cases c4 : n < -((9223372036854775808 - ((s[i].toNat : Int) - 48)) / 10)
          · rw [if_pos c4, if_neg (by omega)]; rfl
          · rw [if_neg c4, if_pos (by omega), cj (n := n * 10) (by omega), cj (n := n * 10 - _) (by omega), mA (by omega)]
            exact xC s hs f (i + 1) _ (by omega) (by omega) (by omega)
    · rw [if_neg (by omega), List.drop_eq_nil_of_le (by omega)]; rfl
def dg (d : Nat) : UInt8 := UInt8.ofNat (48 + d)
theorem qj {d : Nat} (h : d < 10) : (dg d).toNat = 48 + d := by unfold dg; rw [UInt8.toNat_ofNat']; omega
theorem xl (c : UInt8) (h : 48 ≤ c.toNat ∧ c.toNat ≤ 57) : dg (c.toNat - 48) = c := by
  unfold dg; rw [show 48 + (c.toNat - 48) = c.toNat by omega]; exact UInt8.ofNat_toNat
def jS (n : Nat) : List UInt8 := if n < 10 then [dg n] else jS (n / 10) ++ [dg (n % 10)]
termination_by n
decreasing_by omega
theorem gX {n : Nat} (h : n < 10) : jS n = [dg n] := by rw [jS, if_pos h]
theorem lO {n : Nat} (h : ¬ n < 10) : jS n = jS (n / 10) ++ [dg (n % 10)] := by rw [jS, if_neg h]
theorem uM (n : Nat) : jS n ≠ [] := by
  by_cases h : n < 10
  · rw [gX h]; simp
  · rw [lO h]; simp
theorem mJ : ∀ (k n : Nat), n < 10 ^ (k + 1) → (jS n).length ≤ k + 1
  | 0, n, h => by rw [gX (by simpa using h)]; simp
  | k + 1, n, h => by
    by_cases h10 : n < 10
    · rw [gX h10]; simp
    · rw [lO h10]
      have := mJ k (n / 10) (by rw [Nat.div_lt_iff_lt_mul (by omega)]; rw [Nat.pow_succ] at h; exact h)
      simp; omega
theorem ow : ∀ (k n : Nat), n ≤ k → ∀ l, jS n = 48 :: l → n = 0 ∧ l = []
  | k, n, hk, l, h => by
    by_cases h10 : n < 10
    · rw [gX h10] at h
      have h1 := congrArg UInt8.toNat (List.cons.inj h).1
      rw [qj h10] at h1
      have h48 : (48 : UInt8).toNat = 48 := rfl
      exact ⟨by omega, (List.cons.inj h).2.symm⟩
    · rw [lO h10] at h
      cases hd : jS (n / 10) with
      | nil => exact absurd hd (uM _)
      | cons c l' =>
        rw [hd, List.cons_append] at h
        have hc := (List.cons.inj h).1
        subst hc
        cases k with
        | zero => omega
        | succ k =>
          have := (ow k (n / 10) (by omega) l' hd).1
          omega
theorem ua (c : UInt8) (n : Int) : go [c] n = tr n c := by
  show (tr n c).bind (go []) = _
  cases tr n c <;> rfl
theorem po : ∀ (k : Nat) (l : List UInt8), l.length ≤ k → l ≠ [] → (∀ x, l = 48 :: x → x = []) → ∀ m, go l 0 = some m → jS (-m).toNat = l
  | k, l, hk, hne, hz, m, h => by
    obtain ⟨l0, c, rfl⟩ : ∃ l0 c, l = l0 ++ [c] := ⟨l.dropLast, l.getLast hne, (List.dropLast_concat_getLast hne).symm⟩
    rw [uo, Option.bind_eq_some_iff] at h
    obtain ⟨m0, h1, h2⟩ := h
    rw [ua] at h2
    have hin := oi l0 0 m0 (by omega) h1
    unfold tr at h2
    split at h2
    · rename_i q
      cases h2
      by_cases hl : l0 = []
      · subst hl
        have hm : m0 = 0 := by cases h1; rfl
        subst hm
        rw [show (-(0 * 10 - ((c.toNat : Int) - 48))).toNat = c.toNat - 48 by omega, gX (by omega), xl c (by omega)]; rfl
      · cases k with
        | zero => simp at hk
        | succ k =>
          have hz0 : ∀ x, l0 = 48 :: x → x = [] := by
            intro x hx
            rw [hx, List.cons_append] at hz
            have := hz _ Z
            simp at this
          have ih := po k l0 (by simp at hk; omega) hl hz0 m0 h1
          have hpos : m0 ≠ 0 := by
            intro e
            subst e
            have : jS (-(0 : Int)).toNat = [48] := by rw [show (-(0 : Int)).toNat = 0 from rfl, gX (by omega)]; rfl
            rw [this] at ih
            rw [← ih, List.cons_append] at hz
            have := hz _ Z
            simp at this
          have e1 : (-(m0 * 10 - ((c.toNat : Int) - 48))).toNat / 10 = (-m0).toNat := by omega
          have e2 : (-(m0 * 10 - ((c.toNat : Int) - 48))).toNat % 10 = c.toNat - 48 := by omega
          rw [lO (by omega), e1, e2, ih, xl c (by omega)]
    · cases h2
def iB (n : Int) : List UInt8 := if n < 0 then 45 :: jS (-n).toNat else jS n.toNat
theorem Bk {d : Int} (h : 0 ≤ d ∧ d < 10) : lT [dR (bm (48 + d))] = [dg d.toNat] := by
  rw [cj (by omega), pv (by omega)]
  simp only [lT, List.map_cons, List.map_nil, dg]
  rw [show (48 + d).toNat = 48 + d.toNat by omega]
theorem rM {K k n : Nat} (h10 : n < 10) : bo K (k + 1) (n : Int) = some (jS n) := by
  unfold bo
  rw [if_neg (by omega), if_neg (by omega), if_pos (by omega), gX h10, Bk (by omega), Int.toNat_natCast]
theorem A7 {n : Nat} (h : n ≤ 9223372036854775807) : n < 10 ^ (18 + 1) := by
  have : (10 : Nat) ^ (18 + 1) = 10000000000000000000 := by decide
  omega
theorem AN {n : Nat} (h : n ≤ 9223372036854775808) : n < 10 ^ (18 + 1) := by
  have : (10 : Nat) ^ (18 + 1) = 10000000000000000000 := by decide
  omega
def ny (n : Nat) : Prop := n ≤ 9223372036854775807
theorem AY {n : Nat} (h10 : ¬ n < 10) (hb : ny n) : bm (Int.tdiv (n : Int) 10) = ((n / 10 : Nat) : Int) := by
  unfold ny at hb
  rw [Int.tdiv_eq_ediv_of_nonneg (by omega), cj (by omega)]; omega
theorem A6 (n : Nat) : Int.tmod (n : Int) 10 = ((n % 10 : Nat) : Int) := by
  rw [Int.tmod_eq_emod_of_nonneg (by omega)]; omega
theorem AP {a b : List UInt8} (ha : a.length ≤ 19) (hb : b.length ≤ 1) : (a.length : Int) + (b.length : Int) ≤ 9223372036854775807 := by omega
theorem zg {K k n : Nat} (h10 : ¬ n < 10) (hb : ny n) (i1 : bo K (k + 1) ((n / 10 : Nat) : Int) = some (jS (n / 10))) : bo K (k + 1 + 1) (n : Int) = some (jS n) := by
  have i2 := rM (K := K) (k := k) (n := n % 10) (by omega)
  have l1 : (jS (n / 10)).length ≤ 19 := mJ 18 _ (A7 (by unfold ny at hb; omega))
  have l2 : (jS (n % 10)).length ≤ 1 := by rw [gX (by omega)]; simp
  have hd : jS n = jS (n / 10) ++ jS (n % 10) := by rw [lO h10, gX (n := n % 10) (by omega)]
  have h0 : ¬ (n : Int) < 0 := by omega
  have h1 : ¬ (n : Int) < 10 := by omega
  have h2 : ¬ (n : Int) = -9223372036854775808 := by omega
  rw [bo, if_neg h2, if_neg h0, if_neg h1, AY h10 hb, A6, i1, i2, hd]
  simp only [Option.bind_some]
  rw [if_pos (AP l1 l2)]
theorem wL {n : Nat} (h : ny n) : ny (n / 10) := by unfold ny at *; omega
theorem vf {K : Nat} (f : Nat) : ∀ (k n : Nat), n < 10 ^ (f + 1) → ny n → f < k → bo K k (n : Int) = some (jS n) := by
  induction f with
  | zero =>
    intro k n h hb hk
    obtain ⟨k', rfl⟩ : ∃ k', k = k' + 1 := ⟨k - 1, by omega⟩
    exact rM (by simpa using h)
  | succ f ih =>
    intro k n h hb hk
    obtain ⟨k', rfl⟩ : ∃ k', k = k' + 1 + 1 := ⟨k - 2, by omega⟩
    by_cases h10 : n < 10
    · exact rM h10
    · exact zg h10 hb (ih (k' + 1) (n / 10) (by rw [Nat.div_lt_iff_lt_mul (by omega)]; rw [Nat.pow_succ] at h; exact h) (wL hb) (by omega))
theorem zJ : go [57, 50, 50, 51, 51, 55, 50, 48, 51, 54, 56, 53, 52, 55, 55, 53, 56, 48, 56] 0 = some (-9223372036854775808) := by decide +kernel
theorem xe : jS 9223372036854775808 = [57, 50, 50, 51, 51, 55, 50, 48, 51, 54, 56, 53, 52, 55, 55, 53, 56, 48, 56] := by
  have h := po 19 [57, 50, 50, 51, 51, 55, 50, 48, 51, 54, 56, 53, 52, 55, 55, 53, 56, 48, 56] (by decide) (by simp) (fun x hx => by cases hx) (-9223372036854775808) zJ
  have e : (-(-9223372036854775808 : Int)).toNat = 9223372036854775808 := by omega
  rw [e] at h
  exact h
theorem yG {K k : Nat} (hk : 18 < k) {n : Int} (h : -9223372036854775808 ≤ n ∧ n ≤ 9223372036854775807) : bo K (k + 1) n = some (iB n) := by
  by_cases h0 : n < 0
  · by_cases hm : n = -9223372036854775808
    · subst hm
      unfold bo
      rw [if_pos Z]
      unfold iB
      rw [if_pos (by decide), show (-(-9223372036854775808 : Int)).toNat = 9223372036854775808 by decide, xe]
    · obtain ⟨q, hq⟩ : ∃ q : Nat, n = -(q : Int) := ⟨(-n).toNat, by omega⟩
      subst hq
      unfold bo
      rw [if_neg hm, if_pos h0, show bm (0 - -(q : Int)) = (q : Int) by rw [cj (by omega)]; omega, vf 18 k q (A7 (by omega)) (by unfold ny; omega) (by omega)]
      simp only [Option.bind_some]
      have l1 := mJ 18 q (A7 (by omega))
      rw [if_pos (by simp; omega)]
      unfold iB
      rw [if_pos h0, show (-(-(q : Int))).toNat = q by omega]; rfl
  · obtain ⟨q, hq⟩ : ∃ q : Nat, n = (q : Int) := ⟨n.toNat, by omega⟩
    subst hq
    rw [vf 18 (k + 1) q (A7 (by omega)) (by unfold ny; omega) (by omega)]
    unfold iB
    rw [if_neg h0, Int.toNat_natCast]
theorem nF {n : Int} (h : -9223372036854775808 ≤ n ∧ n ≤ 9223372036854775807) : bS W n = some (iB n) := yG (K := W) (k := 199999) (by omega) h
theorem lJ {n : Int} (h : -9223372036854775808 ≤ n ∧ n ≤ 9223372036854775807) : (iB n).length ≤ 20 := by
  unfold iB
  split
  · have := mJ 18 (-n).toNat (AN (by omega))
    simp; omega
  · have := mJ 18 n.toNat (AN (by omega))
    omega
end Go.Proofs.YtgbjponaoeiglaaDoor.WordsParses
end
section
set_option linter.unusedVariables false
set_option linter.unusedSimpArgs false
set_option maxRecDepth 20000
namespace Go.Proofs.YtgbjponaoeiglaaDoor.WordsParses
open Go E
structure tq (t : List UInt8) (g : Bool) : Prop where
  ne : t ≠ []
  head : ∀ x, t = 48 :: x → x = []
  zero : g = true → t ≠ [48]
def vq (t : List UInt8) (g : Bool) : Option (Sum Unit (Int × Bool)) := (if t = ([] : List UInt8) then (some (Sum.inr ((0, false)))) else (if 1 < (t.length : Int) then (if 0 < (t.length : Int) then (if ((t.getD (0 : Int).toNat 0).toNat : Int) = 48 then (some (Sum.inr ((0, false)))) else (if g = true then (if t = ([48] : List UInt8) then (some (Sum.inr ((0, false)))) else (some (Sum.inl ()))) else (some (Sum.inl ())))) else none) else (if g = true then (if t = ([48] : List UInt8) then (some (Sum.inr ((0, false)))) else (some (Sum.inl ()))) else (some (Sum.inl ())))))
theorem zd {t : List UInt8} {g : Bool} (h : tq t g) : vq t g = some (Sum.inl ()) := by
  have hin : (if g = true then (if t = ([48] : List UInt8) then (some (Sum.inr ((0, false)))) else (some (Sum.inl ()))) else (some (Sum.inl ()))) = (some (Sum.inl ()) : Option (Sum Unit (Int × Bool))) := by
    by_cases hg : g = true
    · rw [if_pos hg, if_neg (h.zero hg)]
    · rw [if_neg hg]
  unfold vq
  rw [if_neg h.ne]
  by_cases hl : 1 < (t.length : Int)
  · rw [if_pos hl, if_pos (by omega), if_neg, hin]
    intro e
    cases t with
    | nil => simp at hl
    | cons c x =>
      have hc : c = 48 := UInt8.toNat_inj.1 (show c.toNat = 48 by simp at e; omega)
      have := h.head x (by rw [hc])
      rw [this] at hl; simp at hl
  · rw [if_neg hl, hin]
theorem yO {t : List UInt8} {g : Bool} (h : ¬ tq t g) : vq t g = some (Sum.inr (0, false)) := by
  unfold vq
  by_cases h0 : t = []
  · rw [if_pos h0]
  · rw [if_neg h0]
    by_cases hl : 1 < (t.length : Int)
    · rw [if_pos hl, if_pos (by omega)]
      by_cases hh : ((t.getD (0 : Int).toNat 0).toNat : Int) = 48
      · rw [if_pos hh]
      · exfalso
        refine h ⟨h0, fun x e => ?_, fun _ e => by rw [e] at hl; simp at hl⟩
        rw [e] at hh
        exact absurd Z hh
    · rw [if_neg hl]
      by_cases hz : g = true ∧ t = [48]
      · rw [if_pos hz.1, if_pos hz.2]
      · exfalso
        refine h ⟨h0, fun x e => ?_, fun hg e => hz ⟨hg, e⟩⟩
        rw [e] at hl
        cases x with
        | nil => rfl
        | cons _ _ => simp at hl; omega
abbrev says (t : List UInt8) (g : Bool) (r : Int × Bool) : Prop :=
  (¬ tq t g → r = (0, false)) ∧ (go t 0 = none → r = (0, false)) ∧ (tq t g → ∀ m, go t 0 = some m → r = if g = true then (m, true) else if m = -9223372036854775808 then (0, false) else (bm (0 - m), true))
theorem mg {s t : List UInt8} {g : Bool} (hs : t.length ≤ 600) (hx : strings_CutPrefix s [45] = (t, g)) : ∃ r, fZ W s = some r ∧ says t g r := by
  have e : fZ W s = Option.bind (vq t g) fun z => (mB z (fun v3 => (Option.bind (if t.length ≤ 9223372036854775807 then (gC W (t, g) W 0 0) else none) fun z => (mB z (fun v4 => (if g = true then (some ((v4, true))) else (if v4 = (-9223372036854775808) then (some ((0, false))) else (some ((bm (0 - v4), true)))))) (fun t_ => (some (t_)))))) (fun t_ => (some (t_)))) := by
    unfold fZ vq
    rw [hx]; rfl
  rw [e]
  by_cases hk : tq t g
  · have n0 := AB (t, g) hs W 0 0 (by simp) (by show t.length - 0 < 200000; omega) (by omega)
    have e0 : ((0 : Nat) : Int) = 0 := rfl
    rw [e0, List.drop_zero] at n0
    rw [zd hk]
    simp only [Option.bind_some, mB]
    rw [if_pos (by omega), n0]
    simp only [Option.bind_some]
    cases hg : go t 0 with
    | none => exact ⟨_, rfl, fun h => absurd hk h, fun _ => rfl, fun _ m h => by rw [hg] at h; cases h⟩
    | some m =>
      simp only [mB]
      by_cases hb : g = true
      · rw [if_pos hb]
        exact ⟨_, rfl, fun h => absurd hk h, fun h => (by rw [hg] at h; cases h), fun _ m' h => by rw [hg] at h; cases h; rw [if_pos hb]⟩
      · rw [if_neg hb]
        by_cases hm : m = -9223372036854775808
        · rw [if_pos hm]
          exact ⟨_, rfl, fun h => absurd hk h, fun _ => rfl, fun _ m' h => by rw [hg] at h; cases h; rw [if_neg hb, if_pos hm]⟩
        · rw [if_neg hm]
          exact ⟨_, rfl, fun h => absurd hk h, fun h => (by rw [hg] at h; cases h), fun _ m' h => by rw [hg] at h; cases h; rw [if_neg hb, if_neg hm]⟩
  · rw [yO hk]
    exact ⟨_, rfl, fun _ => rfl, fun _ => rfl, fun h => absurd h hk⟩
theorem ti (n : Nat) : jS n ≠ [] ∧ (∀ x, jS n = 48 :: x → x = []) := ⟨uM n, fun x h => (ow n n (Nat.le_refl _) x h).2⟩
theorem zu : jS 0 = [48] := by rw [gX (by omega)]; rfl
theorem om {t : List UInt8} {m : Int} (hg : go t 0 = some m) : tq t true ↔ iB m = 45 :: t := by
  have hin := oi t 0 m (by omega) hg
  constructor
  · intro h
    have hd := po t.length t (Nat.le_refl _) h.ne h.head m hg
    have hm : m ≠ 0 := by
      intro e
      subst e
      rw [show (-(0 : Int)).toNat = 0 from rfl, zu] at hd
      exact h.zero Z hd.symm
    unfold iB
    rw [if_pos (by omega), hd]
  · intro h
    unfold iB at h
    by_cases hm : m < 0
    · rw [if_pos hm] at h
      have hd := (List.cons.inj h).2
      have := ti (-m).toNat
      rw [hd] at this
      refine ⟨this.1, this.2, fun _ e => ?_⟩
      rw [e] at hd
      have := (ow _ (-m).toNat (Nat.le_refl _) [] hd).1
      omega
    · rw [if_neg hm, show m.toNat = 0 by omega, zu] at h
      exact absurd (List.cons.inj h).1 (by decide)
theorem nW {t : List UInt8} {m : Int} (hg : go t 0 = some m) : tq t false ↔ iB (-m) = t := by
  have hin := oi t 0 m (by omega) hg
  have e : iB (-m) = jS (-m).toNat := by unfold iB; rw [if_neg (by omega)]
  rw [e]
  constructor
  · intro h
    exact po t.length t (Nat.le_refl _) h.ne h.head m hg
  · intro h
    have := ti (-m).toNat
    rw [h] at this
    exact ⟨this.1, this.2, fun e => by cases e⟩
theorem yD {t : List UInt8} (hs : t.length ≤ 599) {r : Int × Bool} (h : says t true r) : di W (45 :: t) = some r := by
  unfold di
  have hl : ((45 :: t : List UInt8).length : Int) = t.length + 1 := by simp
  rw [if_neg (by omega)]
  have n0 := xC (45 :: t) (by simp; omega) W 1 0 (by simp) (by unfold W; simp; omega) (by omega)
  have e1 : ((1 : Nat) : Int) = 1 := rfl
  rw [e1, show (45 :: t : List UInt8).drop 1 = t from rfl] at n0
  by_cases h20 : 20 < ((45 :: t : List UInt8).length : Int)
  · rw [if_pos h20]
    congr 1
    cases hg : go t 0 with
    | none => exact (h.2.1 hg).symm
    | some m =>
      by_cases hk : tq t true
      · have hd := (om hg).1 hk
        have hin := oi t 0 m (by omega) hg
        have := lJ (n := m) (by omega)
        rw [hd] at this
        omega
      · exact (h.1 hk).symm
  · rw [if_neg h20, if_pos (by omega), if_pos (by rfl)]
    simp only [Option.bind_some]
    rw [n0]
    simp only [Option.bind_some]
    cases hg : go t 0 with
    | none => simp only [mB]; rw [h.2.1 hg]
    | some m =>
      have hin := oi t 0 m (by omega) hg
      simp only [mB, eZ]
      rw [if_neg (by decide)]
      simp only [mB]
      rw [nF (by omega)]
      simp only [Option.bind_some]
      by_cases hk : tq t true
      · rw [if_neg (by rw [(om hg).1 hk]; simp), h.2.2 hk m hg, if_pos Z]
      · rw [if_pos (fun e => hk ((om hg).2 e)), h.1 hk]
theorem yK {c : UInt8} {l : List UInt8} (hc : ¬ c = 45) (hs : (c :: l).length ≤ 600) {r : Int × Bool} (h : says (c :: l) false r) : di W (c :: l) = some r := by
  unfold di
  have hl : ((c :: l : List UInt8).length : Int) = l.length + 1 := by simp
  rw [if_neg (by omega)]
  have n0 := xC (c :: l) (by omega) W 0 0 (by simp) (by unfold W; simp at hs ⊢; omega) (by omega)
  have e1 : ((0 : Nat) : Int) = 0 := rfl
  rw [e1, List.drop_zero] at n0
  by_cases h20 : 20 < ((c :: l : List UInt8).length : Int)
  · rw [if_pos h20]
    congr 1
    cases hg : go (c :: l) 0 with
    | none => exact (h.2.1 hg).symm
    | some m =>
      by_cases hk : tq (c :: l) false
      · have hd := (nW hg).1 hk
        have hin := oi _ 0 m (by omega) hg
        by_cases hm : m = -9223372036854775808
        · have := h.2.2 hk m hg
          rw [if_neg (by simp), if_pos hm] at this
          exact this.symm
        · have := lJ (n := -m) (by omega)
          rw [hd] at this
          omega
      · exact (h.1 hk).symm
  · have h45 : ¬ ((((c :: l : List UInt8).getD (0 : Int).toNat 0).toNat : Int) = 45) := fun e => hc (UInt8.toNat_inj.1 (show c.toNat = 45 by
      have e' : (c.toNat : Int) = 45 := e
      omega))
    rw [if_neg h20, if_pos (by omega), if_neg h45]
    simp only [Option.bind_some]
    rw [n0]
    simp only [Option.bind_some]
    cases hg : go (c :: l) 0 with
    | none => simp only [mB]; rw [h.2.1 hg]
    | some m =>
      have hin := oi _ 0 m (by omega) hg
      simp only [mB, eZ]
      rw [if_pos trivial]
      by_cases hm : m = -9223372036854775808
      · rw [if_pos hm]
        by_cases hk : tq (c :: l) false
        · have := h.2.2 hk m hg
          rw [if_neg (by simp), if_pos hm] at this
          rw [this]
        · rw [h.1 hk]
      · have e0 : bm (0 - m) = -m := by rw [cj (by omega)]; omega
        rw [if_neg hm, e0]
        simp only [mB]
        rw [nF (by omega)]
        simp only [Option.bind_some]
        by_cases hk : tq (c :: l) false
        · rw [if_neg (by rw [(nW hg).1 hk]; simp), h.2.2 hk m hg, if_neg (by simp), if_neg hm, e0]
        · rw [if_pos (fun e => hk ((nW hg).2 e)), h.1 hk]
theorem yL (s : List UInt8) (hs : s.length ≤ 600) : ∃ r, fZ W s = some r ∧ di W s = some r := by
  match s with
  | [] =>
    have hx : strings_CutPrefix [] [45] = ([], false) := by simp [strings_CutPrefix]
    obtain ⟨r, h1, h2⟩ := mg (t := []) (by simp) hx
    have hr := h2.1 (fun h => h.ne Z)
    refine ⟨r, h1, ?_⟩
    unfold di
    rw [if_pos (by simp), hr]
  | c :: l =>
    by_cases hc : c = 45
    · subst hc
      have hx : strings_CutPrefix (45 :: l) [45] = (l, true) := by simp [strings_CutPrefix]
      obtain ⟨r, h1, h2⟩ := mg (t := l) (by simp at hs; omega) hx
      exact ⟨r, h1, yD (by simp at hs; omega) h2⟩
    · have hx : strings_CutPrefix (c :: l) [45] = (c :: l, false) := by
        have hp : ([45] : List UInt8).isPrefixOf (c :: l) = false := by
          show ((45 : UInt8) == c && _) = false
          rw [show ((45 : UInt8) == c) = false from by rw [beq_eq_false_iff_ne]; exact fun e => hc e.symm]; rfl
        simp [strings_CutPrefix, hp]
      obtain ⟨r, h1, h2⟩ := mg (t := c :: l) (by omega) hx
      exact ⟨r, h1, yK hc hs h2⟩
end Go.Proofs.YtgbjponaoeiglaaDoor.WordsParses
end
section
set_option linter.unusedVariables false
set_option linter.unusedSimpArgs false
set_option maxRecDepth 20000
namespace Go.Proofs.YtgbjponaoeiglaaDoor.WordsParses
open Go E
abbrev Wd := List UInt8
def hE (ws : List Wd) : Wd := ws.flatMap (32 :: ·)
def mC (w : Wd) (ws : List Wd) : Wd := w ++ hE ws
theorem iG (w : Wd) (ws : List Wd) : hE (w :: ws) = 32 :: (w ++ hE ws) := by simp [hE]
theorem qE (a b : List Wd) : hE (a ++ b) = hE a ++ hE b := by simp [hE]
theorem wl (w : Wd) : hE [w] = 32 :: w := by simp [hE]
theorem pV {b : UInt8} {l : Wd} (h : ¬ b = 32) : ∃ p ps, dM 32 l = p :: ps ∧ dM 32 (b :: l) = (b :: p) :: ps := by
  cases hs : dM 32 l with
  | nil => exact absurd hs (ko 32 l)
  | cons p ps => exact ⟨p, ps, rfl, by rw [dM, if_neg h, hs]⟩
theorem mR : ∀ (w : Wd) (ws : List Wd), 32 ∉ w → (∀ x ∈ ws, 32 ∉ x) → dM 32 (mC w ws) = w :: ws
  | [], [], _, _ => rfl
  | [], v :: ws, _, h => by
    have ih := mR v ws (h v (by simp)) fun x hx => h x (by simp [hx])
    show dM 32 ([] ++ hE (v :: ws)) = _
    rw [List.nil_append, iG, dM, if_pos Z]
    exact congrArg _ ih
  | b :: w, ws, h, h2 => by
    have ih := mR w ws (fun hm => h (List.mem_cons_of_mem _ hm)) h2
    obtain ⟨p, ps, e1, e2⟩ := pV (b := b) (l := mC w ws) (fun e => h (by simp [e]))
    show dM 32 (b :: mC w ws) = _
    rw [e2]
    rw [ih] at e1
    cases e1
    rfl
termination_by w ws => (ws.length, w.length)
theorem ox : ∀ (l w : Wd) (ws : List Wd), dM 32 l = w :: ws → l = mC w ws ∧ 32 ∉ w ∧ ∀ x ∈ ws, 32 ∉ x
  | [], w, ws, h => by cases h; exact ⟨rfl, by simp, by simp⟩
  | b :: l, w, ws, h => by
    by_cases hb : b = 32
    · rw [dM, if_pos hb] at h
      cases ws with
      | nil => simp at h; exact absurd h.2 (ko 32 l)
      | cons v ws =>
        simp only [List.cons.injEq] at h
        obtain ⟨h1, h2⟩ := h
        obtain ⟨e, n1, n2⟩ := ox l v ws h2
        subst h1
        refine ⟨?_, by simp, ?_⟩
        · show _ = [] ++ hE (v :: ws)
          rw [List.nil_append, iG, hb, e]; rfl
        · intro x hx
          rcases List.mem_cons.1 hx with rfl | hx
          · exact n1
          · exact n2 x hx
    · obtain ⟨p, ps, e1, e2⟩ := pV (l := l) hb
      rw [e2] at h
      obtain ⟨q1, q2⟩ := List.cons.inj h
      obtain ⟨e, n1, n2⟩ := ox l p ps e1
      rw [← q1, ← q2]
      exact ⟨by rw [e]; rfl, by simp only [List.mem_cons, not_or]; exact ⟨fun e => hb e.symm, n1⟩, n2⟩
theorem kP {ws vs : List Wd} (h1 : ∀ x ∈ ws, 32 ∉ x) (h2 : ∀ x ∈ vs, 32 ∉ x) (w : Wd) (hw : 32 ∉ w) (h : mC w ws = mC w vs) : ws = vs := by
  have a := mR w ws hw h1
  have b := mR w vs hw h2
  rw [h, b] at a
  exact (List.cons.inj a).2.symm
theorem vv (ws : List Wd) : ∀ x ∈ ws, x.length ≤ (hE ws).length := by
  intro x hx
  induction ws with
  | nil => simp at hx
  | cons w ws ih =>
    rw [iG]
    simp only [List.length_cons, List.length_append]
    rcases List.mem_cons.1 hx with rfl | hx
    · omega
    · have := ih hx; omega
theorem wW (ws : List Wd) : ws.length ≤ (hE ws).length := by
  induction ws with
  | nil => simp
  | cons w ws ih => rw [iG]; simp only [List.length_cons, List.length_append]; omega
theorem xo {d : Nat} (h : d < 10) : 48 ≤ (dg d).toNat ∧ (dg d).toNat ≤ 57 := by rw [qj h]; omega
theorem pZ (n : Nat) : ∀ c ∈ jS n, 48 ≤ c.toNat ∧ c.toNat ≤ 57 := by
  induction n using Nat.strongRecOn with
  | ind n ih =>
    intro c hc
    by_cases h : n < 10
    · rw [gX h] at hc; simp at hc; subst hc; exact xo h
    · rw [lO h] at hc
      rcases List.mem_append.1 hc with hc | hc
      · exact ih (n / 10) (by omega) c hc
      · simp at hc; subst hc; exact xo (by omega)
theorem pP (n : Nat) : n ≤ 9223372036854775808 → go (jS n) 0 = some (-(n : Int)) := by
  induction n using Nat.strongRecOn with
  | ind n ih =>
    intro hn
    by_cases h : n < 10
    · rw [gX h, ua]
      unfold tr
      have := qj h
      rw [if_pos (by omega)]
      congr 1; omega
    · rw [lO h, uo, ih (n / 10) (by omega) (by omega), Option.bind_some, ua]
      unfold tr
      have := qj (d := n % 10) (by omega)
      rw [if_pos (by omega)]
      congr 1; omega
def nO (s : Wd) : Option Int := match fZ W s with | some (n, true) => some n | _ => none
def qo (n : Int) : Prop := -9223372036854775808 ≤ n ∧ n ≤ 9223372036854775807
theorem ur {t : Wd} {g : Bool} {r : Int × Bool} (h : says t g r) : r.2 = false → r = (0, false) := by
  intro hr
  by_cases hk : tq t g
  · cases hg : go t 0 with
    | none => exact h.2.1 hg
    | some m =>
      have := h.2.2 hk m hg
      rw [this] at hr
      split at hr
      · cases hr
      · rename_i hgf
        split at hr
        · rename_i hm; rw [this, if_neg hgf, if_pos hm]
        · cases hr
  · exact h.1 hk
theorem qK (s : Wd) (hs : s.length ≤ 600) : ∃ t g r, strings_CutPrefix s [45] = (t, g) ∧ fZ W s = some r ∧ says t g r ∧ (g = true → s = 45 :: t) ∧ (g = false → s = t ∧ ∀ l, s ≠ 45 :: l) := by
  match s with
  | [] =>
    have hx : strings_CutPrefix [] [45] = ([], false) := by simp [strings_CutPrefix]
    obtain ⟨r, h1, h2⟩ := mg (t := []) (by simp) hx
    exact ⟨_, _, r, hx, h1, h2, by simp, by simp⟩
  | c :: l =>
    by_cases hc : c = 45
    · subst hc
      have hx : strings_CutPrefix (45 :: l) [45] = (l, true) := by simp [strings_CutPrefix]
      obtain ⟨r, h1, h2⟩ := mg (t := l) (by simp at hs; omega) hx
      exact ⟨_, _, r, hx, h1, h2, by simp, by simp⟩
    · have hx : strings_CutPrefix (c :: l) [45] = (c :: l, false) := by
        have hp : ([45] : List UInt8).isPrefixOf (c :: l) = false := by
          show ((45 : UInt8) == c && _) = false
          rw [show ((45 : UInt8) == c) = false from by rw [beq_eq_false_iff_ne]; exact fun e => hc e.symm]; rfl
        simp [strings_CutPrefix, hp]
      obtain ⟨r, h1, h2⟩ := mg (t := c :: l) (by omega) hx
      exact ⟨_, _, r, hx, h1, h2, by simp, fun _ => ⟨rfl, fun l' e => hc (List.cons.inj e).1⟩⟩
theorem su (s : Wd) (hs : s.length ≤ 600) : fZ W s = some ((nO s).getD 0, (nO s).isSome) := by
  obtain ⟨t, g, r, _, h1, h2, _⟩ := qK s hs
  have hsh := ur h2
  obtain ⟨n, b⟩ := r
  unfold nO
  rw [h1]
  cases b with
  | true => rfl
  | false => cases hsh rfl; rfl
theorem yT (s : Wd) (hs : s.length ≤ 600) : di W s = some ((nO s).getD 0, (nO s).isSome) := by
  obtain ⟨r, h1, h2⟩ := yL s hs
  rw [su s hs] at h1
  cases h1
  exact h2
theorem lg {s : Wd} (hs : s.length ≤ 600) (n : Int) : nO s = some n ↔ s = iB n ∧ qo n := by
  obtain ⟨t, g, r, _, h1, h2, hg1, hg2⟩ := qK s hs
  have he : nO s = some n ↔ r = (n, true) := by
    unfold nO
    rw [h1]
    obtain ⟨m, b⟩ := r
    cases b <;> simp
  rw [he]
  constructor
  · rintro rfl
    by_cases hk : tq t g
    · cases hgo : go t 0 with
      | none => have := h2.2.1 hgo; cases this
      | some m =>
        have hin := oi t 0 m (by omega) hgo
        have := h2.2.2 hk m hgo
        by_cases hgt : g = true
        · subst hgt
          rw [if_pos Z] at this
          cases this
          exact ⟨(hg1 Z).trans ((om hgo).1 hk).symm, by unfold qo; omega⟩
        · have hgf : g = false := by simpa using hgt
          subst hgf
          rw [if_neg (by simp)] at this
          by_cases hm : m = -9223372036854775808
          · rw [if_pos hm] at this; cases this
          · rw [if_neg hm, cj (by omega)] at this
            cases this
            have e : (0 : Int) - m = -m := by omega
            rw [e]
            exact ⟨(hg2 Z).1.trans ((nW hgo).1 hk).symm, by unfold qo; omega⟩
    · have := h2.1 hk; cases this
  · rintro ⟨hd, hr⟩
    unfold qo at hr
    by_cases hn : n < 0
    · have hd' : s = 45 :: jS (-n).toNat := by rw [hd]; unfold iB; rw [if_pos hn]
      cases g with
      | false => exact absurd hd' ((hg2 Z).2 _)
      | true =>
        have ht : t = jS (-n).toNat := by have := hg1 Z; rw [this] at hd'; exact (List.cons.inj hd').2
        have hgo : go t 0 = some n := by rw [ht, pP _ (by omega)]; congr 1; omega
        have hk : tq t true := (om hgo).2 (by rw [← hd]; exact hg1 Z)
        rw [h2.2.2 hk n hgo, if_pos Z]
    · have hd' : s = jS n.toNat := by rw [hd]; unfold iB; rw [if_neg hn]
      cases g with
      | true =>
        have := hg1 Z
        rw [hd'] at this
        have := pZ n.toNat 45 (by rw [this]; simp)
        have h45 : (45 : UInt8).toNat = 45 := rfl
        omega
      | false =>
        have ht : t = jS n.toNat := by rw [← (hg2 Z).1]; exact hd'
        have hgo : go t 0 = some (-n) := by rw [ht, pP _ (by omega)]; congr 1; omega
        have hk : tq t false := (nW hgo).2 (by rw [show -(-n) = n by omega, ← hd]; exact (hg2 Z).1)
        rw [h2.2.2 hk _ hgo, if_neg (by simp), if_neg (by omega), show (0 : Int) - -n = n by omega, cj (by omega)]
theorem mV (n : Int) : 32 ∉ iB n := by
  have h32 : (32 : UInt8).toNat = 32 := rfl
  unfold iB
  split
  · intro h
    rcases List.mem_cons.1 h with h | h
    · cases h
    · have := pZ _ _ h; omega
  · intro h
    have := pZ _ _ h; omega
def bO (s : Wd) : Option Wd := match gi W s with | some (true, t) => some t | _ => none
theorem ug (s : Wd) (hs : s.length ≤ 600) : ∃ o : Option Wd, gi W s = some (o.isSome, o.getD []) ∧ eG W s = some (o.getD [], o.isSome) ∧ ∀ t, o = some t ↔ s = jA t := by
  have inj : ∀ b c : Wd, jA b = jA c → b = c := by
    intro b c h
    have hq : ∀ x : Wd, ¬ Q x = [45] := by
      intro x hx
      have h1 := RQ x
      rw [hx, show R [45] = [45] from by decide +kernel] at h1
      rw [← h1] at hx
      exact absurd hx (by decide +kernel)
    unfold jA at h
    by_cases hb : b = [] <;> by_cases hc : c = []
    · rw [hb, hc]
    · rw [if_pos hb, if_neg hc] at h; exact absurd h.symm (hq c)
    · rw [if_neg hb, if_pos hc] at h; exact absurd h (hq b)
    · rw [if_neg hb, if_neg hc] at h
      have := congrArg R h
      rwa [RQ, RQ] at this
  by_cases h45 : s = [45]
  · refine ⟨some [], ?_, ?_, fun t => ⟨fun h => (by cases h; rw [h45]; rfl), fun h => by rw [h45] at h; exact congrArg some (inj [] t (by rw [← h]; rfl))⟩⟩
    · unfold gi; rw [if_pos h45]; rfl
    · unfold eG
      rw [if_neg (by simpa using h45)]
      simp only [Option.bind_some]
      rw [show lT ([] : List Int) = [] from rfl, lH [] (by simp)]
      simp only [Option.bind_some]
      rw [if_neg (by rw [h45]; simp [jA])]
      rfl
  · obtain ⟨b, t, e1, e2⟩ := AU s hs
    have r := sa s hs W 0 [] (by omega) (by unfold W; omega) (by simp)
    have e := uP s hs W 0 [] (by omega) (by unfold W; omega) (by simp)
    have e0 : ((0 : Nat) : Int) = 0 := rfl
    rw [e0, List.drop_zero] at e r
    have eb : dj ([] : List UInt8) = [] := rfl
    rw [eb] at e r
    rw [List.nil_append] at r
    have hrl := uT s.length s (Nat.le_refl _)
    unfold gi eG
    rw [if_neg h45, if_pos h45, e, r]
    simp only [Option.bind_some]
    rw [nj, lH (R s) (by omega)]
    simp only [Option.bind_some]
    cases hD : D s with
    | none =>
      simp only [mB]
      have hno : ∀ t, ¬ s = jA t := by
        intro t hw
        unfold jA at hw
        by_cases hR : t = []
        · rw [if_pos hR] at hw; exact h45 hw
        · rw [if_neg hR] at hw
          rw [hw, DQ] at hD; cases hD
      rw [if_pos (fun q => hno _ q.symm)]
      exact ⟨none, rfl, rfl, fun t => ⟨fun h => (by cases h), fun h => absurd h (hno t)⟩⟩
    | some b =>
      simp only [mB, List.nil_append]
      have hq := QD s.length s b (Nat.le_refl _) hD
      have hR : R s = b := by rw [hq, RQ]
      have hlb := kj b
      have hdec : decide (0 < ((dj b).length : Int)) = decide (0 < (b.length : Int)) := by rw [decide_eq_decide]; omega
      rw [hR, hdec, nj]
      by_cases hb : b = []
      · subst hb
        have hs0 : s = [] := hq
        rw [if_pos (by rw [hs0]; simp [jA])]
        refine ⟨none, rfl, rfl, fun t => ⟨fun h => (by cases h), fun h => ?_⟩⟩
        rw [hs0] at h
        unfold jA at h
        by_cases ht : t = []
        · rw [if_pos ht] at h; cases h
        · rw [if_neg ht] at h
          have h1 := RQ t
          rw [← h, show R [] = [] from by decide +kernel] at h1
          exact absurd h1.symm ht
      · have hl : 0 < b.length := by cases b with | nil => exact absurd rfl hb | cons _ _ => simp
        have hw : jA b = s := by unfold jA; rw [if_neg hb, hq]
        rw [if_neg (by rw [hw]; simp)]
        refine ⟨some b, by rw [show decide (0 < (b.length : Int)) = true from decide_eq_true (by omega)]; rfl, rfl, fun t => ⟨fun h => (by cases h; exact hw.symm), fun h => ?_⟩⟩
        rw [← hw] at h
        exact congrArg some (inj b t h)
theorem yv {s : Wd} {o : Option Wd} (h : gi W s = some (o.isSome, o.getD [])) : bO s = o := by
  unfold bO
  rw [h]
  cases o <;> rfl
theorem qU (s : Wd) (hs : s.length ≤ 600) : gi W s = some ((bO s).isSome, (bO s).getD []) := by
  obtain ⟨o, h1, h2, h3⟩ := ug s hs
  rw [yv h1]; exact h1
theorem xp (s : Wd) (hs : s.length ≤ 600) : eG W s = some ((bO s).getD [], (bO s).isSome) := by
  obtain ⟨o, h1, h2, h3⟩ := ug s hs
  rw [yv h1]; exact h2
theorem oE {s : Wd} (hs : s.length ≤ 600) (t : Wd) : bO s = some t ↔ s = jA t := by
  obtain ⟨o, h1, h2, h3⟩ := ug s hs
  rw [yv h1]; exact h3 t
theorem zp : ∀ n, n < 16 → hx n ≠ 32 := by decide +kernel
theorem AD : pl 32 = false := by decide +kernel
theorem uA (t : Wd) : 32 ∉ jA t := by
  unfold jA
  split
  · decide
  · unfold Q
    intro h
    obtain ⟨c, _, hc⟩ := List.mem_flatMap.1 h
    unfold qb at hc
    split at hc
    · rename_i hp
      simp at hc; subst hc; rw [AD] at hp; cases hp
    · have hl := c.toNat_lt
      simp at hc
      rcases hc with h1 | h1
      · exact zp _ (by omega) h1.symm
      · exact zp _ (by omega) h1.symm
end Go.Proofs.YtgbjponaoeiglaaDoor.WordsParses
end
section
set_option linter.unusedVariables false
namespace Go.Proofs.YtgbjponaoeiglaaDoor.E
open Go
def nV (y : Int) : Bool := decide (y % 4 = 0 ∧ (y % 100 ≠ 0 ∨ y % 400 = 0))
def nG (y m : Int) : Int := if m = 2 then (if nV y = true then 29 else 28) else if m = 4 ∨ m = 6 ∨ m = 9 ∨ m = 11 then 30 else 31
def AE (y : Int) : Int := y / 400 * 146097 + 365 * (y % 400) + (y % 400) / 4 - (y % 400) / 100
def AQ (y m : Int) : Int := AE y + (153 * m + 2) / 5 - 719468
def jb (k : Int) : Int := AQ (1970 + (k - 2) / 12) ((k - 2) % 12)
theorem sS (y : Int) : AE (y + 1) = AE y + 365 + (if nV (y + 1) = true then 1 else 0) := by
  unfold AE nV
  simp only [decide_eq_true_eq]
  split
  · rename_i h
    omega
  · rename_i h
    omega
theorem lI (k : Int) : jb (k + 1) = jb k + nG (1970 + k / 12) (k % 12 + 1) := by
  unfold jb AQ
  have hm : (k - 2) % 12 = 0 ∨ (k - 2) % 12 = 1 ∨ (k - 2) % 12 = 2 ∨ (k - 2) % 12 = 3 ∨ (k - 2) % 12 = 4 ∨ (k - 2) % 12 = 5 ∨ (k - 2) % 12 = 6 ∨ (k - 2) % 12 = 7 ∨ (k - 2) % 12 = 8 ∨ (k - 2) % 12 = 9 ∨ (k - 2) % 12 = 10 ∨ (k - 2) % 12 = 11 := by omega
  rcases hm with h | h | h | h | h | h | h | h | h | h | h | h
  all_goals
    first
      | (have e1 : (k + 1 - 2) % 12 = (k - 2) % 12 + 1 := by omega
         have e2 : (k + 1 - 2) / 12 = (k - 2) / 12 := by omega
         rw [e1, e2, h]
         have e3 : k % 12 = 0 ∨ k % 12 = 2 ∨ k % 12 = 3 ∨ k % 12 = 4 ∨ k % 12 = 5 ∨ k % 12 = 6 ∨ k % 12 = 7 ∨ k % 12 = 8 ∨ k % 12 = 9 ∨ k % 12 = 10 ∨ k % 12 = 11 := by omega
         unfold nG
         split
         · omega
         · split <;> omega)
      | (have e1 : (k + 1 - 2) % 12 = 0 := by omega
         have e2 : (k + 1 - 2) / 12 = (k - 2) / 12 + 1 := by omega
         have e3 : 1970 + ((k - 2) / 12 + 1) = (1970 + (k - 2) / 12) + 1 := by omega
         have e4 : 1970 + k / 12 = (1970 + (k - 2) / 12) + 1 := by omega
         rw [e1, e2, e3, e4, h, sS]
         unfold nG
         have e5 : k % 12 + 1 = 2 := by omega
         rw [if_pos e5]
         split <;> omega)
theorem md (y m : Int) : 28 ≤ nG y m ∧ nG y m ≤ 31 := by
  unfold nG; split
  · split <;> omega
  · split <;> omega
theorem ss : jb 0 = 0 := by decide
theorem zY (k : Int) : jb k + 28 ≤ jb (k + 1) := by
  have := md (1970 + k / 12) (k % 12 + 1)
  rw [lI]; omega
theorem vd (k : Int) : ∀ n : Nat, jb k + 28 * n ≤ jb (k + n)
  | 0 => by simp
  | n + 1 => by
    have h1 := vd k n
    have h2 := zY (k + n)
    have e : k + ((n + 1 : Nat) : Int) = k + n + 1 := by omega
    rw [e]; omega
theorem lN {j k : Int} (h : j ≤ k) : jb j ≤ jb k := by
  obtain ⟨n, hn⟩ : ∃ n : Nat, k = j + n := ⟨(k - j).toNat, by omega⟩
  have := vd j n
  rw [hn]; omega
theorem wD {d j k : Int} (h1 : jb j ≤ d) (h2 : d < jb (j + 1)) (h3 : jb k ≤ d) (h4 : d < jb (k + 1)) : j = k := by
  rcases Int.lt_trichotomy j k with h | h | h
  · have := lN (show j + 1 ≤ k by omega); omega
  · exact h
  · have := lN (show k + 1 ≤ j by omega); omega
theorem tG {Y m : Int} (h0 : 0 ≤ m) (h1 : m ≤ 11) : jb (12 * (Y - 1970) + m + 2) = AQ Y m := by
  unfold jb
  have e1 : (12 * (Y - 1970) + m + 2 - 2) / 12 = Y - 1970 := by omega
  have e2 : (12 * (Y - 1970) + m + 2 - 2) % 12 = m := by omega
  rw [e1, e2]; congr 1; omega
theorem sI (y : Int) : jb (12 * (y + 1 - 1970)) = jb (12 * (y - 1970)) + (if nV y = true then 366 else 365) := by
  have a1 : 12 * (y + 1 - 1970) = 12 * (y - 1970) + 10 + 2 := by omega
  have a2 : 12 * (y - 1970) = 12 * (y - 1 - 1970) + 10 + 2 := by omega
  rw [a1, tG (by omega) (by omega)]
  conv => rhs; rw [a2, tG (by omega) (by omega)]
  unfold AQ
  have := sS (y - 1)
  have e : y - 1 + 1 = y := by omega
  rw [e] at this
  rw [this]
  split <;> omega
end Go.Proofs.YtgbjponaoeiglaaDoor.E
end
section
set_option linter.unusedVariables false
set_option linter.unusedSimpArgs false
set_option maxRecDepth 20000
namespace Go.Proofs.YtgbjponaoeiglaaDoor.WordsParses
open Go E
theorem ng {a b : Int} (h : 0 ≤ a) : Int.tdiv a b = a / b := Int.tdiv_eq_ediv_of_nonneg h
theorem ms {a b : Int} (h : 0 ≤ a) : Int.tmod a b = a % b := Int.tmod_eq_emod_of_nonneg h
theorem sp {y : Int} (h : 0 ≤ y) : eY y = nV y := by
  unfold eY nV
  rw [ms h, ms h, ms h]
  by_cases h1 : y % 4 = 0
  · by_cases h2 : y % 100 = 0
    · simp [h1, h2]
      rw [Bool.eq_iff_iff]; simp
    · simp [h1, h2]
  · simp [h1]
theorem uQ {y : Int} (h : 0 ≤ y) : eF y = if nV y = true then 366 else 365 := by
  unfold eF
  simp only [eZ, sp h]
theorem oz {y m : Int} (h : 0 ≤ y) (h1 : 1 ≤ m) (h2 : m ≤ 12) : cz y m = nG y m := by
  unfold cz nG
  simp only [eZ, sp h]
  have hm : m = 1 ∨ m = 2 ∨ m = 3 ∨ m = 4 ∨ m = 5 ∨ m = 6 ∨ m = 7 ∨ m = 8 ∨ m = 9 ∨ m = 10 ∨ m = 11 ∨ m = 12 := by omega
  rcases hm with rfl | rfl | rfl | rfl | rfl | rfl | rfl | rfl | rfl | rfl | rfl | rfl <;> simp
theorem mr {k : Int} (h0 : 0 ≤ k) (h1 : k ≤ 37000) : 0 ≤ jb k ∧ jb k ≤ 2000000 := by
  have a := lN h0
  rw [ss] at a
  have b := lN h1
  have c : jb 37000 ≤ 2000000 := by decide
  omega
theorem rp {K : Nat} {a : Int} (ha : a ≤ 4901) : ∀ (f : Nat) (n y : Int), 1970 ≤ y → y ≤ a → n = jb (12 * (y - 1970)) → a - y < f → fg K a f n y = some (jb (12 * (a - 1970)))
  | 0, n, y, h0, h1, h2, h3 => by omega
  | f + 1, n, y, h0, h1, h2, h3 => by
    unfold fg
    by_cases hy : y < a
    · rw [if_pos hy]
      have b := mr (k := 12 * (y - 1970)) (by omega) (by omega)
      simp only [eZ, uQ (show 0 ≤ y by omega)]
      have e := sI y
      rw [cj (n := y + 1) (by omega), cj (by split <;> omega)]
      exact rp ha f _ (y + 1) (by omega) (by omega) (by rw [h2, e]) (by omega)
    · rw [if_neg hy]
      have : y = a := by omega
      rw [h2, this]
theorem qA {K : Nat} {y a : Int} (hy : 1970 ≤ y) (hy2 : y ≤ 4901) (ha : a ≤ 12) : ∀ (f : Nat) (n m : Int), 1 ≤ m → m ≤ a → n = jb (12 * (y - 1970) + m - 1) → a - m < f → fc K y a f n m = some (jb (12 * (y - 1970) + a - 1))
  | 0, n, m, h0, h1, h2, h3 => by omega
  | f + 1, n, m, h0, h1, h2, h3 => by
    unfold fc
    by_cases hm : m < a
    · rw [if_pos hm]
      have b := mr (k := 12 * (y - 1970) + m - 1) (by omega) (by omega)
      simp only [eZ, oz (show 0 ≤ y by omega) h0 (by omega)]
      have c := md y m
      have e := lI (12 * (y - 1970) + m - 1)
      have e1 : 1970 + (12 * (y - 1970) + m - 1) / 12 = y := by omega
      have e2 : (12 * (y - 1970) + m - 1) % 12 + 1 = m := by omega
      rw [e1, e2] at e
      rw [cj (n := m + 1) (by omega), cj (by omega)]
      refine qA hy hy2 ha f _ (m + 1) (by omega) (by omega) ?_ (by omega)
      rw [h2, ← e]; congr 1; omega
    · rw [if_neg hm]
      have : m = a := by omega
      rw [h2, this]
theorem uU {K : Nat} {d : Int} (hd : d ≤ 1000000) : ∀ (f : Nat) (r y : Int), 1970 ≤ y → r = d - jb (12 * (y - 1970)) → 0 ≤ r → 5000 - y < f →
    ∃ Y, fI K f r y = some (d - jb (12 * (Y - 1970)), Y) ∧ 1970 ≤ Y ∧ Y < 5000 ∧ jb (12 * (Y - 1970)) ≤ d ∧ d < jb (12 * (Y + 1 - 1970))
  | 0, r, y, h0, h1, h2, h3 => by
    have a := lN (show 36360 ≤ 12 * (y - 1970) by omega)
    have b : (1000000 : Int) < jb 36360 := by decide
    omega
  | f + 1, r, y, h0, h1, h2, h3 => by
    have hy : y < 5000 := by
      apply Classical.byContradiction
      intro hc
      have a := lN (show 36360 ≤ 12 * (y - 1970) by omega)
      have b : (1000000 : Int) < jb 36360 := by decide
      omega
    unfold fI
    simp only [eZ, uQ (show 0 ≤ y by omega)]
    have e := sI y
    have b := mr (k := 12 * (y - 1970)) (by omega) (by omega)
    by_cases hc : (if nV y = true then 366 else 365) ≤ r
    · rw [if_pos hc, if_pos hy, cj (n := y + 1) (by omega), cj (by split <;> omega)]
      exact uU hd f _ (y + 1) (by omega) (by rw [e]; omega) (by omega) (by omega)
    · rw [if_neg hc]
      exact ⟨y, by rw [h1], h0, hy, by omega, by rw [e]; omega⟩
theorem ux {K : Nat} {d y z : Int} (hd : d ≤ 1000000) (hy : 1970 ≤ y) (hy2 : y < 5000) (hd2 : d < jb (12 * (y + 1 - 1970))) : ∀ (f : Nat) (r m : Int), 1 ≤ m → m ≤ 12 → r = d - jb (12 * (y - 1970) + m - 1) → 0 ≤ r → 12 - m < f →
    ∃ M, fH K (z, y) f r m = some (d - jb (12 * (y - 1970) + M - 1), M) ∧ 1 ≤ M ∧ M ≤ 12 ∧ jb (12 * (y - 1970) + M - 1) ≤ d ∧ d < jb (12 * (y - 1970) + M)
  | 0, r, m, h0, h1, h2, h3, h4 => by omega
  | f + 1, r, m, h0, h1, h2, h3, h4 => by
    unfold fH
    simp only []
    have b := mr (k := 12 * (y - 1970) + m - 1) (by omega) (by omega)
    by_cases hm : m < 12
    · rw [if_pos hm]
      simp only [eZ, oz (show 0 ≤ y by omega) h0 (by omega)]
      have c := md y m
      have e := lI (12 * (y - 1970) + m - 1)
      have e1 : 1970 + (12 * (y - 1970) + m - 1) / 12 = y := by omega
      have e2 : (12 * (y - 1970) + m - 1) % 12 + 1 = m := by omega
      have e3 : 12 * (y - 1970) + m - 1 + 1 = 12 * (y - 1970) + m := by omega
      rw [e1, e2, e3] at e
      by_cases hc : nG y m ≤ r
      · rw [if_pos hc, cj (n := m + 1) (by omega), cj (by omega)]
        refine ux hd hy hy2 hd2 f _ (m + 1) (by omega) (by omega) ?_ (by omega) (by omega)
        have e4 : 12 * (y - 1970) + (m + 1) - 1 = 12 * (y - 1970) + m := by omega
        rw [e4, e]; omega
      · rw [if_neg hc]
        exact ⟨m, by rw [h2], h0, h1, by omega, by rw [e]; omega⟩
    · rw [if_neg hm]
      have e : m = 12 := by omega
      subst e
      refine ⟨12, by rw [h2], by omega, by omega, by omega, ?_⟩
      have e4 : 12 * (y - 1970) + 12 = 12 * (y + 1 - 1970) := by omega
      rw [e4]; exact hd2
structure kO (y m d : Int) : Prop where
  y0 : 1970 ≤ y
  y1 : y ≤ 4900
  m0 : 1 ≤ m
  m1 : m ≤ 12
  d0 : 1 ≤ d
  d1 : d ≤ nG y m
def iF (y m d : Int) : Int := jb (12 * (y - 1970) + m - 1) + d - 1
instance (y m d : Int) : Decidable (kO y m d) :=
  if h : 1970 ≤ y ∧ y ≤ 4900 ∧ 1 ≤ m ∧ m ≤ 12 ∧ 1 ≤ d ∧ d ≤ nG y m then .isTrue ⟨h.1, h.2.1, h.2.2.1, h.2.2.2.1, h.2.2.2.2.1, h.2.2.2.2.2⟩
  else .isFalse fun q => h ⟨q.y0, q.y1, q.m0, q.m1, q.d0, q.d1⟩
theorem tZ {y m : Int} (h : ¬ (1 ≤ m ∧ m ≤ 12)) : cz y m = 0 := by
  unfold cz
  have e : ∀ k : Int, 1 ≤ k → k ≤ 12 → ¬ m = k := by intro k h1 h2 e; omega
  have b : ∀ k : Int, 1 ≤ k → k ≤ 12 → (m == k) = false := by intro k h1 h2; rw [beq_eq_false_iff_ne]; exact e k h1 h2
  simp only [eZ]
  rw [if_neg (e 2 (by omega) (by omega)), if_neg (e 4 (by omega) (by omega)), if_neg (e 6 (by omega) (by omega)), if_neg (e 9 (by omega) (by omega)), b 11 (by omega) (by omega), if_neg (by simp), if_neg (e 1 (by omega) (by omega)), if_neg (e 3 (by omega) (by omega)), if_neg (e 5 (by omega) (by omega)), if_neg (e 7 (by omega) (by omega)), if_neg (e 8 (by omega) (by omega)), if_neg (e 10 (by omega) (by omega)), b 12 (by omega) (by omega), if_neg (by simp)]
theorem mK {y m d : Int} (h : kO y m d) : 0 ≤ iF y m d ∧ iF y m d ≤ 2000000 := by
  have b := mr (k := 12 * (y - 1970) + m - 1) (by have := h.y0; have := h.m0; omega) (by have := h.y1; have := h.m1; omega)
  have b2 := mr (k := 12 * (y - 1970) + m) (by have := h.y0; have := h.m0; omega) (by have := h.y1; have := h.m1; omega)
  have e := lI (12 * (y - 1970) + m - 1)
  have e1 : 1970 + (12 * (y - 1970) + m - 1) / 12 = y := by have := h.m0; have := h.m1; omega
  have e2 : (12 * (y - 1970) + m - 1) % 12 + 1 = m := by have := h.m0; have := h.m1; omega
  have e3 : 12 * (y - 1970) + m - 1 + 1 = 12 * (y - 1970) + m := by omega
  rw [e1, e2, e3] at e
  have := h.d0; have := h.d1
  unfold iF
  omega
theorem wQ (y m d : Int) (hy : 0 ≤ y) (hm : 0 ≤ m ∧ m ≤ 100) (hd : 0 ≤ d ∧ d ≤ 100) : fQ W y m d = some (if kO y m d then (iF y m d, true) else (0, false)) := by
  unfold fQ
  by_cases h1 : y < 1970
  · rw [if_pos h1, if_neg (fun q => by have := q.y0; omega)]
  rw [if_neg h1]
  by_cases h2 : 4900 < y
  · rw [if_pos h2, if_neg (fun q => by have := q.y1; omega)]
  rw [if_neg h2]
  by_cases h3 : d < 1
  · rw [if_pos h3, if_neg (fun q => by have := q.d0; omega)]
  rw [if_neg h3]
  simp only [eZ]
  by_cases h4 : 1 ≤ m ∧ m ≤ 12
  · rw [oz hy h4.1 h4.2]
    by_cases h5 : nG y m < d
    · rw [if_pos h5, if_neg (fun q => by have := q.d1; omega)]
    · have hv : kO y m d := ⟨by omega, by omega, h4.1, h4.2, by omega, by omega⟩
      rw [if_neg h5, if_pos hv, rp (by omega) W 0 1970 (by omega) (by omega) (by decide) (by unfold W; omega)]
      simp only [Option.bind_some]
      rw [qA (by omega) (by omega) h4.2 W _ 1 (by omega) h4.1 (by congr 1; omega) (by unfold W; omega)]
      have b := mr (k := 12 * (y - 1970) + m - 1) (by omega) (by omega)
      simp only [Option.bind_some]
      rw [cj (n := jb (12 * (y - 1970) + m - 1) + d) (by omega), cj (by omega)]
      rfl
  · rw [tZ h4, if_pos (by omega), if_neg (fun q => h4 ⟨q.m0, q.m1⟩)]
theorem Ay {y : Int} (h : 0 ≤ y) : kt y = nV y := by
  have e := sp h
  unfold eY at e
  unfold kt
  by_cases h1 : Int.tmod y 4 = 0
  · rw [if_pos h1] at e ⊢
    exact e
  · rw [if_neg h1] at e ⊢
    rw [← e, beq_eq_false_iff_ne]
    rw [ms h] at h1 ⊢
    omega
theorem Bg {y m : Int} (hy : 0 ≤ y) (h1 : 1 ≤ m) (h2 : m ≤ 12) : hO y m = nG y m := by
  unfold hO nG
  rw [if_neg (by omega), if_neg (by omega)]
  simp only [eZ, Ay hy]
  have hm : m = 1 ∨ m = 2 ∨ m = 3 ∨ m = 4 ∨ m = 5 ∨ m = 6 ∨ m = 7 ∨ m = 8 ∨ m = 9 ∨ m = 10 ∨ m = 11 ∨ m = 12 := by omega
  rcases hm with rfl | rfl | rfl | rfl | rfl | rfl | rfl | rfl | rfl | rfl | rfl | rfl
  all_goals first | rfl | decide +kernel
theorem yU {y m d : Int} (h : kO y m d) : js y m d = iF y m d := by
  have b := mK h
  have y0 := h.y0; have y1 := h.y1; have m0 := h.m0; have m1 := h.m1; have d0 := h.d0; have d1 := h.d1
  have hl := md y m
  have key : ∀ Y M : Int, 1969 ≤ Y → Y ≤ 4900 → 0 ≤ M → M ≤ 11 → 12 * (Y - 1970) + M + 2 = 12 * (y - 1970) + m - 1 → (bm ((bm ((bm ((bm (Int.tdiv Y 400)) * 146097)) + (bm ((bm ((bm ((bm ((bm ((bm (365 * (Int.tmod Y 400))) + (bm (Int.tdiv (Int.tmod Y 400) 4)))) - (bm (Int.tdiv (Int.tmod Y 400) 100)))) + (bm (Int.tdiv (bm ((bm (153 * M)) + 2)) 5)))) + d)) - 1)))) - 719468)) = iF y m d := by
    intro Y M hY hY2 hM hM2 e
    have e2 := tG (Y := Y) hM hM2
    rw [e] at e2
    unfold iF
    rw [e2]
    unfold AQ AE
    rw [ng (a := Y) (by omega), ms (a := Y) (by omega), cj (n := Y / 400) (by omega), cj (n := Y / 400 * 146097) (by omega), cj (n := 365 * (Y % 400)) (by omega), ng (a := Y % 400) (b := 4) (by omega), ng (a := Y % 400) (b := 100) (by omega), cj (n := Y % 400 / 4) (by omega), cj (n := Y % 400 / 100) (by omega), cj (n := 365 * (Y % 400) + Y % 400 / 4) (by omega), cj (n := 365 * (Y % 400) + Y % 400 / 4 - Y % 400 / 100) (by omega),
      cj (n := 153 * M) (by omega), cj (n := 153 * M + 2) (by omega), ng (a := 153 * M + 2) (by omega), cj (n := (153 * M + 2) / 5) (by omega), cj (n := 365 * (Y % 400) + Y % 400 / 4 - Y % 400 / 100 + (153 * M + 2) / 5) (by omega), cj (n := 365 * (Y % 400) + Y % 400 / 4 - Y % 400 / 100 + (153 * M + 2) / 5 + d) (by omega), cj (n := 365 * (Y % 400) + Y % 400 / 4 - Y % 400 / 100 + (153 * M + 2) / 5 + d - 1) (by omega), cj (n := _ + (_ - 1)) (by omega), cj (by omega)]
    omega
  unfold js
  rw [cj (n := m - 3) (by omega)]
  by_cases hc : m - 3 < 0
  · rw [if_pos hc, cj (n := y - 1) (by omega), cj (n := m - 3 + 12) (by omega)]
    simp only [eZ]
    exact key (y - 1) (m - 3 + 12) (by omega) (by omega) (by omega) (by omega) (by omega)
  · rw [if_neg hc]
    simp only [eZ]
    exact key y (m - 3) (by omega) (by omega) (by omega) (by omega) (by omega)
theorem zf (y m d : Int) (hy : 0 ≤ y) (hm : 0 ≤ m ∧ m ≤ 100) (hd : 0 ≤ d ∧ d ≤ 100) : ju y m d = (if kO y m d then (iF y m d, true) else (0, false)) := by
  unfold ju
  by_cases h1 : y < 1970
  · rw [if_pos h1, if_neg (fun q => by have := q.y0; omega)]
  rw [if_neg h1]
  by_cases h2 : 4900 < y
  · rw [if_pos h2, if_neg (fun q => by have := q.y1; omega)]
  rw [if_neg h2]
  by_cases h3 : d < 1
  · rw [if_pos h3, if_neg (fun q => by have := q.d0; omega)]
  rw [if_neg h3]
  simp only [eZ]
  by_cases h4 : 1 ≤ m ∧ m ≤ 12
  · rw [Bg hy h4.1 h4.2]
    by_cases h5 : nG y m < d
    · rw [if_pos h5, if_neg (fun q => by have := q.d1; omega)]
    · have hv : kO y m d := ⟨by omega, by omega, h4.1, h4.2, by omega, by omega⟩
      rw [if_neg h5, if_pos hv, yU hv]
  · have : hO y m = 0 := by
      unfold hO
      by_cases h5 : m < 1
      · rw [if_pos h5]
      · rw [if_neg h5, if_pos (by omega)]
    rw [this, if_pos (by omega), if_neg (fun q => h4 ⟨q.m0, q.m1⟩)]
theorem vz {y m d y' m' d' : Int} (h : kO y m d) (h' : kO y' m' d') (e : iF y m d = iF y' m' d') : y = y' ∧ m = m' ∧ d = d' := by
  unfold iF at e
  have y0 := h.y0; have m0 := h.m0; have m1 := h.m1; have d0 := h.d0; have d1 := h.d1
  have y0' := h'.y0; have m0' := h'.m0; have m1' := h'.m1; have d0' := h'.d0; have d1' := h'.d1
  have a := lI (12 * (y - 1970) + m - 1)
  rw [show 1970 + (12 * (y - 1970) + m - 1) / 12 = y by omega, show (12 * (y - 1970) + m - 1) % 12 + 1 = m by omega] at a
  have a' := lI (12 * (y' - 1970) + m' - 1)
  rw [show 1970 + (12 * (y' - 1970) + m' - 1) / 12 = y' by omega, show (12 * (y' - 1970) + m' - 1) % 12 + 1 = m' by omega] at a'
  have hk := wD (d := jb (12 * (y - 1970) + m - 1) + d - 1) (j := 12 * (y - 1970) + m - 1) (k := 12 * (y' - 1970) + m' - 1) (by omega) (by omega) (by omega) (by omega)
  have hy : y = y' := by omega
  have hm : m = m' := by omega
  subst hy; subst hm
  exact ⟨rfl, rfl, by omega⟩
theorem yP {d : Int} (h0 : 0 ≤ d) (h1 : d ≤ 1000000) : ∃ y m k, gw W d = some (y, m, k) ∧ kO y m k ∧ iF y m k = d := by
  unfold gw
  obtain ⟨Y, e1, y1, y2, y3, y4⟩ := uU (K := W) h1 W d 1970 (by omega) (by rw [show (12 : Int) * (1970 - 1970) = 0 by decide, ss]; omega) h0 (by unfold W; omega)
  rw [e1]
  simp only [Option.bind_some]
  obtain ⟨M, f1, m1, m2, m3, m4⟩ := ux (K := W) (d := d) (y := Y) (z := d - jb (12 * (Y - 1970))) h1 y1 y2 y4 W (d - jb (12 * (Y - 1970))) 1 (by omega) (by omega) (by congr 2; omega) (by omega) (by unfold W; omega)
  rw [f1]
  simp only [Option.bind_some]
  have e := lI (12 * (Y - 1970) + M - 1)
  rw [show 1970 + (12 * (Y - 1970) + M - 1) / 12 = Y by omega, show (12 * (Y - 1970) + M - 1) % 12 + 1 = M by omega, show 12 * (Y - 1970) + M - 1 + 1 = 12 * (Y - 1970) + M by omega] at e
  have hl := md Y M
  have hY : Y ≤ 4900 := by
    apply Classical.byContradiction
    intro hc
    have a := lN (show 35172 ≤ 12 * (Y - 1970) by omega)
    have b : (1000000 : Int) < jb 35172 := by decide
    omega
  refine ⟨Y, M, _, rfl, ⟨y1, hY, m1, m2, ?_, ?_⟩, ?_⟩
  · rw [cj (by omega)]; omega
  · rw [cj (by omega)]; omega
  · rw [cj (by omega)]; unfold iF; omega
end Go.Proofs.YtgbjponaoeiglaaDoor.WordsParses
end
section
set_option linter.unusedVariables false
set_option linter.unusedSimpArgs false
set_option maxRecDepth 20000
namespace Go.Proofs.YtgbjponaoeiglaaDoor.WordsParses
open Go E
def jr : Nat → Nat → Wd
  | 0, _ => []
  | k + 1, n => jr k (n / 10) ++ [dg (n % 10)]
theorem fG : ∀ k n, (jr k n).length = k
  | 0, _ => rfl
  | k + 1, n => by simp [jr, fG k (n / 10)]
theorem xd (k n : Nat) (t : Wd) : jr (k + 1) n ++ t = jr k (n / 10) ++ (dg (n % 10) :: t) := by simp [jr]
theorem qw {a : Nat} (ha : a ≤ 4) : ∀ (f i n : Nat) (t : Wd), i ≤ a → a - i < f → n ≤ 1000000 → t.length ≤ i → fj W a f n t i = some (jr (a - i) n ++ t)
  | 0, i, n, t, h0, h1, h2, h3 => by omega
  | f + 1, i, n, t, h0, h1, h2, h3 => by
    rw [fj]
    by_cases h : i < a
    · have e1 : Int.tmod (n : Int) 10 = ((n % 10 : Nat) : Int) := by rw [ms (by omega)]; omega
      have e2 : bm (Int.tdiv (n : Int) 10) = ((n / 10 : Nat) : Int) := by rw [ng (by omega), cj (by omega)]; omega
      have e3 : lT [dR (bm (48 + (((n % 10 : Nat)) : Int)))] = [dg (n % 10)] := by
        have := Bk (d := ((n % 10 : Nat) : Int)) (by omega)
        rwa [Int.toNat_natCast] at this
      rw [if_pos (by omega), e1, e3, e2, if_pos (by simp; omega), mA (by omega), qw ha f (i + 1) (n / 10) _ (by omega) (by omega) (by omega) (by simp; omega)]
      rw [show a - i = (a - (i + 1)) + 1 by omega, xd]
      rfl
    · rw [if_neg (by omega), show a - i = 0 by omega]; rfl
theorem mZ {n : Int} {a : Nat} (ha : a ≤ 4) (h0 : 0 ≤ n) (h1 : n ≤ 1000000) : ce W n a = some (jr a n.toNat) := by
  unfold ce
  have := qw ha W 0 n.toNat [] (by omega) (by unfold W; omega) (by omega) (by simp)
  have e0 : ((0 : Nat) : Int) = 0 := rfl
  rw [Int.toNat_of_nonneg h0, e0] at this
  rw [this]
  simp
abbrev qx (c : UInt8) : Prop := 48 ≤ c.toNat ∧ c.toNat ≤ 57
def ql (n : Nat) (c : UInt8) : Nat := if qx c then n * 10 + (c.toNat - 48) else n
def vn (s : Wd) : Nat := s.foldl ql 0
theorem Ah {n : Nat} {c : UInt8} : ql n c ≤ n * 10 + 9 ∧ n ≤ ql n c := by
  unfold ql qx
  split <;> omega
theorem sF : ∀ (s : Wd) (n : Nat), s.foldl ql n + 1 ≤ (n + 1) * 10 ^ s.length
  | [], n => by simp
  | c :: s, n => by
    have h1 := (Ah (n := n) (c := c)).1
    have := sF s (ql n c)
    simp only [List.foldl_cons, List.length_cons, Nat.pow_succ]
    refine Nat.le_trans this ?_
    rw [Nat.mul_comm (10 ^ s.length) 10, ← Nat.mul_assoc]
    exact Nat.mul_le_mul_right _ (by omega)
theorem zA (s : Wd) : vn s < 10 ^ s.length := by
  have := sF s 0
  simp only [Nat.zero_add, Nat.one_mul] at this
  exact this
theorem nS {s : Wd} (hs : s.length ≤ 4) : ∀ (f i n : Nat), i ≤ s.length → s.length - i < f → n < 10 ^ i → dJ W s f n i = some (((s.drop i).foldl ql n : Nat) : Int)
  | 0, i, n, h0, h1, h2 => by omega
  | f + 1, i, n, h0, h1, h2 => by
    rw [dJ]
    by_cases h : i < s.length
    · have e1 : s.drop i = s[i] :: s.drop (i + 1) := List.drop_eq_getElem_cons h
      have hc := s[i].toNat_lt
      have hp : 10 ^ i ≤ 1000 := by
        have : i = 0 ∨ i = 1 ∨ i = 2 ∨ i = 3 := by omega
        rcases this with rfl | rfl | rfl | rfl <;> decide
      have eg : s.getD i 0 = s[i] := ga s i h 0
      have hb : 10 ^ (i + 1) = 10 ^ i * 10 := Nat.pow_succ 10 i
      rw [if_pos (by omega), if_pos (by omega), Int.toNat_natCast, eg, e1, List.foldl_cons, mA (by omega)]
      by_cases c1 : 48 ≤ (s[i].toNat : Int)
      · rw [if_pos c1]
        by_cases c2 : (s[i].toNat : Int) ≤ 57
        · have hv : ql n s[i] = n * 10 + (s[i].toNat - 48) := by unfold ql qx; rw [if_pos (by omega)]
          rw [if_pos c2, cj (n := (n : Int) * 10) (by omega), pv (by omega), cj (n := (s[i].toNat : Int) - 48) (by omega), cj (by omega)]
          have e2 : (n : Int) * 10 + ((s[i].toNat : Int) - 48) = ((ql n s[i] : Nat) : Int) := by rw [hv]; omega
          rw [e2]
          exact nS hs f (i + 1) _ (by omega) (by omega) (by rw [hv]; omega)
        · have hv : ql n s[i] = n := by unfold ql qx; rw [if_neg (by omega)]
          rw [if_neg c2, hv]
          exact nS hs f (i + 1) _ (by omega) (by omega) (by omega)
      · have hv : ql n s[i] = n := by unfold ql qx; rw [if_neg (by omega)]
        rw [if_neg c1, hv]
        exact nS hs f (i + 1) _ (by omega) (by omega) (by omega)
    · rw [if_neg (by omega), List.drop_eq_nil_of_le (by omega)]; rfl
theorem mS {s : Wd} (hs : s.length ≤ 4) : cW W s = some ((vn s : Nat) : Int) := by
  unfold cW
  have := nS hs W 0 0 (by omega) (by unfold W; omega) (by simp)
  simpa [vn] using this
theorem uY (s : Wd) (c : UInt8) : vn (s ++ [c]) = ql (vn s) c := by simp [vn]
theorem lr : ∀ k n, n < 10 ^ k → vn (jr k n) = n
  | 0, n, h => by simp at h; subst h; rfl
  | k + 1, n, h => by
    have h1 : n / 10 < 10 ^ k := by rw [Nat.pow_succ] at h; omega
    rw [jr, uY, lr k _ h1]
    have := qj (d := n % 10) (by omega)
    unfold ql qx
    rw [if_pos (by omega)]; omega
theorem ve : ∀ (s : Wd), (∀ c ∈ s, qx c) → jr s.length (vn s) = s := by
  intro s
  induction hs : s.length generalizing s with
  | zero => intro _; rw [List.eq_nil_of_length_eq_zero hs]; rfl
  | succ k ih =>
    intro hd
    have hne : s ≠ [] := by intro e; rw [e] at hs; simp at hs
    obtain ⟨s0, c, rfl⟩ : ∃ s0 c, s = s0 ++ [c] := ⟨s.dropLast, s.getLast hne, (List.dropLast_concat_getLast hne).symm⟩
    have hc := hd c (by simp)
    have hl : s0.length = k := by simp at hs; exact hs
    have i0 := ih s0 hl fun x hx => hd x (by simp [hx])
    rw [jr, uY]
    unfold qx at hc
    have hv : ql (vn s0) c = vn s0 * 10 + (c.toNat - 48) := by unfold ql qx; rw [if_pos hc]
    rw [hv, show (vn s0 * 10 + (c.toNat - 48)) / 10 = vn s0 by omega, show (vn s0 * 10 + (c.toNat - 48)) % 10 = c.toNat - 48 by omega, i0, xl c hc]
theorem tY : ∀ k n, ∀ c ∈ jr k n, qx c
  | 0, n, c, h => by simp [jr] at h
  | k + 1, n, c, h => by
    rw [jr] at h
    rcases List.mem_append.1 h with h | h
    · exact tY k _ c h
    · simp at h; subst h; exact xo (by omega)
def TP (y m d h : Nat) : Wd := jr 4 y ++ 45 :: (jr 2 m ++ 45 :: (jr 2 d ++ 84 :: jr 2 h))
theorem yp (y m d h : Nat) : (TP y m d h).length = 13 := by simp [TP, fG]
theorem yh (a : Nat) {x : Wd} {t : Wd} (h : x.length = a) : (x ++ t).take a = x := by rw [← h]; exact List.take_left ..
theorem mw (a : Nat) {x : Wd} {t : Wd} (h : x.length = a) : (x ++ t).drop a = t := by rw [← h]; exact List.drop_left ..
theorem Av (y m d h : Nat) : (TP y m d h).take 4 = jr 4 y := by unfold TP; exact yh 4 (fG _ _)
theorem AO (y m d h : Nat) : ((TP y m d h).drop 5).take 2 = jr 2 m := by
  unfold TP
  rw [show (5 : Nat) = 4 + 1 from rfl, ← List.drop_drop, mw 4 (fG _ _), List.drop_succ_cons, List.drop_zero, yh 2 (fG _ _)]
theorem AF (y m d h : Nat) : ((TP y m d h).drop 8).take 2 = jr 2 d := by
  unfold TP
  rw [show (8 : Nat) = 4 + (1 + (2 + 1)) from rfl, ← List.drop_drop, mw 4 (fG _ _), ← List.drop_drop, List.drop_succ_cons, List.drop_zero, ← List.drop_drop, mw 2 (fG _ _), List.drop_succ_cons, List.drop_zero, yh 2 (fG _ _)]
theorem AJ (y m d h : Nat) : ((TP y m d h).drop 11).take 2 = jr 2 h := by
  unfold TP
  rw [show (11 : Nat) = 4 + (1 + (2 + (1 + (2 + 1)))) from rfl, ← List.drop_drop, mw 4 (fG _ _), ← List.drop_drop, List.drop_succ_cons, List.drop_zero, ← List.drop_drop, mw 2 (fG _ _), ← List.drop_drop, List.drop_succ_cons, List.drop_zero, ← List.drop_drop, mw 2 (fG _ _), List.drop_succ_cons, List.drop_zero, List.take_of_length_le (by rw [fG]; exact Nat.le_refl _)]
theorem zE {y m d h y' m' d' h' : Nat} (hy : y < 10000) (hm : m < 100) (hd : d < 100) (hh : h < 100) (hy' : y' < 10000) (hm' : m' < 100) (hd' : d' < 100) (hh' : h' < 100) (e : TP y m d h = TP y' m' d' h') : y = y' ∧ m = m' ∧ d = d' ∧ h = h' := by
  refine ⟨?_, ?_, ?_, ?_⟩
  · have := congrArg (fun l => vn (l.take 4)) e
    simp only [Av] at this
    rwa [lr 4 y hy, lr 4 y' hy'] at this
  · have := congrArg (fun l => vn ((l.drop 5).take 2)) e
    simp only [AO] at this
    rwa [lr 2 m hm, lr 2 m' hm'] at this
  · have := congrArg (fun l => vn ((l.drop 8).take 2)) e
    simp only [AF] at this
    rwa [lr 2 d hd, lr 2 d' hd'] at this
  · have := congrArg (fun l => vn ((l.drop 11).take 2)) e
    simp only [AJ] at this
    rwa [lr 2 h hh, lr 2 h' hh'] at this
theorem qt {y m d : Int} (h : kO y m d) : y.toNat < 10000 ∧ m.toNat < 100 ∧ d.toNat < 100 ∧ 0 ≤ y ∧ 0 ≤ m ∧ 0 ≤ d := by
  have := h.y0; have := h.y1; have := h.m0; have := h.m1; have := h.d0; have := h.d1; have := md y m
  omega
theorem zP (a b : Wd) (h : a.length ≤ 100 ∧ b.length ≤ 100) : (a.length : Int) + (b.length : Int) ≤ 9223372036854775807 := by omega
theorem wK (a b c e : Wd) (ha : a.length ≤ 20) (hb : b.length ≤ 20) (hc : c.length ≤ 20) (he : e.length ≤ 20) (B : Int) (hB : 1000 ≤ B) :
    (if (a.length : Int) + (([45] : List UInt8).length : Int) ≤ B then ((some b).bind fun x8 => (if ((a ++ ([45] : List UInt8)).length : Int) + (x8.length : Int) ≤ B then (if (((a ++ ([45] : List UInt8)) ++ x8).length : Int) + (([45] : List UInt8).length : Int) ≤ B then ((some c).bind fun x9 => (if ((((a ++ ([45] : List UInt8)) ++ x8) ++ ([45] : List UInt8)).length : Int) + (x9.length : Int) ≤ B then (if (((((a ++ ([45] : List UInt8)) ++ x8) ++ ([45] : List UInt8)) ++ x9).length : Int) + (([84] : List UInt8).length : Int) ≤ B then ((some e).bind fun x10 => (if ((((((a ++ ([45] : List UInt8)) ++ x8) ++ ([45] : List UInt8)) ++ x9) ++ ([84] : List UInt8)).length : Int) + (x10.length : Int) ≤ B then (some (((((((a ++ ([45] : List UInt8)) ++ x8) ++ ([45] : List UInt8)) ++ x9) ++ ([84] : List UInt8)) ++ x10))) else none)) else none) else none)) else none) else none)) else none) = some (a ++ 45 :: (b ++ 45 :: (c ++ 84 :: e))) := by
  simp only [Option.bind_some]
  have q1 : ∀ a b : Wd, a.length ≤ 200 ∧ b.length ≤ 200 → (a.length : Int) + (b.length : Int) ≤ B := fun a b h => by omega
  rw [if_pos (q1 _ _ ⟨by omega, by simp⟩), if_pos (q1 _ _ ⟨by simp; omega, by omega⟩), if_pos (q1 _ _ ⟨by simp; omega, by simp⟩), if_pos (q1 _ _ ⟨by simp; omega, by omega⟩), if_pos (q1 _ _ ⟨by simp; omega, by simp⟩), if_pos (q1 _ _ ⟨by simp; omega, by omega⟩)]
  simp only [List.append_assoc, List.cons_append, List.nil_append]
theorem vj {h : Int} (h0 : 0 ≤ h) (h1 : h ≤ 16777216) : ∃ y m d, kO y m d ∧ iF y m d = h / 24 ∧ eH W h = some (TP y.toNat m.toNat d.toNat (h % 24).toNat) := by
  have e1 : bm (Int.tdiv h 24) = h / 24 := by rw [ng h0, cj (by omega)]
  have e2 : Int.tmod h 24 = h % 24 := ms h0
  obtain ⟨y, m, d, a1, a2, a3⟩ := yP (d := h / 24) (by omega) (by omega)
  have hv := qt a2
  refine ⟨y, m, d, a2, a3, ?_⟩
  have d4 : ce W y 4 = some (jr 4 y.toNat) := mZ (n := y) (a := 4) (by omega) (by omega) (by omega)
  have dm : ce W m 2 = some (jr 2 m.toNat) := mZ (n := m) (a := 2) (by omega) (by omega) (by omega)
  have dd : ce W d 2 = some (jr 2 d.toNat) := mZ (n := d) (a := 2) (by omega) (by omega) (by omega)
  have dh : ce W (h % 24) 2 = some (jr 2 (h % 24).toNat) := mZ (n := h % 24) (a := 2) (by omega) (by omega) (by omega)
  have key := wK (jr 4 y.toNat) (jr 2 m.toNat) (jr 2 d.toNat) (jr 2 (h % 24).toNat) (by rw [fG]; omega) (by rw [fG]; omega) (by rw [fG]; omega) (by rw [fG]; omega) 9223372036854775807 (by omega)
  unfold eH
  rw [e1, e2, a1, Option.bind_some, d4, Option.bind_some, dm, dd, dh]
  exact key
def kX (h : Int) : Wd := (eH W h).getD []
theorem qc {h : Int} (h0 : 0 ≤ h) (h1 : h ≤ 16777216) : eH W h = some (kX h) := by
  obtain ⟨y, m, d, _, _, e⟩ := vj h0 h1
  unfold kX; rw [e]; rfl
theorem mj {h : Int} (h0 : 0 ≤ h) (h1 : h ≤ 16777216) : ∃ y m d, kO y m d ∧ iF y m d = h / 24 ∧ kX h = TP y.toNat m.toNat d.toNat (h % 24).toNat := by
  obtain ⟨y, m, d, a, b, e⟩ := vj h0 h1
  exact ⟨y, m, d, a, b, by unfold kX; rw [e]; rfl⟩
def zi (y m d h : Nat) : Option Int := if kO y m d ∧ h < 24 ∧ iF y m d * 24 + h ≤ 16777216 then some (iF y m d * 24 + h) else none
theorem ub {y m d h : Nat} (hy : y < 10000) (hm : m < 100) (hd : d < 100) (hh : h < 100) (n : Int) : zi y m d h = some n ↔ (0 ≤ n ∧ n ≤ 16777216) ∧ TP y m d h = kX n := by
  unfold zi
  constructor
  · intro h0
    split at h0
    · rename_i q
      cases h0
      obtain ⟨hv, h24, hmx⟩ := q
      have hin := mK hv
      have r : 0 ≤ iF y m d * 24 + (h : Int) ∧ iF y m d * 24 + (h : Int) ≤ 16777216 := by omega
      obtain ⟨y', m', d', v', e', t'⟩ := mj r.1 r.2
      have hq : (iF y m d * 24 + (h : Int)) / 24 = iF y m d := by omega
      rw [hq] at e'
      obtain ⟨rfl, rfl, rfl⟩ := vz v' hv e'
      refine ⟨r, ?_⟩
      rw [t', show ((iF y m d * 24 + (h : Int)) % 24).toNat = h by omega]
      simp
    · cases h0
  · rintro ⟨⟨r0, r1⟩, e⟩
    obtain ⟨y', m', d', v', e', t'⟩ := mj r0 r1
    have hv := qt v'
    rw [t'] at e
    obtain ⟨a, b, c, f⟩ := zE hy hm hd hh hv.1 hv.2.1 hv.2.2.1 (by omega) e
    have ey : (y : Int) = y' := by omega
    have em : (m : Int) = m' := by omega
    have ed : (d : Int) = d' := by omega
    rw [ey, em, ed, e']
    rw [if_pos ⟨v', by omega, by omega⟩]
    congr 1
    omega
end Go.Proofs.YtgbjponaoeiglaaDoor.WordsParses
end
section
set_option linter.unusedVariables false
set_option linter.unusedSimpArgs false
set_option maxRecDepth 20000
namespace Go.Proofs.YtgbjponaoeiglaaDoor.WordsParses
open Go E
def jq : Wd := [48, 48, 48, 48, 45, 48, 48, 45, 48, 48, 84, 48, 48]
def kH (n : Int) (c : UInt8) : Int := n * 10 + ((c.toNat : Int) - 48)
def rO (s : Wd) (j : Nat) : Bool := if jq.getD j 0 = 48 then decide (qx (s.getD j 0)) else s.getD j 0 == jq.getD j 0
def tJ (s : Wd) : List Nat → Bool
  | [] => true
  | j :: l => rO s j && tJ s l
theorem A9 {α : Type} {b r : Bool} {X Y V Z_ : α} (h : X = if b = true then Y else Z_) (h2 : Y = if r = true then V else Z_) : X = if (b && r) = true then V else Z_ := by
  cases b <;> cases r <;> simp_all
theorem lU {s : Wd} (hs : s.length = 13) (f j a : Nat) (n0 n1 n2 n3 : Int) (hj : j < 13) (h48 : jq.getD j 0 = 48) (ha : a < 4) (hn : 0 ≤ [n0, n1, n2, n3].getD a 0 ∧ [n0, n1, n2, n3].getD a 0 ≤ 999) :
    dC W s (f + 1) a j n0 n1 n2 n3 = if rO s j = true then dC W s f a ((j + 1 : Nat) : Int) (if a = 0 then kH ([n0, n1, n2, n3].getD a 0) (s.getD j 0) else n0) (if a = 1 then kH ([n0, n1, n2, n3].getD a 0) (s.getD j 0) else n1) (if a = 2 then kH ([n0, n1, n2, n3].getD a 0) (s.getD j 0) else n2) (if a = 3 then kH ([n0, n1, n2, n3].getD a 0) (s.getD j 0) else n3) else some (Sum.inr (0, false)) := by
  rw [dC]
  have hb := kj s
  have hg : (dj s).getD j 0 = ((s.getD j 0).toNat : Int) := by rw [oc s j (by omega), ga s j (by omega)]
  have hc := (s.getD j 0).toNat_lt
  have hf : (([48, 48, 48, 48, 45, 48, 48, 45, 48, 48, 84, 48, 48] : List UInt8).getD j 0).toNat = 48 := congrArg UInt8.toNat h48
  have ho : rO s j = decide (qx (s.getD j 0)) := by unfold rO; rw [if_pos h48]
  rw [if_pos (by omega), if_pos (by omega), if_pos (by simp; omega), Int.toNat_natCast, Int.toNat_natCast, hg, hf, if_neg (by simp), ho]
  by_cases c1 : ((s.getD j 0).toNat : Int) < 48
  · rw [if_pos c1, if_neg (by rw [decide_eq_true_eq]; omega)]
  · rw [if_neg c1]
    by_cases c2 : 57 < ((s.getD j 0).toNat : Int)
    · rw [if_pos c2, if_neg (by rw [decide_eq_true_eq]; omega)]
    · rw [if_neg c2, if_pos (by omega), if_pos (by omega), if_pos (show decide (qx (s.getD j 0)) = true by rw [decide_eq_true_eq]; omega), mA (by omega), pv (by omega), cj (n := _ - 48) (by omega), cj (n := _ * 10) (by omega), cj (by omega)]
      rfl
theorem uj {s : Wd} (hs : s.length = 13) (f j a : Nat) (n0 n1 n2 n3 : Int) (hj : j < 13) (h48 : ¬ jq.getD j 0 = 48) (ha : a < 4) :
    dC W s (f + 1) a j n0 n1 n2 n3 = if rO s j = true then dC W s f ((a + 1 : Nat) : Int) ((j + 1 : Nat) : Int) n0 n1 n2 n3 else some (Sum.inr (0, false)) := by
  rw [dC]
  have hb := kj s
  have hg : (dj s).getD j 0 = ((s.getD j 0).toNat : Int) := by rw [oc s j (by omega), ga s j (by omega)]
  have hf : ¬ ((([48, 48, 48, 48, 45, 48, 48, 45, 48, 48, 84, 48, 48] : List UInt8).getD j 0).toNat : Int) = 48 := fun e => h48 (UInt8.toNat_inj.1 (show (jq.getD j 0).toNat = 48 by have : ((jq.getD j 0).toNat : Int) = 48 := e; omega))
  have ho : rO s j = (s.getD j 0 == jq.getD j 0) := by unfold rO; rw [if_neg h48]
  rw [if_pos (by omega), if_pos (by omega), if_pos (by simp; omega), Int.toNat_natCast, Int.toNat_natCast, hg, if_pos hf, ho]
  by_cases c : s.getD j 0 = jq.getD j 0
  · rw [if_pos (show (s.getD j 0 == jq.getD j 0) = true by rw [c]; simp), if_neg (by rw [c]; simp [jq]), mA (by omega), mA (by omega)]
  · rw [if_neg (show ¬ (s.getD j 0 == jq.getD j 0) = true by simpa using c), if_pos]
    intro e
    exact c (UInt8.toNat_inj.1 (show (s.getD j 0).toNat = (jq.getD j 0).toNat by have : ((s.getD j 0).toNat : Int) = ((jq.getD j 0).toNat : Int) := e; omega))
theorem Bb {s : Wd} (hs : s.length = 13) (f a : Nat) (n0 n1 n2 n3 : Int) : dC W s (f + 1) a ((13 : Nat) : Int) n0 n1 n2 n3 = if tJ s [] = true then some (Sum.inl (n0, n1, n2, n3)) else some (Sum.inr (0, false)) := by
  rw [dC]
  have hb := kj s
  rw [if_neg (by omega)]
  rfl
theorem nl {b : Bool} {n B : Int} {s : Wd} {j : Nat} (hj : jq.getD j 0 = 48) : rO s j = true → 0 ≤ n ∧ n ≤ B → 0 ≤ kH n (s.getD j 0) ∧ kH n (s.getD j 0) ≤ B * 10 + 9 := by
  intro h1 h2
  unfold rO at h1
  rw [if_pos hj, decide_eq_true_eq] at h1
  unfold kH
  omega
theorem mf {α : Type} {b r : Bool} {X Y V Z_ : α} (h : X = if b = true then Y else Z_) (h2 : b = true → Y = if r = true then V else Z_) : X = if (b && r) = true then V else Z_ := by
  cases b
  · simpa using h
  · exact A9 h (h2 Z)
def uB (s : Wd) : Int × Int × Int × Int := (kH (kH (kH (kH 0 (s.getD 0 0)) (s.getD 1 0)) (s.getD 2 0)) (s.getD 3 0), kH (kH 0 (s.getD 5 0)) (s.getD 6 0), kH (kH 0 (s.getD 8 0)) (s.getD 9 0), kH (kH 0 (s.getD 11 0)) (s.getD 12 0))
def oO : List Nat := [0, 1, 2, 3, 4, 5, 6, 7, 8, 9, 10, 11, 12]
theorem Aa {s : Wd} (hs : s.length = 13) (g : Nat) : dC W s (g + 1 + 1 + 1 + 1 + 1 + 1 + 1 + 1 + 1 + 1 + 1 + 1 + 1 + 1) ((0 : Nat) : Int) ((0 : Nat) : Int) 0 0 0 0 = if tJ s oO = true then some (Sum.inl (uB s)) else some (Sum.inr (0, false)) := by
  refine mf (lU hs _ 0 0 0 0 0 0 (by omega) Z (by omega) (by decide)) fun q0 => ?_
  have b0 := nl (b := true) (n := 0) (B := 0) Z q0 (by omega)
  refine mf (lU hs _ 1 0 _ _ _ _ (by omega) Z (by omega) (by simp only [if_true]; show 0 ≤ kH 0 _ ∧ kH 0 _ ≤ 999; exact ⟨b0.1, by have := b0.2; omega⟩)) fun q1 => ?_
  have b1 := nl (b := true) Z q1 b0
  refine mf (lU hs _ 2 0 _ _ _ _ (by omega) Z (by omega) ⟨b1.1, by have := b1.2; exact Int.le_trans this (by decide)⟩) fun q2 => ?_
  have b2 := nl (b := true) Z q2 b1
  refine mf (lU hs _ 3 0 _ _ _ _ (by omega) Z (by omega) ⟨b2.1, by have := b2.2; exact Int.le_trans this (by decide)⟩) fun q3 => ?_
  refine mf (uj hs _ 4 0 _ _ _ _ (by omega) (by decide) (by omega)) fun q4 => ?_
  refine mf (lU hs _ 5 1 _ _ _ _ (by omega) Z (by omega) ⟨Int.le_refl 0, (by decide : (0 : Int) ≤ 999)⟩) fun q5 => ?_
  have b5 := nl (b := true) (n := 0) (B := 0) Z q5 (by omega)
  refine mf (lU hs _ 6 1 _ _ _ _ (by omega) Z (by omega) ⟨b5.1, by have := b5.2; exact Int.le_trans this (by decide)⟩) fun q6 => ?_
  refine mf (uj hs _ 7 1 _ _ _ _ (by omega) (by decide) (by omega)) fun q7 => ?_
  refine mf (lU hs _ 8 2 _ _ _ _ (by omega) Z (by omega) ⟨Int.le_refl 0, (by decide : (0 : Int) ≤ 999)⟩) fun q8 => ?_
  have b8 := nl (b := true) (n := 0) (B := 0) Z q8 (by omega)
  refine mf (lU hs _ 9 2 _ _ _ _ (by omega) Z (by omega) ⟨b8.1, by have := b8.2; exact Int.le_trans this (by decide)⟩) fun q9 => ?_
  refine mf (uj hs _ 10 2 _ _ _ _ (by omega) (by decide) (by omega)) fun q10 => ?_
  refine mf (lU hs _ 11 3 _ _ _ _ (by omega) Z (by omega) ⟨Int.le_refl 0, (by decide : (0 : Int) ≤ 999)⟩) fun q11 => ?_
  have b11 := nl (b := true) (n := 0) (B := 0) Z q11 (by omega)
  refine mf (lU hs _ 12 3 _ _ _ _ (by omega) Z (by omega) ⟨b11.1, by have := b11.2; exact Int.le_trans this (by decide)⟩) fun q12 => ?_
  exact Bb hs _ _ _ _ _ _
theorem gA {s : Wd} {i j : Nat} (h : i < j) : (s.take j).getD i 0 = s.getD i 0 := by
  simp [List.getD_eq_getElem?_getD, List.getElem?_take, h]
theorem jE {s : Wd} {i j : Nat} : (s.drop j).getD i 0 = s.getD (j + i) 0 := by
  simp [List.getD_eq_getElem?_getD, List.getElem?_drop]
theorem zl {l : Wd} (h : l.length = 2) : l = [l.getD 0 0, l.getD 1 0] := by
  match l, h with
  | [a, b], _ => rfl
theorem zk {l : Wd} (h : l.length = 4) : l = [l.getD 0 0, l.getD 1 0, l.getD 2 0, l.getD 3 0] := by
  match l, h with
  | [a, b, c, d], _ => rfl
theorem rW {s : Wd} : ∀ {l : List Nat}, tJ s l = true → ∀ j ∈ l, rO s j = true
  | [], _, j, h => by simp at h
  | i :: l, h, j, hj => by
    simp only [tJ, Bool.and_eq_true] at h
    rcases List.mem_cons.1 hj with rfl | hj
    · exact h.1
    · exact rW h.2 j hj
theorem yn {s : Wd} : ∀ {l : List Nat}, (∀ j ∈ l, rO s j = true) → tJ s l = true
  | [], _ => rfl
  | i :: l, h => by simp only [tJ, Bool.and_eq_true]; exact ⟨h i (by simp), yn fun j hj => h j (by simp [hj])⟩
theorem AW {s : Wd} {j : Nat} (hj : jq.getD j 0 = 48) (h : rO s j = true) : qx (s.getD j 0) := by
  unfold rO at h; rw [if_pos hj, decide_eq_true_eq] at h; exact h
theorem zS {s : Wd} {j : Nat} (hj : ¬ jq.getD j 0 = 48) (h : rO s j = true) : s.getD j 0 = jq.getD j 0 := by
  unfold rO at h; rw [if_neg hj] at h; exact eq_of_beq h
theorem sb {s : Wd} (hs : s.length = 13) (h : tJ s oO = true) : s = TP (vn (s.take 4)) (vn ((s.drop 5).take 2)) (vn ((s.drop 8).take 2)) (vn ((s.drop 11).take 2)) := by
  have hm := fun j (hj : j ∈ oO) => rW h j hj
  have m : ∀ j, j < 13 → j ∈ oO := by decide
  have dd : ∀ j, j < 13 → jq.getD j 0 = 48 → qx (s.getD j 0) := fun j a b => AW b (hm j (m j a))
  have kD : ∀ j, j + 2 ≤ 13 → jq.getD j 0 = 48 → jq.getD (j + 1) 0 = 48 → jr 2 (vn ((s.drop j).take 2)) = (s.drop j).take 2 := by
    intro j a b c
    have hl : ((s.drop j).take 2).length = 2 := by simp; omega
    have := ve ((s.drop j).take 2) (by
      rw [zl hl, gA (by omega), gA (by omega), jE, jE]
      intro x hx
      simp only [List.mem_cons, List.not_mem_nil, or_false] at hx
      rcases hx with rfl | rfl
      · exact dd (j + 0) (by omega) b
      · exact dd (j + 1) (by omega) c)
    rwa [hl] at this
  have four : jr 4 (vn (s.take 4)) = s.take 4 := by
    have hl : (s.take 4).length = 4 := by simp; omega
    have := ve (s.take 4) (by
      rw [zk hl, gA (by omega), gA (by omega), gA (by omega), gA (by omega)]
      intro x hx
      simp only [List.mem_cons, List.not_mem_nil, or_false] at hx
      rcases hx with rfl | rfl | rfl | rfl
      · exact dd 0 (by omega) Z
      · exact dd 1 (by omega) Z
      · exact dd 2 (by omega) Z
      · exact dd 3 (by omega) Z)
    rwa [hl] at this
  unfold TP
  rw [four, kD 5 (by omega) Z Z, kD 8 (by omega) Z Z, kD 11 (by omega) Z Z]
  have s4 := zS (j := 4) (by decide) (hm 4 (m 4 (by omega)))
  have s7 := zS (j := 7) (by decide) (hm 7 (m 7 (by omega)))
  have s10 := zS (j := 10) (by decide) (hm 10 (m 10 (by omega)))
  have cut : ∀ j, j < 13 → s.drop j = s.getD j 0 :: s.drop (j + 1) := fun j hj => by rw [ga s j (by omega)]; exact List.drop_eq_getElem_cons (by omega)
  have part : ∀ j, s.drop j = (s.drop j).take 2 ++ s.drop (j + 2) := fun j => by
    conv => lhs; rw [← List.take_append_drop 2 (s.drop j), List.drop_drop]
  conv => lhs; rw [← List.take_append_drop 4 s, cut 4 (by omega), s4, part 5, cut 7 (by omega), s7, part 8, cut 10 (by omega), s10, part 11]
  rw [show s.drop 13 = [] from List.drop_eq_nil_of_le (by omega), List.append_nil]
  rfl
theorem uC (y m d h : Nat) : tJ (TP y m d h) oO = true := by
  refine yn fun j hj => ?_
  have g : ∀ (k n i : Nat) , i < k → qx ((jr k n).getD i 0) := fun k n i hi => by
    rw [ga _ _ (by rw [fG]; exact hi)]
    exact tY k n _ (List.getElem_mem _)
  have e0 : ∀ i, i < 4 → (TP y m d h).getD i 0 = (jr 4 y).getD i 0 := fun i hi => by rw [← Av y m d h, gA hi]
  have e5 : ∀ i, i < 2 → (TP y m d h).getD (5 + i) 0 = (jr 2 m).getD i 0 := fun i hi => by rw [← AO y m d h, gA hi, jE]
  have e8 : ∀ i, i < 2 → (TP y m d h).getD (8 + i) 0 = (jr 2 d).getD i 0 := fun i hi => by rw [← AF y m d h, gA hi, jE]
  have e11 : ∀ i, i < 2 → (TP y m d h).getD (11 + i) 0 = (jr 2 h).getD i 0 := fun i hi => by rw [← AJ y m d h, gA hi, jE]
  have D : ∀ j, jq.getD j 0 = 48 → qx ((TP y m d h).getD j 0) → rO (TP y m d h) j = true := fun j a b => by unfold rO; rw [if_pos a, decide_eq_true_eq]; exact b
  have S : ∀ j, ¬ jq.getD j 0 = 48 → (TP y m d h).getD j 0 = jq.getD j 0 → rO (TP y m d h) j = true := fun j a b => by unfold rO; rw [if_neg a, b]; exact beq_self_eq_true _
  simp only [oO, List.mem_cons, List.not_mem_nil, or_false] at hj
  rcases hj with rfl | rfl | rfl | rfl | rfl | rfl | rfl | rfl | rfl | rfl | rfl | rfl | rfl
  · exact D 0 Z (by rw [e0 0 (by omega)]; exact g 4 y 0 (by omega))
  · exact D 1 Z (by rw [e0 1 (by omega)]; exact g 4 y 1 (by omega))
  · exact D 2 Z (by rw [e0 2 (by omega)]; exact g 4 y 2 (by omega))
  · exact D 3 Z (by rw [e0 3 (by omega)]; exact g 4 y 3 (by omega))
  · refine S 4 (by decide) ?_
    have : ((TP y m d h).drop 4).getD 0 0 = 45 := by unfold TP; rw [mw 4 (fG _ _)]; rfl
    rw [jE] at this; exact this
  · exact D 5 Z (by rw [e5 0 (by omega)]; exact g 2 m 0 (by omega))
  · exact D 6 Z (by rw [e5 1 (by omega)]; exact g 2 m 1 (by omega))
  · refine S 7 (by decide) ?_
    have : ((TP y m d h).drop 7).getD 0 0 = 45 := by
      unfold TP
      rw [show (7 : Nat) = 4 + (1 + 2) from rfl, ← List.drop_drop, mw 4 (fG _ _), ← List.drop_drop, List.drop_succ_cons, List.drop_zero, mw 2 (fG _ _)]; rfl
    rw [jE] at this; exact this
  · exact D 8 Z (by rw [e8 0 (by omega)]; exact g 2 d 0 (by omega))
  · exact D 9 Z (by rw [e8 1 (by omega)]; exact g 2 d 1 (by omega))
  · refine S 10 (by decide) ?_
    have : ((TP y m d h).drop 10).getD 0 0 = 84 := by
      unfold TP
      rw [show (10 : Nat) = 4 + (1 + (2 + (1 + 2))) from rfl, ← List.drop_drop, mw 4 (fG _ _), ← List.drop_drop, List.drop_succ_cons, List.drop_zero, ← List.drop_drop, mw 2 (fG _ _), ← List.drop_drop, List.drop_succ_cons, List.drop_zero, mw 2 (fG _ _)]; rfl
    rw [jE] at this; exact this
  · exact D 11 Z (by rw [e11 0 (by omega)]; exact g 2 h 0 (by omega))
  · exact D 12 Z (by rw [e11 1 (by omega)]; exact g 2 h 1 (by omega))
theorem lW {n : Nat} {c : UInt8} (h : qx c) : kH n c = ((ql n c : Nat) : Int) := by
  unfold kH ql; rw [if_pos h]; omega
theorem yz {s : Wd} (hs : s.length = 13) (h : tJ s oO = true) : uB s = (((vn (s.take 4) : Nat) : Int), ((vn ((s.drop 5).take 2) : Nat) : Int), ((vn ((s.drop 8).take 2) : Nat) : Int), ((vn ((s.drop 11).take 2) : Nat) : Int)) := by
  have m : ∀ j, j < 13 → j ∈ oO := by decide
  have dd : ∀ j, j < 13 → jq.getD j 0 = 48 → qx (s.getD j 0) := fun j a b => AW b (rW h j (m j a))
  have kD : ∀ j, j + 2 ≤ 13 → jq.getD j 0 = 48 → jq.getD (j + 1) 0 = 48 → kH (kH 0 (s.getD j 0)) (s.getD (j + 1) 0) = ((vn ((s.drop j).take 2) : Nat) : Int) := by
    intro j a b c
    have hl : ((s.drop j).take 2).length = 2 := by simp; omega
    rw [zl hl, gA (by omega), gA (by omega), jE, jE]
    have d0 := dd j (by omega) b
    have d1 := dd (j + 1) (by omega) c
    rw [show kH 0 (s.getD j 0) = ((ql 0 (s.getD j 0) : Nat) : Int) from lW d0, lW d1]
    rfl
  have four : kH (kH (kH (kH 0 (s.getD 0 0)) (s.getD 1 0)) (s.getD 2 0)) (s.getD 3 0) = ((vn (s.take 4) : Nat) : Int) := by
    have hl : (s.take 4).length = 4 := by simp; omega
    rw [zk hl, gA (by omega), gA (by omega), gA (by omega), gA (by omega)]
    rw [show kH 0 (s.getD 0 0) = ((ql 0 (s.getD 0 0) : Nat) : Int) from lW (dd 0 (by omega) Z), lW (dd 1 (by omega) Z), lW (dd 2 (by omega) Z), lW (dd 3 (by omega) Z)]
    rfl
  unfold uB
  rw [four, kD 5 (by omega) Z Z, kD 8 (by omega) Z Z, kD 11 (by omega) Z Z]
def cO (s : Wd) : Option Int := if s.length = 13 ∧ tJ s oO = true then zi (vn (s.take 4)) (vn ((s.drop 5).take 2)) (vn ((s.drop 8).take 2)) (vn ((s.drop 11).take 2)) else none
theorem wZ (l : Wd) (h : l.length ≤ 2) : vn l < 100 := by
  have := zA l
  have : l.length = 0 ∨ l.length = 1 ∨ l.length = 2 := by omega
  rcases this with e | e | e <;> rw [e] at this <;> omega
theorem Ba (l : Wd) (h : l.length ≤ 4) : vn l < 10000 := by
  have h1 := zA l
  have : l.length = 0 ∨ l.length = 1 ∨ l.length = 2 ∨ l.length = 3 ∨ l.length = 4 := by omega
  rcases this with e | e | e | e | e <;> rw [e] at h1 <;> omega
theorem tW {s : Wd} (h : Int) : cO s = some h ↔ (0 ≤ h ∧ h ≤ 16777216) ∧ s = kX h := by
  unfold cO
  constructor
  · intro e
    split at e
    · rename_i q
      have hf := sb q.1 q.2
      have := (ub (Ba _ (by simp; omega)) (wZ _ (by simp; omega)) (wZ _ (by simp; omega)) (wZ _ (by simp; omega)) h).1 e
      rw [← hf] at this
      exact this
    · cases e
  · rintro ⟨r, e⟩
    obtain ⟨y, m, d, _, _, t⟩ := mj r.1 r.2
    have hq : s.length = 13 ∧ tJ s oO = true := by rw [e, t]; exact ⟨yp _ _ _ _, uC _ _ _ _⟩
    rw [if_pos hq]
    have hf := sb hq.1 hq.2
    refine (ub (Ba _ (by simp; omega)) (wZ _ (by simp; omega)) (wZ _ (by simp; omega)) (wZ _ (by simp; omega)) h).2 ⟨r, ?_⟩
    rw [← hf]; exact e
theorem wi (s : Wd) : jL W s = some ((cO s).getD 0, (cO s).isSome) := by
  unfold jL
  by_cases hs : s.length = 13
  · rw [if_neg (by omega), if_pos (by omega)]
    have e := Aa hs 199986
    have e2 : dC W s W 0 0 0 0 0 0 = if tJ s oO = true then some (Sum.inl (uB s)) else some (Sum.inr (0, false)) := e
    rw [e2]
    by_cases hf : tJ s oO = true
    · have hc : cO s = zi (vn (s.take 4)) (vn ((s.drop 5).take 2)) (vn ((s.drop 8).take 2)) (vn ((s.drop 11).take 2)) := by unfold cO; rw [if_pos ⟨hs, hf⟩]
      have h2 := wZ ((s.drop 5).take 2) (by simp; omega)
      have h3 := wZ ((s.drop 8).take 2) (by simp; omega)
      have h4 := wZ ((s.drop 11).take 2) (by simp; omega)
      rw [if_pos hf, yz hs hf, hc]
      generalize vn (s.take 4) = y at *
      generalize vn ((s.drop 5).take 2) = m at *
      generalize vn ((s.drop 8).take 2) = d at *
      generalize vn ((s.drop 11).take 2) = h at *
      simp only [Option.bind_some, mB, eZ]
      rw [if_pos (by decide), if_pos (by decide), if_pos (by decide), if_pos (by decide), zf y m d (by omega) (by omega) (by omega)]
      unfold zi
      by_cases hv : kO y m d
      · have hin := mK hv
        rw [if_pos hv]
        simp only [Bool.not_true, Bool.false_eq_true, if_false]
        rw [cj (n := _ * 24) (by omega), cj (by omega)]
        by_cases h24 : 24 ≤ (h : Int)
        · rw [if_pos h24, if_neg (fun q => by have := q.2.1; omega)]; rfl
        · rw [if_neg h24]
          by_cases hx : 16777216 < iF y m d * 24 + (h : Int)
          · rw [if_pos hx, if_neg (fun q => by have := q.2.2; omega)]; rfl
          · rw [if_neg hx, if_pos ⟨hv, by omega, by omega⟩]; rfl
      · rw [if_neg hv, if_pos (show (!((0 : Int), false).2) = true from rfl), if_neg (fun q => hv q.1)]
        rfl
    · have hc : cO s = none := by unfold cO; rw [if_neg (fun q => hf q.2)]
      rw [if_neg hf, hc]; rfl
  · have hc : cO s = none := by unfold cO; rw [if_neg (fun q => hs q.1)]
    rw [if_pos (by omega), hc]; rfl
theorem xB (s : Wd) : gc W s = some ((cO s).getD 0, (cO s).isSome) := by
  unfold gc
  by_cases hs : s.length = 13
  · have e4 : (s.drop (0 : Int).toNat).take ((4 : Int).toNat - (0 : Int).toNat) = s.take 4 := rfl
    have e7 : (s.drop (5 : Int).toNat).take ((7 : Int).toNat - (5 : Int).toNat) = (s.drop 5).take 2 := rfl
    have e10 : (s.drop (8 : Int).toNat).take ((10 : Int).toNat - (8 : Int).toNat) = (s.drop 8).take 2 := rfl
    have e13 : (s.drop (11 : Int).toNat).take ((13 : Int).toNat - (11 : Int).toNat) = (s.drop 11).take 2 := rfl
    rw [if_neg (by omega), if_pos (by omega), e4, e7, e10, e13, mS (by simp; omega), mS (by simp; omega), mS (by simp; omega), mS (by simp; omega)]
    simp only [Option.bind_some]
    have h1 := Ba (s.take 4) (by simp; omega)
    have h2 := wZ ((s.drop 5).take 2) (by simp; omega)
    have h3 := wZ ((s.drop 8).take 2) (by simp; omega)
    have h4 := wZ ((s.drop 11).take 2) (by simp; omega)
    rw [if_pos (by omega), if_pos (by omega), wQ _ _ _ (by omega) (by omega) (by omega), Option.bind_some, if_pos (by omega)]
    have key : cO s = (if kO (vn (s.take 4)) (vn ((s.drop 5).take 2)) (vn ((s.drop 8).take 2)) ∧ vn ((s.drop 11).take 2) < 24 ∧ iF (vn (s.take 4)) (vn ((s.drop 5).take 2)) (vn ((s.drop 8).take 2)) * 24 + vn ((s.drop 11).take 2) ≤ 16777216 then (if s = kX (iF (vn (s.take 4)) (vn ((s.drop 5).take 2)) (vn ((s.drop 8).take 2)) * 24 + vn ((s.drop 11).take 2)) then some (iF (vn (s.take 4)) (vn ((s.drop 5).take 2)) (vn ((s.drop 8).take 2)) * 24 + vn ((s.drop 11).take 2)) else none) else none) := by
      by_cases hf : tJ s oO = true
      · have hc : cO s = zi (vn (s.take 4)) (vn ((s.drop 5).take 2)) (vn ((s.drop 8).take 2)) (vn ((s.drop 11).take 2)) := by unfold cO; rw [if_pos ⟨hs, hf⟩]
        have hi := fun n => ub h1 h2 h3 h4 n
        rw [← sb hs hf, ← hc] at hi
        by_cases hq : kO (vn (s.take 4)) (vn ((s.drop 5).take 2)) (vn ((s.drop 8).take 2)) ∧ vn ((s.drop 11).take 2) < 24 ∧ iF (vn (s.take 4)) (vn ((s.drop 5).take 2)) (vn ((s.drop 8).take 2)) * 24 + vn ((s.drop 11).take 2) ≤ 16777216
        · rw [if_pos hq]
          have he : cO s = some (iF (vn (s.take 4)) (vn ((s.drop 5).take 2)) (vn ((s.drop 8).take 2)) * 24 + vn ((s.drop 11).take 2)) := by rw [hc]; unfold zi; rw [if_pos hq]
          rw [if_pos ((hi _).1 he).2]; exact he
        · rw [if_neg hq, hc]; unfold zi; rw [if_neg hq]
      · have hc : cO s = none := by unfold cO; rw [if_neg (fun q => hf q.2)]
        rw [hc]
        split
        · rename_i q
          rw [if_neg]
          intro e
          have hin := mK q.1
          obtain ⟨y, m, d, _, _, t⟩ := mj (h := iF (vn (s.take 4)) (vn ((s.drop 5).take 2)) (vn ((s.drop 8).take 2)) * 24 + vn ((s.drop 11).take 2)) (by omega) (by omega)
          exact hf (by rw [e, t]; exact uC _ _ _ _)
        · rfl
    rw [key]
    generalize vn (s.take 4) = y at *
    generalize vn ((s.drop 5).take 2) = m at *
    generalize vn ((s.drop 8).take 2) = d at *
    generalize vn ((s.drop 11).take 2) = h at *
    by_cases hv : kO y m d
    · have hin := mK hv
      rw [if_pos hv]
      simp only [Bool.not_true, Bool.false_eq_true, if_false]
      rw [cj (n := 24 * _) (by omega), cj (by omega), Int.mul_comm 24]
      by_cases h24 : 23 < (h : Int)
      · rw [if_pos h24, if_neg (fun q => by have := q.2.1; omega)]; rfl
      · rw [if_neg h24]
        by_cases hx : 16777216 < iF y m d * 24 + (h : Int)
        · rw [if_pos hx, if_neg (fun q => by have := q.2.2; omega)]; rfl
        · rw [if_neg hx, if_pos ⟨hv, by omega, by omega⟩, qc (by omega) (by omega), Option.bind_some]
          by_cases ht : s = kX (iF y m d * 24 + (h : Int))
          · rw [if_pos ht, if_neg (fun q => q ht.symm)]; rfl
          · rw [if_neg ht, if_pos (fun q => ht q.symm)]; rfl
    · rw [if_neg hv, if_pos (show (!((0 : Int), false).2) = true from rfl), if_neg (fun q => hv q.1)]
      rfl
  · have hc : cO s = none := by unfold cO; rw [if_neg (fun q => hs q.1)]
    rw [if_pos (by omega), hc]; rfl
theorem xX {h : Int} (r : 0 ≤ h ∧ h ≤ 16777216) : 32 ∉ kX h := by
  obtain ⟨y, m, d, _, _, t⟩ := mj r.1 r.2
  have e32 : (32 : UInt8).toNat = 32 := rfl
  have nd : ∀ k n, 32 ∉ jr k n := fun k n q => by have := tY k n 32 q; unfold qx at this; omega
  rw [t]
  unfold TP
  simp only [List.mem_append, List.mem_cons, not_or]
  exact ⟨nd _ _, by decide, nd _ _, by decide, nd _ _, by decide, nd _ _⟩
theorem rr {h : Int} (r : 0 ≤ h ∧ h ≤ 16777216) : (kX h).length = 13 := by
  obtain ⟨y, m, d, _, _, t⟩ := mj r.1 r.2
  rw [t]; exact yp _ _ _ _
end Go.Proofs.YtgbjponaoeiglaaDoor.WordsParses
end
section
set_option linter.unusedVariables false
set_option linter.unusedSimpArgs false
set_option maxRecDepth 20000
namespace Go.Proofs.YtgbjponaoeiglaaDoor.WordsParses
open Go E
def gY (a1 a2 a3 a4 : Wd) (j : Nat) : Wd := [a1, a2, a3, a4].getD j []
def rA (d : Int) (D : Nat → Wd) (j : Nat) : Prop := (D j).length ≤ 16 ∧ (d ≤ j → D j = [])
theorem sZ (K : Nat) (a1 a2 a3 a4 : List UInt8) (d : Int) : ∀ (k : Nat) (i : Int), im K a1 a2 a3 a4 d k i = dc K a1 a2 a3 a4 d k i
  | 0, i => rfl
  | k + 1, i => by rw [im, dc, sZ K a1 a2 a3 a4 d k]
theorem zy (a1 a2 a3 a4 : List UInt8) (d : Int) : ∀ (k i : Nat), i ≤ 4 → 4 < i + k → ∃ x, dc W a1 a2 a3 a4 d k i = some x ∧ (x = 0 ↔ ∀ j, i ≤ j → j < 4 → rA d (gY a1 a2 a3 a4) j)
  | 0, i, h1, h2 => by omega
  | k + 1, i, h1, h2 => by
    rw [dc]
    by_cases h : i < 4
    · have hn : bm ((i : Int) + 1) = ((i + 1 : Nat) : Int) := by rw [cj (by omega)]; omega
      obtain ⟨x, hx, hi⟩ := zy a1 a2 a3 a4 d k (i + 1) (by omega) (by omega)
      have hD : [a1, a2, a3, a4].getD (i : Int).toNat [] = gY a1 a2 a3 a4 i := by rw [Int.toNat_natCast]; rfl
      rw [if_pos (by omega), if_pos (by omega), if_pos (by omega), hn, hx, hD]
      have bad : ¬ rA d (gY a1 a2 a3 a4) i → ((4 : Int) = 0 ↔ ∀ j, i ≤ j → j < 4 → rA d (gY a1 a2 a3 a4) j) := fun hb => ⟨fun e => by omega, fun q => absurd (q i (Nat.le_refl _) h) hb⟩
      have good : rA d (gY a1 a2 a3 a4) i → (x = 0 ↔ ∀ j, i ≤ j → j < 4 → rA d (gY a1 a2 a3 a4) j) := fun hg => hi.trans ⟨fun q j h1 h2 => if e : j = i then e ▸ hg else q j (by omega) h2, fun q j h1 h2 => q j (by omega) h2⟩
      by_cases c1 : 16 < ((gY a1 a2 a3 a4 i).length : Int)
      · rw [if_pos c1]; exact ⟨4, rfl, bad fun q => by have := q.1; omega⟩
      · rw [if_neg c1]
        by_cases c2 : d ≤ (i : Int)
        · rw [if_pos c2]
          by_cases c3 : gY a1 a2 a3 a4 i = []
          · rw [if_neg (fun q => q c3)]; exact ⟨x, rfl, good ⟨by omega, fun _ => c3⟩⟩
          · rw [if_pos c3]; exact ⟨4, rfl, bad fun q => c3 (q.2 c2)⟩
        · rw [if_neg c2]; exact ⟨x, rfl, good ⟨by omega, fun q => absurd q c2⟩⟩
    · rw [if_neg (by omega)]; exact ⟨0, rfl, fun _ j h1 h2 => by omega, fun _ => rfl⟩
structure sf (d h : Int) (D : Nat → Wd) (v : Int) : Prop where
  h0 : 0 ≤ h
  h1 : h ≤ 16777216
  v0 : -1152921504606846976 ≤ v
  v1 : v ≤ 1152921504606846976
  ds : ∀ j, j < 4 → rA d D j
theorem Ai (h : Int) (a1 a2 a3 a4 : List UInt8) (v : Int) {d : Int} (d0 : 1 ≤ d) (d1 : d ≤ 4) : ∃ x, kq W h a1 a2 a3 a4 v d = some x ∧ ge W h a1 a2 a3 a4 v d = some x ∧ (x = 0 ↔ sf d h (gY a1 a2 a3 a4) v) := by
  obtain ⟨x, hx, hi⟩ := zy a1 a2 a3 a4 d W 0 (by omega) (by unfold W; omega)
  have hx' : dc W a1 a2 a3 a4 d W 0 = some x := hx
  unfold kq ge ji
  simp only [eZ, sZ, hx']
  rw [if_pos d0, decide_eq_true d1, if_neg (show ¬ d < 1 by omega), if_neg (show ¬ 4 < d by omega)]
  simp only [Bool.not_true, Bool.false_eq_true, if_false]
  have kD : ¬ sf d h (gY a1 a2 a3 a4) v → ((2 : Int) = 0 ↔ sf d h (gY a1 a2 a3 a4) v) := fun q => ⟨fun e => by omega, fun e => absurd e q⟩
  by_cases c1 : h < 0
  · rw [if_pos c1]; exact ⟨2, rfl, rfl, kD fun q => by have := q.h0; omega⟩
  rw [if_neg c1]
  by_cases c2 : 16777216 < h
  · rw [if_pos c2]; exact ⟨2, rfl, rfl, kD fun q => by have := q.h1; omega⟩
  rw [if_neg c2]
  by_cases c3 : 1152921504606846976 < v
  · rw [if_pos c3]; exact ⟨2, rfl, rfl, kD fun q => by have := q.v1; omega⟩
  rw [if_neg c3]
  by_cases c4 : v < -1152921504606846976
  · rw [if_pos c4]; exact ⟨2, rfl, rfl, kD fun q => by have := q.v0; omega⟩
  rw [if_neg c4]
  exact ⟨x, rfl, rfl, hi.trans ⟨fun q => ⟨by omega, by omega, by omega, by omega, fun j hj => q j (by omega) hj⟩, fun q j _ hj => q.ds j hj⟩⟩
def AV (d : Int) (f : aA) : Prop := sf d f.Key.Hour (gY f.Key.Dims_0 f.Key.Dims_1 f.Key.Dims_2 f.Key.Dims_3) f.Value
theorem sU (l : List aA) (hl : l.length ≤ 100) {d : Int} (d0 : 1 ≤ d) (d1 : d ≤ 4) : ∀ (k i : Nat), i ≤ l.length → l.length < i + k → ∃ x, ij W l d k i = some x ∧ eN W l d k i = some x ∧ (x.1 = 0 ↔ ∀ j, i ≤ j → j < l.length → AV d (l.getD j ax))
  | 0, i, h1, h2 => by omega
  | k + 1, i, h1, h2 => by
    rw [ij, eN]
    by_cases h : i < l.length
    · have hn : bm ((i : Int) + 1) = ((i + 1 : Nat) : Int) := by rw [cj (by omega)]; omega
      obtain ⟨x, hx, hy, hi⟩ := Ai ((l.getD (i : Int).toNat ax).Key).Hour ((l.getD (i : Int).toNat ax).Key).Dims_0 ((l.getD (i : Int).toNat ax).Key).Dims_1 ((l.getD (i : Int).toNat ax).Key).Dims_2 ((l.getD (i : Int).toNat ax).Key).Dims_3 (l.getD (i : Int).toNat ax).Value d0 d1
      obtain ⟨y, e2, e3, hj⟩ := sU l hl d0 d1 k (i + 1) (by omega) (by omega)
      rw [if_pos (by omega), if_pos (by omega), if_pos (by omega), if_pos (by omega), hx, hy, hn, e2, e3]
      simp only [Option.bind_some]
      rw [Int.toNat_natCast] at hi
      by_cases c : x = 0
      · rw [if_neg (fun q => q c)]
        refine ⟨y, rfl, rfl, hj.trans ⟨fun q j h1 h2 => ?_, fun q j h1 h2 => q j (by omega) h2⟩⟩
        by_cases e : j = i
        · subst e; exact hi.1 c
        · exact q j (by omega) h2
      · rw [if_pos c]
        exact ⟨_, rfl, rfl, fun q => absurd q c, fun q => absurd (hi.2 (q i (Nat.le_refl _) h)) c⟩
    · rw [if_neg (by omega), if_neg (by omega)]; exact ⟨(0, 0), rfl, rfl, fun _ j h1 h2 => by omega, fun _ => rfl⟩
theorem Ad (l : List aA) (hl : l.length ≤ 100) {d : Int} (d0 : 1 ≤ d) (d1 : d ≤ 4) : ∃ x, kr W l d = some x ∧ gl W l d = some x ∧ (x.1 = 0 ↔ (1 ≤ l.length ∧ l.length ≤ 50) ∧ ∀ f ∈ l, AV d f) := by
  obtain ⟨x, hx, hy, hi⟩ := sU l hl d0 d1 W 0 (by omega) (by unfold W; omega)
  have hx' : ij W l d W 0 = some x := hx
  have hy' : eN W l d W 0 = some x := hy
  unfold kr gl ji
  simp only [eZ, hx', hy']
  rw [if_pos d0, decide_eq_true d1, if_neg (show ¬ d < 1 by omega), if_neg (show ¬ 4 < d by omega)]
  simp only [Bool.not_true, Bool.false_eq_true, if_false]
  by_cases h3 : (l.length : Int) = 0
  · rw [if_pos h3, if_pos (by omega)]; exact ⟨_, rfl, rfl, fun q => absurd q (by decide), fun q => by have := q.1.1; omega⟩
  · rw [if_neg h3, if_neg (show ¬ (l.length : Int) < 1 by omega)]
    by_cases h4 : 50 < (l.length : Int)
    · rw [if_pos h4]; exact ⟨_, rfl, rfl, fun q => absurd q (by decide), fun q => by have := q.1.2; omega⟩
    · rw [if_neg h4]
      refine ⟨x, rfl, rfl, hi.trans ⟨fun q => ⟨by omega, fun f hf => ?_⟩, fun q j _ hj => ?_⟩⟩
      · obtain ⟨j, hj, rfl⟩ := List.getElem_of_mem hf
        have := q j (Nat.zero_le _) hj
        rwa [ga l j hj] at this
      · rw [ga l j hj]; exact q.2 _ (List.getElem_mem hj)
structure xv (d : Int) (g h : Nat → Bool) (t : Nat → Wd) (j : Nat) : Prop where
  len : (t j).length ≤ 16
  no : h j = false → t j = []
  out : d ≤ j → g j = false ∧ h j = false
theorem AX (d i : Int) (g b : Bool) (t : Wd) (x : Int) (P A : Prop) (hP : P ↔ t.length ≤ 16 ∧ (b = false → t = []) ∧ (d ≤ i → g = false ∧ b = false)) (bad : ¬ P → ((4 : Int) = 0 ↔ A)) (good : P → (x = 0 ↔ A)) : ∃ y,
    (Option.bind (if d ≤ i then (if g = true then (some (Sum.inr (4))) else (if b = true then (some (Sum.inr (4))) else (if ¬ (t = ([] : List UInt8)) then (if (!b) = true then (some (Sum.inr (4))) else (if 16 < (t.length : Int) then (some (Sum.inr (4))) else (some (Sum.inl ())))) else (if 16 < (t.length : Int) then (some (Sum.inr (4))) else (some (Sum.inl ())))))) else (if ¬ (t = ([] : List UInt8)) then (if (!b) = true then (some (Sum.inr (4))) else (if 16 < (t.length : Int) then (some (Sum.inr (4))) else (some (Sum.inl ())))) else (if 16 < (t.length : Int) then (some (Sum.inr (4))) else (some (Sum.inl ()))))) fun z => (mB z (fun (v12 : Unit) => (some x)) (fun (t_ : Int) => (some (t_))))) = some y ∧
    (Option.bind (if d ≤ i then (if g = true then (some (Sum.inr (4))) else (if b = true then (some (Sum.inr (4))) else (if ¬ (t = ([] : List UInt8)) then (some (Sum.inr (4))) else (if 16 < (t.length : Int) then (some (Sum.inr (4))) else (if (!b) = true then (some (Sum.inl ())) else (some (Sum.inl ()))))))) else (if 16 < (t.length : Int) then (some (Sum.inr (4))) else (if (!b) = true then (if ¬ (t = ([] : List UInt8)) then (some (Sum.inr (4))) else (some (Sum.inl ()))) else (some (Sum.inl ()))))) fun z => (mB z (fun (v12 : Unit) => (some x)) (fun (t_ : Int) => (some (t_))))) = some y ∧ (y = 0 ↔ A) := by
  by_cases c1 : d ≤ i <;> cases g <;> cases b <;> by_cases c2 : t = [] <;> by_cases c3 : 16 < (t.length : Int)
  all_goals simp only [c1, c2, c3, if_true, if_false, Bool.not_true, Bool.not_false, Bool.false_eq_true, not_true, not_false_iff, Option.bind_some, mB, ↓reduceIte, List.length_nil]
  all_goals first
    | exact ⟨4, rfl, rfl, bad (fun q => by
        obtain ⟨a, b, c⟩ := hP.1 q
        first
          | omega
          | exact c2 (b Z)
          | exact absurd (c c1).1 (by decide)
          | exact absurd (c c1).2 (by decide))⟩
    | exact ⟨x, rfl, rfl, good (hP.2 ⟨by omega, by first | exact fun _ => c2 | exact fun h => (by cases h), by first | exact fun h => absurd h c1 | exact fun _ => ⟨rfl, rfl⟩⟩)⟩
    | (subst c2; simp at c3)
theorem zx (g0 g1 g2 g3 h0 h1 h2 h3 : Bool) (t0 t1 t2 t3 : Wd) (d : Int) : ∀ (k i : Nat), i ≤ 4 → 4 < i + k → ∃ x, iS W g0 g1 g2 g3 h0 h1 h2 h3 t0 t1 t2 t3 d k i = some x ∧ eL W g0 g1 g2 g3 h0 h1 h2 h3 t0 t1 t2 t3 d k i = some x ∧ (x = 0 ↔ ∀ j, i ≤ j → j < 4 → xv d (fun j => [g0, g1, g2, g3].getD j false) (fun j => [h0, h1, h2, h3].getD j false) (gY t0 t1 t2 t3) j)
  | 0, i, h1, h2 => by omega
  | k + 1, i, q1, q2 => by
    rw [iS, eL]
    by_cases h : i < 4
    · have hn : bm ((i : Int) + 1) = ((i + 1 : Nat) : Int) := by rw [cj (by omega)]; omega
      obtain ⟨x, hx, hy, hi⟩ := zx g0 g1 g2 g3 h0 h1 h2 h3 t0 t1 t2 t3 d k (i + 1) (by omega) (by omega)
      have p0 : (0 : Int) ≤ (i : Int) := by omega
      have p4 : (i : Int) < 4 := by omega
      simp only [if_pos p0, if_pos p4, hn, hx, hy]
      rw [show [t0, t1, t2, t3].getD (i : Int).toNat [] = gY t0 t1 t2 t3 i from by rw [Int.toNat_natCast]; rfl, Int.toNat_natCast]
      obtain ⟨P, hP⟩ : ∃ P : Nat → Prop, P = fun j => xv d (fun j => [g0, g1, g2, g3].getD j false) (fun j => [h0, h1, h2, h3].getD j false) (gY t0 t1 t2 t3) j := ⟨_, rfl⟩
      have hi : x = 0 ↔ ∀ j, i + 1 ≤ j → j < 4 → P j := by rw [hP]; exact hi
      have bad : ¬ P i → ((4 : Int) = 0 ↔ ∀ j, i ≤ j → j < 4 → P j) := fun hb => ⟨fun e => by omega, fun q => absurd (q i (Nat.le_refl _) h) hb⟩
      have good : P i → (x = 0 ↔ ∀ j, i ≤ j → j < 4 → P j) := fun hg => hi.trans ⟨fun q j a b => if e : j = i then e ▸ hg else q j (by omega) b, fun q j a b => q j (by omega) b⟩
      have hP' : P i ↔ (gY t0 t1 t2 t3 i).length ≤ 16 ∧ ([h0, h1, h2, h3].getD i false = false → gY t0 t1 t2 t3 i = []) ∧ (d ≤ (i : Int) → [g0, g1, g2, g3].getD i false = false ∧ [h0, h1, h2, h3].getD i false = false) := by rw [hP]; exact ⟨fun q => ⟨q.len, q.no, q.out⟩, fun q => ⟨q.1, q.2.1, q.2.2⟩⟩
      have key := AX d i ([g0, g1, g2, g3].getD i false) ([h0, h1, h2, h3].getD i false) (gY t0 t1 t2 t3 i) x (P i) _ hP' bad good
      rw [hP] at key
      exact key
    · rw [if_neg (by omega), if_neg (by omega)]; exact ⟨0, rfl, rfl, fun _ j h1 h2 => by omega, fun _ => rfl⟩
structure sx (d a b : Int) (g h : Nat → Bool) (t : Nat → Wd) : Prop where
  a0 : 0 ≤ a
  ab : a ≤ b
  b1 : b ≤ 16777217
  ds : ∀ j, j < 4 → xv d g h t j
theorem zX (a b : Int) (g0 g1 g2 g3 h0 h1 h2 h3 : Bool) (t0 t1 t2 t3 : Wd) {d : Int} (d0 : 1 ≤ d) (d1 : d ≤ 4) : ∃ x, ka W a b g0 g1 g2 g3 h0 h1 h2 h3 t0 t1 t2 t3 d = some x ∧ gj W a b g0 g1 g2 g3 h0 h1 h2 h3 t0 t1 t2 t3 d = some x ∧ (x = 0 ↔ sx d a b (fun j => [g0, g1, g2, g3].getD j false) (fun j => [h0, h1, h2, h3].getD j false) (gY t0 t1 t2 t3)) := by
  obtain ⟨x, hx, hy, hi⟩ := zx g0 g1 g2 g3 h0 h1 h2 h3 t0 t1 t2 t3 d W 0 (by omega) (by unfold W; omega)
  have hx' : iS W g0 g1 g2 g3 h0 h1 h2 h3 t0 t1 t2 t3 d W 0 = some x := hx
  have hy' : eL W g0 g1 g2 g3 h0 h1 h2 h3 t0 t1 t2 t3 d W 0 = some x := hy
  unfold ka gj mi
  simp only [eZ, hx', hy']
  rw [if_pos d0, decide_eq_true d1, if_neg (show ¬ d < 1 by omega), if_neg (show ¬ 4 < d by omega)]
  simp only [Bool.not_true, Bool.false_eq_true, if_false]
  have kD : ¬ sx d a b (fun j => [g0, g1, g2, g3].getD j false) (fun j => [h0, h1, h2, h3].getD j false) (gY t0 t1 t2 t3) → ((2 : Int) = 0 ↔ sx d a b (fun j => [g0, g1, g2, g3].getD j false) (fun j => [h0, h1, h2, h3].getD j false) (gY t0 t1 t2 t3)) := fun q => ⟨fun e => by omega, fun e => absurd e q⟩
  by_cases c1 : a < 0
  · rw [if_pos c1, if_pos c1]; exact ⟨2, rfl, rfl, kD fun q => by have := q.a0; omega⟩
  rw [if_neg c1, if_neg c1]
  by_cases c2 : b < a
  · rw [if_pos c2, if_pos c2]
    refine ⟨2, rfl, ?_, kD fun q => by have := q.ab; omega⟩
    split <;> rfl
  rw [if_neg c2, if_neg c2]
  by_cases c3 : 16777217 < b
  · rw [if_pos c3]; exact ⟨2, rfl, rfl, kD fun q => by have := q.b1; omega⟩
  rw [if_neg c3]
  exact ⟨x, rfl, rfl, hi.trans ⟨fun q => ⟨by omega, by omega, by omega, fun j hj => q j (by omega) hj⟩, fun q j _ hj => q.ds j hj⟩⟩
theorem zW (a0 a1 a2 a3 a4 a5 a6 a7 a8 : Int) : hZ a0 a1 a2 a3 a4 a5 a6 a7 a8 = some (de a0 a1 a2 a3 a4 a5 a6 a7 a8) := by
  have one : ∀ (x lo hi : Int) (A : Option Int) (B : Int), A = some B → (if x < lo then some 2 else (if hi < x then some 2 else A)) = some (if (!(if lo ≤ x then decide (x ≤ hi) else false)) = true then 2 else B) := by
    intro x lo hi A B h
    by_cases c1 : x < lo
    · have e : ¬ lo ≤ x := by omega
      rw [if_pos c1]; simp [e]
    · have e : lo ≤ x := by omega
      rw [if_neg c1]
      by_cases c2 : hi < x
      · have e2 : ¬ x ≤ hi := by omega
        rw [if_pos c2]; simp [e, e2]
      · have e2 : x ≤ hi := by omega
        rw [if_neg c2, h]; simp [e, e2]
  unfold hZ de jD jm ck
  simp only [eZ]
  rw [if_pos (show (0 : Int) < 9 by decide)]
  refine one _ _ _ _ _ ?_
  rw [if_pos (show (1 : Int) < 9 by decide)]
  refine one _ _ _ _ _ ?_
  rw [if_pos (show (2 : Int) < 9 by decide)]
  refine one _ _ _ _ _ ?_
  rw [if_pos (show (3 : Int) < 9 by decide)]
  refine one _ _ _ _ _ ?_
  rw [if_pos (show (4 : Int) < 9 by decide)]
  refine one _ _ _ _ _ ?_
  rw [if_pos (show (5 : Int) < 9 by decide)]
  refine one _ _ _ _ _ ?_
  rw [if_pos (show (6 : Int) < 9 by decide)]
  refine one _ _ _ _ _ ?_
  rw [if_pos (show (7 : Int) < 9 by decide)]
  refine one _ _ _ _ _ ?_
  rw [if_pos (show (8 : Int) < 9 by decide)]
  exact one _ _ _ _ _ Z
end Go.Proofs.YtgbjponaoeiglaaDoor.WordsParses
end
section
set_option linter.unusedVariables false
set_option linter.unusedSimpArgs false
set_option maxRecDepth 20000
namespace Go.Proofs.YtgbjponaoeiglaaDoor.WordsParses
open Go E
abbrev eC (l : List Wd) : Prop := ∀ x ∈ l, x.length ≤ 600
theorem cZ {w : Wd} {l : List Wd} (h : eC (w :: l)) : eC l := fun x hx => h x (by simp [hx])
theorem dL {w : Wd} {l : List Wd} (h : eC (w :: l)) : w.length ≤ 600 := h w (by simp)
theorem uu {l : List Wd} (h : eC l) (n : Nat) : eC (l.drop n) := fun x hx => h x (List.mem_of_mem_drop hx)
theorem ma (w : Wd) (l : List Wd) (p : Int) : bq (w :: l) p = some (some (l, w)) := by
  unfold bq
  rw [if_pos (by simp only [List.length_cons]; omega), if_pos (by simp only [List.length_cons]; omega)]; rfl
theorem xt (p : Int) : bq [] p = some none := rfl
theorem iV (w : Wd) (l : List Wd) (p : Int) : cL (w :: l) p = some (some (l, w)) := by
  unfold cL
  rw [if_pos (by simp only [List.length_cons]; omega), if_pos (by simp only [List.length_cons]; omega)]; rfl
theorem iQ {w : Wd} (l : List Wd) (p : Int) (hw : w.length ≤ 600) : aM W (w :: l) p = some ((nO w).map fun n => (l, n)) := by
  unfold aM
  rw [ma, Option.bind_some, bM, su w hw, Option.bind_some]
  cases nO w <;> rfl
theorem km (p : Int) : aM W [] p = some none := rfl
theorem wI {w : Wd} (l : List Wd) (p : Int) (hw : w.length ≤ 600) : cA W (w :: l) p = some ((bO w).map fun n => (l, n)) := by
  unfold cA
  rw [ma, Option.bind_some, bM, qU w hw, Option.bind_some]
  cases bO w <;> rfl
theorem yc (p : Int) : cA W [] p = some none := rfl
def iE {α : Type} (D : Nat → α) (i : Nat) (t : α) (j : Nat) : α := if i = j then t else D j
def lY : Nat → Nat → List Wd → (Nat → Wd) → Option (List Wd × (Nat → Wd))
  | 0, _, l, D => some (l, D)
  | _ + 1, _, [], _ => none
  | n + 1, i, w :: l, D => (bO w).bind fun t => lY n (i + 1) l (iE D i t)
theorem sP (dm : Nat) (h4 : dm ≤ 4) : ∀ (f n i : Nat) (l : List Wd) (D : Nat → Wd), i + n = dm → n < f → eC l →
    da W dm f i l (D 0) (D 1) (D 2) (D 3) = some (match lY n i l D with | none => Sum.inr none | some q => Sum.inl (q.1, q.2 0, q.2 1, q.2 2, q.2 3))
  | 0, n, i, l, D, h, hf, hs => by omega
  | f + 1, 0, i, l, D, h, hf, hs => by
    rw [da, if_neg (by omega)]; rfl
  | f + 1, n + 1, i, [], D, h, hf, hs => by
    rw [da, if_pos (by omega), yc]; rfl
  | f + 1, n + 1, i, w :: l, D, h, hf, hs => by
    rw [da, if_pos (by omega), wI l _ (dL hs), Option.bind_some]
    cases hb : bO w with
    | none => simp only [Option.map_none, ez, lY, hb, Option.bind_none]
    | some t =>
      have ih := sP dm h4 f n (i + 1) l (iE D i t) (by omega) (by omega) (cZ hs)
      simp only [Option.map_some, bM, lY, hb, Option.bind_some]
      rw [if_pos (by omega), if_pos (by omega), mA (by omega), Int.toNat_natCast]
      exact ih
def D0 : Nat → Wd := fun _ => []
def uc (h : Int) (D : Nat → Wd) (v : Int) : aA := ⟨⟨h, D 0, D 1, D 2, D 3⟩, v⟩
def ks (dm : Nat) : Nat → List Wd → Option (List aA)
  | _, [] => some []
  | 0, _ :: _ => none
  | n + 1, w :: l => (cO w).bind fun h => (lY dm 0 l D0).bind fun q => match q.1 with
    | [] => none
    | v :: l' => (nO v).bind fun x => (ks dm n l').map (uc h q.2 x :: ·)
theorem qM : ∀ (n i : Nat) (l : List Wd) (D : Nat → Wd) (q : List Wd × (Nat → Wd)), lY n i l D = some q → q.1 = l.drop n ∧ n ≤ l.length
  | 0, i, l, D, q, h => by cases h; exact ⟨rfl, Nat.zero_le _⟩
  | n + 1, i, [], D, q, h => by cases h
  | n + 1, i, w :: l, D, q, h => by
    simp only [lY] at h
    obtain ⟨t, _, h2⟩ := Option.bind_eq_some_iff.1 h
    have := qM n (i + 1) l _ q h2
    exact ⟨this.1, by simp only [List.length_cons]; omega⟩
theorem tk (dm : Nat) (h4 : dm ≤ 4) : ∀ (f : Nat) (l : List Wd) (out : List aA), l.length < f → out.length ≤ 50 → eC l → l.length ≤ 1000 →
    eq W dm f l out = some ((ks dm (50 - out.length) l).map fun fs => (out ++ fs, []))
  | 0, l, out, h, _, _, _ => by omega
  | f + 1, [], out, h, ho, hs, hl => by
    rw [eq, if_pos (by simp)]
    cases 50 - out.length <;> simp [ks]
  | f + 1, w :: l, out, h, ho, hs, hl => by
    rw [eq, if_neg (by simp; omega)]
    by_cases hc : out.length < 50
    · obtain ⟨n, hn⟩ : ∃ n, 50 - out.length = n + 1 := ⟨50 - out.length - 1, by omega⟩
      rw [if_pos (by omega), ma, Option.bind_some, bM, wi, Option.bind_some, hn, ks]
      cases hc1 : cO w with
      | none => simp
      | some hh =>
        have hT := sP dm h4 W dm 0 l D0 (by omega) (by unfold W; omega) (cZ hs)
        have hT' : da W dm W 0 l [] [] [] [] = some (match lY dm 0 l D0 with | none => Sum.inr none | some q => Sum.inl (q.1, q.2 0, q.2 1, q.2 2, q.2 3)) := hT
        simp only [Option.isSome_some, if_true, Option.getD_some, Option.bind_some]
        rw [hT', Option.bind_some]
        cases hr : lY dm 0 l D0 with
        | none => simp only [mB, Option.bind_none, Option.map_none]
        | some q =>
          obtain ⟨e1, e2⟩ := qM dm 0 l D0 q hr
          obtain ⟨q1, q2⟩ := q
          simp only at e1
          simp only [mB, Option.bind_some]
          cases q1 with
          | nil => rw [km, Option.bind_some]; rfl
          | cons v l' =>
            have hsq : eC (v :: l') := by rw [e1]; exact uu (cZ hs) dm
            have hlq : (v :: l').length ≤ l.length := by rw [e1]; simp
            rw [iQ l' _ (dL hsq), Option.bind_some]
            cases hv : nO v with
            | none => simp only [hv, Option.map_none, ez, Option.bind_none]
            | some x =>
              simp only [List.length_cons] at hlq h hl
              simp only [hv, Option.map_some, bM, Option.bind_some]
              rw [if_pos (by simp; omega)]
              have ih := tk dm h4 f l' (out ++ [uc hh q2 x]) (by omega) (by simp; omega) (cZ hsq) (by omega)
              have e3 : 50 - (out ++ [uc hh q2 x]).length = n := by simp; omega
              rw [e3] at ih
              rw [show (⟨⟨hh, q2 0, q2 1, q2 2, q2 3⟩, x⟩ : aA) = uc hh q2 x from rfl, ih]
              cases ks dm n l' <;> simp
    · rw [if_neg (by omega), show 50 - out.length = 0 by omega]
      rfl
theorem tQ (dm : Nat) (h4 : dm ≤ 4) (l : List Wd) (hs : eC l) (hl : l.length ≤ 1000) : cB W l dm = some ((ks dm 50 l).map fun fs => (fs, [])) := by
  unfold cB
  have := tk dm h4 W l [] (by unfold W; omega) (by simp) hs hl
  simpa using this
def lP (D : Nat → Wd) (i n : Nat) : List Wd := (List.range n).map fun j => jA (D (i + j))
theorem mY (D : Nat → Wd) (i n : Nat) : lP D i (n + 1) = jA (D i) :: lP D (i + 1) n := by
  unfold lP
  rw [List.range_succ_eq_map, List.map_cons, List.map_map]
  congr 1
  apply List.map_congr_left
  intro j _
  show jA (D (i + (j + 1))) = jA (D (i + 1 + j))
  congr 2; omega
theorem oo (D : Nat → Wd) (i n : Nat) : (lP D i n).length = n := by simp [lP]
theorem qV : ∀ (n i : Nat) (l : List Wd) (D : Nat → Wd) (l' : List Wd) (D' : Nat → Wd), eC l → (lY n i l D = some (l', D') → l = lP D' i n ++ l' ∧ ∀ j, ¬ (i ≤ j ∧ j < i + n) → D' j = D j)
  | 0, i, l, D, l', D', hs, h => by cases h; exact ⟨rfl, fun j _ => rfl⟩
  | n + 1, i, [], D, l', D', hs, h => by cases h
  | n + 1, i, w :: l, D, l', D', hs, h => by
    simp only [lY] at h
    obtain ⟨t, ht, h2⟩ := Option.bind_eq_some_iff.1 h
    obtain ⟨e1, e2⟩ := qV n (i + 1) l _ l' D' (cZ hs) h2
    have hw := (oE (dL hs) t).1 ht
    have hi : D' i = t := by rw [e2 i (by omega)]; simp [iE]
    refine ⟨by rw [mY, hi, ← hw, List.cons_append, ← e1], fun j hj => ?_⟩
    rw [e2 j (by omega)]
    unfold iE
    rw [if_neg (by omega)]
theorem sC : ∀ (n i : Nat) (D D' : Nat → Wd) (l' : List Wd), eC (lP D' i n ++ l') → ∃ E, lY n i (lP D' i n ++ l') D = some (l', E) ∧ ∀ j, E j = if i ≤ j ∧ j < i + n then D' j else D j
  | 0, i, D, D', l', hs => ⟨D, rfl, fun j => by rw [if_neg (by omega)]⟩
  | n + 1, i, D, D', l', hs => by
    rw [mY, List.cons_append] at hs ⊢
    obtain ⟨E, e1, e2⟩ := sC n (i + 1) (iE D i (D' i)) D' l' (cZ hs)
    refine ⟨E, ?_, fun j => ?_⟩
    · simp only [lY]
      rw [(oE (dL hs) (D' i)).2 Z, Option.bind_some, e1]
    · rw [e2 j]
      unfold iE
      by_cases h1 : i = j
      · subst h1; rw [if_neg (by omega), if_pos rfl, if_pos (by omega)]
      · rw [if_neg h1]
        by_cases h2 : i + 1 ≤ j ∧ j < i + 1 + n
        · rw [if_pos h2, if_pos (by omega)]
        · rw [if_neg h2, if_neg (by omega)]
def fD (f : aA) : Nat → Wd := gY f.Key.Dims_0 f.Key.Dims_1 f.Key.Dims_2 f.Key.Dims_3
def iJ (dm : Nat) (f : aA) : List Wd := kX f.Key.Hour :: (lP (fD f) 0 dm ++ [iB f.Value])
structure Ab (dm : Nat) (f : aA) : Prop where
  h : 0 ≤ f.Key.Hour ∧ f.Key.Hour ≤ 16777216
  v : qo f.Value
  ds : ∀ j, j < 4 → dm ≤ j → fD f j = []
theorem sj (h : Int) (D : Nat → Wd) (v : Int) (j : Nat) (hj : j < 4) : fD (uc h D v) j = D j := by
  have : j = 0 ∨ j = 1 ∨ j = 2 ∨ j = 3 := by omega
  rcases this with rfl | rfl | rfl | rfl <;> rfl
theorem tA {D D' : Nat → Wd} {i n : Nat} (h : ∀ j, j < n → D (i + j) = D' (i + j)) : lP D i n = lP D' i n := by
  unfold lP
  apply List.map_congr_left
  intro j hj
  rw [h j (List.mem_range.1 hj)]
theorem sq {f g : aA} (h : f.Key.Hour = g.Key.Hour) (v : f.Value = g.Value) (d : ∀ j, j < 4 → fD f j = fD g j) : f = g := by
  obtain ⟨⟨fh, f0, f1, f2, f3⟩, fv⟩ := f
  obtain ⟨⟨gh, g0, g1, g2, g3⟩, gv⟩ := g
  have d0 : f0 = g0 := d 0 (by omega)
  have d1 : f1 = g1 := d 1 (by omega)
  have d2 : f2 = g2 := d 2 (by omega)
  have d3 : f3 = g3 := d 3 (by omega)
  simp only at h v
  subst h; subst v; subst d0; subst d1; subst d2; subst d3
  rfl
theorem nD (dm : Nat) (h4 : dm ≤ 4) : ∀ (n : Nat) (l : List Wd) (fs : List aA), eC l → ks dm n l = some fs → (fs.length ≤ n ∧ l = fs.flatMap (iJ dm) ∧ ∀ f ∈ fs, Ab dm f)
  | n, [], fs, hs, h => by
    have : fs = [] := by cases n <;> (simp [ks] at h; exact h)
    subst this
    exact ⟨Nat.zero_le _, rfl, by simp⟩
  | 0, w :: l, fs, hs, h => by cases h
  | n + 1, w :: l, fs, hs, h => by
    simp only [ks] at h
    obtain ⟨hh, h1, h⟩ := Option.bind_eq_some_iff.1 h
    obtain ⟨⟨q1, q2⟩, h2, h⟩ := Option.bind_eq_some_iff.1 h
    obtain ⟨e1, e2⟩ := qV dm 0 l D0 q1 q2 (cZ hs) h2
    cases q1 with
    | nil => cases h
    | cons v l' =>
      simp only at h
      obtain ⟨x, h3, h⟩ := Option.bind_eq_some_iff.1 h
      obtain ⟨fs', h5, h6⟩ := Option.map_eq_some_iff.1 h
      have hsv : eC (v :: l') := fun y hy => cZ hs y (by rw [e1]; exact List.mem_append.2 (.inr hy))
      obtain ⟨i1, i2, i3⟩ := nD dm h4 n l' fs' (cZ hsv) h5
      have a1 := (tW hh).1 h1
      have a2 := (lg (dL hsv) x).1 h3
      subst h6
      refine ⟨by simp; omega, ?_, ?_⟩
      · rw [List.flatMap_cons, ← i2]
        unfold iJ
        show w :: l = kX hh :: (lP (fD (uc hh q2 x)) 0 dm ++ [iB x]) ++ l'
        rw [tA (D := fD (uc hh q2 x)) (D' := q2) (fun j hj => sj _ _ _ _ (by omega)), ← a1.2, ← a2.1, List.cons_append, List.append_assoc]
        congr 1
      · intro f hf
        rcases List.mem_cons.1 hf with rfl | hf
        · exact ⟨a1.1, a2.2, fun j hj hd => by rw [sj _ _ _ _ hj, e2 j (by omega)]; rfl⟩
        · exact i3 f hf
theorem rk (dm : Nat) (h4 : dm ≤ 4) : ∀ (n : Nat) (fs : List aA), fs.length ≤ n → eC (fs.flatMap (iJ dm)) → (∀ f ∈ fs, Ab dm f) → ks dm n (fs.flatMap (iJ dm)) = some fs
  | n, [], _, _, _ => by cases n <;> rfl
  | 0, f :: fs, h, _, _ => by simp at h
  | n + 1, f :: fs, h, hs, hc => by
    have cf := hc f (by simp)
    rw [List.flatMap_cons] at hs ⊢
    unfold iJ at hs ⊢
    rw [List.cons_append, List.append_assoc] at hs ⊢
    simp only [ks]
    rw [(tW f.Key.Hour).2 ⟨cf.h, rfl⟩, Option.bind_some]
    obtain ⟨E, e1, e2⟩ := sC dm 0 D0 (fD f) ([iB f.Value] ++ fs.flatMap (iJ dm)) (cZ hs)
    unfold iJ at e1
    rw [e1, Option.bind_some]
    have hsv : eC (iB f.Value :: fs.flatMap (iJ dm)) := fun y hy => cZ hs y (List.mem_append.2 (.inr hy))
    simp only [List.cons_append, List.nil_append]
    rw [(lg (dL hsv) f.Value).2 ⟨rfl, cf.v⟩, Option.bind_some]
    have ih := rk dm h4 n fs (by simpa using h) (cZ hsv) fun g hg => hc g (by simp [hg])
    unfold iJ at ih
    rw [ih]
    have ef : uc f.Key.Hour E f.Value = f := sq Z Z fun j hj => by
      rw [sj _ _ _ _ hj, e2 j]
      by_cases h0 : 0 ≤ j ∧ j < 0 + dm
      · rw [if_pos h0]
      · rw [if_neg h0]; exact (cf.ds j hj (by omega)).symm
    rw [Option.map_some, ef]
end Go.Proofs.YtgbjponaoeiglaaDoor.WordsParses
end
section
set_option linter.unusedVariables false
set_option linter.unusedSimpArgs false
set_option maxRecDepth 20000
namespace Go.Proofs.YtgbjponaoeiglaaDoor.WordsParses
open Go E
def tx (ws : List Wd) (k : Nat) : Wd := match ws[k]? with | none => [] | some w => (bO w).getD []
def nx (ws : List Wd) (k : Nat) : Int := match ws[k]? with | none => 0 | some w => (nO w).getD 0
theorem uO {ws : List Wd} (hs : eC ws) (k : Nat) : es W ws k = some (tx ws k) := by
  unfold es tx
  by_cases h : k < ws.length
  · rw [if_neg (by omega), if_pos (by omega), if_pos (by omega), Int.toNat_natCast, ga ws k h, xp _ (hs _ (List.getElem_mem h)), Option.bind_some, List.getElem?_eq_getElem h]
  · rw [if_pos (by omega), List.getElem?_eq_none (by omega)]
theorem pM {ws : List Wd} (hs : eC ws) (k : Nat) : aV W ws k = some (nx ws k) := by
  unfold aV nx
  by_cases h : k < ws.length
  · rw [if_neg (by omega), if_pos (by omega), if_pos (by omega), Int.toNat_natCast, ga ws k h, yT _ (hs _ (List.getElem_mem h)), Option.bind_some, List.getElem?_eq_getElem h]
  · rw [if_pos (by omega), List.getElem?_eq_none (by omega)]
theorem AA {ws : List Wd} {k : Nat} {t : Wd} (hs : eC ws) (h : ws[k]? = some (jA t)) : tx ws k = t := by
  have hm : jA t ∈ ws := List.mem_of_getElem? h
  unfold tx
  rw [h]
  simp only
  rw [(oE (hs _ hm) t).2 Z]; rfl
theorem vc {ws : List Wd} {k : Nat} {n : Int} (hs : eC ws) (hn : qo n) (h : ws[k]? = some (iB n)) : nx ws k = n := by
  have hm : iB n ∈ ws := List.mem_of_getElem? h
  unfold nx
  rw [h]
  simp only
  rw [(lg (hs _ hm) n).2 ⟨rfl, hn⟩]; rfl
theorem zo (ws : List Wd) (hs : eC ws) (k : Nat) : qo (nx ws k) := by
  unfold nx
  cases h : ws[k]? with
  | none => unfold qo; simp
  | some w =>
    simp only
    cases hn : nO w with
    | none => unfold qo; simp
    | some n => exact ((lg (hs _ (List.mem_of_getElem? h)) n).1 hn).2
theorem qI {ws : List Wd} (hs : eC ws) (dm k : Nat) (h4 : dm ≤ 4) (hk : k ≤ 10000) : ∀ (f n i : Nat) (D : Nat → Wd), i + n = dm → n < f →
    ∃ E : Nat → Wd, dr W ws dm k f i (D 0) (D 1) (D 2) (D 3) = some (E 0, E 1, E 2, E 3) ∧ ∀ j, E j = if i ≤ j ∧ j < dm then tx ws (k + 1 + j) else D j
  | 0, n, i, D, h, hf => by omega
  | f + 1, 0, i, D, h, hf => by
    rw [dr, if_neg (by omega)]
    exact ⟨D, rfl, fun j => by rw [if_neg (by omega)]⟩
  | f + 1, n + 1, i, D, h, hf => by
    have ei : bm ((bm ((k : Int) + 1)) + (i : Int)) = ((k + 1 + i : Nat) : Int) := by rw [cj (n := (k : Int) + 1) (by omega), cj (by omega)]; omega
    obtain ⟨E, e1, e2⟩ := qI hs dm k h4 hk f n (i + 1) (iE D i (tx ws (k + 1 + i))) (by omega) (by omega)
    rw [dr, if_pos (by omega), ei, uO hs, Option.bind_some, if_pos (by omega), if_pos (by omega), mA (by omega), Int.toNat_natCast]
    refine ⟨E, e1, fun j => ?_⟩
    rw [e2 j]
    unfold iE
    by_cases h1 : i = j
    · subst h1; rw [if_neg (by omega), if_pos rfl, if_pos (by omega)]
    · rw [if_neg h1]
      by_cases h2 : i + 1 ≤ j ∧ j < dm
      · rw [if_pos h2, if_pos (by omega)]
      · rw [if_neg h2, if_neg (by omega)]
def gF (ws : List Wd) (dm : Nat) : Nat → Nat → List aA
  | 0, _ => []
  | n + 1, k => if k < ws.length then uc ((cO (ws.getD k [])).getD 0) (fun j => if j < dm then tx ws (k + 1 + j) else []) (nx ws (k + dm + 1)) :: gF ws dm n (k + dm + 2) else []
theorem vZ {h v : Int} {D E : Nat → Wd} (e : ∀ j, j < 4 → D j = E j) : uc h D v = uc h E v := by
  unfold uc; rw [e 0 (by omega), e 1 (by omega), e 2 (by omega), e 3 (by omega)]
theorem yk (ws : List Wd) (dm : Nat) : ∀ n k, (gF ws dm n k).length ≤ n
  | 0, k => by simp [gF]
  | n + 1, k => by
    rw [gF]
    split
    · have := yk ws dm n (k + dm + 2); simp; omega
    · simp
theorem ri {ws : List Wd} (hs : eC ws) (hl : ws.length ≤ 1000) (dm : Nat) (h4 : dm ≤ 4) : ∀ (f k : Nat) (out : List aA), k ≤ 2000 → 61 - out.length < f → out.length ≤ 60 →
    eT W ws dm f k out = some (out ++ gF ws dm (60 - out.length) k)
  | 0, k, out, _, h, _ => by omega
  | f + 1, k, out, hk, h, ho => by
    rw [eT]
    by_cases c1 : k < ws.length
    · by_cases c2 : out.length < 60
      · obtain ⟨n, hn⟩ : ∃ n, 60 - out.length = n + 1 := ⟨60 - out.length - 1, by omega⟩
        have ei : bm ((bm ((k : Int) + (dm : Int))) + 1) = ((k + dm + 1 : Nat) : Int) := by rw [cj (n := (k : Int) + (dm : Int)) (by omega), cj (by omega)]; omega
        have ej : bm ((k : Int) + (bm ((dm : Int) + 2))) = ((k + dm + 2 : Nat) : Int) := by rw [cj (n := (dm : Int) + 2) (by omega), cj (by omega)]; omega
        obtain ⟨E, e1, e2⟩ := qI hs dm k h4 (by omega) W dm 0 D0 (by omega) (by unfold W; omega)
        have e1' : dr W ws dm k W 0 [] [] [] [] = some (E 0, E 1, E 2, E 3) := e1
        rw [if_pos (by omega), if_pos (by omega), if_pos (by omega), Int.toNat_natCast, xB, Option.bind_some, ei, pM hs, Option.bind_some, e1', Option.bind_some, if_pos (by simp only [List.length_append, List.length_cons, List.length_nil]; omega), Option.bind_some, ej]
        have ef : (⟨⟨(cO (ws.getD k [])).getD 0, E 0, E 1, E 2, E 3⟩, nx ws (k + dm + 1)⟩ : aA) = uc ((cO (ws.getD k [])).getD 0) (fun j => if j < dm then tx ws (k + 1 + j) else []) (nx ws (k + dm + 1)) :=
          vZ (D := E) fun j hj => by
            rw [e2 j]
            by_cases hd : j < dm
            · rw [if_pos ⟨Nat.zero_le _, hd⟩, if_pos hd]
            · rw [if_neg (by omega), if_neg hd]; rfl
        have ih := ri hs hl dm h4 f (k + dm + 2) (out ++ [uc ((cO (ws.getD k [])).getD 0) (fun j => if j < dm then tx ws (k + 1 + j) else []) (nx ws (k + dm + 1))]) (by omega) (by simp only [List.length_append, List.length_cons, List.length_nil]; omega) (by simp only [List.length_append, List.length_cons, List.length_nil]; omega)
        rw [ef, ih, hn]
        have e3 : 60 - (out ++ [uc ((cO (ws.getD k [])).getD 0) (fun j => if j < dm then tx ws (k + 1 + j) else []) (nx ws (k + dm + 1))]).length = n := by simp; omega
        rw [e3, gF, if_pos c1, List.append_assoc]
        rfl
      · rw [if_pos (by omega), if_neg (by omega), show 60 - out.length = 0 by omega]
        simp [gF]
    · rw [if_neg (by omega)]
      cases 60 - out.length with
      | zero => simp [gF]
      | succ n => rw [gF, if_neg c1]; simp
theorem zM {ws : List Wd} (hs : eC ws) (hl : ws.length ≤ 1000) (dm : Nat) (h4 : dm ≤ 4) : fK W ws dm = some (gF ws dm 60 1) := by
  unfold fK
  have := ri hs hl dm h4 W 1 [] (by omega) (by unfold W; simp) (by simp)
  simpa using this
theorem ud (dm : Nat) (h4 : dm ≤ 4) : ∀ (n : Nat) (fs : List aA) (pre : List Wd), fs.length ≤ n → eC (pre ++ fs.flatMap (iJ dm)) → (∀ f ∈ fs, Ab dm f) → gF (pre ++ fs.flatMap (iJ dm)) dm n pre.length = fs
  | 0, fs, pre, h, _, _ => by
    have : fs = [] := List.eq_nil_of_length_eq_zero (by omega)
    subst this; rfl
  | n + 1, [], pre, h, _, _ => by rw [gF, if_neg (by simp)]
  | n + 1, f :: fs, pre, h, hs, hc => by
    have cf := hc f (by simp)
    have ih := ud dm h4 n fs (pre ++ iJ dm f) (by simpa using h) (by rw [List.flatMap_cons, ← List.append_assoc] at hs; exact hs) fun g hg => hc g (by simp [hg])
    have ews : pre ++ (f :: fs).flatMap (iJ dm) = (pre ++ iJ dm f) ++ fs.flatMap (iJ dm) := by rw [List.flatMap_cons, List.append_assoc]
    have elen : (pre ++ iJ dm f).length = pre.length + dm + 2 := by simp [iJ, oo]; omega
    rw [elen, ← ews] at ih
    have ek : pre ++ (f :: fs).flatMap (iJ dm) = pre ++ (kX f.Key.Hour :: (lP (fD f) 0 dm ++ (iB f.Value :: fs.flatMap (iJ dm)))) := by rw [List.flatMap_cons]; simp [iJ]
    rw [gF, if_pos (by rw [ek]; simp), ih]
    congr 1
    have g0 : (pre ++ (f :: fs).flatMap (iJ dm)).getD pre.length [] = kX f.Key.Hour := by
      rw [ek, List.getD_eq_getElem?_getD, List.getElem?_append_right (Nat.le_refl _), Nat.sub_self]; rfl
    have gt : ∀ j, j < dm → (pre ++ (f :: fs).flatMap (iJ dm))[pre.length + 1 + j]? = some (jA (fD f j)) := by
      intro j hj
      rw [ek, List.getElem?_append_right (by omega), show pre.length + 1 + j - pre.length = j + 1 by omega, List.getElem?_cons_succ, List.getElem?_append_left (by rw [oo]; exact hj)]
      simp [lP, List.getElem?_map, List.getElem?_range hj]
    have gn : (pre ++ (f :: fs).flatMap (iJ dm))[pre.length + dm + 1]? = some (iB f.Value) := by
      rw [ek, List.getElem?_append_right (by omega), show pre.length + dm + 1 - pre.length = dm + 1 by omega, List.getElem?_cons_succ, List.getElem?_append_right (by rw [oo]; exact Nat.le_refl _), oo, Nat.sub_self]; rfl
    rw [g0, (tW f.Key.Hour).2 ⟨cf.h, rfl⟩, vc hs cf.v gn]
    refine sq Z Z fun j hj => ?_
    rw [sj _ _ _ _ hj]
    by_cases hd : j < dm
    · rw [if_pos hd, AA hs (gt j hd)]
    · rw [if_neg hd]; exact (cf.ds j hj (by omega)).symm
theorem pm (t : Wd) : (jA t).length ≤ 3 * t.length + 1 := by
  unfold jA
  split
  · simp
  · have := AL t; omega
theorem uZ (fs : List aA) (dm i : Nat) (h4 : dm ≤ 4) (hf : ∀ j, j < 4 → (fD (fs.getD i ax) j).length ≤ 16) : ∀ (f n j : Nat) (t : Wd), j + n = dm → n < f → t.length + 50 * n ≤ 1000000 →
    dt W fs dm i f t j = some (t ++ hE (lP (fD (fs.getD i ax)) j n))
  | 0, n, j, t, h, hf, _ => by omega
  | f + 1, 0, j, t, h, hf, _ => by
    rw [dt, if_neg (by omega)]; simp [lP, hE]
  | f + 1, n + 1, j, t, h, hlt, hb => by
    have hd := hf j (by omega)
    have hw := pm (fD (fs.getD i ax) j)
    have e1 : [((fs.getD (i : Int).toNat ax).Key).Dims_0, ((fs.getD (i : Int).toNat ax).Key).Dims_1, ((fs.getD (i : Int).toNat ax).Key).Dims_2, ((fs.getD (i : Int).toNat ax).Key).Dims_3].getD (j : Int).toNat [] = fD (fs.getD i ax) j := by rw [Int.toNat_natCast, Int.toNat_natCast]; rfl
    rw [dt, if_pos (by omega), if_pos (by simp only [List.length_append, List.length_cons, List.length_nil]; omega), if_pos (by omega), if_pos (by omega), e1, lH _ (by omega), Option.bind_some, if_pos (by simp only [List.length_append, List.length_cons, List.length_nil]; omega), mA (by omega), uZ fs dm i h4 hf f n (j + 1) _ (by omega) (by omega) (by simp only [List.length_append, List.length_cons, List.length_nil]; omega)]
    rw [mY, iG]
    simp [List.append_assoc]
theorem uK (fs : List aA) (dm : Nat) (d1 : 1 ≤ dm) (h4 : dm ≤ 4) (hl : fs.length ≤ 50) (hf : ∀ f ∈ fs, AV dm f) : ∀ (g i : Nat) (t : Wd), i ≤ fs.length → fs.length - i < g → t.length ≤ 100 + 300 * i →
    ee W fs dm g t i = some (Sum.inr (t ++ hE ((fs.drop i).flatMap (iJ dm)), 0))
  | 0, i, t, _, h, _ => by omega
  | g + 1, i, t, hi, h, ht => by
    rw [ee]
    by_cases c : i < fs.length
    · have hm := hf _ (List.getElem_mem c)
      have eg : fs.getD i ax = fs[i] := ga fs i c _
      have r1 : 0 ≤ fs[i].Key.Hour ∧ fs[i].Key.Hour ≤ 16777216 := ⟨hm.h0, hm.h1⟩
      have l1 := uZ fs dm i h4 (fun j hj => by rw [eg]; exact (hm.ds j hj).1) W dm 0 ((t ++ [32]) ++ kX fs[i].Key.Hour) (by omega) (by unfold W; omega) (by simp only [List.length_append, List.length_cons, List.length_nil, rr r1]; omega)
      have l1' : dt W fs dm i W ((t ++ [32]) ++ kX fs[i].Key.Hour) 0 = some ((t ++ [32]) ++ kX fs[i].Key.Hour ++ hE (lP (fD (fs.getD i ax)) 0 dm)) := l1
      have tl : (hE (lP (fD (fs.getD i ax)) 0 dm)).length ≤ 200 := by
        have key : ∀ n j, n ≤ 4 → j + n = dm → (hE (lP (fD (fs.getD i ax)) j n)).length ≤ 50 * n := by
          intro n
          induction n with
          | zero => intro j _ _; simp [lP, hE]
          | succ n ih =>
            intro j h1 h2
            rw [mY, iG]
            have hd := (hm.ds j (by omega)).1
            have hw := pm (fD (fs.getD i ax) j)
            rw [eg] at hw ⊢
            have := ih (j + 1) (by omega) (by omega)
            rw [eg] at this
            simp only [List.length_cons, List.length_append]
            have e : (fD fs[i] j) = gY fs[i].Key.Dims_0 fs[i].Key.Dims_1 fs[i].Key.Dims_2 fs[i].Key.Dims_3 j := rfl
            rw [← e] at hd
            omega
        have := key dm 0 h4 (by omega)
        omega
      have dl := lJ (n := fs[i].Value) (by have := hm.v0; have := hm.v1; omega)
      have tt := rr r1
      rw [if_pos (by omega), if_pos (by simp only [List.length_append, List.length_cons, List.length_nil]; omega), if_pos (by omega), Int.toNat_natCast, eg, qc r1.1 r1.2, Option.bind_some, if_pos (by simp only [List.length_append, List.length_cons, List.length_nil]; omega), l1', Option.bind_some, if_pos (by simp only [List.length_append, List.length_cons, List.length_nil]; omega), nF (by have := hm.v0; have := hm.v1; omega), Option.bind_some, if_pos (by simp only [List.length_append, List.length_cons, List.length_nil]; omega), Option.bind_some, mA (by omega)]
      rw [uK fs dm d1 h4 hl hf g (i + 1) _ (by omega) (by omega) (by simp only [List.length_append, List.length_cons, List.length_nil]; omega)]
      have ed : fs.drop i = fs[i] :: fs.drop (i + 1) := List.drop_eq_getElem_cons c
      rw [ed, List.flatMap_cons, qE]
      congr 3
      unfold iJ
      rw [iG, qE, wl, eg]
      simp [List.append_assoc]
    · rw [if_neg (by omega), List.drop_eq_nil_of_le (by omega)]
      simp [hE]
end Go.Proofs.YtgbjponaoeiglaaDoor.WordsParses
end
section
set_option linter.unusedVariables false
set_option linter.unusedSimpArgs false
set_option maxRecDepth 20000
namespace Go.Proofs.YtgbjponaoeiglaaDoor.WordsParses
open Go E
structure kc where
  k : Int
  fs : List aA
  a : Int
  b : Int
  g0 : Bool
  g1 : Bool
  g2 : Bool
  g3 : Bool
  h0 : Bool
  h1 : Bool
  h2 : Bool
  h3 : Bool
  t0 : Wd
  t1 : Wd
  t2 : Wd
  t3 : Wd
  p0 : Int
  p1 : Int
  p2 : Int
  p3 : Int
  p4 : Int
  p5 : Int
  p6 : Int
  p7 : Int
  p8 : Int
  fl : List Bool
  n : Int
def kc.G (s : kc) := (s.k, s.fs, s.a, s.b, s.g0, s.g1, s.g2, s.g3, s.h0, s.h1, s.h2, s.h3, s.t0, s.t1, s.t2, s.t3, s.p0, s.p1, s.p2, s.p3, s.p4, s.p5, s.p6, s.p7, s.p8, s.fl, s.n)
def kc.S (s : kc) := (s.k, s.fs, s.a, s.b, s.g0, s.g1, s.g2, s.g3, s.h0, s.h1, s.h2, s.h3, s.t0, s.t1, s.t2, s.t3, ([] : List (List UInt8)), s.p0, s.p1, s.p2, s.p3, s.p4, s.p5, s.p6, s.p7, s.p8, s.fl, s.n)
def kc.P (s : kc) (f : Int) := (s.k, s.n, s.fs, s.a, s.b, s.g0, s.g1, s.g2, s.g3, s.h0, s.h1, s.h2, s.h3, s.t0, s.t1, s.t2, s.t3, s.p0, s.p1, s.p2, s.p3, s.p4, s.p5, s.p6, s.p7, s.p8, s.fl, f)
def kc.R (s : kc) (f : Int) := (f, s.k, s.n, s.fs, s.a, s.b, s.g0, s.g1, s.g2, s.g3, s.h0, s.h1, s.h2, s.h3, s.t0, s.t1, s.t2, s.t3, s.p0, s.p1, s.p2, s.p3, s.p4, s.p5, s.p6, s.p7, s.p8, s.fl)
def kc.line (s : kc) (d : Int) := cr W s.k s.n s.fs s.a s.b s.g0 s.g1 s.g2 s.g3 s.h0 s.h1 s.h2 s.h3 s.t0 s.t1 s.t2 s.t3 s.p0 s.p1 s.p2 s.p3 s.p4 s.p5 s.p6 s.p7 s.p8 s.fl d
def kc.right (s : kc) (d : Int) := dx W s.k s.n s.fs s.a s.b s.g0 s.g1 s.g2 s.g3 s.h0 s.h1 s.h2 s.h3 s.t0 s.t1 s.t2 s.t3 s.p0 s.p1 s.p2 s.p3 s.p4 s.p5 s.p6 s.p7 s.p8 s.fl d
def kc.zero : kc := ⟨0, [], 0, 0, false, false, false, false, false, false, false, false, [], [], [], [], 0, 0, 0, 0, 0, 0, 0, 0, 0, [], 0⟩
def pi (kw : Wd) (rest : List Wd) (dm : Nat) : Prop := ∃ (s : kc) (l : Wd) (f : Int), bx W (kw :: rest) dm = some s.G ∧ s.line dm = some (l, f) ∧ bj W (kw :: rest) dm = some (if f = 0 ∧ l = mC kw rest then some s.S else none) ∧ s.fs.length ≤ 100 ∧ s.fl.length ≤ 1000
theorem At : bR W [(⟨1, 0, [], (⟨0, 0, false, false, false, false, false, false, false, false, [], [], [], []⟩ : aF), (⟨0, 0, 0, 0, 0, 0, 0, 0, 0⟩ : aC), []⟩ : aG)] [(⟨1, 0, [], (⟨0, 0, false, false, false, false, false, false, false, false, [], [], [], []⟩ : aF), (⟨0, 0, 0, 0, 0, 0, 0, 0, 0⟩ : aC), []⟩ : aG)] = some true := by kernel_rfl
theorem zU : bR W [(⟨2, 0, [], (⟨0, 0, false, false, false, false, false, false, false, false, [], [], [], []⟩ : aF), (⟨0, 0, 0, 0, 0, 0, 0, 0, 0⟩ : aC), []⟩ : aG)] [(⟨2, 0, [], (⟨0, 0, false, false, false, false, false, false, false, false, [], [], [], []⟩ : aF), (⟨0, 0, 0, 0, 0, 0, 0, 0, 0⟩ : aC), []⟩ : aG)] = some true := by kernel_rfl
theorem zI : bR W [(⟨3, 0, [], (⟨0, 0, false, false, false, false, false, false, false, false, [], [], [], []⟩ : aF), (⟨0, 0, 0, 0, 0, 0, 0, 0, 0⟩ : aC), []⟩ : aG)] [(⟨3, 0, [], (⟨0, 0, false, false, false, false, false, false, false, false, [], [], [], []⟩ : aF), (⟨0, 0, 0, 0, 0, 0, 0, 0, 0⟩ : aC), []⟩ : aG)] = some true := by kernel_rfl
theorem zR : bR W [(⟨4, 0, [], (⟨0, 0, false, false, false, false, false, false, false, false, [], [], [], []⟩ : aF), (⟨0, 0, 0, 0, 0, 0, 0, 0, 0⟩ : aC), []⟩ : aG)] [(⟨4, 0, [], (⟨0, 0, false, false, false, false, false, false, false, false, [], [], [], []⟩ : aF), (⟨0, 0, 0, 0, 0, 0, 0, 0, 0⟩ : aC), []⟩ : aG)] = some true := by kernel_rfl
theorem Aj : bR W [(⟨5, 0, [], (⟨0, 0, false, false, false, false, false, false, false, false, [], [], [], []⟩ : aF), (⟨0, 0, 0, 0, 0, 0, 0, 0, 0⟩ : aC), []⟩ : aG)] [(⟨5, 0, [], (⟨0, 0, false, false, false, false, false, false, false, false, [], [], [], []⟩ : aF), (⟨0, 0, 0, 0, 0, 0, 0, 0, 0⟩ : aC), []⟩ : aG)] = some true := by kernel_rfl
theorem zF : bR W [(⟨6, 0, [], (⟨0, 0, false, false, false, false, false, false, false, false, [], [], [], []⟩ : aF), (⟨0, 0, 0, 0, 0, 0, 0, 0, 0⟩ : aC), []⟩ : aG)] [(⟨6, 0, [], (⟨0, 0, false, false, false, false, false, false, false, false, [], [], [], []⟩ : aF), (⟨0, 0, 0, 0, 0, 0, 0, 0, 0⟩ : aC), []⟩ : aG)] = some true := by kernel_rfl
theorem An : bR W [(⟨7, 0, [], (⟨0, 0, false, false, false, false, false, false, false, false, [], [], [], []⟩ : aF), (⟨0, 0, 0, 0, 0, 0, 0, 0, 0⟩ : aC), []⟩ : aG)] [(⟨7, 0, [], (⟨0, 0, false, false, false, false, false, false, false, false, [], [], [], []⟩ : aF), (⟨0, 0, 0, 0, 0, 0, 0, 0, 0⟩ : aC), []⟩ : aG)] = some true := by kernel_rfl
theorem Ap : bR W [(⟨8, 0, [], (⟨0, 0, false, false, false, false, false, false, false, false, [], [], [], []⟩ : aF), (⟨0, 0, 0, 0, 0, 0, 0, 0, 0⟩ : aC), []⟩ : aG)] [(⟨8, 0, [], (⟨0, 0, false, false, false, false, false, false, false, false, [], [], [], []⟩ : aF), (⟨0, 0, 0, 0, 0, 0, 0, 0, 0⟩ : aC), []⟩ : aG)] = some true := by kernel_rfl
theorem Ar : bR W [(⟨9, 0, [], (⟨0, 0, false, false, false, false, false, false, false, false, [], [], [], []⟩ : aF), (⟨0, 0, 0, 0, 0, 0, 0, 0, 0⟩ : aC), []⟩ : aG)] [(⟨9, 0, [], (⟨0, 0, false, false, false, false, false, false, false, false, [], [], [], []⟩ : aF), (⟨0, 0, 0, 0, 0, 0, 0, 0, 0⟩ : aC), []⟩ : aG)] = some true := by kernel_rfl
theorem kc.line_no {s : kc} {d : Int} (h : s.right d = some false) : s.line d = some ([], 1) := by
  unfold kc.line cr
  unfold kc.right at h
  rw [h, Option.bind_some]; rfl
def kl (fs : List aA) : kc := ⟨1, fs, 0, 0, false, false, false, false, false, false, false, false, [], [], [], [], 0, 0, 0, 0, 0, 0, 0, 0, 0, [], 0⟩
def gy : Wd := [105, 110, 103, 101, 115, 116]
structure zr (dm : Nat) (fs : List aA) : Prop where
  l1 : 1 ≤ fs.length
  l50 : fs.length ≤ 50
  ok : ∀ f ∈ fs, AV dm f
theorem nR {fs : List aA} (hl : fs.length ≤ 100) {dm : Nat} (d0 : 1 ≤ dm) (d1 : dm ≤ 4) : ∃ b : Bool, (kl fs).right dm = some b ∧ gb W fs dm = some b ∧ (b = true ↔ zr dm fs) := by
  obtain ⟨x, h1, h2, h3⟩ := Ad fs hl (d := dm) (by omega) (by omega)
  refine ⟨x.1 == 0, ?_, ?_, ?_⟩
  · unfold kc.right dx kl
    rw [if_pos Z, h2, Option.bind_some]
    by_cases c : x.1 = 0
    · rw [if_pos c, c]; rfl
    · rw [if_neg c, beq_eq_false_iff_ne.2 c]
  · unfold gb je
    simp only [eZ]
    rw [At, Option.bind_some, h1]
    rfl
  · rw [beq_iff_eq, h3]
    exact ⟨fun q => ⟨q.1.1, q.1.2, q.2⟩, fun q => ⟨⟨q.l1, q.l50⟩, q.ok⟩⟩
theorem zD {dm : Nat} {f : aA} (h : AV dm f) : Ab dm f := ⟨⟨h.h0, h.h1⟩, by have := h.v0; have := h.v1; unfold qo; omega, fun j hj hd => (h.ds j hj).2 (by omega)⟩
theorem yj {dm : Nat} {f : aA} (h : Ab dm f) : ∀ x ∈ iJ dm f, 32 ∉ x := by
  intro x hx
  unfold iJ at hx
  rcases List.mem_cons.1 hx with rfl | hx
  · exact xX h.h
  · rcases List.mem_append.1 hx with hx | hx
    · unfold lP at hx
      obtain ⟨j, _, rfl⟩ := List.mem_map.1 hx
      exact uA _
    · simp at hx; subst hx; exact mV _
theorem xj {dm : Nat} {fs : List aA} (h : ∀ f ∈ fs, Ab dm f) : ∀ x ∈ fs.flatMap (iJ dm), 32 ∉ x := by
  intro x hx
  obtain ⟨f, hf, hx⟩ := List.mem_flatMap.1 hx
  exact yj (h f hf) x hx
theorem td {fs : List aA} {dm : Nat} (d0 : 1 ≤ dm) (d1 : dm ≤ 4) (h : zr dm fs) : (kl fs).line dm = some (mC gy (fs.flatMap (iJ dm)), 0) := by
  obtain ⟨b, hb, _, hi⟩ := nR (fs := fs) (by have := h.l50; omega) d0 d1
  have hb' : (kl fs).right dm = some true := by rw [hb, hi.2 h]
  have hl := uK fs dm d0 d1 h.l50 h.ok W 0 gy (by omega) (by unfold W; have := h.l50; omega) (by decide)
  have hl' : ee W (kl fs).fs dm W [105, 110, 103, 101, 115, 116] 0 = some (Sum.inr (gy ++ hE ((fs.drop 0).flatMap (iJ dm)), 0)) := hl
  unfold kc.right at hb'
  unfold kc.line cr
  rw [hb', Option.bind_some]
  simp only [Bool.not_true, Bool.false_eq_true, if_false]
  rw [if_pos (show (kl fs).k = 1 from rfl), hl', Option.bind_some]
  rfl
theorem te {rest : List Wd} {dm : Nat} (d0 : 1 ≤ dm) (d1 : dm ≤ 4) (hs : eC rest) (hl : rest.length ≤ 900) (hn : ∀ x ∈ rest, 32 ∉ x) : pi gy rest dm := by
  have hs2 : eC (gy :: rest) := fun x hx => by
    rcases List.mem_cons.1 hx with rfl | hx
    · decide
    · exact hs x hx
  have hlen := yk (gy :: rest) dm 60 1
  obtain ⟨b, hb, hb2, hi⟩ := nR (fs := gF (gy :: rest) dm 60 1) (by omega) d0 d1
  have hg : bx W (gy :: rest) dm = some (kl (gF (gy :: rest) dm 60 1)).G := by
    unfold bx
    rw [if_pos (by simp only [List.length_cons]; omega), if_pos (show (gy :: rest).getD ((0 : Int).toNat) [] = ([105, 110, 103, 101, 115, 116] : List UInt8) from rfl), zM hs2 (by simp only [List.length_cons]; omega) dm d1]
    rfl
  have hst : bj W (gy :: rest) dm = (match ks dm 50 rest with | none => some none | some fs => (gb W fs dm).bind fun r => some (if r = true then some (kl fs).S else none)) := by
    unfold bj
    rw [iV, Option.bind_some, bM, if_pos (show (rest, gy).2 = ([105, 110, 103, 101, 115, 116] : List UInt8) from rfl), tQ dm d1 rest hs (by omega)]
    cases ks dm 50 rest with
    | none => rfl
    | some fs =>
      simp only [Option.map_some, Option.bind_some, bM]
      rw [if_pos (by rfl)]
      congr 1
      funext r
      cases r <;> rfl
  cases b with
  | true =>
    have hB := hi.1 Z
    have hlin := td d0 d1 hB
    have hcan : ∀ f ∈ gF (gy :: rest) dm 60 1, Ab dm f := fun f hf => zD (hB.ok f hf)
    refine ⟨_, _, 0, hg, hlin, ?_, by simp only [kl]; omega, by simp [kl]⟩
    by_cases e : mC gy ((gF (gy :: rest) dm 60 1).flatMap (iJ dm)) = mC gy rest
    · have er := kP (xj hcan) hn gy (by decide) e
      rw [if_pos ⟨rfl, e⟩, hst]
      have hr := rk dm d1 50 _ hB.l50 (by rw [er]; exact hs) hcan
      rw [er] at hr
      rw [hr]
      simp only
      rw [hb2]
      rfl
    · rw [if_neg (fun q => e q.2), hst]
      cases hr : ks dm 50 rest with
      | none => rfl
      | some fs =>
        exfalso
        obtain ⟨i1, i2, i3⟩ := nD dm d1 50 rest fs hs hr
        have hgf := ud dm d1 60 fs [gy] (by omega) (by rw [← i2]; exact hs2) i3
        rw [← i2] at hgf
        have : gF (gy :: rest) dm 60 1 = fs := hgf
        rw [this, ← i2] at e
        exact e Z
  | false =>
    refine ⟨_, _, 1, hg, kc.line_no hb, ?_, by simp only [kl]; omega, by simp [kl]⟩
    rw [if_neg (fun q => absurd q.1 (by decide)), hst]
    cases hr : ks dm 50 rest with
    | none => rfl
    | some fs =>
      obtain ⟨i1, i2, i3⟩ := nD dm d1 50 rest fs hs hr
      have hgf := ud dm d1 60 fs [gy] (by omega) (by rw [← i2]; exact hs2) i3
      rw [← i2] at hgf
      have e : gF (gy :: rest) dm 60 1 = fs := hgf
      rw [e] at hb2
      simp only
      rw [hb2]
      rfl
end Go.Proofs.YtgbjponaoeiglaaDoor.WordsParses
end
section
set_option linter.unusedVariables false
set_option linter.unusedSimpArgs false
set_option maxRecDepth 20000
namespace Go.Proofs.YtgbjponaoeiglaaDoor.WordsParses
open Go E
def aw (g h : Bool) (t : Wd) : Wd := if g = true then (if h = true then 43 :: 61 :: jA t else [43]) else (if h = true then 61 :: jA t else [46])
theorem A5 (g h : Bool) (t : Wd) : 32 ∉ aw g h t := by
  have := uA t
  unfold aw
  cases g <;> cases h <;> simp [this]
theorem Ak (g h : Bool) (t : Wd) : (aw g h t).length ≤ 3 * t.length + 3 := by
  have := pm t
  unfold aw
  cases g <;> cases h <;> simp <;> omega
def qT (g : Bool) : Wd → Option (Bool × Option Wd)
  | [] => none
  | d :: t => if d = 61 then (bO t).map fun s => (g, some s) else none
def qH : Wd → Option (Bool × Option Wd)
  | [] => none
  | b :: r => if b = 43 then qT true r else qT false (b :: r)
def qW (w : Wd) : Option (Bool × Option Wd) := if w = [46] then some (false, none) else if w = [43] then some (true, none) else qH w
theorem uS (g : Bool) (d : UInt8) (t : Wd) : qT g (d :: t) = if d = 61 then (bO t).map fun s => (g, some s) else none := rfl
theorem uG (b : UInt8) (r : Wd) : qH (b :: r) = if b = 43 then qT true r else qT false (b :: r) := rfl
theorem xF {r : Wd} (hs : r.length ≤ 600) (g g' : Bool) (o : Option Wd) : qT g r = some (g', o) ↔ ∃ s, g' = g ∧ o = some s ∧ r = 61 :: jA s := by
  cases r with
  | nil => exact ⟨fun e => (by cases e), fun ⟨s, _, _, e⟩ => (by cases e)⟩
  | cons d t =>
    have ht : t.length ≤ 600 := by simp only [List.length_cons] at hs; omega
    rw [uS]
    by_cases hd : d = 61
    · rw [if_pos hd]
      constructor
      · intro e
        obtain ⟨s, e1, e2⟩ := Option.map_eq_some_iff.1 e
        cases e2
        exact ⟨s, rfl, rfl, by rw [hd, (oE ht s).1 e1]⟩
      · rintro ⟨s, rfl, rfl, e⟩
        rw [(oE ht s).2 (List.cons.inj e).2]; rfl
    · rw [if_neg hd]
      exact ⟨fun e => (by cases e), fun ⟨s, _, _, e⟩ => absurd (List.cons.inj e).1 hd⟩
theorem xr {w : Wd} (hs : w.length ≤ 600) (g : Bool) (o : Option Wd) : qW w = some (g, o) ↔ w = aw g o.isSome (o.getD []) := by
  unfold qW
  by_cases h1 : w = [46]
  · rw [if_pos h1]
    constructor
    · intro e; cases e; rw [h1]; rfl
    · intro e
      rw [h1] at e
      cases g <;> cases o <;> simp [aw] at e
      rfl
  · rw [if_neg h1]
    by_cases h2 : w = [43]
    · rw [if_pos h2]
      constructor
      · intro e; cases e; rw [h2]; rfl
      · intro e
        rw [h2] at e
        cases g <;> cases o <;> simp [aw] at e
        rfl
    · rw [if_neg h2]
      cases w with
      | nil =>
        constructor
        · intro e; cases e
        · intro e; cases g <;> cases o <;> simp [aw] at e
      | cons b r =>
        rw [uG]
        by_cases hb : b = 43
        · subst hb
          rw [if_pos Z, xF (by simp only [List.length_cons] at hs; omega)]
          constructor
          · rintro ⟨s, rfl, rfl, rfl⟩; rfl
          · intro e
            cases g <;> cases o <;> simp [aw] at e
            · exact absurd (by rw [e]) h2
            · rename_i s; exact ⟨s, rfl, rfl, e⟩
        · rw [if_neg hb, xF hs]
          constructor
          · rintro ⟨s, rfl, rfl, e⟩; exact e
          · intro e
            cases g <;> cases o
            · exact absurd e h1
            · rename_i s; exact ⟨s, rfl, rfl, e⟩
            · exact absurd e h2
            · exact absurd (List.cons.inj e).1 hb
def my : Nat → Nat → List Wd → (Nat → Bool) → (Nat → Bool) → (Nat → Wd) → Option (List Wd × (Nat → Bool) × (Nat → Bool) × (Nat → Wd))
  | 0, _, l, G, H, T => some (l, G, H, T)
  | _ + 1, _, [], _, _, _ => none
  | n + 1, i, w :: l, G, H, T => (qW w).bind fun q => my n (i + 1) l (iE G i q.1) (iE H i q.2.isSome) (iE T i (q.2.getD []))
theorem mX {α : Type} {D : Nat → α} {i : Nat} {x : α} (h : D i = x) : iE D i x = D := by
  funext j; unfold iE; split
  · rename_i e; rw [← h, e]
  · rfl
abbrev qR (x y : List Wd × Int) (q : List Wd × (Nat → Bool) × (Nat → Bool) × (Nat → Wd)) := (q.1, x.2, y.2, q.2.1 0, q.2.1 1, q.2.1 2, q.2.1 3, q.2.2.1 0, q.2.2.1 1, q.2.2.1 2, q.2.2.1 3, q.2.2.2 0, q.2.2.2 1, q.2.2.2 2, q.2.2.2 3)
theorem sg (c : UInt8) (l : Wd) : strings_CutPrefix (c :: l) [c] = (l, true) := by simp [strings_CutPrefix]
theorem xN {c b : UInt8} (l : Wd) (h : ¬ b = c) : strings_CutPrefix (b :: l) [c] = (b :: l, false) := by
  have hp : ([c] : List UInt8).isPrefixOf (b :: l) = false := by
    show ((c == b) && _) = false
    rw [show (c == b) = false from by rw [beq_eq_false_iff_ne]; exact fun e => h e.symm]; rfl
  simp [strings_CutPrefix, hp]
theorem uv (c : UInt8) : strings_CutPrefix [] [c] = ([], false) := by simp [strings_CutPrefix]
theorem Ae {w : Wd} (h1 : ¬ w = [46]) (h2 : ¬ w = [43]) : ∃ r g, strings_CutPrefix w [43] = (r, g) ∧ r.length ≤ w.length ∧ ¬ (g = true ∧ r = []) ∧ qW w = qT g r := by
  unfold qW
  rw [if_neg h1, if_neg h2]
  cases w with
  | nil => exact ⟨[], false, uv 43, Nat.le_refl _, by simp, rfl⟩
  | cons b w =>
    rw [uG]
    by_cases hb : b = 43
    · subst hb
      exact ⟨w, true, sg 43 w, by simp, fun q => h2 (by rw [q.2]), if_pos Z⟩
    · exact ⟨b :: w, false, xN w hb, Nat.le_refl _, by simp, if_neg hb⟩
theorem xn (dm : Nat) (h4 : dm ≤ 4) (x y : List Wd × Int) : ∀ (f n i : Nat) (l : List Wd) (G H : Nat → Bool) (T : Nat → Wd), i + n = dm → n < f → eC l → (∀ j, i ≤ j → G j = false ∧ H j = false ∧ T j = []) →
    cn W dm x y f i l (G 0) (H 0) (T 0) (T 1) (T 2) (T 3) (G 1) (G 2) (G 3) (H 1) (H 2) (H 3) = some ((my n i l G H T).map (qR x y))
  | 0, n, i, l, G, H, T, h, hf, hs, hi => by omega
  | f + 1, 0, i, l, G, H, T, h, hf, hs, hi => by
    rw [cn, if_neg (by omega)]; rfl
  | f + 1, n + 1, i, [], G, H, T, h, hf, hs, hi => by
    rw [cn, if_pos (by omega), xt]; rfl
  | f + 1, n + 1, i, w :: l, G, H, T, h, hf, hs, hi => by
    have hw := dL hs
    have p0 : (0 : Int) ≤ (i : Int) := by omega
    have p4 : (i : Int) < 4 := by omega
    have inv : ∀ (a : Bool) (b : Bool) (c : Wd), ∀ j, i + 1 ≤ j → iE G i a j = false ∧ iE H i b j = false ∧ iE T i c j = [] := fun a b c j hj => by
      have := hi j (by omega)
      unfold iE
      rw [if_neg (by omega), if_neg (by omega), if_neg (by omega)]; exact this
    have ih := fun (a b : Bool) (c : Wd) => xn dm h4 x y f n (i + 1) l (iE G i a) (iE H i b) (iE T i c) (by omega) (by omega) (cZ hs) (inv a b c)
    have g0 := hi i (Nat.le_refl _)
    have sG : iE G i false = G := mX g0.1
    have sH : iE H i false = H := mX g0.2.1
    have sT : iE T i [] = T := mX g0.2.2
    rw [cn, if_pos (by omega), ma, Option.bind_some, bM]
    simp only [mA (show i < 100000 by omega), Int.toNat_natCast, if_pos p0, if_pos p4, eZ]
    unfold my
    by_cases c1 : w = [46]
    · have := ih false false []
      rw [sG, sH, sT] at this
      rw [if_pos c1, show qW w = some (false, none) from if_pos c1, Option.bind_some]
      simp only [Option.isSome_none, Option.getD_none, sG, sH, sT]
      exact this
    · rw [if_neg c1]
      by_cases c2 : w = [43]
      · subst c2
        have := ih true false []
        rw [sH, sT] at this
        rw [sg, if_pos Z, if_pos Z, show qW [43] = some (true, none) from rfl, Option.bind_some]
        simp only [Option.isSome_none, Option.getD_none, sH, sT]
        have e : cn W dm x y f ((i + 1 : Nat) : Int) l (if i = 0 then true else G 0) (H 0) (T 0) (T 1) (T 2) (T 3) (if i = 1 then true else G 1) (if i = 2 then true else G 2) (if i = 3 then true else G 3) (H 1) (H 2) (H 3) = some ((my n (i + 1) l (iE G i true) H T).map (qR x y)) := this
        rw [e]; rfl
      · obtain ⟨r, g, hc, hr, hne, hq⟩ := Ae c1 c2
        rw [hc, hq]
        have hfst : ∀ X : Option (Sum (List Wd) (Option (List Wd × Int × Int × Bool × Bool × Bool × Bool × Bool × Bool × Bool × Bool × Wd × Wd × Wd × Wd))), (if g = true then (if r = ([] : List UInt8) then X else (some (Sum.inl l))) else (some (Sum.inl l))) = some (Sum.inl l) := by
          intro X
          by_cases hg : g = true
          · rw [if_pos hg, if_neg (fun q => hne ⟨hg, q⟩)]
          · rw [if_neg hg]
        simp only
        rw [hfst, Option.bind_some]
        simp only [mB]
        cases r with
        | nil => rw [uv]; rfl
        | cons d t =>
          rw [uS]
          by_cases hd : d = 61
          · subst hd
            have ht : t.length ≤ 600 := by simp only [List.length_cons] at hr; omega
            rw [sg, if_pos Z, if_pos Z, qU t ht, Option.bind_some]
            cases hb : bO t with
            | none => rfl
            | some s =>
              simp only [Option.isSome_some, if_true, Option.getD_some, Option.map_some, Option.bind_some]
              exact ih g true s
          · rw [xN t hd, if_neg hd]
            rfl
end Go.Proofs.YtgbjponaoeiglaaDoor.WordsParses
end
section
set_option linter.unusedVariables false
set_option linter.unusedSimpArgs false
set_option maxRecDepth 20000
namespace Go.Proofs.YtgbjponaoeiglaaDoor.WordsParses
open Go E
def uI (G H : Nat → Bool) (T : Nat → Wd) (i n : Nat) : List Wd := (List.range n).map fun j => aw (G (i + j)) (H (i + j)) (T (i + j))
theorem pU (G H : Nat → Bool) (T : Nat → Wd) (i n : Nat) : uI G H T i (n + 1) = aw (G i) (H i) (T i) :: uI G H T (i + 1) n := by
  unfold uI
  rw [List.range_succ_eq_map, List.map_cons, List.map_map]
  congr 1
  apply List.map_congr_left
  intro j _
  have e : i + (j + 1) = i + 1 + j := by omega
  show aw (G (i + (j + 1))) (H (i + (j + 1))) (T (i + (j + 1))) = _
  rw [e]
theorem yJ (G H : Nat → Bool) (T : Nat → Wd) (n j : Nat) (h : j < n) : (uI G H T 0 n)[j]? = some (aw (G j) (H j) (T j)) := by
  simp [uI, List.getElem?_map, List.getElem?_range h]
def xL (H : Nat → Bool) (T : Nat → Wd) (j : Nat) : Prop := H j = false → T j = []
theorem qZ : ∀ (n i : Nat) (l : List Wd) (G H : Nat → Bool) (T : Nat → Wd) (l' : List Wd) (G' H' : Nat → Bool) (T' : Nat → Wd), eC l → my n i l G H T = some (l', G', H', T') →
    l = uI G' H' T' i n ++ l' ∧ (∀ j, i ≤ j → j < i + n → xL H' T' j) ∧ ∀ j, ¬ (i ≤ j ∧ j < i + n) → G' j = G j ∧ H' j = H j ∧ T' j = T j
  | 0, i, l, G, H, T, l', G', H', T', hs, h => by
    simp only [my, Option.some.injEq, Prod.mk.injEq] at h
    obtain ⟨rfl, rfl, rfl, rfl⟩ := h
    exact ⟨rfl, fun j a b => by omega, fun j _ => ⟨rfl, rfl, rfl⟩⟩
  | n + 1, i, [], G, H, T, l', G', H', T', hs, h => by cases h
  | n + 1, i, w :: l, G, H, T, l', G', H', T', hs, h => by
    simp only [my] at h
    obtain ⟨⟨g, o⟩, hq, h2⟩ := Option.bind_eq_some_iff.1 h
    obtain ⟨e1, e2, e3⟩ := qZ n (i + 1) l _ _ _ l' G' H' T' (cZ hs) h2
    have hw := (xr (dL hs) g o).1 hq
    obtain ⟨a1, a2, a3⟩ := e3 i (by omega)
    have b1 : G' i = g := by rw [a1]; simp [iE]
    have b2 : H' i = o.isSome := by rw [a2]; simp [iE]
    have b3 : T' i = o.getD [] := by rw [a3]; simp [iE]
    refine ⟨by rw [pU, b1, b2, b3, ← hw, List.cons_append, ← e1], fun j h1 h2 => ?_, fun j hj => ?_⟩
    · by_cases e : j = i
      · subst e
        intro hh
        rw [b2] at hh
        rw [b3]
        cases o with
        | none => rfl
        | some _ => cases hh
      · exact e2 j (by omega) (by omega)
    · obtain ⟨c1, c2, c3⟩ := e3 j (by omega)
      rw [c1, c2, c3]
      unfold iE
      rw [if_neg (by omega), if_neg (by omega), if_neg (by omega)]
      exact ⟨rfl, rfl, rfl⟩
theorem sQ : ∀ (n i : Nat) (G H G' H' : Nat → Bool) (T T' : Nat → Wd) (l' : List Wd), eC (uI G' H' T' i n ++ l') → (∀ j, i ≤ j → j < i + n → xL H' T' j) →
    ∃ (A B : Nat → Bool) (C : Nat → Wd), my n i (uI G' H' T' i n ++ l') G H T = some (l', A, B, C) ∧ ∀ j, A j = (if i ≤ j ∧ j < i + n then G' j else G j) ∧ B j = (if i ≤ j ∧ j < i + n then H' j else H j) ∧ C j = (if i ≤ j ∧ j < i + n then T' j else T j)
  | 0, i, G, H, G', H', T, T', l', hs, hp => ⟨G, H, T, rfl, fun j => by rw [if_neg (by omega), if_neg (by omega), if_neg (by omega)]; exact ⟨rfl, rfl, rfl⟩⟩
  | n + 1, i, G, H, G', H', T, T', l', hs, hp => by
    rw [pU, List.cons_append] at hs ⊢
    have hpi := hp i (Nat.le_refl _) (by omega)
    have hq : qW (aw (G' i) (H' i) (T' i)) = some (G' i, if H' i = true then some (T' i) else none) := by
      rw [xr (dL hs)]
      by_cases hh : H' i = true
      · rw [if_pos hh, hh]; rfl
      · rw [if_neg hh]
        have hf : H' i = false := by simpa using hh
        rw [hf, hpi hf]; rfl
    obtain ⟨A, B, C, e1, e2⟩ := sQ n (i + 1) (iE G i (G' i)) (iE H i (if H' i = true then some (T' i) else none : Option Wd).isSome) G' H' (iE T i ((if H' i = true then some (T' i) else none : Option Wd).getD [])) T' l' (cZ hs) (fun j (a : i + 1 ≤ j) (b : j < i + 1 + n) => hp j (by omega) (by omega))
    refine ⟨A, B, C, ?_, fun j => ?_⟩
    · simp only [my]
      rw [hq, Option.bind_some]
      exact e1
    · obtain ⟨c1, c2, c3⟩ := e2 j
      rw [c1, c2, c3]
      unfold iE
      by_cases h1 : i = j
      · subst h1
        have n1 : ¬ (i + 1 ≤ i ∧ i < i + 1 + n) := by omega
        have n2 : i ≤ i ∧ i < i + (n + 1) := by omega
        simp only [if_neg n1, if_pos n2, if_true]
        by_cases hh : H' i = true
        · rw [if_pos hh, hh]; exact ⟨trivial, rfl, rfl⟩
        · have hf : H' i = false := by simpa using hh
          rw [if_neg hh, hf, hpi hf]; exact ⟨trivial, rfl, rfl⟩
      · by_cases h2 : i + 1 ≤ j ∧ j < i + 1 + n
        · have h3 : i ≤ j ∧ j < i + (n + 1) := by omega
          simp only [if_neg h1, if_pos h2, if_pos h3]; exact ⟨trivial, trivial, trivial⟩
        · have h3 : ¬ (i ≤ j ∧ j < i + (n + 1)) := by omega
          simp only [if_neg h1, if_neg h2, if_neg h3]; exact ⟨trivial, trivial, trivial⟩
def G0 : Nat → Bool := fun _ => false
def kT (dm : Nat) (l : List Wd) : Option (List Wd × Int × Int × (Nat → Bool) × (Nat → Bool) × (Nat → Wd)) := match l with
  | a :: b :: l => (nO a).bind fun x => (nO b).bind fun y => (my dm 0 l G0 G0 D0).map fun q => (q.1, x, y, q.2.1, q.2.2.1, q.2.2.2)
  | _ => none
abbrev Bd (q : List Wd × Int × Int × (Nat → Bool) × (Nat → Bool) × (Nat → Wd)) := (q.1, q.2.1, q.2.2.1, q.2.2.2.1 0, q.2.2.2.1 1, q.2.2.2.1 2, q.2.2.2.1 3, q.2.2.2.2.1 0, q.2.2.2.2.1 1, q.2.2.2.2.1 2, q.2.2.2.2.1 3, q.2.2.2.2.2 0, q.2.2.2.2.2 1, q.2.2.2.2.2 2, q.2.2.2.2.2 3)
theorem xi (dm : Nat) (h4 : dm ≤ 4) (l : List Wd) (hs : eC l) : cE W l dm = some ((kT dm l).map Bd) := by
  unfold cE kT
  match l, hs with
  | [], _ => rfl
  | [a], hs =>
    rw [iQ _ _ (dL hs), Option.bind_some]
    cases nO a with
    | none => rfl
    | some x => simp only [Option.map_some, bM]; rw [km]; rfl
  | a :: b :: l, hs =>
    rw [iQ _ _ (dL hs), Option.bind_some]
    simp only
    cases nO a with
    | none => rfl
    | some x =>
      simp only [Option.map_some, bM, Option.bind_some]
      rw [iQ _ _ (dL (cZ hs)), Option.bind_some]
      cases nO b with
      | none => rfl
      | some y =>
        rw [Option.map_some, bM, Option.bind_some]
        have h := xn dm h4 (b :: l, x) (l, y) W dm 0 l G0 G0 D0 (by omega) (by unfold W; omega) (cZ (cZ hs)) (fun j _ => ⟨rfl, rfl, rfl⟩)
        have h' : cn W dm (b :: l, x) (l, y) W 0 l false false [] [] [] [] false false false false false false = some ((my dm 0 l G0 G0 D0).map (qR (b :: l, x) (l, y))) := h
        refine h'.trans ?_
        cases my dm 0 l G0 G0 D0 <;> rfl
def rG (w : Wd) : Bool := match w with | 43 :: _ => true | _ => false
def rR (w : Wd) : Wd := match w with | 43 :: t => t | w => w
def rH (w : Wd) : Bool := match rR w with | 61 :: _ => true | _ => false
def rT (w : Wd) : Wd := match rR w with | 61 :: t => (bO t).getD [] | _ => []
def gG (ws : List Wd) (dm j : Nat) : Bool := if j < dm then (match ws[3 + j]? with | none => false | some w => rG w) else false
def gH (ws : List Wd) (dm j : Nat) : Bool := if j < dm then (match ws[3 + j]? with | none => false | some w => rH w) else false
def gT (ws : List Wd) (dm j : Nat) : Wd := if j < dm then (match ws[3 + j]? with | none => [] | some w => rT w) else []
def part {α : Type} (z : α) (F : Nat → α) (i j : Nat) : α := if j < i then F j else z
theorem nf {α : Type} (z : α) (F : Nat → α) (i : Nat) {x : α} (h : F i = x) : part z F (i + 1) = iE (part z F i) i x := by
  funext j
  show (if j < i + 1 then F j else z) = if i = j then x else (if j < i then F j else z)
  by_cases e : i = j
  · subst e; rw [if_pos (by omega), if_pos rfl, h]
  · rw [if_neg e]
    by_cases hj : j < i
    · rw [if_pos hj, if_pos (by omega)]
    · rw [if_neg hj, if_neg (by omega)]
theorem oM {α : Type} (z : α) (F : Nat → α) (i : Nat) (h : F i = z) : part z F (i + 1) = part z F i := by
  rw [nf z F i h]
  exact mX (by unfold part; rw [if_neg (by omega)])
theorem qi {α : Type} (z : α) (F : Nat → α) (i : Nat) (h : ∀ j, i ≤ j → F j = z) : part z F i = F := by
  funext j
  unfold part
  by_cases e : j < i
  · rw [if_pos e]
  · rw [if_neg e, h j (by omega)]
theorem Aw {w : Wd} (h : ∀ t, w ≠ 43 :: t) : rG w = false := by
  unfold rG; split
  · rename_i t; exact absurd Z (h t)
  · rfl
theorem zO (t : Wd) : rR (43 :: t) = t := rfl
theorem AG {w : Wd} (h : ∀ t, w ≠ 43 :: t) : rR w = w := by
  unfold rR; split
  · rename_i t; exact absurd Z (h t)
  · rfl
theorem zV {w t : Wd} (h : rR w = 61 :: t) : rH w = true ∧ rT w = (bO t).getD [] := by unfold rH rT; rw [h]; exact ⟨rfl, rfl⟩
theorem A3 {w : Wd} (h : ∀ t, rR w ≠ 61 :: t) : rH w = false ∧ rT w = [] := by
  unfold rH rT
  constructor
  · split
    · rename_i t e; exact absurd e (h t)
    · rfl
  · split
    · rename_i t e; exact absurd e (h t)
    · rfl
theorem pp {w : Wd} {c : UInt8} {n : Int} (hn : n = (c.toNat : Int)) : (0 < (w.length : Int) ∧ ((w.getD (0 : Int).toNat 0).toNat : Int) = n) ↔ ∃ t, w = c :: t := by
  subst hn
  cases w with
  | nil => exact ⟨fun h => by simp at h, fun ⟨t, h⟩ => by cases h⟩
  | cons b t =>
    constructor
    · rintro ⟨_, h⟩
      have h' : ((b.toNat : Nat) : Int) = c.toNat := h
      exact ⟨t, by rw [UInt8.toNat_inj.1 (show b.toNat = c.toNat by omega)]⟩
    · rintro ⟨t', h⟩
      obtain ⟨rfl, rfl⟩ := List.cons.inj h
      exact ⟨by simp only [List.length_cons]; omega, rfl⟩
theorem xA {ws : List Wd} (hs : eC ws) (hl : ws.length ≤ 1000) (dm : Nat) (h4 : dm ≤ 4) (x y : Int) : ∀ (f i : Nat), i ≤ dm → dm - i < f → (∀ j, j < i → 3 + j < ws.length) →
    dq W ws dm x y f i [] [] [] [] (part false (gG ws dm) i 0) (part false (gH ws dm) i 0) (part [] (gT ws dm) i 0) (part [] (gT ws dm) i 1) (part [] (gT ws dm) i 2) (part [] (gT ws dm) i 3) (part false (gG ws dm) i 1) (part false (gG ws dm) i 2) (part false (gG ws dm) i 3) (part false (gH ws dm) i 1) (part false (gH ws dm) i 2) (part false (gH ws dm) i 3)
      = some (x, y, gG ws dm 0, gG ws dm 1, gG ws dm 2, gG ws dm 3, gH ws dm 0, gH ws dm 1, gH ws dm 2, gH ws dm 3, gT ws dm 0, gT ws dm 1, gT ws dm 2, gT ws dm 3)
  | 0, i, _, h, _ => by omega
  | f + 1, i, hi, h, hb => by
    have done : (∀ j, i ≤ j → ¬ (j < dm ∧ 3 + j < ws.length)) → part false (gG ws dm) i = gG ws dm ∧ part false (gH ws dm) i = gH ws dm ∧ part [] (gT ws dm) i = gT ws dm := by
      intro hd
      refine ⟨qi _ _ _ fun j hj => ?_, qi _ _ _ fun j hj => ?_, qi _ _ _ fun j hj => ?_⟩
      all_goals
        have := hd j hj
        first | unfold gG | unfold gH | unfold gT
        by_cases h1 : j < dm
        · rw [if_pos h1, List.getElem?_eq_none (by omega)]
        · rw [if_neg h1]
    rw [dq]
    by_cases c1 : i < dm
    · have e3 : bm (3 + (i : Int)) = ((3 + i : Nat) : Int) := by rw [cj (by omega)]; omega
      rw [if_pos (by omega), e3]
      by_cases c2 : 3 + i < ws.length
      · have p0 : (0 : Int) ≤ ((3 + i : Nat) : Int) := by omega
        have p0' : (0 : Int) ≤ (i : Int) := by omega
        have p4 : (i : Int) < 4 := by omega
        have eg : ws.getD (3 + i) [] = ws[3 + i] := ga ws _ c2 _
        have hw : ws[3 + i].length ≤ 600 := hs _ (List.getElem_mem c2)
        have qG : gG ws dm i = rG ws[3 + i] := by unfold gG; rw [if_pos c1, List.getElem?_eq_getElem c2]
        have qH : gH ws dm i = rH ws[3 + i] := by unfold gH; rw [if_pos c1, List.getElem?_eq_getElem c2]
        have qT : gT ws dm i = rT ws[3 + i] := by unfold gT; rw [if_pos c1, List.getElem?_eq_getElem c2]
        have ih := xA hs hl dm h4 x y f (i + 1) (by omega) (by omega) (fun j hj => by omega)
        rw [if_pos (by omega), if_pos p0]
        simp only [Int.toNat_natCast, eg, if_pos p0', if_pos p4, mA (show i < 100000 by omega)]
        generalize ws[3 + i] = w at hw qG qH qT
        have hx : (if 0 < (w.length : Int) then (if ((w.getD (0 : Int).toNat 0).toNat : Int) = 43 then (if 1 ≤ (w.length : Int) then (some ((w.drop (1 : Int).toNat), (if i = 0 then true else part false (gG ws dm) i 0), (if i = 1 then true else part false (gG ws dm) i 1), (if i = 2 then true else part false (gG ws dm) i 2), (if i = 3 then true else part false (gG ws dm) i 3))) else none) else (some (w, part false (gG ws dm) i 0, part false (gG ws dm) i 1, part false (gG ws dm) i 2, part false (gG ws dm) i 3))) else (some (w, part false (gG ws dm) i 0, part false (gG ws dm) i 1, part false (gG ws dm) i 2, part false (gG ws dm) i 3))) = some (rR w, part false (gG ws dm) (i + 1) 0, part false (gG ws dm) (i + 1) 1, part false (gG ws dm) (i + 1) 2, part false (gG ws dm) (i + 1) 3) := by
          by_cases hh : ∃ t, w = 43 :: t
          · obtain ⟨t, ht⟩ := hh
            obtain ⟨a, b⟩ := (pp (c := 43) (n := 43) rfl).2 ⟨t, ht⟩
            rw [if_pos a, if_pos b, if_pos (by omega), ht, zO, nf false (gG ws dm) i (x := true) (by rw [qG, ht]; rfl)]
            rfl
          · have hn : ∀ t, w ≠ 43 :: t := fun t e => hh ⟨t, e⟩
            have hk : part false (gG ws dm) (i + 1) = part false (gG ws dm) i := oM _ _ _ (by rw [qG]; exact Aw hn)
            rw [AG hn, hk]
            by_cases a : 0 < (w.length : Int)
            · rw [if_pos a, if_neg (fun b => hh ((pp (c := 43) (n := 43) Z).1 ⟨a, b⟩))]
            · rw [if_neg a]
        rw [hx, Option.bind_some]
        simp only
        have hr : (rR w).length ≤ 600 := by
          unfold rR; split
          · simp only [List.length_cons] at hw; omega
          · exact hw
        by_cases hh : ∃ t, rR w = 61 :: t
        · obtain ⟨t, ht⟩ := hh
          obtain ⟨a, b⟩ := (pp (c := 61) (n := 61) rfl).2 ⟨t, ht⟩
          have ht6 : t.length ≤ 600 := by rw [ht] at hr; simp only [List.length_cons] at hr; omega
          have et : (rR w).drop (1 : Int).toNat = t := by rw [ht]; rfl
          have hst : eC [t] := fun x hx => by simp at hx; subst hx; exact ht6
          have ex : es W [t] 0 = some ((bO t).getD []) := by have := uO hst 0; exact this
          obtain ⟨hy1, hy2⟩ := zV ht
          rw [if_pos a, if_pos b, if_pos (by omega), et, ex, Option.bind_some]
          rw [nf false (gH ws dm) i (x := true) (by rw [qH, hy1]), nf [] (gT ws dm) i (x := (bO t).getD []) (by rw [qT, hy2])] at ih
          exact ih
        · have hn : ∀ t, rR w ≠ 61 :: t := fun t e => hh ⟨t, e⟩
          obtain ⟨hy1, hy2⟩ := A3 hn
          rw [oM false (gH ws dm) i (by rw [qH, hy1]), oM [] (gT ws dm) i (by rw [qT, hy2])] at ih
          by_cases a : 0 < ((rR w).length : Int)
          · rw [if_pos a, if_neg (fun b => hh ((pp (c := 61) (n := 61) Z).1 ⟨a, b⟩))]; exact ih
          · rw [if_neg a]; exact ih
      · rw [if_neg (by omega)]
        obtain ⟨d1, d2, d3⟩ := done fun j hj => by omega
        rw [d1, d2, d3]
    · rw [if_neg (by omega)]
      obtain ⟨d1, d2, d3⟩ := done fun j hj => by omega
      rw [d1, d2, d3]
theorem Be {ws : List Wd} (hs : eC ws) (hl : ws.length ≤ 1000) (dm : Nat) (h4 : dm ≤ 4) : fN W ws dm = some (nx ws 1, nx ws 2, gG ws dm 0, gG ws dm 1, gG ws dm 2, gG ws dm 3, gH ws dm 0, gH ws dm 1, gH ws dm 2, gH ws dm 3, gT ws dm 0, gT ws dm 1, gT ws dm 2, gT ws dm 3) := by
  unfold fN
  have n1 : aV W ws 1 = some (nx ws 1) := pM hs 1
  have n2 : aV W ws 2 = some (nx ws 2) := pM hs 2
  rw [n1, Option.bind_some, n2, Option.bind_some]
  have h := xA hs hl dm h4 (nx ws 1) (nx ws 2) W 0 (by omega) (by unfold W; omega) (fun j hj => by omega)
  exact h
theorem A4 (g h : Bool) (t : Wd) (hl : (aw g h t).length ≤ 600) (hp : h = false → t = []) : rG (aw g h t) = g ∧ rH (aw g h t) = h ∧ rT (aw g h t) = t := by
  have ht : h = true → (jA t).length ≤ 600 := by intro hh; subst hh; unfold aw at hl; cases g <;> simp at hl <;> omega
  have hb : h = true → bO (jA t) = some t := fun hh => (oE (ht hh) t).2 Z
  cases h with
  | false => rw [hp rfl]; cases g <;> exact ⟨rfl, rfl, rfl⟩
  | true =>
    have := hb Z
    cases g
    · refine ⟨rfl, rfl, ?_⟩
      show (bO (jA t)).getD [] = t
      rw [this]; rfl
    · refine ⟨rfl, rfl, ?_⟩
      show (bO (jA t)).getD [] = t
      rw [this]; rfl
end Go.Proofs.YtgbjponaoeiglaaDoor.WordsParses
end
section
set_option linter.unusedVariables false
set_option linter.unusedSimpArgs false
set_option maxRecDepth 20000
namespace Go.Proofs.YtgbjponaoeiglaaDoor.WordsParses
open Go E
def jJ (a b : Int) (G H : Nat → Bool) (T : Nat → Wd) : kc := ⟨2, [], a, b, G 0, G 1, G 2, G 3, H 0, H 1, H 2, H 3, T 0, T 1, T 2, T 3, 0, 0, 0, 0, 0, 0, 0, 0, 0, [], 0⟩
def lX : Wd := [97, 115, 107]
theorem rF (G : Nat → Bool) (j : Nat) (h : j < 4) : [G 0, G 1, G 2, G 3].getD j false = G j := by
  have : j = 0 ∨ j = 1 ∨ j = 2 ∨ j = 3 := by omega
  rcases this with rfl | rfl | rfl | rfl <;> rfl
theorem xE (T : Nat → Wd) (j : Nat) (h : j < 4) : gY (T 0) (T 1) (T 2) (T 3) j = T j := by
  have : j = 0 ∨ j = 1 ∨ j = 2 ∨ j = 3 := by omega
  rcases this with rfl | rfl | rfl | rfl <;> rfl
theorem pB {a b : Int} {G H G' H' : Nat → Bool} {T T' : Nat → Wd} (h : ∀ j, j < 4 → G j = G' j ∧ H j = H' j ∧ T j = T' j) : jJ a b G H T = jJ a b G' H' T' := by
  unfold jJ
  obtain ⟨a0, b0, c0⟩ := h 0 (by omega)
  obtain ⟨a1, b1, c1⟩ := h 1 (by omega)
  obtain ⟨a2, b2, c2⟩ := h 2 (by omega)
  obtain ⟨a3, b3, c3⟩ := h 3 (by omega)
  rw [a0, b0, c0, a1, b1, c1, a2, b2, c2, a3, b3, c3]
theorem oF (a b : Int) (G H : Nat → Bool) (T : Nat → Wd) {dm : Nat} (d0 : 1 ≤ dm) (d1 : dm ≤ 4) : ∃ r : Bool, (jJ a b G H T).right dm = some r ∧ fY W a b (G 0) (G 1) (G 2) (G 3) (H 0) (H 1) (H 2) (H 3) (T 0) (T 1) (T 2) (T 3) dm = some r ∧ (r = true ↔ sx dm a b G H T) := by
  obtain ⟨x, h1, h2, h3⟩ := zX a b (G 0) (G 1) (G 2) (G 3) (H 0) (H 1) (H 2) (H 3) (T 0) (T 1) (T 2) (T 3) (d := dm) (by omega) (by omega)
  refine ⟨x == 0, ?_, ?_, ?_⟩
  · unfold kc.right dx jJ
    rw [if_neg (show ¬ ((2 : Int) = 1) by decide), if_pos Z, h2, Option.bind_some]
    by_cases c : x = 0
    · rw [if_pos c, c]; rfl
    · rw [if_neg c, beq_eq_false_iff_ne.2 c]
  · unfold fY jg
    simp only [eZ]
    rw [zU, Option.bind_some, h1]
    rfl
  · rw [beq_iff_eq, h3]
    have e : ∀ j, j < 4 → (xv dm (fun j => [G 0, G 1, G 2, G 3].getD j false) (fun j => [H 0, H 1, H 2, H 3].getD j false) (gY (T 0) (T 1) (T 2) (T 3)) j ↔ xv dm G H T j) := by
      intro j hj
      have a1 := rF G j hj
      have a2 := rF H j hj
      have a3 := xE T j hj
      constructor
      · intro q
        have := q.len; have q2 := q.no; have q3 := q.out
        simp only [a1, a2, a3] at this q2 q3
        exact ⟨this, q2, q3⟩
      · intro q
        have := q.len; have q2 := q.no; have q3 := q.out
        refine ⟨?_, ?_, ?_⟩ <;> simp only [a1, a2, a3] <;> assumption
    exact ⟨fun q => ⟨q.a0, q.ab, q.b1, fun j hj => (e j hj).1 (q.ds j hj)⟩, fun q => ⟨q.a0, q.ab, q.b1, fun j hj => (e j hj).2 (q.ds j hj)⟩⟩
theorem yQ (a b : Int) (G H : Nat → Bool) (T : Nat → Wd) (i : Nat) (hi : i < 4) (ht : (T i).length ≤ 600) : gz W a b (G 0) (G 1) (G 2) (G 3) (H 0) (H 1) (H 2) (H 3) (T 0) (T 1) (T 2) (T 3) i = some (aw (G i) (H i) (T i)) := by
  have e1 := rF G i hi
  have e2 := rF H i hi
  have e3 : [T 0, T 1, T 2, T 3].getD i [] = T i := xE T i hi
  have hw := pm (T i)
  have p0 : (0 : Int) ≤ (i : Int) := by omega
  have p4 : (i : Int) < 4 := by omega
  unfold gz aw
  simp only [Int.toNat_natCast, e1, e2, e3, if_pos p0, if_pos p4, lH (T i) ht]
  cases G i
  · simp only [Bool.false_eq_true, if_false, Option.bind_some]
    cases H i
    · simp only [Bool.false_eq_true, if_false, Option.bind_some, if_true]
    · simp only [if_true, Option.bind_some]
      rw [if_pos (by simp only [List.length_cons, List.length_nil]; omega), if_pos (by simp only [List.length_append, List.length_cons, List.length_nil]; omega), Option.bind_some, if_neg (by simp)]
      rfl
  · simp only [if_true, Option.bind_some]
    cases H i
    · simp only [Bool.false_eq_true, if_false, Option.bind_some]
      rw [if_neg (by simp)]
    · simp only [if_true, Option.bind_some]
      rw [if_pos (by simp only [List.length_cons, List.length_nil]; omega), if_pos (by simp only [List.length_append, List.length_cons, List.length_nil]; omega), Option.bind_some, if_neg (by simp)]
      rfl
theorem uX (a b : Int) (G H : Nat → Bool) (T : Nat → Wd) (dm : Nat) (h4 : dm ≤ 4) (ht : ∀ j, j < 4 → (T j).length ≤ 16) : ∀ (f n i : Nat) (t : Wd), i + n = dm → n < f → t.length + 60 * n ≤ 100000 →
    dw W a b (G 0) (G 1) (G 2) (G 3) (H 0) (H 1) (H 2) (H 3) (T 0) (T 1) (T 2) (T 3) dm f t i = some (Sum.inr (t ++ hE (uI G H T i n), 0))
  | 0, n, i, t, _, h, _ => by omega
  | f + 1, 0, i, t, h, _, _ => by
    rw [dw, if_neg (by omega)]; simp [uI, hE]
  | f + 1, n + 1, i, t, h, hf, hb => by
    have hi := ht i (by omega)
    have hw := Ak (G i) (H i) (T i)
    rw [dw, if_pos (by omega), if_pos (by simp only [List.length_cons, List.length_nil]; omega), yQ a b G H T i (by omega) (by omega), Option.bind_some, if_pos (by simp only [List.length_append, List.length_cons, List.length_nil]; omega), mA (by omega), uX a b G H T dm h4 ht f n (i + 1) _ (by omega) (by omega) (by simp only [List.length_append, List.length_cons, List.length_nil]; omega)]
    rw [pU, iG]
    simp [List.append_assoc]
def lZ (dm : Nat) (a b : Int) (G H : Nat → Bool) (T : Nat → Wd) : List Wd := iB a :: iB b :: uI G H T 0 dm
theorem xU {a b : Int} {G H : Nat → Bool} {T : Nat → Wd} {dm : Nat} (d0 : 1 ≤ dm) (d1 : dm ≤ 4) (h : sx dm a b G H T) : (jJ a b G H T).line dm = some (mC lX (lZ dm a b G H T), 0) := by
  obtain ⟨r, hr, _, hi⟩ := oF a b G H T d0 d1
  have hr' : (jJ a b G H T).right dm = some true := by rw [hr, hi.2 h]
  have ra : -9223372036854775808 ≤ a ∧ a ≤ 9223372036854775807 := by have := h.a0; have := h.ab; have := h.b1; omega
  have rb : -9223372036854775808 ≤ b ∧ b ≤ 9223372036854775807 := by have := h.a0; have := h.ab; have := h.b1; omega
  have la := lJ ra
  have lb := lJ rb
  have hl : dw W (jJ a b G H T).a (jJ a b G H T).b (jJ a b G H T).g0 (jJ a b G H T).g1 (jJ a b G H T).g2 (jJ a b G H T).g3 (jJ a b G H T).h0 (jJ a b G H T).h1 (jJ a b G H T).h2 (jJ a b G H T).h3 (jJ a b G H T).t0 (jJ a b G H T).t1 (jJ a b G H T).t2 (jJ a b G H T).t3 dm W (((([97, 115, 107, 32] : List UInt8) ++ iB a) ++ ([32] : List UInt8)) ++ iB b) 0 = some (Sum.inr ((((([97, 115, 107, 32] : List UInt8) ++ iB a) ++ ([32] : List UInt8)) ++ iB b) ++ hE (uI G H T 0 dm), 0)) :=
    uX a b G H T dm d1 (fun j hj => (h.ds j hj).len) W dm 0 _ (by omega) (by unfold W; omega) (by simp only [List.length_append, List.length_cons, List.length_nil]; omega)
  have ea : bS W (jJ a b G H T).a = some (iB a) := nF ra
  have eb : bS W (jJ a b G H T).b = some (iB b) := nF rb
  have q1 : ∀ (x y : Wd), x.length ≤ 100 ∧ y.length ≤ 100 → (x.length : Int) + (y.length : Int) ≤ 9223372036854775807 := zP
  unfold kc.right at hr'
  unfold kc.line cr
  rw [hr', Option.bind_some]
  simp only [Bool.not_true, Bool.false_eq_true, if_false]
  rw [if_neg (show ¬ (jJ a b G H T).k = 1 from (by decide : ¬ ((2 : Int) = 1))), if_pos (show (jJ a b G H T).k = 2 from rfl), ea, Option.bind_some,
    if_pos (q1 _ _ ⟨by decide, by omega⟩), if_pos (q1 _ _ ⟨by simp only [List.length_append, List.length_cons, List.length_nil]; omega, by decide⟩), eb, Option.bind_some, if_pos (q1 _ _ ⟨by simp only [List.length_append, List.length_cons, List.length_nil]; omega, by omega⟩), hl, Option.bind_some]
  show some _ = _
  unfold mC lZ lX
  rw [iG, iG]
  simp [List.append_assoc]
theorem yg (dm : Nat) (a b : Int) (G H : Nat → Bool) (T : Nat → Wd) : ∀ x ∈ lZ dm a b G H T, 32 ∉ x := by
  intro x hx
  unfold lZ at hx
  rcases List.mem_cons.1 hx with rfl | hx
  · exact mV _
  rcases List.mem_cons.1 hx with rfl | hx
  · exact mV _
  unfold uI at hx
  obtain ⟨j, _, rfl⟩ := List.mem_map.1 hx
  exact A5 _ _ _
theorem yy {rest : List Wd} {dm : Nat} (d0 : 1 ≤ dm) (d1 : dm ≤ 4) (hs : eC rest) (hl : rest.length ≤ 900) (hn : ∀ x ∈ rest, 32 ∉ x) : pi lX rest dm := by
  have hs2 : eC (lX :: rest) := fun x hx => by
    rcases List.mem_cons.1 hx with rfl | hx
    · decide
    · exact hs x hx
  obtain ⟨ws, hws⟩ : ∃ ws, ws = lX :: rest := ⟨_, rfl⟩
  obtain ⟨r, hb, hb2, hi⟩ := oF (nx ws 1) (nx ws 2) (gG ws dm) (gH ws dm) (gT ws dm) d0 d1
  have hg : bx W (lX :: rest) dm = some (jJ (nx ws 1) (nx ws 2) (gG ws dm) (gH ws dm) (gT ws dm)).G := by
    unfold bx
    rw [if_pos (by simp only [List.length_cons]; omega), if_neg (show ¬ (lX :: rest).getD ((0 : Int).toNat) [] = ([105, 110, 103, 101, 115, 116] : List UInt8) from (by decide : ¬ lX = ([105, 110, 103, 101, 115, 116] : List UInt8))), if_pos (show (lX :: rest).getD ((0 : Int).toNat) [] = ([97, 115, 107] : List UInt8) from rfl), ← hws, Be (by rw [hws]; exact hs2) (by rw [hws]; simp only [List.length_cons]; omega) dm d1]
    rfl
  have hst : bj W (lX :: rest) dm = (match kT dm rest with | none => some none | some q => if q.1 = [] then (fY W q.2.1 q.2.2.1 (q.2.2.2.1 0) (q.2.2.2.1 1) (q.2.2.2.1 2) (q.2.2.2.1 3) (q.2.2.2.2.1 0) (q.2.2.2.2.1 1) (q.2.2.2.2.1 2) (q.2.2.2.2.1 3) (q.2.2.2.2.2 0) (q.2.2.2.2.2 1) (q.2.2.2.2.2 2) (q.2.2.2.2.2 3) dm).bind fun r => some (if r = true then some (jJ q.2.1 q.2.2.1 q.2.2.2.1 q.2.2.2.2.1 q.2.2.2.2.2).S else none) else some none) := by
    unfold bj
    rw [iV, Option.bind_some, bM, if_neg (show ¬ (rest, lX).2 = ([105, 110, 103, 101, 115, 116] : List UInt8) from (by decide : ¬ lX = ([105, 110, 103, 101, 115, 116] : List UInt8))), if_pos (show (rest, lX).2 = ([97, 115, 107] : List UInt8) from rfl), xi dm d1 rest hs]
    cases kT dm rest with
    | none => rfl
    | some q =>
      rw [Option.map_some, Option.bind_some, bM]
      simp only
      by_cases hq : q.1 = []
      · rw [if_pos hq, if_pos (by rw [hq]; rfl)]
        congr 1
        funext r
        cases r
        · rfl
        · rw [if_pos Z, if_pos Z, hq]; rfl
      · rw [if_neg hq, if_neg (fun e => hq (List.eq_nil_of_length_eq_zero (by omega)))]
  have back : ∀ q, kT dm rest = some q → q.1 = [] → rest = lZ dm q.2.1 q.2.2.1 q.2.2.2.1 q.2.2.2.2.1 q.2.2.2.2.2 ∧ jJ (nx ws 1) (nx ws 2) (gG ws dm) (gH ws dm) (gT ws dm) = jJ q.2.1 q.2.2.1 q.2.2.2.1 q.2.2.2.2.1 q.2.2.2.2.2 := by
    intro q hq hq1
    obtain ⟨l', x, y, A, B, C⟩ := q
    simp only at hq1 ⊢
    subst hq1
    unfold kT at hq
    match rest, hs, hws, hs2, hq with
    | a :: b :: l, hs, hws, hs2, hq =>
      simp only at hq
      obtain ⟨x', h1, hq⟩ := Option.bind_eq_some_iff.1 hq
      obtain ⟨y', h2, hq⟩ := Option.bind_eq_some_iff.1 hq
      obtain ⟨q', h3, h4⟩ := Option.map_eq_some_iff.1 hq
      obtain ⟨l2, A', B', C'⟩ := q'
      simp only [Prod.mk.injEq] at h4
      obtain ⟨rfl, rfl, rfl, rfl, rfl, rfl⟩ := h4
      obtain ⟨e1, e2, e3⟩ := qZ dm 0 l G0 G0 D0 [] A' B' C' (cZ (cZ hs)) h3
      have n1 := (lg (dL hs) x').1 h1
      have n2 := (lg (dL (cZ hs)) y').1 h2
      rw [List.append_nil] at e1
      have hl2 : lX :: a :: b :: l = lX :: lZ dm x' y' A' B' C' := by unfold lZ; rw [n1.1, n2.1, e1]
      refine ⟨(List.cons.inj hl2).2, ?_⟩
      rw [hl2] at hws hs2
      have m1 : nx ws 1 = x' := by rw [hws]; exact vc hs2 n1.2 Z
      have m2 : nx ws 2 = y' := by rw [hws]; exact vc hs2 n2.2 Z
      rw [m1, m2]
      refine pB fun j hj => ?_
      unfold gG gH gT
      by_cases hd : j < dm
      · have hget : ws[3 + j]? = some (aw (A' j) (B' j) (C' j)) := by
          rw [hws, show 3 + j = j + 1 + 1 + 1 by omega]
          unfold lZ
          rw [List.getElem?_cons_succ, List.getElem?_cons_succ, List.getElem?_cons_succ, yJ _ _ _ _ _ hd]
        have hsh : (aw (A' j) (B' j) (C' j)).length ≤ 600 := by
          have := List.mem_of_getElem? hget
          rw [hws] at this
          exact hs2 _ this
        obtain ⟨r1, r2, r3⟩ := A4 (A' j) (B' j) (C' j) hsh (e2 j (Nat.zero_le _) (by omega))
        rw [if_pos hd, if_pos hd, if_pos hd, hget]
        exact ⟨r1, r2, r3⟩
      · obtain ⟨c1, c2, c3⟩ := e3 j (by omega)
        rw [if_neg hd, if_neg hd, if_neg hd, c1, c2, c3]
        exact ⟨rfl, rfl, rfl⟩
  cases r with
  | true =>
    have hB := hi.1 Z
    have hlin := xU d0 d1 hB
    refine ⟨_, _, 0, hg, hlin, ?_, by simp [jJ], by simp [jJ]⟩
    by_cases e : mC lX (lZ dm (nx ws 1) (nx ws 2) (gG ws dm) (gH ws dm) (gT ws dm)) = mC lX rest
    · have er := kP (yg _ _ _ _ _ _) hn lX (by decide) e
      rw [if_pos ⟨rfl, e⟩, hst]
      have hs3 : eC (lZ dm (nx ws 1) (nx ws 2) (gG ws dm) (gH ws dm) (gT ws dm)) := by rw [er]; exact hs
      obtain ⟨A, B, C, q1, q2⟩ := sQ dm 0 G0 G0 (gG ws dm) (gH ws dm) D0 (gT ws dm) [] (by rw [List.append_nil]; exact cZ (cZ hs3)) (fun j _ hj => (hB.ds j (by omega)).no)
      rw [List.append_nil] at q1
      have hin : qo (nx ws 1) ∧ qo (nx ws 2) := by have := hB.a0; have := hB.ab; have := hB.b1; unfold qo; omega
      have hr : kT dm rest = some ([], nx ws 1, nx ws 2, A, B, C) := by
        rw [← er]
        unfold kT lZ
        simp only
        rw [(lg (dL hs3) (nx ws 1)).2 ⟨rfl, hin.1⟩, (lg (dL (cZ hs3)) (nx ws 2)).2 ⟨rfl, hin.2⟩, Option.bind_some, Option.bind_some, q1]
        rfl
      have hABC : ∀ j, j < 4 → A j = gG ws dm j ∧ B j = gH ws dm j ∧ C j = gT ws dm j := by
        intro j hj
        obtain ⟨c1, c2, c3⟩ := q2 j
        rw [c1, c2, c3]
        by_cases hd : 0 ≤ j ∧ j < 0 + dm
        · rw [if_pos hd, if_pos hd, if_pos hd]; exact ⟨rfl, rfl, rfl⟩
        · have hd' : ¬ j < dm := by omega
          rw [if_neg hd, if_neg hd, if_neg hd]
          unfold gG gH gT
          rw [if_neg hd', if_neg hd', if_neg hd']; exact ⟨rfl, rfl, rfl⟩
      obtain ⟨a0, b0, c0⟩ := hABC 0 (by omega)
      obtain ⟨a1, b1, c1⟩ := hABC 1 (by omega)
      obtain ⟨a2, b2, c2⟩ := hABC 2 (by omega)
      obtain ⟨a3, b3, c3⟩ := hABC 3 (by omega)
      rw [hr]
      simp only
      rw [if_pos trivial, a0, a1, a2, a3, b0, b1, b2, b3, c0, c1, c2, c3, hb2, Option.bind_some, if_pos Z, pB hABC]
    · rw [if_neg (fun q => e q.2), hst]
      cases hr : kT dm rest with
      | none => rfl
      | some q =>
        simp only
        by_cases hq : q.1 = []
        · exfalso
          obtain ⟨e1, e2⟩ := back q hr hq
          apply e
          have e3 : lZ dm (nx ws 1) (nx ws 2) (gG ws dm) (gH ws dm) (gT ws dm) = rest := by
            obtain ⟨l', x, y, A, B, C⟩ := q
            simp only at e1 e2
            have k1 := congrArg kc.a e2
            have k2 := congrArg kc.b e2
            simp only [jJ] at k1 k2
            have kk : ∀ j, j < 4 → gG ws dm j = A j ∧ gH ws dm j = B j ∧ gT ws dm j = C j := by
              intro j hj
              unfold jJ at e2
              simp only [kc.mk.injEq] at e2
              obtain ⟨_, _, _, _, g0, g1, g2, g3, h0, h1, h2, h3, t0, t1, t2, t3, _⟩ := e2
              have : j = 0 ∨ j = 1 ∨ j = 2 ∨ j = 3 := by omega
              rcases this with rfl | rfl | rfl | rfl
              · exact ⟨g0, h0, t0⟩
              · exact ⟨g1, h1, t1⟩
              · exact ⟨g2, h2, t2⟩
              · exact ⟨g3, h3, t3⟩
            rw [e1, k1, k2]
            unfold lZ uI
            congr 2
            apply List.map_congr_left
            intro j hj
            have hj' := List.mem_range.1 hj
            obtain ⟨u1, u2, u3⟩ := kk (0 + j) (by omega)
            rw [u1, u2, u3]
          rw [e3]
        · rw [if_neg hq]
  | false =>
    refine ⟨_, _, 1, hg, kc.line_no hb, ?_, by simp [jJ], by simp [jJ]⟩
    rw [if_neg (fun q => absurd q.1 (by decide)), hst]
    cases hr : kT dm rest with
    | none => rfl
    | some q =>
      simp only
      by_cases hq : q.1 = []
      · obtain ⟨e1, e2⟩ := back q hr hq
        rw [if_pos hq]
        have hbb : (jJ q.2.1 q.2.2.1 q.2.2.2.1 q.2.2.2.2.1 q.2.2.2.2.2).right dm = some false := by rw [← e2]; exact hb
        obtain ⟨r', w1, w2, _⟩ := oF q.2.1 q.2.2.1 q.2.2.2.1 q.2.2.2.2.1 q.2.2.2.2.2 d0 d1
        rw [hbb] at w1
        cases w1
        rw [w2]
        rfl
      · rw [if_neg hq]
end Go.Proofs.YtgbjponaoeiglaaDoor.WordsParses
end
section
set_option linter.unusedVariables false
set_option linter.unusedSimpArgs false
set_option maxRecDepth 20000
namespace Go.Proofs.YtgbjponaoeiglaaDoor.WordsParses
open Go E
def mz : Nat → Nat → List Wd → (Nat → Int) → Option (List Wd × (Nat → Int))
  | 0, _, l, V => some (l, V)
  | _ + 1, _, [], _ => none
  | n + 1, i, w :: l, V => (nO w).bind fun x => mz n (i + 1) l (iE V i x)
def lf (V : Nat → Int) : kc := ⟨3, [], 0, 0, false, false, false, false, false, false, false, false, [], [], [], [], V 0, V 1, V 2, V 3, V 4, V 5, V 6, V 7, V 8, [], 0⟩
def rV (dm : Nat) (l : List Wd) (V : Nat → Int) := (if (l.length : Int) = 0 then ((fx W (V 0) (V 1) (V 2) (V 3) (V 4) (V 5) (V 6) (V 7) (V 8) dm).bind fun x296 => (if x296 = true then (some (some ((3 : Int), ([] : List aA), (0 : Int), (0 : Int), false, false, false, false, false, false, false, false, ([] : List UInt8), ([] : List UInt8), ([] : List UInt8), ([] : List UInt8), l, V 0, V 1, V 2, V 3, V 4, V 5, V 6, V 7, V 8, ([] : List Bool), (0 : Int)))) else (some (none)))) else (some (none)))
theorem nr (dm : Nat) : ∀ (f n i : Nat) (l : List Wd) (V : Nat → Int), i + n = 9 → n < f → eC l →
    bK W dm f (V 0) i l (V 1) (V 2) (V 3) (V 4) (V 5) (V 6) (V 7) (V 8) = (match mz n i l V with | none => some none | some q => rV dm q.1 q.2)
  | 0, n, i, l, V, _, h, _ => by omega
  | f + 1, 0, i, l, V, h, _, _ => by
    rw [bK, if_neg (by omega)]; rfl
  | f + 1, n + 1, i, [], V, h, hf, hs => by
    have hi : i = 0 ∨ i = 1 ∨ i = 2 ∨ i = 3 ∨ i = 4 ∨ i = 5 ∨ i = 6 ∨ i = 7 ∨ i = 8 := by omega
    rw [bK]
    rcases hi with rfl | rfl | rfl | rfl | rfl | rfl | rfl | rfl | rfl
    · rw [if_pos (by decide), if_pos (by decide), if_pos (by decide), if_pos (by decide), km]; rfl
    · rw [if_pos (by decide), if_pos (by decide), if_pos (by decide), if_neg (by decide), if_pos (by decide), km]; rfl
    · rw [if_pos (by decide), if_pos (by decide), if_pos (by decide), if_neg (by decide), if_neg (by decide), if_pos (by decide), km]; rfl
    · rw [if_pos (by decide), if_pos (by decide), if_pos (by decide), if_neg (by decide), if_neg (by decide), if_neg (by decide), if_pos (by decide), km]; rfl
    · rw [if_pos (by decide), if_pos (by decide), if_pos (by decide), if_neg (by decide), if_neg (by decide), if_neg (by decide), if_neg (by decide), if_pos (by decide), km]; rfl
    · rw [if_pos (by decide), if_pos (by decide), if_pos (by decide), if_neg (by decide), if_neg (by decide), if_neg (by decide), if_neg (by decide), if_neg (by decide), if_pos (by decide), km]; rfl
    · rw [if_pos (by decide), if_pos (by decide), if_pos (by decide), if_neg (by decide), if_neg (by decide), if_neg (by decide), if_neg (by decide), if_neg (by decide), if_neg (by decide), if_pos (by decide), km]; rfl
    · rw [if_pos (by decide), if_pos (by decide), if_pos (by decide), if_neg (by decide), if_neg (by decide), if_neg (by decide), if_neg (by decide), if_neg (by decide), if_neg (by decide), if_neg (by decide), if_pos (by decide), km]; rfl
    · rw [if_pos (by decide), if_pos (by decide), if_pos (by decide), if_neg (by decide), if_neg (by decide), if_neg (by decide), if_neg (by decide), if_neg (by decide), if_neg (by decide), if_neg (by decide), if_neg (by decide), if_pos (by decide), km]; rfl
  | f + 1, n + 1, i, w :: l, V, h, hf, hs => by
    have hi : i = 0 ∨ i = 1 ∨ i = 2 ∨ i = 3 ∨ i = 4 ∨ i = 5 ∨ i = 6 ∨ i = 7 ∨ i = 8 := by omega
    have hw := dL hs
    have hs' := cZ hs
    unfold mz
    rw [bK]
    rcases hi with rfl | rfl | rfl | rfl | rfl | rfl | rfl | rfl | rfl
    · obtain rfl : n = 8 := by omega
      rw [if_pos (by decide), if_pos (by decide), if_pos (by decide), if_pos (by decide), iQ l _ hw, Option.bind_some]
      cases hv : nO w with
      | none => rfl
      | some x =>
        rw [Option.map_some, bM]
        exact (nr dm f 8 1 l (iE V 0 x) (by omega) (by omega) hs')
    · obtain rfl : n = 7 := by omega
      rw [if_pos (by decide), if_pos (by decide), if_pos (by decide), if_neg (by decide), if_pos (by decide), iQ l _ hw, Option.bind_some]
      cases hv : nO w with
      | none => rfl
      | some x =>
        rw [Option.map_some, bM]
        exact (nr dm f 7 2 l (iE V 1 x) (by omega) (by omega) hs')
    · obtain rfl : n = 6 := by omega
      rw [if_pos (by decide), if_pos (by decide), if_pos (by decide), if_neg (by decide), if_neg (by decide), if_pos (by decide), iQ l _ hw, Option.bind_some]
      cases hv : nO w with
      | none => rfl
      | some x =>
        rw [Option.map_some, bM]
        exact (nr dm f 6 3 l (iE V 2 x) (by omega) (by omega) hs')
    · obtain rfl : n = 5 := by omega
      rw [if_pos (by decide), if_pos (by decide), if_pos (by decide), if_neg (by decide), if_neg (by decide), if_neg (by decide), if_pos (by decide), iQ l _ hw, Option.bind_some]
      cases hv : nO w with
      | none => rfl
      | some x =>
        rw [Option.map_some, bM]
        exact (nr dm f 5 4 l (iE V 3 x) (by omega) (by omega) hs')
    · obtain rfl : n = 4 := by omega
      rw [if_pos (by decide), if_pos (by decide), if_pos (by decide), if_neg (by decide), if_neg (by decide), if_neg (by decide), if_neg (by decide), if_pos (by decide), iQ l _ hw, Option.bind_some]
      cases hv : nO w with
      | none => rfl
      | some x =>
        rw [Option.map_some, bM]
        exact (nr dm f 4 5 l (iE V 4 x) (by omega) (by omega) hs')
    · obtain rfl : n = 3 := by omega
      rw [if_pos (by decide), if_pos (by decide), if_pos (by decide), if_neg (by decide), if_neg (by decide), if_neg (by decide), if_neg (by decide), if_neg (by decide), if_pos (by decide), iQ l _ hw, Option.bind_some]
      cases hv : nO w with
      | none => rfl
      | some x =>
        rw [Option.map_some, bM]
        exact (nr dm f 3 6 l (iE V 5 x) (by omega) (by omega) hs')
    · obtain rfl : n = 2 := by omega
      rw [if_pos (by decide), if_pos (by decide), if_pos (by decide), if_neg (by decide), if_neg (by decide), if_neg (by decide), if_neg (by decide), if_neg (by decide), if_neg (by decide), if_pos (by decide), iQ l _ hw, Option.bind_some]
      cases hv : nO w with
      | none => rfl
      | some x =>
        rw [Option.map_some, bM]
        exact (nr dm f 2 7 l (iE V 6 x) (by omega) (by omega) hs')
    · obtain rfl : n = 1 := by omega
      rw [if_pos (by decide), if_pos (by decide), if_pos (by decide), if_neg (by decide), if_neg (by decide), if_neg (by decide), if_neg (by decide), if_neg (by decide), if_neg (by decide), if_neg (by decide), if_pos (by decide), iQ l _ hw, Option.bind_some]
      cases hv : nO w with
      | none => rfl
      | some x =>
        rw [Option.map_some, bM]
        exact (nr dm f 1 8 l (iE V 7 x) (by omega) (by omega) hs')
    · obtain rfl : n = 0 := by omega
      rw [if_pos (by decide), if_pos (by decide), if_pos (by decide), if_neg (by decide), if_neg (by decide), if_neg (by decide), if_neg (by decide), if_neg (by decide), if_neg (by decide), if_neg (by decide), if_neg (by decide), if_pos (by decide), iQ l _ hw, Option.bind_some]
      cases hv : nO w with
      | none => rfl
      | some x =>
        rw [Option.map_some, bM]
        exact (nr dm f 0 9 l (iE V 8 x) (by omega) (by omega) hs')
def nH (V : Nat → Int) (i n : Nat) : List Wd := (List.range n).map fun j => iB (V (i + j))
theorem qP (V : Nat → Int) (i n : Nat) : nH V i (n + 1) = iB (V i) :: nH V (i + 1) n := by
  unfold nH
  rw [List.range_succ_eq_map, List.map_cons, List.map_map]
  congr 1
  apply List.map_congr_left
  intro j _
  show iB (V (i + (j + 1))) = iB (V (i + 1 + j))
  congr 2; omega
theorem xk (V : Nat → Int) (n j : Nat) (h : j < n) : (nH V 0 n)[j]? = some (iB (V j)) := by
  simp [nH, List.getElem?_map, List.getElem?_range h]
theorem zb (V : Nat → Int) (i n : Nat) : ∀ x ∈ nH V i n, 32 ∉ x := by
  intro x hx
  unfold nH at hx
  obtain ⟨j, _, rfl⟩ := List.mem_map.1 hx
  exact mV _
theorem qy : ∀ (n i : Nat) (l : List Wd) (V : Nat → Int) (l' : List Wd) (V' : Nat → Int), eC l → mz n i l V = some (l', V') → l = nH V' i n ++ l' ∧ (∀ j, i ≤ j → j < i + n → qo (V' j)) ∧ ∀ j, ¬ (i ≤ j ∧ j < i + n) → V' j = V j
  | 0, i, l, V, l', V', hs, h => by
    simp only [mz, Option.some.injEq, Prod.mk.injEq] at h
    obtain ⟨rfl, rfl⟩ := h
    exact ⟨rfl, fun j a b => by omega, fun j _ => rfl⟩
  | n + 1, i, [], V, l', V', hs, h => by cases h
  | n + 1, i, w :: l, V, l', V', hs, h => by
    simp only [mz] at h
    obtain ⟨x, hx, h2⟩ := Option.bind_eq_some_iff.1 h
    obtain ⟨e1, e2, e3⟩ := qy n (i + 1) l _ l' V' (cZ hs) h2
    have hw := (lg (dL hs) x).1 hx
    have b : V' i = x := by rw [e3 i (by omega)]; simp [iE]
    refine ⟨by rw [qP, b, ← hw.1, List.cons_append, ← e1], fun j h1 h2 => ?_, fun j hj => ?_⟩
    · by_cases e : j = i
      · subst e; rw [b]; exact hw.2
      · exact e2 j (by omega) (by omega)
    · rw [e3 j (by omega)]
      unfold iE
      rw [if_neg (by omega)]
theorem sM : ∀ (n i : Nat) (V V' : Nat → Int) (l' : List Wd), eC (nH V' i n ++ l') → (∀ j, i ≤ j → j < i + n → qo (V' j)) → ∃ A : Nat → Int, mz n i (nH V' i n ++ l') V = some (l', A) ∧ ∀ j, A j = if i ≤ j ∧ j < i + n then V' j else V j
  | 0, i, V, V', l', hs, hp => ⟨V, rfl, fun j => by rw [if_neg (by omega)]⟩
  | n + 1, i, V, V', l', hs, hp => by
    rw [qP, List.cons_append] at hs ⊢
    have hq := (lg (dL hs) (V' i)).2 ⟨rfl, hp i (Nat.le_refl _) (by omega)⟩
    obtain ⟨A, e1, e2⟩ := sM n (i + 1) (iE V i (V' i)) V' l' (cZ hs) (fun j (a : i + 1 ≤ j) (b : j < i + 1 + n) => hp j (by omega) (by omega))
    refine ⟨A, by simp only [mz]; rw [hq, Option.bind_some]; exact e1, fun j => ?_⟩
    rw [e2 j]
    unfold iE
    by_cases h1 : i = j
    · subst h1
      rw [if_neg (by omega), if_pos Z, if_pos (by omega)]
    · by_cases h2 : i + 1 ≤ j ∧ j < i + 1 + n
      · rw [if_pos h2, if_pos (by omega)]
      · rw [if_neg h2, if_neg h1, if_neg (by omega)]
theorem ru (V : Nat → Int) (dm : Nat) : (lf V).right dm = some (de (V 0) (V 1) (V 2) (V 3) (V 4) (V 5) (V 6) (V 7) (V 8) == 0) ∧ fx W (V 0) (V 1) (V 2) (V 3) (V 4) (V 5) (V 6) (V 7) (V 8) dm = some (de (V 0) (V 1) (V 2) (V 3) (V 4) (V 5) (V 6) (V 7) (V 8) == 0) := by
  constructor
  · unfold kc.right dx lf
    rw [if_neg (show ¬ ((3 : Int) = 1) by decide), if_neg (show ¬ ((3 : Int) = 2) by decide), if_pos Z]
    simp only [eZ]
    by_cases c : de (V 0) (V 1) (V 2) (V 3) (V 4) (V 5) (V 6) (V 7) (V 8) = 0
    · rw [if_pos c, c]; rfl
    · rw [if_neg c, beq_eq_false_iff_ne.2 c]
  · unfold fx iz
    simp only [eZ]
    rw [zI, Option.bind_some, zW]
    rfl
theorem vi (xs : List Int) (hx : ∀ x ∈ xs, qo x) (hl : xs.length ≤ 100) : ∀ (f i : Nat) (t : Wd), i ≤ xs.length → xs.length - i < f → t.length ≤ 100 + 30 * i → eo W xs f t i = some (Sum.inr (t ++ hE ((xs.drop i).map iB), 0))
  | 0, i, t, _, h, _ => by omega
  | f + 1, i, t, hi, h, ht => by
    rw [eo]
    by_cases c : i < xs.length
    · have hm := hx _ (List.getElem_mem c)
      unfold qo at hm
      have hd := lJ hm
      rw [if_pos (by omega), if_pos (by simp only [List.length_cons, List.length_nil]; omega), if_pos (by omega), Int.toNat_natCast, ga xs i c, nF hm, Option.bind_some, if_pos (by simp only [List.length_append, List.length_cons, List.length_nil]; omega), mA (by omega), vi xs hx hl f (i + 1) _ (by omega) (by omega) (by simp only [List.length_append, List.length_cons, List.length_nil]; omega)]
      rw [show xs.drop i = xs[i] :: xs.drop (i + 1) from List.drop_eq_getElem_cons c, List.map_cons, iG]
      simp [List.append_assoc]
    · rw [if_neg (by omega), List.drop_eq_nil_of_le (by omega)]
      simp [hE]
def lM : Wd := [112, 111, 108, 105, 99, 121]
theorem ut {V V' : Nat → Int} (h : ∀ j, j < 9 → V j = V' j) : lf V = lf V' := by
  unfold lf
  rw [h 0 (by omega), h 1 (by omega), h 2 (by omega), h 3 (by omega), h 4 (by omega), h 5 (by omega), h 6 (by omega), h 7 (by omega), h 8 (by omega)]
theorem yt {V : Nat → Int} {dm : Nat} (hr : (lf V).right dm = some true) (hV : ∀ j, qo (V j)) : (lf V).line dm = some (mC lM (nH V 0 9), 0) := by
  have hl := vi [V 0, V 1, V 2, V 3, V 4, V 5, V 6, V 7, V 8] (by intro x hx; simp only [List.mem_cons, List.not_mem_nil, or_false] at hx; rcases hx with rfl | rfl | rfl | rfl | rfl | rfl | rfl | rfl | rfl <;> exact hV _) (by simp) W 0 lM (by simp) (by unfold W; simp) (by decide)
  have hl' : eo W [(lf V).p0, (lf V).p1, (lf V).p2, (lf V).p3, (lf V).p4, (lf V).p5, (lf V).p6, (lf V).p7, (lf V).p8] W [112, 111, 108, 105, 99, 121] 0 = some (Sum.inr (lM ++ hE (([V 0, V 1, V 2, V 3, V 4, V 5, V 6, V 7, V 8].drop 0).map iB), 0)) := hl
  unfold kc.right at hr
  unfold kc.line cr
  rw [hr, Option.bind_some]
  simp only [Bool.not_true, Bool.false_eq_true, if_false]
  rw [if_neg (show ¬ (lf V).k = 1 from (by decide : ¬ ((3 : Int) = 1))), if_neg (show ¬ (lf V).k = 2 from (by decide : ¬ ((3 : Int) = 2))), if_pos (show (lf V).k = 3 from rfl)]
  unfold gN
  rw [eZ, hl', Option.bind_some]
  rfl
theorem yq {rest : List Wd} {dm : Nat} (hs : eC rest) (hl : rest.length ≤ 900) (hn : ∀ x ∈ rest, 32 ∉ x) : pi lM rest dm := by
  have hs2 : eC (lM :: rest) := fun x hx => by
    rcases List.mem_cons.1 hx with rfl | hx
    · decide
    · exact hs x hx
  obtain ⟨ws, hws⟩ : ∃ ws, ws = lM :: rest := ⟨_, rfl⟩
  obtain ⟨U, hU⟩ : ∃ U : Nat → Int, U = fun j => nx ws (j + 1) := ⟨_, rfl⟩
  have hUin : ∀ j, qo (U j) := fun j => by rw [hU]; exact zo ws (by rw [hws]; exact hs2) _
  have hg : bx W (lM :: rest) dm = some (lf U).G := by
    have ns : eC ws := by rw [hws]; exact hs2
    have n := fun k => pM ns k
    have n1 : aV W ws 1 = some (U 0) := by rw [hU]; exact n 1
    have n2 : aV W ws 2 = some (U 1) := by rw [hU]; exact n 2
    have n3 : aV W ws 3 = some (U 2) := by rw [hU]; exact n 3
    have n4 : aV W ws 4 = some (U 3) := by rw [hU]; exact n 4
    have n5 : aV W ws 5 = some (U 4) := by rw [hU]; exact n 5
    have n6 : aV W ws 6 = some (U 5) := by rw [hU]; exact n 6
    have n7 : aV W ws 7 = some (U 6) := by rw [hU]; exact n 7
    have n8 : aV W ws 8 = some (U 7) := by rw [hU]; exact n 8
    have n9 : aV W ws 9 = some (U 8) := by rw [hU]; exact n 9
    unfold bx
    rw [if_pos (by simp only [List.length_cons]; omega), if_neg (show ¬ (lM :: rest).getD ((0 : Int).toNat) [] = ([105, 110, 103, 101, 115, 116] : List UInt8) from (by decide : ¬ lM = ([105, 110, 103, 101, 115, 116] : List UInt8))), if_neg (show ¬ (lM :: rest).getD ((0 : Int).toNat) [] = ([97, 115, 107] : List UInt8) from (by decide : ¬ lM = ([97, 115, 107] : List UInt8))), if_pos (show (lM :: rest).getD ((0 : Int).toNat) [] = ([112, 111, 108, 105, 99, 121] : List UInt8) from rfl), ← hws,
      n1, Option.bind_some, n2, Option.bind_some, n3, Option.bind_some, n4, Option.bind_some, n5, Option.bind_some, n6, Option.bind_some, n7, Option.bind_some, n8, Option.bind_some, n9, Option.bind_some]
    rfl
  have hst : bj W (lM :: rest) dm = (match mz 9 0 rest (fun _ => 0) with | none => some none | some q => rV dm q.1 q.2) := by
    unfold bj
    rw [iV, Option.bind_some, bM, if_neg (show ¬ (rest, lM).2 = ([105, 110, 103, 101, 115, 116] : List UInt8) from (by decide : ¬ lM = ([105, 110, 103, 101, 115, 116] : List UInt8))), if_neg (show ¬ (rest, lM).2 = ([97, 115, 107] : List UInt8) from (by decide : ¬ lM = ([97, 115, 107] : List UInt8))), if_pos (show (rest, lM).2 = ([112, 111, 108, 105, 99, 121] : List UInt8) from rfl), eZ]
    exact nr dm W 9 0 rest (fun _ => 0) (by omega) (by unfold W; omega) hs
  have hend : ∀ (l : List Wd) (V : Nat → Int), rV dm l V = if l = [] then some (if (de (V 0) (V 1) (V 2) (V 3) (V 4) (V 5) (V 6) (V 7) (V 8) == 0) = true then some (lf V).S else none) else some none := by
    intro l V
    unfold rV
    rw [(ru V dm).2, Option.bind_some]
    by_cases hq : l = []
    · subst hq
      rw [if_pos (rfl : ([] : List Wd) = []), if_pos (show ((([] : List Wd).length : Nat) : Int) = 0 from rfl)]
      cases (de (V 0) (V 1) (V 2) (V 3) (V 4) (V 5) (V 6) (V 7) (V 8) == 0) <;> rfl
    · rw [if_neg hq, if_neg (fun e => hq (List.eq_nil_of_length_eq_zero (by omega)))]
  have back : ∀ V, mz 9 0 rest (fun _ => 0) = some ([], V) → rest = nH V 0 9 ∧ ∀ j, j < 9 → U j = V j := by
    intro V hV
    obtain ⟨e1, e2, e3⟩ := qy 9 0 rest _ [] V hs hV
    rw [List.append_nil] at e1
    refine ⟨e1, fun j hj => ?_⟩
    rw [hU]
    refine vc (by rw [hws]; exact hs2) (e2 j (by omega) (by omega)) ?_
    rw [hws, List.getElem?_cons_succ, e1]
    exact xk V 9 j hj
  obtain ⟨p1, p2⟩ := ru U dm
  cases hr : (de (U 0) (U 1) (U 2) (U 3) (U 4) (U 5) (U 6) (U 7) (U 8) == 0) with
  | true =>
    rw [hr] at p1 p2
    refine ⟨_, _, 0, hg, yt p1 hUin, ?_, by simp [lf], by simp [lf]⟩
    by_cases e : mC lM (nH U 0 9) = mC lM rest
    · have er := kP (zb U 0 9) hn lM (by decide) e
      obtain ⟨A, q1, q2⟩ := sM 9 0 (fun _ => 0) U [] (by rw [List.append_nil, er]; exact hs) (fun j _ _ => hUin j)
      rw [List.append_nil, er] at q1
      have hA : ∀ j, j < 9 → A j = U j := fun j hj => by rw [q2 j, if_pos (by omega)]
      rw [if_pos ⟨rfl, e⟩, hst, q1]
      simp only
      rw [hend, if_pos Z, hA 0 (by omega), hA 1 (by omega), hA 2 (by omega), hA 3 (by omega), hA 4 (by omega), hA 5 (by omega), hA 6 (by omega), hA 7 (by omega), hA 8 (by omega), hr, if_pos Z, ut hA]
    · rw [if_neg (fun q => e q.2), hst]
      cases hq : mz 9 0 rest (fun _ => 0) with
      | none => rfl
      | some q =>
        obtain ⟨l', V⟩ := q
        simp only
        rw [hend]
        by_cases hl' : l' = []
        · exfalso
          subst hl'
          obtain ⟨b1, b2⟩ := back V hq
          apply e
          have : nH U 0 9 = rest := by
            rw [b1]
            unfold nH
            apply List.map_congr_left
            intro j hj
            rw [b2 (0 + j) (by have := List.mem_range.1 hj; omega)]
          rw [this]
        · rw [if_neg hl']
  | false =>
    rw [hr] at p1 p2
    refine ⟨_, _, 1, hg, kc.line_no p1, ?_, by simp [lf], by simp [lf]⟩
    rw [if_neg (fun q => absurd q.1 (by decide)), hst]
    cases hq : mz 9 0 rest (fun _ => 0) with
    | none => rfl
    | some q =>
      obtain ⟨l', V⟩ := q
      simp only
      rw [hend]
      by_cases hl' : l' = []
      · subst hl'
        obtain ⟨b1, b2⟩ := back V hq
        rw [if_pos Z, ← b2 0 (by omega), ← b2 1 (by omega), ← b2 2 (by omega), ← b2 3 (by omega), ← b2 4 (by omega), ← b2 5 (by omega), ← b2 6 (by omega), ← b2 7 (by omega), ← b2 8 (by omega), hr]
        rfl
      · rw [if_neg hl']
end Go.Proofs.YtgbjponaoeiglaaDoor.WordsParses
end
section
set_option linter.unusedVariables false
set_option linter.unusedSimpArgs false
set_option maxRecDepth 20000
namespace Go.Proofs.YtgbjponaoeiglaaDoor.WordsParses
open Go E
def fB : Wd → Option (List Bool)
  | [] => some []
  | c :: t => if c = 48 ∨ c = 49 then (fB t).map ((c == 49) :: ·) else none
def yV (b : Bool) : UInt8 := if b = true then 49 else 48
theorem rE : ∀ (w : Wd) (bs : List Bool), fB w = some bs ↔ w = bs.map yV
  | [], bs => by cases bs <;> simp [fB]
  | c :: t, bs => by
    rw [fB]
    by_cases h : c = 48 ∨ c = 49
    · rw [if_pos h]
      constructor
      · intro e
        obtain ⟨b, e1, e2⟩ := Option.map_eq_some_iff.1 e
        subst e2
        rw [List.map_cons, (rE t b).1 e1]
        rcases h with rfl | rfl <;> rfl
      · intro e
        cases bs with
        | nil => cases e
        | cons b bs =>
          rw [List.map_cons] at e
          obtain ⟨e1, e2⟩ := List.cons.inj e
          rw [(rE t bs).2 e2, e1]
          cases b <;> rfl
    · rw [if_neg h]
      constructor
      · intro e; cases e
      · intro e
        cases bs with
        | nil => cases e
        | cons b bs =>
          rw [List.map_cons] at e
          have e1 := (List.cons.inj e).1
          cases b
          · exact absurd (.inl e1) h
          · exact absurd (.inr e1) h
theorem xq (x : List Wd × Wd) (hx : x.2.length ≤ 600) : ∀ (f i : Nat) (out : List Bool), i ≤ x.2.length → x.2.length - i < f → out.length ≤ i → dv W x f i out = some ((fB (x.2.drop i)).map fun bs => (x.1, out ++ bs))
  | 0, i, out, _, h, _ => by omega
  | f + 1, i, out, hi, h, ho => by
    rw [dv]
    have hb := kj x.2
    by_cases c : i < x.2.length
    · have e1 : x.2.drop i = x.2[i] :: x.2.drop (i + 1) := List.drop_eq_getElem_cons c
      have hc := x.2[i].toNat_lt
      rw [if_pos (by omega), if_pos (by omega), Int.toNat_natCast, oc x.2 i c, e1, fB]
      have beq : (((x.2[i].toNat : Nat) : Int) == 49) = (x.2[i] == 49) := by
        rw [Bool.eq_iff_iff, beq_iff_eq, beq_iff_eq]
        exact ⟨fun e => UInt8.toNat_inj.1 (show x.2[i].toNat = 49 by omega), fun e => by rw [e]; rfl⟩
      have ih := xq x hx f (i + 1) (out ++ [x.2[i] == 49]) (by omega) (by omega) (by simp only [List.length_append, List.length_cons, List.length_nil]; omega)
      rw [beq, mA (by omega), ih]
      by_cases h48 : x.2[i] = 48
      · rw [if_pos (by rw [h48]; rfl), if_pos (by simp only [List.length_cons, List.length_nil]; omega), if_pos (.inl h48)]
        cases fB (x.2.drop (i + 1)) <;> simp
      · rw [if_neg (fun e => h48 (UInt8.toNat_inj.1 (show x.2[i].toNat = 48 by omega)))]
        by_cases h49 : x.2[i] = 49
        · rw [if_pos (by rw [h49]; rfl), if_pos (by simp only [List.length_cons, List.length_nil]; omega), if_pos (.inr h49)]
          cases fB (x.2.drop (i + 1)) <;> simp
        · rw [if_neg (fun e => h49 (UInt8.toNat_inj.1 (show x.2[i].toNat = 49 by omega))), if_neg (by simp [h48, h49])]
          rfl
    · rw [if_neg (by omega), List.drop_eq_nil_of_le (by omega)]
      simp [fB]
def lR (fl : List Bool) : kc := ⟨6, [], 0, 0, false, false, false, false, false, false, false, false, [], [], [], [], 0, 0, 0, 0, 0, 0, 0, 0, 0, fl, 0⟩
def nt : List Wd → Option (List Wd × List Bool)
  | [] => some ([], [])
  | w :: l => if w = [] then none else (fB w).map fun bs => (l, bs)
theorem tF (l : List Wd) (dm : Nat) (hs : eC l) : cC W l dm = some (nt l) := by
  unfold cC
  cases l with
  | nil => rw [if_pos (by rfl)]; rfl
  | cons w l =>
    have hw := dL hs
    rw [if_neg (by simp only [List.length_cons]; omega), ma, Option.bind_some, bM, nt]
    by_cases h : w = []
    · rw [if_pos h, if_neg (fun q => q h)]
    · have := xq (l, w) hw W 0 [] (Nat.zero_le _) (by unfold W; show w.length - 0 < 200000; omega) (Nat.le_refl _)
      have e : dv W (l, w) W 0 [] = some ((fB w).map fun bs => (l, [] ++ bs)) := this
      rw [if_neg h, if_pos h, if_pos (show w.length ≤ 9223372036854775807 by omega), e]
      rfl
theorem pO (fl : List Bool) (dm : Nat) : (lR fl).right dm = some (decide ((fl.length : Int) ≤ 1000)) ∧ gE W fl dm = some (decide ((fl.length : Int) ≤ 1000)) := by
  constructor
  · unfold kc.right dx lR
    rw [if_neg (show ¬ ((6 : Int) = 1) by decide), if_neg (show ¬ ((6 : Int) = 2) by decide), if_neg (show ¬ ((6 : Int) = 3) by decide)]
    simp only [eZ]
    rw [if_neg (show ¬ ((6 : Int) = 4) by decide), if_neg (show ¬ ((6 : Int) = 5) by decide), if_neg (show ¬ ((6 : Int) = 7) by decide), if_neg (show ¬ ((6 : Int) == 8) = true by decide), if_pos trivial]
    by_cases c : (fl.length : Int) ≤ 1000
    · rw [if_pos c, decide_eq_true c]; rfl
    · rw [if_neg c, decide_eq_false c]
  · unfold gE jj
    simp only [eZ]
    rw [zF, Option.bind_some]
    rfl
theorem xa (ws : List Wd) (w : Wd) (h1 : 1 < ws.length) (hw : ws.getD 1 [] = w) (hl : w.length ≤ 600) : ∀ (f i : Nat) (out : List Bool), i ≤ w.length → w.length - i < f → out.length ≤ i →
    cN W ws f i out = some (Sum.inr (lR (out ++ (w.drop i).map (· == 49))).G)
  | 0, i, out, _, h, _ => by omega
  | f + 1, i, out, hi, h, ho => by
    have e0 : ws.getD ((1 : Int).toNat) [] = w := hw
    rw [cN, if_pos (by omega), e0]
    by_cases c : i < w.length
    · have e1 : w.drop i = w[i] :: w.drop (i + 1) := List.drop_eq_getElem_cons c
      have hc := w[i].toNat_lt
      have beq : (((w[i].toNat : Nat) : Int) == 49) = (w[i] == 49) := by
        rw [Bool.eq_iff_iff, beq_iff_eq, beq_iff_eq]
        exact ⟨fun e => UInt8.toNat_inj.1 (show w[i].toNat = 49 by omega), fun e => by rw [e]; rfl⟩
      rw [if_pos (by omega), if_pos (by omega), Int.toNat_natCast, ga w i c, beq, if_pos (by simp only [List.length_cons, List.length_nil]; omega), mA (by omega), xa ws w h1 hw hl f (i + 1) _ (by omega) (by omega) (by simp only [List.length_append, List.length_cons, List.length_nil]; omega), e1, List.map_cons, List.append_assoc]
      rfl
    · rw [if_neg (by omega), List.drop_eq_nil_of_le (by omega), List.map_nil, List.append_nil]
      rfl
def xY : List Wd → List Bool
  | [] => []
  | w :: _ => w.map (· == 49)
def io : Wd := [102, 97, 105, 108]
def mx (fl : List Bool) : List Wd := if fl = [] then [] else [fl.map yV]
theorem zC (fl : List Bool) : 32 ∉ fl.map yV := by
  intro h
  obtain ⟨b, _, e⟩ := List.mem_map.1 h
  cases b <;> simp [yV] at e
theorem xm (fl : List Bool) : ∀ x ∈ mx fl, 32 ∉ x := by
  intro x hx
  unfold mx at hx
  split at hx
  · simp at hx
  · simp at hx; subst hx; exact zC fl
theorem sk (fl : List Bool) (hl : fl.length ≤ 1000) : ∀ (f i : Nat) (t : Wd), 1 ≤ i → i ≤ fl.length → fl.length - i < f → t.length ≤ 10 + i → co W fl f t i = some (Sum.inr (t ++ (fl.drop i).map yV, 0))
  | 0, i, t, _, _, h, _ => by omega
  | f + 1, i, t, h1, hi, h, ht => by
    rw [co]
    by_cases c : i < fl.length
    · rw [if_pos (by omega), if_neg (show ¬ (i : Int) = 0 by omega), Option.bind_some, if_pos (by omega), Int.toNat_natCast, ga fl i c, show fl.drop i = fl[i] :: fl.drop (i + 1) from List.drop_eq_getElem_cons c, List.map_cons, mA (by omega)]
      cases fl[i]
      · rw [if_neg (by decide), if_pos (by simp only [List.length_cons, List.length_nil]; omega), sk fl hl f (i + 1) _ (by omega) (by omega) (by omega) (by simp only [List.length_append, List.length_cons, List.length_nil]; omega)]
        simp [yV]
      · rw [if_pos Z, if_pos (by simp only [List.length_cons, List.length_nil]; omega), sk fl hl f (i + 1) _ (by omega) (by omega) (by omega) (by simp only [List.length_append, List.length_cons, List.length_nil]; omega)]
        simp [yV]
    · rw [if_neg (by omega), List.drop_eq_nil_of_le (by omega)]
      simp
theorem wG (fl : List Bool) (hl : fl.length ≤ 1000) : co W fl W io 0 = some (Sum.inr (mC io (mx fl), 0)) := by
  have e : co W fl W io 0 = co W fl (199999 + 1) io ((0 : Nat) : Int) := rfl
  rw [e, co]
  cases fl with
  | nil =>
    rw [if_neg (by simp)]
    rfl
  | cons b fl =>
    have hl' : fl.length ≤ 999 := by simp only [List.length_cons] at hl; omega
    have q1 : ∀ (x y : Wd), x.length ≤ 100 ∧ y.length ≤ 100 → (x.length : Int) + (y.length : Int) ≤ 9223372036854775807 := zP
    have l4 := fun t ht => sk (b :: fl) hl 199999 1 t (Nat.le_refl 1) (by simp only [List.length_cons]; omega) (by simp only [List.length_cons]; omega) ht
    have e1 : bm (((0 : Nat) : Int) + 1) = ((1 : Nat) : Int) := mA (by omega)
    rw [if_pos (by simp only [List.length_cons]; omega), if_pos (show ((0 : Nat) : Int) = 0 from rfl), if_pos (q1 _ _ (by decide)), Option.bind_some, if_pos (by decide), e1]
    have eb : (b :: fl).getD ((0 : Nat) : Int).toNat false = b := rfl
    rw [eb]
    cases b
    · rw [if_neg (by decide), if_pos (q1 _ _ (by decide)), l4 _ (by decide)]
      simp [mC, mx, hE, yV]
    · rw [if_pos Z, if_pos (q1 _ _ (by decide)), l4 _ (by decide)]
      simp [mC, mx, hE, yV]
theorem wo {fl : List Bool} {dm : Nat} (h : fl.length ≤ 1000) : (lR fl).line dm = some (mC io (mx fl), 0) := by
  have hr := (pO fl dm).1
  rw [decide_eq_true (show (fl.length : Int) ≤ 1000 by omega)] at hr
  have hl : co W (lR fl).fl W [102, 97, 105, 108] 0 = some (Sum.inr (mC io (mx fl), 0)) := wG fl h
  unfold kc.right at hr
  unfold kc.line cr
  rw [hr, Option.bind_some]
  simp only [Bool.not_true, Bool.false_eq_true, if_false]
  rw [if_neg (show ¬ (lR fl).k = 1 from (by decide : ¬ ((6 : Int) = 1))), if_neg (show ¬ (lR fl).k = 2 from (by decide : ¬ ((6 : Int) = 2))), if_neg (show ¬ (lR fl).k = 3 from (by decide : ¬ ((6 : Int) = 3))), if_pos (show (lR fl).k = 6 from rfl), hl, Option.bind_some]
  rfl
theorem vW {rest : List Wd} {dm : Nat} (hs : eC rest) (hl : rest.length ≤ 900) (hn : ∀ x ∈ rest, 32 ∉ x) : pi io rest dm := by
  have hfl : (xY rest).length ≤ 600 := by
    cases rest with
    | nil => simp [xY]
    | cons w l => simp only [xY, List.length_map]; exact dL hs
  have hg : bx W (io :: rest) dm = some (lR (xY rest)).G := by
    unfold bx
    rw [if_pos (by simp only [List.length_cons]; omega), if_neg (show ¬ (io :: rest).getD ((0 : Int).toNat) [] = ([105, 110, 103, 101, 115, 116] : List UInt8) from (by decide : ¬ io = ([105, 110, 103, 101, 115, 116] : List UInt8))), if_neg (show ¬ (io :: rest).getD ((0 : Int).toNat) [] = ([97, 115, 107] : List UInt8) from (by decide : ¬ io = ([97, 115, 107] : List UInt8))), if_neg (show ¬ (io :: rest).getD ((0 : Int).toNat) [] = ([112, 111, 108, 105, 99, 121] : List UInt8) from (by decide : ¬ io = ([112, 111, 108, 105, 99, 121] : List UInt8))), if_pos (show (io :: rest).getD ((0 : Int).toNat) [] = ([102, 97, 105, 108] : List UInt8) from rfl)]
    cases rest with
    | nil =>
      have e : cN W [io] W 0 [] = cN W [io] (199999 + 1) 0 [] := rfl
      rw [e, cN, if_neg (by decide)]
      rfl
    | cons w l =>
      have g := xa (io :: w :: l) w (by simp) Z (dL hs) W 0 [] (Nat.zero_le _) (by unfold W; have := dL hs; omega) (Nat.le_refl _)
      have g' : cN W (io :: w :: l) W 0 [] = some (Sum.inr (lR (xY (w :: l))).G) := g
      rw [g']
      rfl
  have hst : bj W (io :: rest) dm = (match nt rest with | none => some none | some q => if q.1 = [] then some (if decide ((q.2.length : Int) ≤ 1000) = true then some (lR q.2).S else none) else some none) := by
    unfold bj
    rw [iV, Option.bind_some, bM, if_neg (show ¬ (rest, io).2 = ([105, 110, 103, 101, 115, 116] : List UInt8) from (by decide : ¬ io = ([105, 110, 103, 101, 115, 116] : List UInt8))), if_neg (show ¬ (rest, io).2 = ([97, 115, 107] : List UInt8) from (by decide : ¬ io = ([97, 115, 107] : List UInt8))), if_neg (show ¬ (rest, io).2 = ([112, 111, 108, 105, 99, 121] : List UInt8) from (by decide : ¬ io = ([112, 111, 108, 105, 99, 121] : List UInt8))), if_pos (show (rest, io).2 = ([102, 97, 105, 108] : List UInt8) from rfl), tF rest dm hs, Option.bind_some]
    cases nt rest with
    | none => rfl
    | some q =>
      rw [bM, (pO q.2 dm).2, Option.bind_some]
      simp only
      by_cases hq : q.1 = []
      · rw [if_pos hq, if_pos (by rw [hq]; rfl), hq]
        cases decide ((q.2.length : Int) ≤ 1000) <;> rfl
      · rw [if_neg hq, if_neg (fun e => hq (List.eq_nil_of_length_eq_zero (by omega)))]
  refine ⟨_, _, 0, hg, wo (by omega), ?_, by simp [lR], by simp only [lR]; omega⟩
  have back : ∀ q, nt rest = some q → q.1 = [] → q.2 = xY rest ∧ rest = mx (xY rest) := by
    intro q hq hq1
    cases rest with
    | nil => cases hq; exact ⟨rfl, rfl⟩
    | cons w l =>
      rw [nt] at hq
      by_cases hw : w = []
      · rw [if_pos hw] at hq; cases hq
      · rw [if_neg hw] at hq
        obtain ⟨bs, h1, h2⟩ := Option.map_eq_some_iff.1 hq
        subst h2
        have h3 : l = [] := hq1
        have h4 := (rE w bs).1 h1
        have h5 : xY (w :: l) = bs := by
          show w.map (· == 49) = bs
          rw [h4, List.map_map]
          conv => rhs; rw [← List.map_id bs]
          apply List.map_congr_left
          intro b _
          cases b <;> rfl
        rw [h5]
        refine ⟨rfl, ?_⟩
        unfold mx
        rw [if_neg (by intro e; rw [e] at h4; exact hw h4), ← h4, h3]
  by_cases e : mC io (mx (xY rest)) = mC io rest
  · have er := kP (xm _) hn io (by decide) e
    have hr : nt rest = some ([], xY rest) := by
      rw [← er]
      have : ∀ fl : List Bool, nt (mx fl) = some ([], fl) := by
        intro fl
        unfold mx
        by_cases h : fl = []
        · rw [if_pos h, h]; rfl
        · rw [if_neg h, nt, if_neg (by intro q; exact h (List.map_eq_nil_iff.1 q)), (rE _ fl).2 rfl]; rfl
      have h2 := this (xY rest)
      rw [er] at h2 ⊢
      exact h2
    rw [if_pos ⟨rfl, e⟩, hst, hr]
    simp only
    rw [if_pos trivial, if_pos (decide_eq_true (by omega))]
  · rw [if_neg (fun q => e q.2), hst]
    cases hr : nt rest with
    | none => rfl
    | some q =>
      simp only
      by_cases hq : q.1 = []
      · exact absurd (by rw [← (back q hr hq).2]) e
      · rw [if_neg hq]
def pE : kc := ⟨9, [], 0, 0, false, false, false, false, false, false, false, false, [], [], [], [], 0, 0, 0, 0, 0, 0, 0, 0, 0, [], 0⟩
def ic : Wd := [115, 116, 97, 114, 116]
theorem tC {rest : List Wd} {dm : Nat} (hn : ∀ x ∈ rest, 32 ∉ x) : pi ic rest dm := by
  have hg : bx W (ic :: rest) dm = some pE.G := by
    unfold bx
    rw [if_pos (by simp only [List.length_cons]; omega), if_neg (show ¬ (ic :: rest).getD ((0 : Int).toNat) [] = ([105, 110, 103, 101, 115, 116] : List UInt8) from (by decide : ¬ ic = ([105, 110, 103, 101, 115, 116] : List UInt8))), if_neg (show ¬ (ic :: rest).getD ((0 : Int).toNat) [] = ([97, 115, 107] : List UInt8) from (by decide : ¬ ic = ([97, 115, 107] : List UInt8))), if_neg (show ¬ (ic :: rest).getD ((0 : Int).toNat) [] = ([112, 111, 108, 105, 99, 121] : List UInt8) from (by decide : ¬ ic = ([112, 111, 108, 105, 99, 121] : List UInt8))), if_neg (show ¬ (ic :: rest).getD ((0 : Int).toNat) [] = ([102, 97, 105, 108] : List UInt8) from (by decide : ¬ ic = ([102, 97, 105, 108] : List UInt8))), if_pos (show (ic :: rest).getD ((0 : Int).toNat) [] = ([115, 116, 97, 114, 116] : List UInt8) from rfl)]
    rfl
  have hr : pE.right dm = some true := rfl
  have hl : pE.line dm = some (mC ic [], 0) := by
    unfold kc.right at hr
    unfold kc.line cr
    rw [hr, Option.bind_some]
    rfl
  have h3 : fS W dm = some true := by
    unfold fS iu
    simp only [eZ]
    rw [Ar]; rfl
  refine ⟨_, _, 0, hg, hl, ?_, by simp [pE], by simp [pE]⟩
  unfold bj
  rw [iV, Option.bind_some, bM, if_neg (show ¬ (rest, ic).2 = ([105, 110, 103, 101, 115, 116] : List UInt8) from (by decide : ¬ ic = ([105, 110, 103, 101, 115, 116] : List UInt8))), if_neg (show ¬ (rest, ic).2 = ([97, 115, 107] : List UInt8) from (by decide : ¬ ic = ([97, 115, 107] : List UInt8))), if_neg (show ¬ (rest, ic).2 = ([112, 111, 108, 105, 99, 121] : List UInt8) from (by decide : ¬ ic = ([112, 111, 108, 105, 99, 121] : List UInt8))), if_neg (show ¬ (rest, ic).2 = ([102, 97, 105, 108] : List UInt8) from (by decide : ¬ ic = ([102, 97, 105, 108] : List UInt8))), if_pos (show (rest, ic).2 = ([115, 116, 97, 114, 116] : List UInt8) from rfl), h3, Option.bind_some]
  cases rest with
  | nil => rw [if_pos (by rfl), if_pos Z, if_pos ⟨rfl, rfl⟩]; rfl
  | cons w l =>
    rw [if_neg (by simp only [List.length_cons]; omega), if_neg]
    intro q
    have := kP (ws := []) (vs := w :: l) (by simp) hn ic (by decide) q.2
    cases this
end Go.Proofs.YtgbjponaoeiglaaDoor.WordsParses
end
section
set_option linter.unusedVariables false
set_option linter.unusedSimpArgs false
set_option maxRecDepth 20000
namespace Go.Proofs.YtgbjponaoeiglaaDoor.WordsParses
open Go E
def ki (k n : Int) : kc := ⟨k, [], 0, 0, false, false, false, false, false, false, false, false, [], [], [], [], 0, 0, 0, 0, 0, 0, 0, 0, 0, [], n⟩
def og (dm : Nat) (l : List Wd) (k n : Int) := (if (l.length : Int) = 0 then ((ct W k n dm).bind fun x326 => (if x326 = true then (some (some (k, ([] : List aA), (0 : Int), (0 : Int), false, false, false, false, false, false, false, false, ([] : List UInt8), ([] : List UInt8), ([] : List UInt8), ([] : List UInt8), l, (0 : Int), (0 : Int), (0 : Int), (0 : Int), (0 : Int), (0 : Int), (0 : Int), (0 : Int), (0 : Int), ([] : List Bool), n))) else (some (none)))) else (some (none)))
abbrev KX : Wd × Wd × Wd × Wd := ([116, 105, 99, 107], [119, 111, 114, 107], [97, 114, 109], [99, 114, 97, 115, 104])
theorem zT (dm : Nat) (x : List Wd × Wd) (f : Nat) (l : List Wd) (k n : Int) : bk W dm x KX (f + 1) ((4 : Nat) : Int) l k n = og dm l k n := by
  rw [bk, if_neg (by decide)]; rfl
theorem nv (dm : Nat) (x : List Wd × Wd) (f i : Nat) (l : List Wd) (k n : Int) (hi : i < 4) (h : ¬ [KX.1, KX.2.1, KX.2.2.1, KX.2.2.2].getD i [] = x.2) : bk W dm x KX (f + 1) i l k n = bk W dm x KX f ((i + 1 : Nat) : Int) l k n := by
  rw [bk, if_pos (by omega), if_pos (by omega), if_pos (by omega), Int.toNat_natCast, if_neg h, mA (by omega)]
theorem rQ (dm : Nat) (x : List Wd × Wd) (f i : Nat) (l : List Wd) (k n : Int) (hi : i < 4) (h : [KX.1, KX.2.1, KX.2.2.1, KX.2.2.2].getD i [] = x.2) : bk W dm x KX (f + 1) i l k n = ((aM W l dm).bind fun x324 => (oq x324 (some (none)) fun x323 => (bk W dm x KX f ((i + 1 : Nat) : Int) x323.1 ([(4 : Int), 5, 7, 8].getD i 0) x323.2))) := by
  rw [bk, if_pos (by omega), if_pos (by omega), if_pos (by omega), Int.toNat_natCast, if_pos h, mA (by omega)]
  rfl
theorem rD (dm : Nat) (n : Int) : ct W 4 n dm = some true ∧ ct W 5 n dm = some true ∧ ct W 7 n dm = some true ∧ ct W 8 n dm = some true := by
  refine ⟨?_, ?_, ?_, ?_⟩
  · have e : ct W 4 n dm = (bR W [(⟨4, 0, [], (⟨0, 0, false, false, false, false, false, false, false, false, [], [], [], []⟩ : aF), (⟨0, 0, 0, 0, 0, 0, 0, 0, 0⟩ : aC), []⟩ : aG)] [(⟨4, 0, [], (⟨0, 0, false, false, false, false, false, false, false, false, [], [], [], []⟩ : aF), (⟨0, 0, 0, 0, 0, 0, 0, 0, 0⟩ : aC), []⟩ : aG)]).bind fun x12 => (if (!x12) = true then (some (false)) else some true) := rfl
    rw [e, zR]; rfl
  · have e : ct W 5 n dm = (bR W [(⟨5, 0, [], (⟨0, 0, false, false, false, false, false, false, false, false, [], [], [], []⟩ : aF), (⟨0, 0, 0, 0, 0, 0, 0, 0, 0⟩ : aC), []⟩ : aG)] [(⟨5, 0, [], (⟨0, 0, false, false, false, false, false, false, false, false, [], [], [], []⟩ : aF), (⟨0, 0, 0, 0, 0, 0, 0, 0, 0⟩ : aC), []⟩ : aG)]).bind fun x12 => (if (!x12) = true then (some (false)) else some true) := rfl
    rw [e, Aj]; rfl
  · have e : ct W 7 n dm = (bR W [(⟨7, 0, [], (⟨0, 0, false, false, false, false, false, false, false, false, [], [], [], []⟩ : aF), (⟨0, 0, 0, 0, 0, 0, 0, 0, 0⟩ : aC), []⟩ : aG)] [(⟨7, 0, [], (⟨0, 0, false, false, false, false, false, false, false, false, [], [], [], []⟩ : aF), (⟨0, 0, 0, 0, 0, 0, 0, 0, 0⟩ : aC), []⟩ : aG)]).bind fun x12 => (if (!x12) = true then (some (false)) else some true) := rfl
    rw [e, An]; rfl
  · have e : ct W 8 n dm = (bR W [(⟨8, 0, [], (⟨0, 0, false, false, false, false, false, false, false, false, [], [], [], []⟩ : aF), (⟨0, 0, 0, 0, 0, 0, 0, 0, 0⟩ : aC), []⟩ : aG)] [(⟨8, 0, [], (⟨0, 0, false, false, false, false, false, false, false, false, [], [], [], []⟩ : aF), (⟨0, 0, 0, 0, 0, 0, 0, 0, 0⟩ : aC), []⟩ : aG)]).bind fun x12 => (if (!x12) = true then (some (false)) else some true) := rfl
    rw [e, Ap]; rfl
theorem ye {dm : Nat} {k n : Int} (h : ct W k n dm = some true) (l : List Wd) : og dm l k n = some (if l = [] then some (ki k n).S else none) := by
  unfold og
  rw [h, Option.bind_some]
  by_cases hq : l = []
  · subst hq; rw [if_pos (by rfl), if_pos (rfl : ([] : List Wd) = [])]; rfl
  · rw [if_neg hq, if_neg (fun e => hq (List.eq_nil_of_length_eq_zero (by omega)))]
theorem pq {kw : Wd} {k : Int} {rest : List Wd} {dm : Nat} (hk : 32 ∉ kw) (hs : eC (kw :: rest)) (hn : ∀ x ∈ rest, 32 ∉ x) (hg : bx W (kw :: rest) dm = some (ki k (nx (kw :: rest) 1)).G) (hl : ∀ n, qo n → (ki k n).line dm = some (mC kw [iB n], 0))
    (hst : bj W (kw :: rest) dm = (aM W rest dm).bind fun x324 => (oq x324 (some (none)) fun x323 => og dm x323.1 k x323.2)) (hR : ∀ n, ct W k n dm = some true) : pi kw rest dm := by
  have hin := zo (kw :: rest) hs 1
  refine ⟨_, _, 0, hg, hl _ hin, ?_, by simp [ki], by simp [ki]⟩
  rw [hst]
  cases rest with
  | nil =>
    rw [km, Option.bind_some, ez, if_neg]
    intro q
    have := kP (ws := [iB (nx [kw] 1)]) (vs := []) (by intro x hx; simp at hx; subst hx; exact mV _) hn kw hk q.2
    cases this
  | cons w l =>
    have hw : w.length ≤ 600 := dL (cZ hs)
    have hx : nx (kw :: w :: l) 1 = (nO w).getD 0 := rfl
    rw [iQ l _ hw, Option.bind_some]
    have eqv : mC kw [iB (nx (kw :: w :: l) 1)] = mC kw (w :: l) ↔ (∃ n, nO w = some n) ∧ l = [] := by
      constructor
      · intro e
        have e2 := kP (ws := [iB (nx (kw :: w :: l) 1)]) (by intro x hx; simp at hx; subst hx; exact mV _) hn kw hk e
        obtain ⟨e3, e4⟩ := List.cons.inj e2
        exact ⟨⟨_, (lg hw _).2 ⟨e3.symm, hin⟩⟩, e4.symm⟩
      · rintro ⟨⟨n, h1⟩, h2⟩
        have := (lg hw n).1 h1
        rw [hx, h1, h2, this.1]; rfl
    cases hq : nO w with
    | none =>
      rw [Option.map_none, ez, if_neg]
      intro q
      obtain ⟨⟨n, h1⟩, _⟩ := eqv.1 q.2
      rw [hq] at h1; cases h1
    | some n =>
      rw [Option.map_some, bM]
      simp only
      rw [ye (hR n)]
      have hxn : nx (kw :: w :: l) 1 = n := by rw [hx, hq]; rfl
      by_cases h2 : l = []
      · rw [if_pos h2, if_pos ⟨trivial, eqv.2 ⟨⟨n, hq⟩, h2⟩⟩, hxn]
      · rw [if_neg h2, if_neg (fun q => h2 (eqv.1 q.2).2)]
def gJ : Wd := [116, 105, 99, 107]
def gr : Wd := [119, 111, 114, 107]
def iL : Wd := [97, 114, 109]
def dD : Wd := [99, 114, 97, 115, 104]
theorem kA {w : Wd} {rest : List Wd} {f : Nat} (h0 : True) (j : Nat) (hj : j < 9) (h : ¬ aU.getD j [] = w) : bb W (w :: rest) (f + 1) (j : Nat) = bb W (w :: rest) f ((j + 1 : Nat) : Int) := by
  have hw : (w :: rest).getD ((0 : Int).toNat) [] = w := rfl
  rw [bb, if_pos (by omega), eZ, if_pos (by omega), if_pos (show (j : Int) < (aU.length : Int) from by show (j : Int) < 9; omega), if_pos (by simp only [List.length_cons]; omega), Int.toNat_natCast, hw, if_neg h, mA (by omega)]
theorem rU {w : Wd} {rest : List Wd} {f : Nat} (hs : eC (w :: rest)) (j : Nat) (hj : j < 9) (h : aU.getD j [] = w) (h2 : ¬ w = []) : bb W (w :: rest) (f + 1) (j : Nat) = some (ki j (nx (w :: rest) 1)).G := by
  have hw : (w :: rest).getD ((0 : Int).toNat) [] = w := rfl
  have n1 : aV W (w :: rest) 1 = some (nx (w :: rest) 1) := pM hs 1
  rw [bb, if_pos (by omega), eZ, if_pos (by omega), if_pos (show (j : Int) < (aU.length : Int) from by show (j : Int) < 9; omega), if_pos (by simp only [List.length_cons]; omega), Int.toNat_natCast, hw, if_pos h, if_pos h2, n1]
  rfl
theorem tE (k n : Int) (hk : k = 4 ∨ k = 5 ∨ k = 7 ∨ k = 8) (d : Int) : (ki k n).right d = some true := by
  rcases hk with rfl | rfl | rfl | rfl <;> rfl
theorem mO (k : Nat) (hk : k = 4 ∨ k = 5 ∨ k = 7 ∨ k = 8) {n : Int} (hn : qo n) (d : Int) : (ki k n).line d = some (mC (aU.getD k []) [iB n], 0) := by
  have hr := tE k n (by omega) d
  have hd := nF hn
  have hl := lJ hn
  have q1 : ∀ (x y : Wd), x.length ≤ 100 ∧ y.length ≤ 100 → (x.length : Int) + (y.length : Int) ≤ 9223372036854775807 := zP
  have hd' : bS W (ki k n).n = some (iB n) := hd
  unfold kc.right at hr
  unfold kc.line cr
  rw [hr, Option.bind_some]
  simp only [Bool.not_true, Bool.false_eq_true, if_false]
  have k1 : ¬ (ki (k : Int) n).k = 1 := by show ¬ (k : Int) = 1; omega
  have k2 : ¬ (ki (k : Int) n).k = 2 := by show ¬ (k : Int) = 2; omega
  have k3 : ¬ (ki (k : Int) n).k = 3 := by show ¬ (k : Int) = 3; omega
  have k6 : ¬ (ki (k : Int) n).k = 6 := by show ¬ (k : Int) = 6; omega
  have k9 : ¬ (ki (k : Int) n).k = 9 := by show ¬ (k : Int) = 9; omega
  have e : aU.getD ((ki (k : Int) n).k.toNat) [] = aU.getD k [] := rfl
  have hlen : (aU.getD k []).length ≤ 10 := by rcases hk with rfl | rfl | rfl | rfl <;> decide
  rw [if_neg k1, if_neg k2, if_neg k3, if_neg k6, if_neg k9, Option.bind_some]
  simp only [mB, eZ, e]
  rw [if_pos (show 0 ≤ (ki (k : Int) n).k from by show (0 : Int) ≤ (k : Int); omega), if_pos (show (ki (k : Int) n).k < (aU.length : Int) from by show (k : Int) < 9; omega), if_pos (q1 _ _ ⟨by omega, by decide⟩), hd', Option.bind_some, if_pos (q1 _ _ ⟨by simp only [List.length_append, List.length_cons, List.length_nil]; omega, by omega⟩)]
  simp [mC, hE]
theorem xG {rest : List Wd} (hs : eC (gJ :: rest)) : bb W (gJ :: rest) W 1 = some (ki 4 (nx (gJ :: rest) 1)).G := by
  have e : bb W (gJ :: rest) W 1 = bb W (gJ :: rest) (199996 + 1 + 1 + 1 + 1) ((1 : Nat) : Int) := rfl
  rw [e]
  rw [kA (by simp) 1 (by omega) (show ¬ aU.getD 1 [] = gJ by decide)]
  rw [kA (by simp) 2 (by omega) (show ¬ aU.getD 2 [] = gJ by decide)]
  rw [kA (by simp) 3 (by omega) (show ¬ aU.getD 3 [] = gJ by decide)]
  exact rU hs 4 (by omega) (show aU.getD 4 [] = gJ by decide) (by decide)
theorem tu {rest : List Wd} {dm : Nat} (hs : eC rest) (hn : ∀ x ∈ rest, 32 ∉ x) : pi gJ rest dm := by
  have hs2 : eC (gJ :: rest) := fun x hx => by
    rcases List.mem_cons.1 hx with rfl | hx
    · decide
    · exact hs x hx
  refine pq (k := 4) (by decide) hs2 hn ?_ (fun n h => mO 4 (by omega) h dm) ?_ (fun n => (rD dm n).1)
  · unfold bx
    rw [if_pos (by simp only [List.length_cons]; omega), if_neg (show ¬ (gJ :: rest).getD ((0 : Int).toNat) [] = ([105, 110, 103, 101, 115, 116] : List UInt8) from (by decide : ¬ gJ = ([105, 110, 103, 101, 115, 116] : List UInt8))), if_neg (show ¬ (gJ :: rest).getD ((0 : Int).toNat) [] = ([97, 115, 107] : List UInt8) from (by decide : ¬ gJ = ([97, 115, 107] : List UInt8))), if_neg (show ¬ (gJ :: rest).getD ((0 : Int).toNat) [] = ([112, 111, 108, 105, 99, 121] : List UInt8) from (by decide : ¬ gJ = ([112, 111, 108, 105, 99, 121] : List UInt8))), if_neg (show ¬ (gJ :: rest).getD ((0 : Int).toNat) [] = ([102, 97, 105, 108] : List UInt8) from (by decide : ¬ gJ = ([102, 97, 105, 108] : List UInt8))), if_neg (show ¬ (gJ :: rest).getD ((0 : Int).toNat) [] = ([115, 116, 97, 114, 116] : List UInt8) from (by decide : ¬ gJ = ([115, 116, 97, 114, 116] : List UInt8))), Option.bind_some]
    exact xG hs2
  · unfold bj
    rw [iV, Option.bind_some, bM, if_neg (show ¬ (rest, gJ).2 = ([105, 110, 103, 101, 115, 116] : List UInt8) from (by decide : ¬ gJ = ([105, 110, 103, 101, 115, 116] : List UInt8))), if_neg (show ¬ (rest, gJ).2 = ([97, 115, 107] : List UInt8) from (by decide : ¬ gJ = ([97, 115, 107] : List UInt8))), if_neg (show ¬ (rest, gJ).2 = ([112, 111, 108, 105, 99, 121] : List UInt8) from (by decide : ¬ gJ = ([112, 111, 108, 105, 99, 121] : List UInt8))), if_neg (show ¬ (rest, gJ).2 = ([102, 97, 105, 108] : List UInt8) from (by decide : ¬ gJ = ([102, 97, 105, 108] : List UInt8))), if_neg (show ¬ (rest, gJ).2 = ([115, 116, 97, 114, 116] : List UInt8) from (by decide : ¬ gJ = ([115, 116, 97, 114, 116] : List UInt8))), eZ]
    have e : bk W dm (rest, gJ) ig W 0 rest 0 0 = bk W dm (rest, gJ) KX (199995 + 1 + 1 + 1 + 1 + 1) ((0 : Nat) : Int) rest 0 0 := rfl
    rw [e]
    rw [rQ dm (rest, gJ) _ 0 rest 0 0 (by omega) (show [KX.1, KX.2.1, KX.2.2.1, KX.2.2.2].getD 0 [] = (rest, gJ).2 from rfl)]
    congr 1
theorem xR {rest : List Wd} (hs : eC (gr :: rest)) : bb W (gr :: rest) W 1 = some (ki 5 (nx (gr :: rest) 1)).G := by
  have e : bb W (gr :: rest) W 1 = bb W (gr :: rest) (199995 + 1 + 1 + 1 + 1 + 1) ((1 : Nat) : Int) := rfl
  rw [e]
  rw [kA (by simp) 1 (by omega) (show ¬ aU.getD 1 [] = gr by decide)]
  rw [kA (by simp) 2 (by omega) (show ¬ aU.getD 2 [] = gr by decide)]
  rw [kA (by simp) 3 (by omega) (show ¬ aU.getD 3 [] = gr by decide)]
  rw [kA (by simp) 4 (by omega) (show ¬ aU.getD 4 [] = gr by decide)]
  exact rU hs 5 (by omega) (show aU.getD 5 [] = gr by decide) (by decide)
theorem tP {rest : List Wd} {dm : Nat} (hs : eC rest) (hn : ∀ x ∈ rest, 32 ∉ x) : pi gr rest dm := by
  have hs2 : eC (gr :: rest) := fun x hx => by
    rcases List.mem_cons.1 hx with rfl | hx
    · decide
    · exact hs x hx
  refine pq (k := 5) (by decide) hs2 hn ?_ (fun n h => mO 5 (by omega) h dm) ?_ (fun n => (rD dm n).2.1)
  · unfold bx
    rw [if_pos (by simp only [List.length_cons]; omega), if_neg (show ¬ (gr :: rest).getD ((0 : Int).toNat) [] = ([105, 110, 103, 101, 115, 116] : List UInt8) from (by decide : ¬ gr = ([105, 110, 103, 101, 115, 116] : List UInt8))), if_neg (show ¬ (gr :: rest).getD ((0 : Int).toNat) [] = ([97, 115, 107] : List UInt8) from (by decide : ¬ gr = ([97, 115, 107] : List UInt8))), if_neg (show ¬ (gr :: rest).getD ((0 : Int).toNat) [] = ([112, 111, 108, 105, 99, 121] : List UInt8) from (by decide : ¬ gr = ([112, 111, 108, 105, 99, 121] : List UInt8))), if_neg (show ¬ (gr :: rest).getD ((0 : Int).toNat) [] = ([102, 97, 105, 108] : List UInt8) from (by decide : ¬ gr = ([102, 97, 105, 108] : List UInt8))), if_neg (show ¬ (gr :: rest).getD ((0 : Int).toNat) [] = ([115, 116, 97, 114, 116] : List UInt8) from (by decide : ¬ gr = ([115, 116, 97, 114, 116] : List UInt8))), Option.bind_some]
    exact xR hs2
  · unfold bj
    rw [iV, Option.bind_some, bM, if_neg (show ¬ (rest, gr).2 = ([105, 110, 103, 101, 115, 116] : List UInt8) from (by decide : ¬ gr = ([105, 110, 103, 101, 115, 116] : List UInt8))), if_neg (show ¬ (rest, gr).2 = ([97, 115, 107] : List UInt8) from (by decide : ¬ gr = ([97, 115, 107] : List UInt8))), if_neg (show ¬ (rest, gr).2 = ([112, 111, 108, 105, 99, 121] : List UInt8) from (by decide : ¬ gr = ([112, 111, 108, 105, 99, 121] : List UInt8))), if_neg (show ¬ (rest, gr).2 = ([102, 97, 105, 108] : List UInt8) from (by decide : ¬ gr = ([102, 97, 105, 108] : List UInt8))), if_neg (show ¬ (rest, gr).2 = ([115, 116, 97, 114, 116] : List UInt8) from (by decide : ¬ gr = ([115, 116, 97, 114, 116] : List UInt8))), eZ]
    have e : bk W dm (rest, gr) ig W 0 rest 0 0 = bk W dm (rest, gr) KX (199995 + 1 + 1 + 1 + 1 + 1) ((0 : Nat) : Int) rest 0 0 := rfl
    rw [e]
    rw [nv dm (rest, gr) _ 0 rest 0 0 (by omega) (show ¬ [KX.1, KX.2.1, KX.2.2.1, KX.2.2.2].getD 0 [] = (rest, gr).2 from (by decide : ¬ [KX.1, KX.2.1, KX.2.2.1, KX.2.2.2].getD 0 [] = gr))]
    rw [rQ dm (rest, gr) _ 1 rest 0 0 (by omega) (show [KX.1, KX.2.1, KX.2.2.1, KX.2.2.2].getD 1 [] = (rest, gr).2 from rfl)]
    congr 1
theorem yN {rest : List Wd} (hs : eC (iL :: rest)) : bb W (iL :: rest) W 1 = some (ki 7 (nx (iL :: rest) 1)).G := by
  have e : bb W (iL :: rest) W 1 = bb W (iL :: rest) (199993 + 1 + 1 + 1 + 1 + 1 + 1 + 1) ((1 : Nat) : Int) := rfl
  rw [e]
  rw [kA (by simp) 1 (by omega) (show ¬ aU.getD 1 [] = iL by decide)]
  rw [kA (by simp) 2 (by omega) (show ¬ aU.getD 2 [] = iL by decide)]
  rw [kA (by simp) 3 (by omega) (show ¬ aU.getD 3 [] = iL by decide)]
  rw [kA (by simp) 4 (by omega) (show ¬ aU.getD 4 [] = iL by decide)]
  rw [kA (by simp) 5 (by omega) (show ¬ aU.getD 5 [] = iL by decide)]
  rw [kA (by simp) 6 (by omega) (show ¬ aU.getD 6 [] = iL by decide)]
  exact rU hs 7 (by omega) (show aU.getD 7 [] = iL by decide) (by decide)
theorem vr {rest : List Wd} {dm : Nat} (hs : eC rest) (hn : ∀ x ∈ rest, 32 ∉ x) : pi iL rest dm := by
  have hs2 : eC (iL :: rest) := fun x hx => by
    rcases List.mem_cons.1 hx with rfl | hx
    · decide
    · exact hs x hx
  refine pq (k := 7) (by decide) hs2 hn ?_ (fun n h => mO 7 (by omega) h dm) ?_ (fun n => (rD dm n).2.2.1)
  · unfold bx
    rw [if_pos (by simp only [List.length_cons]; omega), if_neg (show ¬ (iL :: rest).getD ((0 : Int).toNat) [] = ([105, 110, 103, 101, 115, 116] : List UInt8) from (by decide : ¬ iL = ([105, 110, 103, 101, 115, 116] : List UInt8))), if_neg (show ¬ (iL :: rest).getD ((0 : Int).toNat) [] = ([97, 115, 107] : List UInt8) from (by decide : ¬ iL = ([97, 115, 107] : List UInt8))), if_neg (show ¬ (iL :: rest).getD ((0 : Int).toNat) [] = ([112, 111, 108, 105, 99, 121] : List UInt8) from (by decide : ¬ iL = ([112, 111, 108, 105, 99, 121] : List UInt8))), if_neg (show ¬ (iL :: rest).getD ((0 : Int).toNat) [] = ([102, 97, 105, 108] : List UInt8) from (by decide : ¬ iL = ([102, 97, 105, 108] : List UInt8))), if_neg (show ¬ (iL :: rest).getD ((0 : Int).toNat) [] = ([115, 116, 97, 114, 116] : List UInt8) from (by decide : ¬ iL = ([115, 116, 97, 114, 116] : List UInt8))), Option.bind_some]
    exact yN hs2
  · unfold bj
    rw [iV, Option.bind_some, bM, if_neg (show ¬ (rest, iL).2 = ([105, 110, 103, 101, 115, 116] : List UInt8) from (by decide : ¬ iL = ([105, 110, 103, 101, 115, 116] : List UInt8))), if_neg (show ¬ (rest, iL).2 = ([97, 115, 107] : List UInt8) from (by decide : ¬ iL = ([97, 115, 107] : List UInt8))), if_neg (show ¬ (rest, iL).2 = ([112, 111, 108, 105, 99, 121] : List UInt8) from (by decide : ¬ iL = ([112, 111, 108, 105, 99, 121] : List UInt8))), if_neg (show ¬ (rest, iL).2 = ([102, 97, 105, 108] : List UInt8) from (by decide : ¬ iL = ([102, 97, 105, 108] : List UInt8))), if_neg (show ¬ (rest, iL).2 = ([115, 116, 97, 114, 116] : List UInt8) from (by decide : ¬ iL = ([115, 116, 97, 114, 116] : List UInt8))), eZ]
    have e : bk W dm (rest, iL) ig W 0 rest 0 0 = bk W dm (rest, iL) KX (199995 + 1 + 1 + 1 + 1 + 1) ((0 : Nat) : Int) rest 0 0 := rfl
    rw [e]
    rw [nv dm (rest, iL) _ 0 rest 0 0 (by omega) (show ¬ [KX.1, KX.2.1, KX.2.2.1, KX.2.2.2].getD 0 [] = (rest, iL).2 from (by decide : ¬ [KX.1, KX.2.1, KX.2.2.1, KX.2.2.2].getD 0 [] = iL))]
    rw [nv dm (rest, iL) _ 1 rest 0 0 (by omega) (show ¬ [KX.1, KX.2.1, KX.2.2.1, KX.2.2.2].getD 1 [] = (rest, iL).2 from (by decide : ¬ [KX.1, KX.2.1, KX.2.2.1, KX.2.2.2].getD 1 [] = iL))]
    rw [rQ dm (rest, iL) _ 2 rest 0 0 (by omega) (show [KX.1, KX.2.1, KX.2.2.1, KX.2.2.2].getD 2 [] = (rest, iL).2 from rfl)]
    congr 1
theorem wE {rest : List Wd} (hs : eC (dD :: rest)) : bb W (dD :: rest) W 1 = some (ki 8 (nx (dD :: rest) 1)).G := by
  have e : bb W (dD :: rest) W 1 = bb W (dD :: rest) (199992 + 1 + 1 + 1 + 1 + 1 + 1 + 1 + 1) ((1 : Nat) : Int) := rfl
  rw [e]
  rw [kA (by simp) 1 (by omega) (show ¬ aU.getD 1 [] = dD by decide)]
  rw [kA (by simp) 2 (by omega) (show ¬ aU.getD 2 [] = dD by decide)]
  rw [kA (by simp) 3 (by omega) (show ¬ aU.getD 3 [] = dD by decide)]
  rw [kA (by simp) 4 (by omega) (show ¬ aU.getD 4 [] = dD by decide)]
  rw [kA (by simp) 5 (by omega) (show ¬ aU.getD 5 [] = dD by decide)]
  rw [kA (by simp) 6 (by omega) (show ¬ aU.getD 6 [] = dD by decide)]
  rw [kA (by simp) 7 (by omega) (show ¬ aU.getD 7 [] = dD by decide)]
  exact rU hs 8 (by omega) (show aU.getD 8 [] = dD by decide) (by decide)
theorem sr {rest : List Wd} {dm : Nat} (hs : eC rest) (hn : ∀ x ∈ rest, 32 ∉ x) : pi dD rest dm := by
  have hs2 : eC (dD :: rest) := fun x hx => by
    rcases List.mem_cons.1 hx with rfl | hx
    · decide
    · exact hs x hx
  refine pq (k := 8) (by decide) hs2 hn ?_ (fun n h => mO 8 (by omega) h dm) ?_ (fun n => (rD dm n).2.2.2)
  · unfold bx
    rw [if_pos (by simp only [List.length_cons]; omega), if_neg (show ¬ (dD :: rest).getD ((0 : Int).toNat) [] = ([105, 110, 103, 101, 115, 116] : List UInt8) from (by decide : ¬ dD = ([105, 110, 103, 101, 115, 116] : List UInt8))), if_neg (show ¬ (dD :: rest).getD ((0 : Int).toNat) [] = ([97, 115, 107] : List UInt8) from (by decide : ¬ dD = ([97, 115, 107] : List UInt8))), if_neg (show ¬ (dD :: rest).getD ((0 : Int).toNat) [] = ([112, 111, 108, 105, 99, 121] : List UInt8) from (by decide : ¬ dD = ([112, 111, 108, 105, 99, 121] : List UInt8))), if_neg (show ¬ (dD :: rest).getD ((0 : Int).toNat) [] = ([102, 97, 105, 108] : List UInt8) from (by decide : ¬ dD = ([102, 97, 105, 108] : List UInt8))), if_neg (show ¬ (dD :: rest).getD ((0 : Int).toNat) [] = ([115, 116, 97, 114, 116] : List UInt8) from (by decide : ¬ dD = ([115, 116, 97, 114, 116] : List UInt8))), Option.bind_some]
    exact wE hs2
  · unfold bj
    rw [iV, Option.bind_some, bM, if_neg (show ¬ (rest, dD).2 = ([105, 110, 103, 101, 115, 116] : List UInt8) from (by decide : ¬ dD = ([105, 110, 103, 101, 115, 116] : List UInt8))), if_neg (show ¬ (rest, dD).2 = ([97, 115, 107] : List UInt8) from (by decide : ¬ dD = ([97, 115, 107] : List UInt8))), if_neg (show ¬ (rest, dD).2 = ([112, 111, 108, 105, 99, 121] : List UInt8) from (by decide : ¬ dD = ([112, 111, 108, 105, 99, 121] : List UInt8))), if_neg (show ¬ (rest, dD).2 = ([102, 97, 105, 108] : List UInt8) from (by decide : ¬ dD = ([102, 97, 105, 108] : List UInt8))), if_neg (show ¬ (rest, dD).2 = ([115, 116, 97, 114, 116] : List UInt8) from (by decide : ¬ dD = ([115, 116, 97, 114, 116] : List UInt8))), eZ]
    have e : bk W dm (rest, dD) ig W 0 rest 0 0 = bk W dm (rest, dD) KX (199995 + 1 + 1 + 1 + 1 + 1) ((0 : Nat) : Int) rest 0 0 := rfl
    rw [e]
    rw [nv dm (rest, dD) _ 0 rest 0 0 (by omega) (show ¬ [KX.1, KX.2.1, KX.2.2.1, KX.2.2.2].getD 0 [] = (rest, dD).2 from (by decide : ¬ [KX.1, KX.2.1, KX.2.2.1, KX.2.2.2].getD 0 [] = dD))]
    rw [nv dm (rest, dD) _ 1 rest 0 0 (by omega) (show ¬ [KX.1, KX.2.1, KX.2.2.1, KX.2.2.2].getD 1 [] = (rest, dD).2 from (by decide : ¬ [KX.1, KX.2.1, KX.2.2.1, KX.2.2.2].getD 1 [] = dD))]
    rw [nv dm (rest, dD) _ 2 rest 0 0 (by omega) (show ¬ [KX.1, KX.2.1, KX.2.2.1, KX.2.2.2].getD 2 [] = (rest, dD).2 from (by decide : ¬ [KX.1, KX.2.1, KX.2.2.1, KX.2.2.2].getD 2 [] = dD))]
    rw [rQ dm (rest, dD) _ 3 rest 0 0 (by omega) (show [KX.1, KX.2.1, KX.2.2.1, KX.2.2.2].getD 3 [] = (rest, dD).2 from rfl)]
    congr 1
end Go.Proofs.YtgbjponaoeiglaaDoor.WordsParses
end
section
set_option linter.unusedVariables false
set_option linter.unusedSimpArgs false
set_option maxRecDepth 20000
namespace Go.Proofs.YtgbjponaoeiglaaDoor.WordsParses
open Go E
theorem lS {w : Wd} {rest : List Wd} {f : Nat} (j : Nat) (hj : j < 9) (h : aU.getD j [] = w → w = []) : bb W (w :: rest) (f + 1) (j : Nat) = bb W (w :: rest) f ((j + 1 : Nat) : Int) := by
  have hw : (w :: rest).getD ((0 : Int).toNat) [] = w := rfl
  rw [bb, if_pos (by omega), eZ, if_pos (by omega), if_pos (show (j : Int) < (aU.length : Int) from by show (j : Int) < 9; omega), if_pos (by simp only [List.length_cons]; omega), Int.toNat_natCast, hw]
  by_cases e : aU.getD j [] = w
  · rw [if_pos e, if_neg (fun q => q (h e)), mA (by omega)]
  · rw [if_neg e, mA (by omega)]
theorem tN {w : Wd} {rest : List Wd} {dm : Nat} (hkIngest : ¬ w = gy) (hkAsk : ¬ w = lX) (hkPol : ¬ w = lM) (hkFail : ¬ w = io) (hkStart : ¬ w = ic) (hkTick : ¬ w = gJ) (hkWork : ¬ w = gr) (hkArm : ¬ w = iL) (hkCrash : ¬ w = dD) : pi w rest dm := by
  have hg : bx W (w :: rest) dm = some kc.zero.G := by
    unfold bx
    rw [if_pos (by simp only [List.length_cons]; omega), if_neg (show ¬ (w :: rest).getD ((0 : Int).toNat) [] = ([105, 110, 103, 101, 115, 116] : List UInt8) from hkIngest), if_neg (show ¬ (w :: rest).getD ((0 : Int).toNat) [] = ([97, 115, 107] : List UInt8) from hkAsk), if_neg (show ¬ (w :: rest).getD ((0 : Int).toNat) [] = ([112, 111, 108, 105, 99, 121] : List UInt8) from hkPol), if_neg (show ¬ (w :: rest).getD ((0 : Int).toNat) [] = ([102, 97, 105, 108] : List UInt8) from hkFail), if_neg (show ¬ (w :: rest).getD ((0 : Int).toNat) [] = ([115, 116, 97, 114, 116] : List UInt8) from hkStart), Option.bind_some]
    have e : bb W (w :: rest) W 1 = bb W (w :: rest) (199991 + 1 + 1 + 1 + 1 + 1 + 1 + 1 + 1 + 1) ((1 : Nat) : Int) := rfl
    simp only [mB]
    rw [e]
    rw [lS 1 (by omega) (fun e => e.symm)]
    rw [lS 2 (by omega) (fun e => e.symm)]
    rw [lS 3 (by omega) (fun e => e.symm)]
    rw [lS 4 (by omega) (fun e => absurd e.symm hkTick)]
    rw [lS 5 (by omega) (fun e => absurd e.symm hkWork)]
    rw [lS 6 (by omega) (fun e => e.symm)]
    rw [lS 7 (by omega) (fun e => absurd e.symm hkArm)]
    rw [lS 8 (by omega) (fun e => absurd e.symm hkCrash)]
    rw [bb, if_neg (by decide)]
    rfl
  have hr : kc.zero.right dm = some false := rfl
  refine ⟨_, _, 1, hg, kc.line_no hr, ?_, by simp [kc.zero], by simp [kc.zero]⟩
  rw [if_neg (fun q => absurd q.1 (by decide))]
  have h0 : ct W 0 0 dm = some false := rfl
  unfold bj
  rw [iV, Option.bind_some, bM, if_neg (show ¬ (rest, w).2 = ([105, 110, 103, 101, 115, 116] : List UInt8) from hkIngest), if_neg (show ¬ (rest, w).2 = ([97, 115, 107] : List UInt8) from hkAsk), if_neg (show ¬ (rest, w).2 = ([112, 111, 108, 105, 99, 121] : List UInt8) from hkPol), if_neg (show ¬ (rest, w).2 = ([102, 97, 105, 108] : List UInt8) from hkFail), if_neg (show ¬ (rest, w).2 = ([115, 116, 97, 114, 116] : List UInt8) from hkStart), eZ]
  have e : bk W dm (rest, w) ig W 0 rest 0 0 = bk W dm (rest, w) KX (199995 + 1 + 1 + 1 + 1 + 1) ((0 : Nat) : Int) rest 0 0 := rfl
  rw [e]
  rw [nv dm (rest, w) _ 0 rest 0 0 (by omega) (fun e => hkTick e.symm)]
  rw [nv dm (rest, w) _ 1 rest 0 0 (by omega) (fun e => hkWork e.symm)]
  rw [nv dm (rest, w) _ 2 rest 0 0 (by omega) (fun e => hkArm e.symm)]
  rw [nv dm (rest, w) _ 3 rest 0 0 (by omega) (fun e => hkCrash e.symm)]
  rw [zT]
  unfold og
  rw [h0, Option.bind_some]
  split <;> rfl
theorem yr {w : Wd} {rest : List Wd} {dm : Nat} (d0 : 1 ≤ dm) (d1 : dm ≤ 4) (hs : eC rest) (hl : rest.length ≤ 900) (hn : ∀ x ∈ rest, 32 ∉ x) : pi w rest dm := by
  by_cases hkIngest : w = gy
  · rw [hkIngest]; exact te d0 d1 hs hl hn
  by_cases hkAsk : w = lX
  · rw [hkAsk]; exact yy d0 d1 hs hl hn
  by_cases hkPol : w = lM
  · rw [hkPol]; exact yq hs hl hn
  by_cases hkFail : w = io
  · rw [hkFail]; exact vW hs hl hn
  by_cases hkStart : w = ic
  · rw [hkStart]; exact tC hn
  by_cases hkTick : w = gJ
  · rw [hkTick]; exact tu hs hn
  by_cases hkWork : w = gr
  · rw [hkWork]; exact tP hs hn
  by_cases hkArm : w = iL
  · rw [hkArm]; exact vr hs hn
  by_cases hkCrash : w = dD
  · rw [hkCrash]; exact sr hs hn
  exact tN hkIngest hkAsk hkPol hkFail hkStart hkTick hkWork hkArm hkCrash
theorem tO (line : Wd) (hl : line.length ≤ 600) {dm : Nat} (d0 : 1 ≤ dm) (d1 : dm ≤ 4) : ∃ (s : kc) (f : Int), fR W line dm = some (s.P f) ∧ dy W line dm = some (s.R f) ∧ s.fs.length ≤ 100 ∧ s.fl.length ≤ 1000 := by
  by_cases h0 : line = []
  · have e : oX line = [] := by unfold oX; rw [if_pos h0]
    have e2 : bj W [] dm = some none := rfl
    refine ⟨kc.zero, 4, ?_, ?_, by simp [kc.zero], by simp [kc.zero]⟩
    · unfold fR
      rw [if_neg (by omega), if_neg (by omega), sB line hl, Option.bind_some, e, e2, Option.bind_some, ez]
      rfl
    · unfold dy
      rw [if_neg (by omega), if_neg (by omega), qQ line hl, Option.bind_some, e, if_pos (by rfl)]
      rfl
  · have e : oX line = dM 32 line := by unfold oX; rw [if_neg h0]
    cases hsp : dM 32 line with
    | nil => exact absurd hsp (ko 32 line)
    | cons w rest =>
      rw [hsp] at e
      obtain ⟨e1, e2, e3⟩ := ox line w rest hsp
      have hlen : (mC w rest).length = w.length + (hE rest).length := by unfold mC; rw [List.length_append]
      have hsr : eC rest := fun x hx => by
        have := vv rest x hx
        rw [e1] at hl; omega
      have hcr := wW rest
      obtain ⟨s, l, f, c1, c2, c3, c4, c5⟩ := yr (w := w) d0 d1 hsr (by rw [e1] at hl; omega) e3
      have c2' : cr W s.k s.n s.fs s.a s.b s.g0 s.g1 s.g2 s.g3 s.h0 s.h1 s.h2 s.h3 s.t0 s.t1 s.t2 s.t3 s.p0 s.p1 s.p2 s.p3 s.p4 s.p5 s.p6 s.p7 s.p8 s.fl dm = some (l, f) := c2
      have c2g : (cr W s.G.1 s.G.2.2.2.2.2.2.2.2.2.2.2.2.2.2.2.2.2.2.2.2.2.2.2.2.2.2 s.G.2.1 s.G.2.2.1 s.G.2.2.2.1 s.G.2.2.2.2.1 s.G.2.2.2.2.2.1 s.G.2.2.2.2.2.2.1 s.G.2.2.2.2.2.2.2.1 s.G.2.2.2.2.2.2.2.2.1 s.G.2.2.2.2.2.2.2.2.2.1 s.G.2.2.2.2.2.2.2.2.2.2.1 s.G.2.2.2.2.2.2.2.2.2.2.2.1 s.G.2.2.2.2.2.2.2.2.2.2.2.2.1 s.G.2.2.2.2.2.2.2.2.2.2.2.2.2.1 s.G.2.2.2.2.2.2.2.2.2.2.2.2.2.2.1 s.G.2.2.2.2.2.2.2.2.2.2.2.2.2.2.2.1 s.G.2.2.2.2.2.2.2.2.2.2.2.2.2.2.2.2.1 s.G.2.2.2.2.2.2.2.2.2.2.2.2.2.2.2.2.2.1 s.G.2.2.2.2.2.2.2.2.2.2.2.2.2.2.2.2.2.2.1 s.G.2.2.2.2.2.2.2.2.2.2.2.2.2.2.2.2.2.2.2.1 s.G.2.2.2.2.2.2.2.2.2.2.2.2.2.2.2.2.2.2.2.2.1 s.G.2.2.2.2.2.2.2.2.2.2.2.2.2.2.2.2.2.2.2.2.2.1 s.G.2.2.2.2.2.2.2.2.2.2.2.2.2.2.2.2.2.2.2.2.2.2.1 s.G.2.2.2.2.2.2.2.2.2.2.2.2.2.2.2.2.2.2.2.2.2.2.2.1 s.G.2.2.2.2.2.2.2.2.2.2.2.2.2.2.2.2.2.2.2.2.2.2.2.2.1 s.G.2.2.2.2.2.2.2.2.2.2.2.2.2.2.2.2.2.2.2.2.2.2.2.2.2.1 dm) = some (l, f) := c2'
      have hP : fR W line dm = some (if f = 0 ∧ l = mC w rest then s.P 0 else kc.zero.P 4) := by
        unfold fR
        rw [if_neg (by omega), if_neg (by omega), sB line hl, Option.bind_some, e, c3, Option.bind_some]
        by_cases hq : f = 0 ∧ l = mC w rest
        · rw [if_pos hq, if_pos hq, bM]; rfl
        · rw [if_neg hq, if_neg hq, ez]; rfl
      have hR : dy W line dm = some (if f = 0 ∧ l = mC w rest then s.R 0 else kc.zero.R 4) := by
        unfold dy
        rw [if_neg (by omega), if_neg (by omega), qQ line hl, Option.bind_some, e, if_neg (show ¬ (((w :: rest).length : Nat) : Int) = 0 from by simp only [List.length_cons]; omega), c1, Option.bind_some, c2g, Option.bind_some]
        by_cases hq : f = 0 ∧ l = mC w rest
        · rw [if_neg (fun q => q hq.1), if_neg (fun q => q (by rw [e1]; exact hq.2)), if_pos hq]; rfl
        · rw [if_neg hq]
          by_cases hf : f = 0
          · rw [if_neg (fun q => q hf), if_pos (fun q => hq ⟨hf, by rw [← e1]; exact q⟩)]; rfl
          · rw [if_pos hf]; rfl
      by_cases hq : f = 0 ∧ l = mC w rest
      · rw [if_pos hq] at hP hR
        exact ⟨s, 0, hP, hR, c4, c5⟩
      · rw [if_neg hq] at hP hR
        exact ⟨kc.zero, 4, hP, hR, by simp [kc.zero], by simp [kc.zero]⟩
theorem th (l : List aA) (hl : l.length ≤ 1000) : ∀ (f i : Nat), i ≤ l.length → l.length - i < f → eR W l l f i = some true
  | 0, i, _, h => by omega
  | f + 1, i, hi, h => by
    rw [eR]
    by_cases c : i < l.length
    · rw [if_pos (by omega), if_pos (by omega), if_pos (by omega), mA (by omega), th l hl f (i + 1) (by omega) (by omega), if_neg (by simp)]
    · rw [if_neg (by omega)]
theorem Az (l : List aA) (hl : l.length ≤ 1000) : fF W l l = some true := by
  unfold fF
  rw [if_neg (fun q => q Z)]
  exact th l hl W 0 (Nat.zero_le _) (by unfold W; omega)
theorem sN (x : aG) (hl : x.Fails.length ≤ 1000) : ∀ (f i : Nat), i ≤ x.Fails.length → x.Fails.length - i < f → ep W [x] [x] 0 f i = some (Sum.inl ())
  | 0, i, _, h => by omega
  | f + 1, i, hi, h => by
    have e : ([x].getD (0 : Int).toNat ah) = x := rfl
    rw [ep, e]
    by_cases c : i < x.Fails.length
    · rw [if_pos (by omega), if_pos (by omega), if_pos (by omega), mA (by omega), sN x hl f (i + 1) (by omega) (by omega), if_neg (by simp)]
    · rw [if_neg (by omega)]
theorem xV (x : aG) (h1 : x.Facts.length ≤ 1000) (h2 : x.Fails.length ≤ 1000) : fO W [x] [x] = some true := by
  have e : ([x].getD (0 : Int).toNat ah) = x := rfl
  have b : ep W [x] [x] 0 W 0 = some (Sum.inl ()) := sN x h2 W 0 (Nat.zero_le _) (by unfold W; omega)
  have step : ∀ f : Nat, cy W [x] [x] (f + 1) 0 = cy W [x] [x] f 1 := by
    intro f
    rw [cy, e, if_pos (by simp), if_pos (by omega), if_pos (by simp), if_neg (fun q => q Z), if_neg (fun q => q Z), if_neg (by simp), if_neg (by simp), Az x.Facts h1, Option.bind_some, if_neg (by decide), if_neg (fun q => q Z), b, Option.bind_some]
    rfl
  have last : ∀ f : Nat, cy W [x] [x] (f + 1) 1 = some true := by
    intro f
    rw [cy, if_neg (by simp)]
  unfold fO
  rw [if_neg (fun q => q Z)]
  have e2 : cy W [x] [x] W 0 = cy W [x] [x] (199998 + 1 + 1) 0 := rfl
  rw [e2, step, last]
theorem Ag (s : kc) (h1 : s.fs.length ≤ 1000) (h2 : s.fl.length ≤ 1000) : fq W s.k s.n s.fs s.a s.b s.g0 s.g1 s.g2 s.g3 s.h0 s.h1 s.h2 s.h3 s.t0 s.t1 s.t2 s.t3 s.p0 s.p1 s.p2 s.p3 s.p4 s.p5 s.p6 s.p7 s.p8 s.fl s.k s.n s.fs s.a s.b s.g0 s.g1 s.g2 s.g3 s.h0 s.h1 s.h2 s.h3 s.t0 s.t1 s.t2 s.t3 s.p0 s.p1 s.p2 s.p3 s.p4 s.p5 s.p6 s.p7 s.p8 s.fl = some true := by
  unfold fq
  rw [xV (⟨s.k, s.n, s.fs, (⟨s.a, s.b, s.g0, s.g1, s.g2, s.g3, s.h0, s.h1, s.h2, s.h3, s.t0, s.t1, s.t2, s.t3⟩ : aF), (⟨s.p0, s.p1, s.p2, s.p3, s.p4, s.p5, s.p6, s.p7, s.p8⟩ : aC), s.fl⟩ : aG) h1 h2]
  rfl
theorem pz : fL W = some true := by kernel_rfl
theorem Al (d : Int) (h : d < 1 ∨ 4 < d) (line : Wd) : fR W line d = some (kc.zero.P 1) ∧ dy W line d = some (kc.zero.R 1) := by
  constructor
  · unfold fR
    rcases h with h | h
    · rw [if_pos h]; rfl
    · rw [if_neg (by omega), if_pos h]; rfl
  · unfold dy
    rcases h with h | h
    · rw [if_pos h]; rfl
    · rw [if_neg (by omega), if_pos h]; rfl
theorem Au (line : Wd) (hl : line.length ≤ 600) (d : Int) : ∃ (s : kc) (f : Int), fR W line d = some (s.P f) ∧ dy W line d = some (s.R f) ∧ s.fs.length ≤ 100 ∧ s.fl.length ≤ 1000 := by
  by_cases h : d < 1 ∨ 4 < d
  · obtain ⟨a, b⟩ := Al d h line
    exact ⟨kc.zero, 1, a, b, by simp [kc.zero], by simp [kc.zero]⟩
  · have e : d = ((d.toNat : Nat) : Int) := by omega
    rw [e]
    exact tO line hl (by omega) (by omega)
theorem law (line : Wd) (d : Int) : ∃ K, fm K line d = some true := by
  refine ⟨W, ?_⟩
  unfold fm
  by_cases h : 600 < (line.length : Int)
  · rw [if_pos h, pz]; rfl
  · obtain ⟨s, f, h1, h2, h3, h4⟩ := Au line (by omega) d
    rw [if_neg h, h1, h2, Option.bind_some, Option.bind_some]
    have e := Ag s (by omega) h4
    refine Eq.trans (congrArg (fun o => Option.bind o _) (show _ = some true from e)) ?_
    rw [Option.bind_some, if_pos Z, if_pos (show (s.P f).2.2.2.2.2.2.2.2.2.2.2.2.2.2.2.2.2.2.2.2.2.2.2.2.2.2.2 = (s.R f).1 from rfl), pz]
    rfl
end Go.Proofs.YtgbjponaoeiglaaDoor.WordsParses
end
section
set_option linter.unusedVariables false
namespace Go.Proofs.YtgbjponaoeiglaaDoor.WordsParses
open Go Go.ChangeShapes Go.WideShapes Go.ChangeAt Go.RowKit E
open Go.ChangeMaps (open_string shut_string)
theorem own : ownKnob Tryd.prog.godebug = none := by kernel_rfl
theorem yW : laidOutB Tryd.prog = true := by kernel_rfl
set_option maxRecDepth 100000 in
theorem Aq (os : Os) (started : os.Started) (H : Type) (enc : TypeId × Value → H) :
    ReturnsInHanded {} Tryd.checked os 4 .any (fun w args => (Rows.wordsParsesSpec.pre enc Tryd.prog Tryd.f4 Rows.wordsParsesRow.domain false w args ∧ laidMetH Tryd.prog Rows.wordsParsesRow.laid w) ∧ sizedMet enc Tryd.prog Tryd.f4 (OpenSpec.ofChange Rows.wordsParsesSpec) false w args) (Rows.wordsParsesSpec.post enc Tryd.prog Tryd.f4 false true false false) := by
  refine pe (C := Tryd.checked) (tb := 4) (ts := [9, 3]) own started (by kernel_rfl) Tryd.func4
    (ChangeSpec.witness_shaped (enc := enc) (C := Tryd.checked) (os := os) (X := fun w _ => laidMetH Tryd.prog Rows.wordsParsesRow.laid w) false (World.laidAll Tryd.prog os Rows.wordsParsesRow.laid) #[.string ByteArray.empty, .int .i64 0] 8 (World.laidAll_os _ _ _)
      (World.shaped_of_ZipB (by kernel_rfl) (by kernel_rfl)) (by kernel_rfl) (by kernel_rfl) (by kernel_rfl)
      (by rw [MakeChecks.laidMetH_plain _ _ _ (by kernel_rfl)]; exact laidMet_laidAll _ (by kernel_rfl) (by kernel_rfl)))
    (by rw [Tryd.params4]) Z Tryd.underlying4 Z yW (by kernel_rfl) ?_ (fun W => (pb (tM Tryd.underlying9) (pb (uq Tryd.underlying3) ui))) ?_
  · intro ds hl
    match ds, hl with
    | [d0, d1], _ => rfl
  · intro W x hok
    obtain ⟨a0, a1, _⟩ := x
    obtain ⟨h0, h1, _⟩ := hok
    obtain ⟨K, hK⟩ := law a0 a1
    refine ⟨[], (fm.spec K a0 a1 true hK).mono fun v M h => h.1, ?_⟩
    intro A hA; cases hA
theorem over : Rows.wordsParsesRow.holds Tryd.pinned (OpenSpec.ofChange Rows.wordsParsesSpec) :=
  OpenClaim.holds_of_wide 4 Tryd.f4 Z Z Z Z Z Z Z ⟨rfl, rfl, rfl, rfl, rfl⟩ Z Z Z Z Z (by kernel_rfl) Tryd.func4 (by kernel_rfl)
    (of_decide_eq_true (by kernel_rfl)) (by unfold Func.isWrapper; first | (rw [if_pos (by decide +kernel)]; kernel_rfl) | (rw [if_neg (by decide +kernel)]; exact ⟨rfl, rfl⟩))
    (fun os started H enc _ => Aq os started H enc)
end Go.Proofs.YtgbjponaoeiglaaDoor.WordsParses
namespace Go.Proofs.YtgbjponaoeiglaaDoor
theorem oa : Rows.WordsParsesSaid := WordsParses.over
theorem wordsParses_card : Rows.WordsParsesCardSaid :=
  Claim7.holds_tied_plain_at .later [] [.data, .pinned] true (true, "b77ee56ed04920f15756a714cc39d2cd0ad77dd33cbdc2fd4605aa723c6c965b") true oa (fun _ h => by cases h) (by kernel_rfl) (fun _ h => by cases h) wordsParses_row_tie rfl ⟨rfl, rfl⟩ (by kernel_rfl) rfl
    (fun f fn hf hfn => by
      obtain rfl : f = 4 := Option.some.inj ((show Tryd.prog.funcNamed "ossuary/ossuarylaw34.WordsParses" = some 4 by kernel_rfl).symm.trans hf) |>.symm
      obtain rfl : fn = Tryd.f4 := (Option.some.inj (Tryd.func4.symm.trans hfn)).symm
      exact ⟨by kernel_rfl, fun j t ht => by
        rw [Tryd.params4] at ht
        have hm : t ∈ [9, 3] := by simpa using Array.mem_of_getElem? ht
        have hall : ([9, 3].all fun u => !Tryd.prog.wantsStandIn u) = true := by kernel_rfl
        exact (show Tryd.prog.wantsStandIn t = false by simpa using List.all_eq_true.1 hall t hm)⟩)
    (by kernel_rfl)
#print axioms wordsParses_card
end Go.Proofs.YtgbjponaoeiglaaDoor
end
