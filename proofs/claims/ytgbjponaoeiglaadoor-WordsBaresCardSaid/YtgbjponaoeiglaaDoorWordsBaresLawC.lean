/- The plain law of words: the number of any text. No machine in it. -/
import Derived.Test.YtgbjponaoeiglaaDoorWordsBaresLawB
set_option linter.unusedVariables false
set_option linter.unusedSimpArgs false
set_option maxRecDepth 20000
namespace Go.Proofs.YtgbjponaoeiglaaDoor.WordsBares
open Go E
def stp (n : Int) (c : UInt8) : Option Int := if 48 ≤ (c.toNat : Int) ∧ (c.toNat : Int) ≤ 57 ∧ -9223372036854775808 ≤ n * 10 - ((c.toNat : Int) - 48) then some (n * 10 - ((c.toNat : Int) - 48)) else none
def go : List UInt8 → Int → Option Int
  | [], n => some n
  | c :: l, n => (stp n c).bind (go l)
theorem go_cons (c : UInt8) (l : List UInt8) (n : Int) : go (c :: l) n = (stp n c).bind (go l) := rfl
theorem go_app : ∀ (l l' : List UInt8) (n : Int), go (l ++ l') n = (go l n).bind (go l')
  | [], l', n => rfl
  | c :: l, l', n => by
    show (stp n c).bind (go (l ++ l')) = ((stp n c).bind (go l)).bind (go l')
    cases stp n c with
    | none => rfl
    | some m => exact go_app l l' m
theorem stp_in {n m : Int} {c : UInt8} (hn : n ≤ 0) (h : stp n c = some m) : -9223372036854775808 ≤ m ∧ m ≤ 0 := by
  unfold stp at h
  split at h
  · rename_i q
    cases h; omega
  · cases h
theorem go_in : ∀ (l : List UInt8) (n m : Int), -9223372036854775808 ≤ n ∧ n ≤ 0 → go l n = some m → -9223372036854775808 ≤ m ∧ m ≤ 0
  | [], n, m, h, e => by cases e; exact h
  | c :: l, n, m, h, e => by
    obtain ⟨k, h1, h2⟩ := Option.bind_eq_some_iff.1 (show (stp n c).bind (go l) = some m from e)
    exact go_in l k m (stp_in h.2 h1) h2
theorem num0 (x : List UInt8 × Bool) (hx : x.1.length ≤ 600) : ∀ (f i : Nat) (n : Int), i ≤ x.1.length → x.1.length - i < f → -9223372036854775808 ≤ n ∧ n ≤ 0 →
    words_Number_l0 W x f n i = some (match go (x.1.drop i) n with | some m => Sum.inl m | none => Sum.inr (0, false))
  | 0, i, n, h0, h1, h2 => by omega
  | f + 1, i, n, h0, h1, h2 => by
    rw [words_Number_l0]
    have hl := byts_len x.1
    by_cases h : i < x.1.length
    · have e1 : x.1.drop i = x.1[i] :: x.1.drop (i + 1) := List.drop_eq_getElem_cons h
      have hc := x.1[i].toNat_lt
      rw [if_pos (by omega), if_pos (by omega)]
      simp only [Int.toNat_natCast, byts_get x.1 i h]
      have hd : w64 ((w64 ((x.1[i].toNat : Nat) : Int)) - 48) = (x.1[i].toNat : Int) - 48 := by rw [w64_id (n := ((x.1[i].toNat : Nat) : Int)) (by omega), w64_id (by omega)]
      rw [hd, e1, go_cons]
      unfold stp
      by_cases c1 : (x.1[i].toNat : Int) - 48 < 0
      · rw [if_pos c1, if_neg (by omega)]; rfl
      · rw [if_neg c1]
        by_cases c2 : 9 < (x.1[i].toNat : Int) - 48
        · rw [if_pos c2, if_neg (by omega)]; rfl
        · rw [if_neg c2]
          by_cases c3 : n < -922337203685477580
          · rw [if_pos c3, if_neg (by omega)]; rfl
          · rw [if_neg c3, w64_id (n := n * 10) (by omega), w64_id (n := -9223372036854775808 + _) (by omega)]
            by_cases c4 : n * 10 < -9223372036854775808 + ((x.1[i].toNat : Int) - 48)
            · rw [if_pos c4, if_neg (by omega)]; rfl
            · rw [if_neg c4, if_pos (by omega), w64_id (n := n * 10 - _) (by omega), up1 (by omega)]
              exact num0 x hx f (i + 1) _ (by omega) (by omega) (by omega)
    · rw [if_neg (by omega), List.drop_eq_nil_of_le (by omega)]; rfl
theorem rnum0 (s : List UInt8) (hs : s.length ≤ 600) : ∀ (f i : Nat) (n : Int), i ≤ s.length → s.length - i < f → -9223372036854775808 ≤ n ∧ n ≤ 0 →
    ossuaryref34_Number_l0 W s f n i = some (match go (s.drop i) n with | some m => Sum.inl m | none => Sum.inr (0, false))
  | 0, i, n, h0, h1, h2 => by omega
  | f + 1, i, n, h0, h1, h2 => by
    rw [ossuaryref34_Number_l0]
    by_cases h : i < s.length
    · have e1 : s.drop i = s[i] :: s.drop (i + 1) := List.drop_eq_getElem_cons h
      have hc := s[i].toNat_lt
      rw [if_pos (by omega), if_pos (by omega)]
      simp only [Int.toNat_natCast, getD_at s i h]
      have hd : w64 ((w64 ((s[i].toNat : Nat) : Int)) - 48) = (s[i].toNat : Int) - 48 := by rw [w64_id (n := ((s[i].toNat : Nat) : Int)) (by omega), w64_id (by omega)]
      rw [hd, e1, go_cons]
      unfold stp
      by_cases c1 : (s[i].toNat : Int) - 48 < 0
      · rw [if_pos c1, if_neg (by omega)]; rfl
      · rw [if_neg c1]
        by_cases c2 : 9 < (s[i].toNat : Int) - 48
        · rw [if_pos c2, if_neg (by omega)]; rfl
        · rw [if_neg c2, w64_id (n := -9223372036854775808 + _) (by omega)]
          have ht : Int.tdiv (-9223372036854775808 + ((s[i].toNat : Int) - 48)) 10 = -((9223372036854775808 - ((s[i].toNat : Int) - 48)) / 10) := by
            rw [show (-9223372036854775808 + ((s[i].toNat : Int) - 48)) = -(9223372036854775808 - ((s[i].toNat : Int) - 48)) by omega, Int.neg_tdiv, Int.tdiv_eq_ediv_of_nonneg (by omega)]
          rw [ht, w64_id (by omega)]
          by_cases c4 : n < -((9223372036854775808 - ((s[i].toNat : Int) - 48)) / 10)
          · rw [if_pos c4, if_neg (by omega)]; rfl
          · rw [if_neg c4, if_pos (by omega), w64_id (n := n * 10) (by omega), w64_id (n := n * 10 - _) (by omega), up1 (by omega)]
            exact rnum0 s hs f (i + 1) _ (by omega) (by omega) (by omega)
    · rw [if_neg (by omega), List.drop_eq_nil_of_le (by omega)]; rfl
/-! ### Digits -/
def dg (d : Nat) : UInt8 := UInt8.ofNat (48 + d)
theorem dg_nat {d : Nat} (h : d < 10) : (dg d).toNat = 48 + d := by unfold dg; rw [UInt8.toNat_ofNat']; omega
theorem dg_of (c : UInt8) (h : 48 ≤ c.toNat ∧ c.toNat ≤ 57) : dg (c.toNat - 48) = c := by
  unfold dg; rw [show 48 + (c.toNat - 48) = c.toNat by omega]; exact UInt8.ofNat_toNat
def digs (n : Nat) : List UInt8 := if n < 10 then [dg n] else digs (n / 10) ++ [dg (n % 10)]
termination_by n
decreasing_by omega
theorem digs_small {n : Nat} (h : n < 10) : digs n = [dg n] := by rw [digs, if_pos h]
theorem digs_big {n : Nat} (h : ¬ n < 10) : digs n = digs (n / 10) ++ [dg (n % 10)] := by rw [digs, if_neg h]
theorem digs_ne (n : Nat) : digs n ≠ [] := by
  by_cases h : n < 10
  · rw [digs_small h]; simp
  · rw [digs_big h]; simp
theorem digs_len : ∀ (k n : Nat), n < 10 ^ (k + 1) → (digs n).length ≤ k + 1
  | 0, n, h => by rw [digs_small (by simpa using h)]; simp
  | k + 1, n, h => by
    by_cases h10 : n < 10
    · rw [digs_small h10]; simp
    · rw [digs_big h10]
      have := digs_len k (n / 10) (by rw [Nat.div_lt_iff_lt_mul (by omega)]; rw [Nat.pow_succ] at h; exact h)
      simp; omega
/-- No digits begin with nought but nought's. -/
theorem digs_head : ∀ (k n : Nat), n ≤ k → ∀ l, digs n = 48 :: l → n = 0 ∧ l = []
  | k, n, hk, l, h => by
    by_cases h10 : n < 10
    · rw [digs_small h10] at h
      have h1 := congrArg UInt8.toNat (List.cons.inj h).1
      rw [dg_nat h10] at h1
      have h48 : (48 : UInt8).toNat = 48 := rfl
      exact ⟨by omega, (List.cons.inj h).2.symm⟩
    · rw [digs_big h10] at h
      cases hd : digs (n / 10) with
      | nil => exact absurd hd (digs_ne _)
      | cons c l' =>
        rw [hd, List.cons_append] at h
        have hc := (List.cons.inj h).1
        subst hc
        cases k with
        | zero => omega
        | succ k =>
          have := (digs_head k (n / 10) (by omega) l' hd).1
          omega
theorem go_one (c : UInt8) (n : Int) : go [c] n = stp n c := by
  show (stp n c).bind (go []) = _
  cases stp n c <;> rfl
/-- A text of digits that does not begin with nought is its number's. -/
theorem go_digs : ∀ (k : Nat) (l : List UInt8), l.length ≤ k → l ≠ [] → (∀ x, l = 48 :: x → x = []) → ∀ m, go l 0 = some m → digs (-m).toNat = l
  | k, l, hk, hne, hz, m, h => by
    obtain ⟨l0, c, rfl⟩ : ∃ l0 c, l = l0 ++ [c] := ⟨l.dropLast, l.getLast hne, (List.dropLast_concat_getLast hne).symm⟩
    rw [go_app, Option.bind_eq_some_iff] at h
    obtain ⟨m0, h1, h2⟩ := h
    rw [go_one] at h2
    have hin := go_in l0 0 m0 (by omega) h1
    unfold stp at h2
    split at h2
    · rename_i q
      cases h2
      by_cases hl : l0 = []
      · subst hl
        have hm : m0 = 0 := by cases h1; rfl
        subst hm
        rw [show (-(0 * 10 - ((c.toNat : Int) - 48))).toNat = c.toNat - 48 by omega, digs_small (by omega), dg_of c (by omega)]; rfl
      · cases k with
        | zero => simp at hk
        | succ k =>
          have hz0 : ∀ x, l0 = 48 :: x → x = [] := by
            intro x hx
            rw [hx, List.cons_append] at hz
            have := hz _ rfl
            simp at this
          have ih := go_digs k l0 (by simp at hk; omega) hl hz0 m0 h1
          have hpos : m0 ≠ 0 := by
            intro e
            subst e
            have : digs (-(0 : Int)).toNat = [48] := by rw [show (-(0 : Int)).toNat = 0 from rfl, digs_small (by omega)]; rfl
            rw [this] at ih
            rw [← ih, List.cons_append] at hz
            have := hz _ rfl
            simp at this
          have e1 : (-(m0 * 10 - ((c.toNat : Int) - 48))).toNat / 10 = (-m0).toNat := by omega
          have e2 : (-(m0 * 10 - ((c.toNat : Int) - 48))).toNat % 10 = c.toNat - 48 := by omega
          rw [digs_big (by omega), e1, e2, ih, dg_of c (by omega)]
    · cases h2
/-- A number's text. -/
def decT (n : Int) : List UInt8 := if n < 0 then 45 :: digs (-n).toNat else digs n.toNat
theorem dgI {d : Int} (h : 0 ≤ d ∧ d < 10) : strs [wu8 (w64 (48 + d))] = [dg d.toNat] := by
  rw [w64_id (by omega), wu8_id (by omega)]
  simp only [strs, List.map_cons, List.map_nil, dg]
  rw [show (48 + d).toNat = 48 + d.toNat by omega]
theorem dec_one {K k n : Nat} (h10 : n < 10) : ossuaryref34_Decimal_rec K (k + 1) (n : Int) = some (digs n) := by
  unfold ossuaryref34_Decimal_rec
  rw [if_neg (by omega), if_neg (by omega), if_pos (by omega), digs_small h10, dgI (by omega), Int.toNat_natCast]
theorem p19 {n : Nat} (h : n ≤ 9223372036854775807) : n < 10 ^ (18 + 1) := by
  have : (10 : Nat) ^ (18 + 1) = 10000000000000000000 := by decide
  omega
theorem p19' {n : Nat} (h : n ≤ 9223372036854775808) : n < 10 ^ (18 + 1) := by
  have : (10 : Nat) ^ (18 + 1) = 10000000000000000000 := by decide
  omega
def small (n : Nat) : Prop := n ≤ 9223372036854775807
theorem div_w {n : Nat} (h10 : ¬ n < 10) (hb : small n) : w64 (Int.tdiv (n : Int) 10) = ((n / 10 : Nat) : Int) := by
  unfold small at hb
  rw [Int.tdiv_eq_ediv_of_nonneg (by omega), w64_id (by omega)]; omega
theorem mod_w (n : Nat) : Int.tmod (n : Int) 10 = ((n % 10 : Nat) : Int) := by
  rw [Int.tmod_eq_emod_of_nonneg (by omega)]; omega
theorem len_w {a b : List UInt8} (ha : a.length ≤ 19) (hb : b.length ≤ 1) : (a.length : Int) + (b.length : Int) ≤ 9223372036854775807 := by omega
theorem dec_stp {K k n : Nat} (h10 : ¬ n < 10) (hb : small n) (i1 : ossuaryref34_Decimal_rec K (k + 1) ((n / 10 : Nat) : Int) = some (digs (n / 10))) : ossuaryref34_Decimal_rec K (k + 1 + 1) (n : Int) = some (digs n) := by
  have i2 := dec_one (K := K) (k := k) (n := n % 10) (by omega)
  have l1 : (digs (n / 10)).length ≤ 19 := digs_len 18 _ (p19 (by unfold small at hb; omega))
  have l2 : (digs (n % 10)).length ≤ 1 := by rw [digs_small (by omega)]; simp
  have hd : digs n = digs (n / 10) ++ digs (n % 10) := by rw [digs_big h10, digs_small (n := n % 10) (by omega)]
  have h0 : ¬ (n : Int) < 0 := by omega
  have h1 : ¬ (n : Int) < 10 := by omega
  have h2 : ¬ (n : Int) = -9223372036854775808 := by omega
  rw [ossuaryref34_Decimal_rec, if_neg h2, if_neg h0, if_neg h1, div_w h10 hb, mod_w, i1, i2, hd]
  simp only [Option.bind_some]
  rw [if_pos (len_w l1 l2)]
theorem small_div {n : Nat} (h : small n) : small (n / 10) := by unfold small at *; omega
theorem dec_pos {K : Nat} (f : Nat) : ∀ (k n : Nat), n < 10 ^ (f + 1) → small n → f < k → ossuaryref34_Decimal_rec K k (n : Int) = some (digs n) := by
  induction f with
  | zero =>
    intro k n h hb hk
    obtain ⟨k', rfl⟩ : ∃ k', k = k' + 1 := ⟨k - 1, by omega⟩
    exact dec_one (by simpa using h)
  | succ f ih =>
    intro k n h hb hk
    obtain ⟨k', rfl⟩ : ∃ k', k = k' + 1 + 1 := ⟨k - 2, by omega⟩
    by_cases h10 : n < 10
    · exact dec_one h10
    · exact dec_stp h10 hb (ih (k' + 1) (n / 10) (by rw [Nat.div_lt_iff_lt_mul (by omega)]; rw [Nat.pow_succ] at h; exact h) (small_div hb) (by omega))
theorem min_go : go [57, 50, 50, 51, 51, 55, 50, 48, 51, 54, 56, 53, 52, 55, 55, 53, 56, 48, 56] 0 = some (-9223372036854775808) := by decide +kernel
theorem min_digs : digs 9223372036854775808 = [57, 50, 50, 51, 51, 55, 50, 48, 51, 54, 56, 53, 52, 55, 55, 53, 56, 48, 56] := by
  have h := go_digs 19 [57, 50, 50, 51, 51, 55, 50, 48, 51, 54, 56, 53, 52, 55, 55, 53, 56, 48, 56] (by decide) (by simp) (fun x hx => by cases hx) (-9223372036854775808) min_go
  have e : (-(-9223372036854775808 : Int)).toNat = 9223372036854775808 := by omega
  rw [e] at h
  exact h
theorem dec_eqK {K k : Nat} (hk : 18 < k) {n : Int} (h : -9223372036854775808 ≤ n ∧ n ≤ 9223372036854775807) : ossuaryref34_Decimal_rec K (k + 1) n = some (decT n) := by
  by_cases h0 : n < 0
  · by_cases hm : n = -9223372036854775808
    · subst hm
      unfold ossuaryref34_Decimal_rec
      rw [if_pos rfl]
      unfold decT
      rw [if_pos (by decide), show (-(-9223372036854775808 : Int)).toNat = 9223372036854775808 by decide, min_digs]
    · obtain ⟨q, hq⟩ : ∃ q : Nat, n = -(q : Int) := ⟨(-n).toNat, by omega⟩
      subst hq
      unfold ossuaryref34_Decimal_rec
      rw [if_neg hm, if_pos h0, show w64 (0 - -(q : Int)) = (q : Int) by rw [w64_id (by omega)]; omega, dec_pos 18 k q (p19 (by omega)) (by unfold small; omega) (by omega)]
      simp only [Option.bind_some]
      have l1 := digs_len 18 q (p19 (by omega))
      rw [if_pos (by simp; omega)]
      unfold decT
      rw [if_pos h0, show (-(-(q : Int))).toNat = q by omega]; rfl
  · obtain ⟨q, hq⟩ : ∃ q : Nat, n = (q : Int) := ⟨n.toNat, by omega⟩
    subst hq
    rw [dec_pos 18 (k + 1) q (p19 (by omega)) (by unfold small; omega) (by omega)]
    unfold decT
    rw [if_neg h0, Int.toNat_natCast]
theorem dec_eq {n : Int} (h : -9223372036854775808 ≤ n ∧ n ≤ 9223372036854775807) : ossuaryref34_Decimal W n = some (decT n) := dec_eqK (K := W) (k := 199999) (by omega) h
theorem decT_len {n : Int} (h : -9223372036854775808 ≤ n ∧ n ≤ 9223372036854775807) : (decT n).length ≤ 20 := by
  unfold decT
  split
  · have := digs_len 18 (-n).toNat (p19' (by omega))
    simp; omega
  · have := digs_len 18 n.toNat (p19' (by omega))
    omega
end Go.Proofs.YtgbjponaoeiglaaDoor.WordsBares
