/- Numbers as text, and what is read of a text: plain laws. -/
import Derived.Test.YthcmiohbidencaaSheetBackPure
import Derived.Test.YthcmiohbidencaaELaw
import Derived.KernelRfl
set_option linter.unusedVariables false
set_option linter.unusedSimpArgs false
set_option maxRecDepth 20000
namespace Go.Proofs.Ythcmiohbidencaa.SheetBack
open Go E

def dig (n : Nat) : UInt8 := UInt8.ofNat (48 + n)
def digs (n : Nat) : List UInt8 := if n < 10 then [dig n] else digs (n / 10) ++ [dig (n % 10)]
theorem digs_small {n : Nat} (h : n < 10) : digs n = [dig n] := by unfold digs; rw [if_pos h]
theorem digs_big {n : Nat} (h : ¬ n < 10) : digs n = digs (n / 10) ++ [dig (n % 10)] := by conv => lhs; unfold digs; rw [if_neg h]
theorem digs_len : ∀ (f n : Nat), n < 10 ^ (f + 1) → (digs n).length ≤ f + 1
  | 0, n, h => by rw [digs_small (by simpa using h)]; simp
  | f + 1, n, h => by
    by_cases h10 : n < 10
    · rw [digs_small h10]; simp
    · rw [digs_big h10]
      have := digs_len f (n / 10) (by rw [Nat.div_lt_iff_lt_mul (by omega)]; rw [Nat.pow_succ] at h; exact h)
      simp; omega
theorem wu8_id {n : Int} (h : 0 ≤ n ∧ n ≤ 255) : wu8 n = n := by
  have : wu8 n = n % 256 := by simp [wu8, IntKind.wrap, IntKind.signed, IntKind.bits]
  rw [this]; omega
theorem dig_eq {n : Nat} (h : n < 10) : UInt8.ofNat (wu8 (w64 (48 + (n : Int)))).toNat = dig n := by
  rw [w64_id (by omega)]
  rw [wu8_id (by omega)]
  unfold dig
  congr 1
theorem dig_nat {n : Nat} (h : n < 10) : (dig n).toNat = 48 + n := by
  unfold dig
  rw [UInt8.toNat_ofNat', Nat.mod_eq_of_lt (by omega)]
/-! ### The value of digits -/
def isD (c : UInt8) : Prop := 48 ≤ c.toNat ∧ c.toNat ≤ 57
def vstep (a : Nat) (c : UInt8) : Nat := 10 * a + (c.toNat - 48)
def val (t : List UInt8) : Nat := t.foldl vstep 0
theorem val_snoc (u : List UInt8) (c : UInt8) : val (u ++ [c]) = 10 * val u + (c.toNat - 48) := by simp [val, vstep]
theorem dig_of {c : UInt8} (h : isD c) : dig (c.toNat - 48) = c := by
  obtain ⟨h1, h2⟩ := h
  unfold dig
  have e : 48 + (c.toNat - 48) = c.toNat := by omega
  rw [e]
  exact UInt8.ofNat_toNat
theorem val_pos : ∀ (n : Nat) (t : List UInt8), t.length = n → (∀ c ∈ t, isD c) → (∀ c r, t = c :: r → c.toNat ≠ 48) → t ≠ [] → 0 < val t
  | 0, t, hn, hd, hh, h0 => absurd (List.length_eq_zero_iff.1 hn) h0
  | n + 1, t, hn, hd, hh, h0 => by
    rcases List.eq_nil_or_concat t with h | ⟨u, c, hu0⟩
    · exact absurd h h0
    · rw [List.concat_eq_append] at hu0
      subst hu0
      rw [val_snoc]
      have hc := hd c (by simp)
      cases u with
      | nil =>
        have := hh c [] rfl
        obtain ⟨h1, h2⟩ := hc
        omega
      | cons x r =>
        have := val_pos n (x :: r) (by simpa using hn) (fun y hy => hd y (by simp only [List.mem_append]; exact .inl hy)) (fun y q hq => hh y (q ++ [c]) (by rw [hq]; rfl)) (by simp)
        omega
theorem digs_val : ∀ (n : Nat) (t : List UInt8), t.length = n → (∀ c ∈ t, isD c) → t ≠ [] → (1 < t.length → ∀ c r, t = c :: r → c.toNat ≠ 48) → digs (val t) = t
  | 0, t, hn, hd, h0, hh => absurd (List.length_eq_zero_iff.1 hn) h0
  | n + 1, t, hn, hd, h0, hh => by
    rcases List.eq_nil_or_concat t with h | ⟨u, c, hu0⟩
    · exact absurd h h0
    · rw [List.concat_eq_append] at hu0
      subst hu0
      rw [val_snoc]
      have hc := hd c (by simp)
      have hc2 := hc
      obtain ⟨h1, h2⟩ := hc
      cases u with
      | nil =>
        have e : val [] = 0 := rfl
        rw [e, digs_small (by omega)]
        simp only [Nat.mul_zero, Nat.zero_add, List.nil_append]
        rw [dig_of hc2]
      | cons x r =>
        have hx : x.toNat ≠ 48 := hh (by simp) x (r ++ [c]) rfl
        have hu : ∀ y ∈ x :: r, isD y := fun y hy => hd y (by simp only [List.mem_append]; exact .inl hy)
        have hp := val_pos n (x :: r) (by simpa using hn) hu (fun y q hq => by cases hq; exact hx) (by simp)
        have ih := digs_val n (x :: r) (by simpa using hn) hu (by simp) (fun _ y q hq => by cases hq; exact hx)
        rw [digs_big (by omega)]
        have e1 : (10 * val (x :: r) + (c.toNat - 48)) / 10 = val (x :: r) := by omega
        have e2 : (10 * val (x :: r) + (c.toNat - 48)) % 10 = c.toNat - 48 := by omega
        rw [e1, e2, ih, dig_of hc2]
theorem digs_ne (n : Nat) : digs n ≠ [] := by
  by_cases h : n < 10
  · rw [digs_small h]; simp
  · rw [digs_big h]; simp
theorem digs_isD : ∀ (f n : Nat), n < 10 ^ (f + 1) → ∀ c ∈ digs n, isD c
  | 0, n, h, c, hc => by
    have h10 : n < 10 := by simpa using h
    rw [digs_small h10] at hc
    simp only [List.mem_singleton] at hc
    subst hc
    unfold isD
    rw [dig_nat h10]; omega
  | f + 1, n, h, c, hc => by
    by_cases h10 : n < 10
    · exact digs_isD 0 n (by simpa using h10) c hc
    · rw [digs_big h10] at hc
      simp only [List.mem_append, List.mem_singleton] at hc
      rcases hc with hc | hc
      · exact digs_isD f (n / 10) (by rw [Nat.div_lt_iff_lt_mul (by omega)]; rw [Nat.pow_succ] at h; exact h) c hc
      · subst hc
        unfold isD
        rw [dig_nat (by omega)]; omega
theorem digs_head : ∀ (f n : Nat), n < 10 ^ (f + 1) → 0 < n → ∀ c r, digs n = c :: r → c.toNat ≠ 48
  | 0, n, h, hp, c, r, hc => by
    have h10 : n < 10 := by simpa using h
    rw [digs_small h10] at hc
    cases hc
    rw [dig_nat h10]; omega
  | f + 1, n, h, hp, c, r, hc => by
    by_cases h10 : n < 10
    · exact digs_head 0 n (by simpa using h10) hp c r hc
    · rw [digs_big h10] at hc
      cases hq : digs (n / 10) with
      | nil => exact absurd hq (digs_ne _)
      | cons x q =>
        rw [hq] at hc
        rw [← (List.cons.inj hc).1]
        exact digs_head f (n / 10) (by rw [Nat.div_lt_iff_lt_mul (by omega)]; rw [Nat.pow_succ] at h; exact h) (by omega) x q hq
theorem val_digs : ∀ (f n : Nat), n < 10 ^ (f + 1) → val (digs n) = n
  | 0, n, h => by
    have h10 : n < 10 := by simpa using h
    rw [digs_small h10]
    simp [val, vstep, dig_nat h10]
  | f + 1, n, h => by
    by_cases h10 : n < 10
    · exact val_digs 0 n (by simpa using h10)
    · rw [digs_big h10, val_snoc, val_digs f (n / 10) (by rw [Nat.div_lt_iff_lt_mul (by omega)]; rw [Nat.pow_succ] at h; exact h), dig_nat (by omega)]
      omega

/-! ### Reading digits -/
def acc : List UInt8 → Int → Option Int
  | [], n => some n
  | c :: t, n => if (c.toNat : Int) - 48 < 0 then none else if 9 < (c.toNat : Int) - 48 then none else if n * 10 - ((c.toNat : Int) - 48) < -9223372036854775808 then none else acc t (n * 10 - ((c.toNat : Int) - 48))
theorem acc_spec : ∀ (t : List UInt8) (a : Nat) (m : Int), acc t (-(a : Int)) = some m → (a : Int) ≤ 9223372036854775808 → (∀ c ∈ t, isD c) ∧ m = -((t.foldl vstep a : Nat) : Int) ∧ -9223372036854775808 ≤ m
  | [], a, m, h, ha => by
    simp only [acc, Option.some.injEq] at h
    subst h
    exact ⟨by simp, rfl, by omega⟩
  | c :: t, a, m, h, ha => by
    simp only [acc] at h
    by_cases h1 : (c.toNat : Int) - 48 < 0
    · rw [if_pos h1] at h; cases h
    rw [if_neg h1] at h
    by_cases h2 : 9 < (c.toNat : Int) - 48
    · rw [if_pos h2] at h; cases h
    rw [if_neg h2] at h
    by_cases h3 : (-(a : Int)) * 10 - ((c.toNat : Int) - 48) < -9223372036854775808
    · rw [if_pos h3] at h; cases h
    rw [if_neg h3] at h
    have e : (-(a : Int)) * 10 - ((c.toNat : Int) - 48) = -((vstep a c : Nat) : Int) := by unfold vstep; omega
    rw [e] at h h3
    obtain ⟨i1, i2, i3⟩ := acc_spec t (vstep a c) m h (by omega)
    refine ⟨fun x hx => ?_, i2, i3⟩
    simp only [List.mem_cons] at hx
    rcases hx with hx | hx
    · rw [hx]; unfold isD; omega
    · exact i1 x hx
theorem fold_le : ∀ (t : List UInt8) (a : Nat), a ≤ t.foldl vstep a
  | [], a => Nat.le_refl _
  | c :: t, a => Nat.le_trans (by unfold vstep; omega) (fold_le t (vstep a c))
theorem acc_some : ∀ (t : List UInt8) (a : Nat), (∀ c ∈ t, isD c) → t.foldl vstep a ≤ 9223372036854775808 → acc t (-(a : Int)) = some (-((t.foldl vstep a : Nat) : Int))
  | [], a, hd, h => rfl
  | c :: t, a, hd, h => by
    obtain ⟨h1, h2⟩ := hd c (by simp)
    have hl := fold_le t (vstep a c)
    have hv : vstep a c = 10 * a + (c.toNat - 48) := rfl
    simp only [List.foldl_cons] at h
    simp only [acc]
    rw [if_neg (by omega), if_neg (by omega), if_neg (by omega)]
    have e : (-(a : Int)) * 10 - ((c.toNat : Int) - 48) = -((vstep a c : Nat) : Int) := by unfold vstep; omega
    rw [e]
    exact acc_some t (vstep a c) (fun x hx => hd x (by simp [hx])) h
def toS (o : Option Int) : Sum Int (Int × Bool) := match o with | some m => .inl m | none => .inr (0, false)
theorem byts_get (t : List UInt8) {i : Nat} (h : i < t.length) : (byts t).getD i 0 = ((t[i]).toNat : Int) := by
  unfold byts
  rw [List.getD_eq_getElem?_getD, List.getElem?_map, List.getElem?_eq_getElem h]
  rfl
theorem wl0 {K : Nat} (t : List UInt8) (b : Bool) (ht : t.length ≤ 100000) : ∀ (f i : Nat) (n : Int), i ≤ t.length → t.length - i < f → n ≤ 0 → -9223372036854775808 ≤ n → words_Number_l0 K (t, b) f n i = some (toS (acc (t.drop i) n))
  | 0, i, n, h0, h1, h2, h3 => by omega
  | f + 1, i, n, h0, h1, h2, h3 => by
    unfold words_Number_l0
    have hl : (byts t).length = t.length := by simp [byts]
    simp only [hl, Int.toNat_natCast]
    by_cases hi : i < t.length
    · rw [if_pos (by omega), if_pos (by omega), byts_get t hi, List.drop_eq_getElem_cons hi]
      have hb := (t[i]).toNat_lt
      generalize hc : t[i] = c at hb
      simp only [acc]
      rw [w64_id (n := (c.toNat : Int)) (by omega), w64_id (n := (c.toNat : Int) - 48) (by omega)]
      by_cases q1 : (c.toNat : Int) - 48 < 0
      · rw [if_pos q1, if_pos q1]; rfl
      rw [if_neg q1, if_neg q1]
      by_cases q2 : 9 < (c.toNat : Int) - 48
      · rw [if_pos q2, if_pos q2]; rfl
      rw [if_neg q2, if_neg q2]
      by_cases q3 : n < -922337203685477580
      · rw [if_pos q3, if_pos (by omega)]; rfl
      rw [if_neg q3, w64_id (n := n * 10) (by omega), w64_id (n := -9223372036854775808 + ((c.toNat : Int) - 48)) (by omega)]
      by_cases q4 : n * 10 < -9223372036854775808 + ((c.toNat : Int) - 48)
      · rw [if_pos q4, if_pos (by omega)]; rfl
      rw [if_neg q4, if_neg (by omega), w64_id (by omega), w64_id (by omega)]
      have e1 : ((i : Int) + 1) = ((i + 1 : Nat) : Int) := by omega
      rw [e1]
      exact wl0 t b ht f (i + 1) _ (by omega) (by omega) (by omega) (by omega)
    · rw [if_neg (by omega), List.drop_eq_nil_of_le (by omega)]
      rfl
/-- The number of digits behind a sign, or without one. -/
def numT (t : List UInt8) (minus : Bool) : Option Int :=
  if t = [] ∨ (1 < t.length ∧ (t.getD 0 0).toNat = 48) ∨ (minus = true ∧ t = [48]) then none else
  match acc t 0 with | none => none | some m => if minus = true then some m else if m = -9223372036854775808 then none else some (-m)
theorem numT_no {t : List UInt8} {b : Bool} (h : t = [] ∨ (1 < t.length ∧ (t.getD 0 0).toNat = 48) ∨ (b = true ∧ t = [48])) : numT t b = none := by unfold numT; rw [if_pos h]
theorem numT_acc {t : List UInt8} {b : Bool} (h : ¬ (t = [] ∨ (1 < t.length ∧ (t.getD 0 0).toNat = 48) ∨ (b = true ∧ t = [48]))) : numT t b = match acc t 0 with | none => none | some m => if b = true then some m else if m = -9223372036854775808 then none else some (-m) := by unfold numT; rw [if_neg h]
def numV (s : List UInt8) : Option Int := match s with | [] => none | c :: r => if c = 45 then numT r true else numT (c :: r) false
def outN (o : Option Int) : Int × Bool := match o with | some n => (n, true) | none => (0, false)
theorem wT {K : Nat} (hK : 200000 ≤ K) (t : List UInt8) (b : Bool) (ht : t.length ≤ 100000) : (Option.bind (if t = ([] : List UInt8) then (some (Sum.inr ((0, false)))) else (if 1 < (t.length : Int) then (if 0 < (t.length : Int) then (if ((t.getD (0 : Int).toNat 0).toNat : Int) = 48 then (some (Sum.inr ((0, false)))) else (if b = true then (if t = ([48] : List UInt8) then (some (Sum.inr ((0, false)))) else (some (Sum.inl ()))) else (some (Sum.inl ())))) else none) else (if b = true then (if t = ([48] : List UInt8) then (some (Sum.inr ((0, false)))) else (some (Sum.inl ()))) else (some (Sum.inl ()))))) fun z => (cas z (fun v3 => (Option.bind (if t.length ≤ 9223372036854775807 then (words_Number_l0 K (t, b) K 0 0) else none) fun z => (cas z (fun v4 => (if b = true then (some ((v4, true))) else (if v4 = (-9223372036854775808) then (some ((0, false))) else (some ((w64 (0 - v4), true)))))) (fun t_ => (some (t_)))))) (fun t_ => (some (t_))))) = some (outN (numT t b)) := by
  have main : ∀ (h : ¬ (t = [] ∨ (1 < t.length ∧ (t.getD 0 0).toNat = 48) ∨ (b = true ∧ t = [48]))), (Option.bind (if t.length ≤ 9223372036854775807 then (words_Number_l0 K (t, b) K 0 0) else none) fun z => (cas z (fun v4 => (if b = true then (some ((v4, true))) else (if v4 = (-9223372036854775808) then (some ((0, false))) else (some ((w64 (0 - v4), true)))))) (fun t_ => (some (t_))))) = some (outN (numT t b)) := by
    intro h
    rw [if_pos (by omega)]
    have hw := wl0 (K := K) t b ht K 0 0 (by omega) (by omega) (by omega) (by omega)
    have e0 : ((0 : Nat) : Int) = 0 := rfl
    rw [e0, List.drop_zero] at hw
    rw [hw]
    simp only [Option.bind_some]
    rw [numT_acc h]
    cases hq : acc t 0 with
    | none => rfl
    | some m =>
      have h0 : acc t (-((0 : Nat) : Int)) = some m := hq
      obtain ⟨i1, i2, i3⟩ := acc_spec t 0 m h0 (by omega)
      cases b with
      | true => rfl
      | false =>
        simp only [toS, cas, Bool.false_eq_true, if_false]
        by_cases q : m = -9223372036854775808
        · rw [if_pos q, if_pos q]; rfl
        · rw [if_neg q, if_neg q, w64_id (by omega)]
          have : 0 - m = -m := by omega
          rw [this]; rfl
  by_cases h1 : t = []
  · rw [if_pos h1, numT_no (.inl h1)]; rfl
  rw [if_neg h1]
  have hz : (0 : Int).toNat = 0 := rfl
  rw [hz]
  by_cases h2 : 1 < t.length
  · rw [if_pos (show (1 : Int) < (t.length : Int) by omega), if_pos (show (0 : Int) < (t.length : Int) by omega)]
    by_cases h3 : (t.getD 0 0).toNat = 48
    · rw [if_pos (show ((t.getD 0 0).toNat : Int) = 48 by omega)]
      rw [numT_no (.inr (.inl ⟨h2, h3⟩))]; rfl
    · rw [if_neg (show ¬ ((t.getD 0 0).toNat : Int) = 48 by omega)]
      have h4 : ¬ t = [48] := by intro e; rw [e] at h2; simp at h2
      have m := main (by rintro (h | ⟨_, h⟩ | ⟨_, h⟩); exact h1 h; exact h3 h; exact h4 h)
      cases b with
      | true => rw [if_pos rfl, if_neg h4]; exact m
      | false => rw [if_neg (by simp)]; exact m
  · rw [if_neg (show ¬ (1 : Int) < (t.length : Int) by omega)]
    cases b with
    | true =>
      rw [if_pos rfl]
      by_cases h4 : t = [48]
      · rw [if_pos h4, numT_no (.inr (.inr ⟨rfl, h4⟩))]; rfl
      · rw [if_neg h4]
        exact main (by rintro (h | ⟨h, _⟩ | ⟨_, h⟩); exact h1 h; exact h2 h; exact h4 h)
    | false =>
      rw [if_neg (by simp)]
      exact main (by rintro (h | ⟨h, _⟩ | ⟨h, _⟩); exact h1 h; exact h2 h; exact absurd h (by simp))
theorem wNum {K : Nat} (hK : 200000 ≤ K) (s : List UInt8) (hs : s.length ≤ 100000) : words_Number K s = some (outN (numV s)) := by
  unfold words_Number
  rw [thn_eq]
  cases s with
  | nil => exact wT hK [] false (by simp)
  | cons c r =>
    simp only [numV]
    simp only [List.length_cons] at hs
    by_cases h : c = 45
    · have hx : strings_CutPrefix (c :: r) ([45] : List UInt8) = (r, true) := by subst h; simp [strings_CutPrefix]
      rw [if_pos h, hx]
      exact wT hK r true (by omega)
    · have hb : ((45 : UInt8) == c) = false := by simp only [beq_eq_false_iff_ne]; exact fun e => h e.symm
      have hp : ([45] : List UInt8).isPrefixOf (c :: r) = false := by simp only [List.isPrefixOf, hb, Bool.false_and]
      have hx : strings_CutPrefix (c :: r) ([45] : List UInt8) = (c :: r, false) := by unfold strings_CutPrefix; rw [hp]; rfl
      rw [if_neg h, hx]
      exact wT hK (c :: r) false (by simp; omega)
theorem ten19 {n : Nat} (h : n ≤ 9223372036854775808) : n < 10 ^ (18 + 1) := Nat.lt_of_le_of_lt h (by decide)
theorem canon {t : List UInt8} (hd : ∀ c ∈ t, isD c) (hv : val t ≤ 9223372036854775808) : digs (val t) = t ↔ ¬ (t = [] ∨ (1 < t.length ∧ (t.getD 0 0).toNat = 48)) := by
  constructor
  · intro h
    rintro (h1 | ⟨h1, h2⟩)
    · rw [h1] at h; exact digs_ne _ h
    · by_cases h0 : 0 < val t
      · cases t with
        | nil => simp at h1
        | cons c r => exact digs_head 18 _ (ten19 hv) h0 c r h h2
      · have : val t = 0 := by omega
        rw [this, digs_small (by omega)] at h
        rw [← h] at h1; simp at h1
  · intro h
    refine digs_val t.length t rfl hd (fun e => h (.inl e)) fun h1 c r e h2 => h (.inr ⟨h1, ?_⟩)
    rw [e]; exact h2
end Go.Proofs.Ythcmiohbidencaa.SheetBack
