/- The plain law of words: the word of any text, and the words of a line. No machine in it. -/
import Derived.Test.YtgbjponaoeiglaaDoorWordsBaresPure
import Derived.Test.YtgbjponaoeiglaaDoorELaw
set_option linter.unusedVariables false
set_option linter.unusedSimpArgs false
set_option maxRecDepth 20000
namespace Go.Proofs.YtgbjponaoeiglaaDoor.WordsBares
open Go E
abbrev W : Nat := 200000
theorem up1 {i : Nat} (h : i < 100000) : w64 ((i : Int) + 1) = ((i + 1 : Nat) : Int) := by rw [w64_id (by omega)]; omega
theorem up2 {i : Nat} (h : i < 100000) : w64 ((i : Int) + 2) = ((i + 2 : Nat) : Int) := by rw [w64_id (by omega)]; omega
theorem getD_at {α : Type} (l : List α) (n : Nat) (h : n < l.length) (z : α) : l.getD n z = l[n] := by simp [List.getD_eq_getElem?_getD, List.getElem?_eq_getElem h]
theorem wu8_id {n : Int} (h : 0 ≤ n ∧ n ≤ 255) : wu8 n = n := by
  have : wu8 n = n % 256 := by simp [wu8, IntKind.wrap, IntKind.signed, IntKind.bits]
  rw [this]; omega
theorem byts_app (a b : List UInt8) : byts (a ++ b) = byts a ++ byts b := by simp [byts]
theorem byts_len (a : List UInt8) : (byts a).length = a.length := by simp [byts]
theorem byts_get (a : List UInt8) (i : Nat) (h : i < a.length) : (byts a).getD i 0 = (a[i].toNat : Int) := by
  rw [getD_at _ _ (by rw [byts_len]; exact h)]; simp [byts]
theorem strs_byts (a : List UInt8) : strs (byts a) = a := by
  unfold strs byts
  rw [List.map_map]
  conv => rhs; rw [← List.map_id a]
  apply List.map_congr_left
  intro x _
  simp
theorem byts_range (a : List UInt8) : ((byts a).all fun n => decide (0 ≤ n ∧ n ≤ 255)) = true := by
  rw [List.all_eq_true]
  intro x hx
  simp only [byts, List.mem_map] at hx
  obtain ⟨c, _, rfl⟩ := hx
  have := c.toNat_lt
  simp only [decide_eq_true_eq]
  omega
/-! ### Bytes, all of them -/
theorem byte_all {p : Nat → Bool} (h : (List.range 256).all p = true) (c : UInt8) : p c.toNat = true := List.all_eq_true.1 h _ (List.mem_range.2 c.toNat_lt)
def pl (c : UInt8) : Bool := words_plain (c.toNat : Int)
theorem pl_ref (c : UInt8) : ossuaryref34_plain (c.toNat : Int) = pl c := by
  have := byte_all (p := fun n => ossuaryref34_plain (n : Int) == words_plain (n : Int)) (by decide +kernel) c
  exact eq_of_beq this
def hx (n : Nat) : UInt8 := ([48, 49, 50, 51, 52, 53, 54, 55, 56, 57, 97, 98, 99, 100, 101, 102] : List UInt8).getD n 0
def qb (c : UInt8) : List UInt8 := if pl c = true then [c] else [37, hx (c.toNat / 16), hx (c.toNat % 16)]
def Q (s : List UInt8) : List UInt8 := s.flatMap qb
theorem qb_len (c : UInt8) : (qb c).length ≤ 3 := by unfold qb; split <;> simp
theorem Q_len (s : List UInt8) : (Q s).length ≤ 3 * s.length := by
  induction s with
  | nil => simp [Q]
  | cons c s ih =>
    have := qb_len c
    have e : Q (c :: s) = qb c ++ Q s := rfl
    rw [e, List.length_append, List.length_cons]; omega
theorem shr4 (c : UInt8) : bShr .u8 (c.toNat : Int) 4 = ((c.toNat / 16 : Nat) : Int) := by
  have := byte_all (p := fun n => bShr .u8 (n : Int) 4 == ((n / 16 : Nat) : Int)) (by decide +kernel) c
  exact eq_of_beq this
theorem and15 (c : UInt8) : bAnd .u8 (c.toNat : Int) 15 = ((c.toNat % 16 : Nat) : Int) := by
  have := byte_all (p := fun n => bAnd .u8 (n : Int) 15 == ((n % 16 : Nat) : Int)) (by decide +kernel) c
  exact eq_of_beq this
/-! ### Quote -/
theorem wO {t : List UInt8} (ht : t.length ≤ 100000) (c : UInt8) : strings_Builder_WriteByte_O (byts t) (c.toNat : Int) = some (byts (t ++ [c])) := by
  unfold strings_Builder_WriteByte_O
  simp only [thn_eq]
  rw [if_pos (by rw [byts_len]; simp; omega), byts_app]; rfl
theorem wZ {t : List UInt8} (ht : t.length ≤ 100000) (c : UInt8) : strings_Builder_WriteByte_ZO (byts t) (c.toNat : Int) = some (byts (t ++ [c])) := by
  unfold strings_Builder_WriteByte_ZO
  simp only [thn_eq]
  rw [if_pos (by rw [byts_len]; simp; omega), byts_app]; rfl
theorem sO {t : List UInt8} (ht : 0 < t.length) : strings_Builder_String_O (byts t) = some t := by
  unfold strings_Builder_String_O
  rw [if_pos (by rw [byts_len]; exact ht), if_pos (byts_range t), strs_byts]
theorem w37 : (37 : Int) = ((37 : UInt8).toNat : Int) := rfl
theorem quote0 (s : List UInt8) (hs : s.length ≤ 600) : ∀ (f i : Nat) (q : Bool) (out : List UInt8), i ≤ s.length → s.length - i < f → out.length ≤ 3 * i → (i < s.length ∨ (q = true ∧ 0 < out.length)) →
    words_Quote_l0 W s f i q (byts out) (byts s) = some (out ++ Q (s.drop i))
  | 0, i, q, out, h0, h1, h2, h3 => by omega
  | f + 1, i, q, out, h0, h1, h2, h3 => by
    rw [words_Quote_l0]
    by_cases h : i < s.length
    · have hl := byts_len s
      have e1 : s.drop i = s[i] :: s.drop (i + 1) := List.drop_eq_getElem_cons h
      have hq : Q (s.drop i) = qb s[i] ++ Q (s.drop (i + 1)) := by rw [e1]; rfl
      have h16 : s[i].toNat / 16 < 16 := by have := s[i].toNat_lt; omega
      have h15 : s[i].toNat % 16 < 16 := by omega
      have hx1 : ((([48, 49, 50, 51, 52, 53, 54, 55, 56, 57, 97, 98, 99, 100, 101, 102] : List UInt8).getD (((s[i].toNat / 16 : Nat) : Int)).toNat 0).toNat : Int) = ((hx (s[i].toNat / 16)).toNat : Int) := by rw [Int.toNat_natCast]; rfl
      have hx2 : ((([48, 49, 50, 51, 52, 53, 54, 55, 56, 57, 97, 98, 99, 100, 101, 102] : List UInt8).getD (((s[i].toNat % 16 : Nat) : Int)).toNat 0).toNat : Int) = ((hx (s[i].toNat % 16)).toNat : Int) := by rw [Int.toNat_natCast]; rfl
      have hb := qb_len s[i]
      have fin : ∀ x : List UInt8, x = out ++ qb s[i] → words_Quote_l0 W s f (w64 ((i : Int) + 1)) true (byts x) (byts s) = some (out ++ Q (s.drop i)) := by
        intro x hx
        rw [up1 (by omega), quote0 s hs f (i + 1) true x (by omega) (by omega) (by rw [hx, List.length_append]; omega) (.inr ⟨rfl, by
          rw [hx, List.length_append]
          have : 0 < (qb s[i]).length := by unfold qb; split <;> simp
          omega⟩), hq, hx, List.append_assoc]
      rw [if_pos (by omega), if_pos (by omega), if_pos (by omega), Int.toNat_natCast, byts_get s i h]
      simp only [thn_eq, shr4, and15, hx1, hx2]
      by_cases hp : pl s[i] = true
      · have hp' : words_plain (s[i].toNat : Int) = true := hp
        have hqb : qb s[i] = [s[i]] := by unfold qb; rw [if_pos hp]
        rw [if_pos hp']
        cases q with
        | true =>
          rw [if_pos rfl, wO (by omega)]
          simp only [Option.bind_some]
          exact fin _ (by rw [hqb])
        | false =>
          rw [if_neg (by simp), wZ (by omega)]
          simp only [Option.bind_some]
          exact fin _ (by rw [hqb])
      · have hp' : ¬ words_plain (s[i].toNat : Int) = true := hp
        have hqb : qb s[i] = [37, hx (s[i].toNat / 16), hx (s[i].toNat % 16)] := by unfold qb; rw [if_neg hp]
        rw [if_neg hp', w37]
        have l16 : (([48, 49, 50, 51, 52, 53, 54, 55, 56, 57, 97, 98, 99, 100, 101, 102] : List UInt8).length : Int) = 16 := rfl
        cases q with
        | true =>
          rw [if_pos rfl, wO (by omega)]
          simp only [Option.bind_some]
          rw [if_pos (by omega), if_pos (by rw [l16]; omega), wO (by simp; omega)]
          simp only [Option.bind_some]
          rw [if_pos (by omega), if_pos (by rw [l16]; omega), wO (by simp; omega)]
          simp only [Option.bind_some]
          exact fin _ (by rw [hqb]; simp)
        | false =>
          rw [if_neg (by simp), wZ (by omega)]
          simp only [Option.bind_some]
          rw [if_pos (by omega), if_pos (by rw [l16]; omega), wO (by simp; omega)]
          simp only [Option.bind_some]
          rw [if_pos (by omega), if_pos (by rw [l16]; omega), wO (by simp; omega)]
          simp only [Option.bind_some]
          exact fin _ (by rw [hqb]; simp)
    · obtain ⟨rfl, ho⟩ := h3.resolve_left h
      have hl := byts_len s
      rw [if_neg (by omega), if_pos rfl, sO ho, List.drop_eq_nil_of_le (by omega)]
      simp [Q]
/-- The word of any text. -/
def word (s : List UInt8) : List UInt8 := if s = [] then [45] else Q s
theorem quote_eq (s : List UInt8) (hs : s.length ≤ 600) : words_Quote W s = some (word s) := by
  unfold words_Quote word
  by_cases h : s = []
  · rw [if_pos h, if_pos h]
  · have hl : 0 < s.length := by cases s with | nil => exact absurd rfl h | cons _ _ => simp
    rw [if_neg h, if_neg h, if_pos (by omega)]
    have e := quote0 s hs W 0 false [] (by omega) (by unfold W; omega) (by simp) (.inl hl)
    exact e
theorem ten (c : UInt8) : wu8 (Int.tdiv (c.toNat : Int) 16) = ((c.toNat / 16 : Nat) : Int) ∧ Int.tmod (c.toNat : Int) 16 = ((c.toNat % 16 : Nat) : Int) := by
  have := byte_all (p := fun n => wu8 (Int.tdiv (n : Int) 16) == ((n / 16 : Nat) : Int) && Int.tmod (n : Int) 16 == ((n % 16 : Nat) : Int)) (by decide +kernel) c
  rw [Bool.and_eq_true] at this
  exact ⟨eq_of_beq this.1, eq_of_beq this.2⟩
theorem hxs {n : Nat} (h : n < 16) : ((([48, 49, 50, 51, 52, 53, 54, 55, 56, 57, 97, 98, 99, 100, 101, 102] : List UInt8).drop ((n : Int)).toNat).take ((wu8 ((n : Int) + 1)).toNat - ((n : Int)).toNat)) = [hx n] ∧ (n : Int) ≤ wu8 ((n : Int) + 1) ∧ wu8 ((n : Int) + 1) ≤ 16 := by
  have e : wu8 ((n : Int) + 1) = ((n + 1 : Nat) : Int) := by rw [wu8_id (by omega)]; omega
  rw [e]
  refine ⟨?_, by omega, by omega⟩
  rw [Int.toNat_natCast, Int.toNat_natCast, show n + 1 - n = 1 by omega]
  have hl : n < ([48, 49, 50, 51, 52, 53, 54, 55, 56, 57, 97, 98, 99, 100, 101, 102] : List UInt8).length := h
  rw [List.drop_eq_getElem_cons hl]
  unfold hx
  rw [getD_at _ _ hl]
  rfl
theorem rquote0 (s : List UInt8) (hs : s.length ≤ 600) : ∀ (f i : Nat) (out : List UInt8), i ≤ s.length → s.length - i < f → out.length ≤ 3 * i → ossuaryref34_Quote_l0 W s f out i = some (out ++ Q (s.drop i))
  | 0, i, out, h0, h1, h2 => by omega
  | f + 1, i, out, h0, h1, h2 => by
    rw [ossuaryref34_Quote_l0]
    by_cases h : i < s.length
    · have e1 : s.drop i = s[i] :: s.drop (i + 1) := List.drop_eq_getElem_cons h
      have hq : Q (s.drop i) = qb s[i] ++ Q (s.drop (i + 1)) := by rw [e1]; rfl
      have h16 : s[i].toNat / 16 < 16 := by have := s[i].toNat_lt; omega
      have h15 : s[i].toNat % 16 < 16 := by omega
      have hb := qb_len s[i]
      have fin : ∀ x : List UInt8, x = out ++ qb s[i] → ossuaryref34_Quote_l0 W s f x (w64 ((i : Int) + 1)) = some (out ++ Q (s.drop i)) := by
        intro x hx
        rw [up1 (by omega), rquote0 s hs f (i + 1) x (by omega) (by omega) (by rw [hx, List.length_append]; omega), hq, hx, List.append_assoc]
      have l16 : (([48, 49, 50, 51, 52, 53, 54, 55, 56, 57, 97, 98, 99, 100, 101, 102] : List UInt8).length : Int) = 16 := rfl
      rw [if_pos (by omega), if_pos (by omega)]
      simp only [Int.toNat_natCast, getD_at s i h, thn_eq, pl_ref, (ten s[i]).1, (ten s[i]).2]
      by_cases hp : pl s[i] = true
      · have hqb : qb s[i] = [s[i]] := by unfold qb; rw [if_pos hp]
        have hpc : (s.drop i).take ((w64 ((i : Int) + 1)).toNat - i) = [s[i]] := by
          rw [up1 (by omega), Int.toNat_natCast, show i + 1 - i = 1 by omega, e1]; rfl
        rw [if_pos hp, if_pos (by rw [up1 (by omega)]; omega), if_pos (by rw [up1 (by omega)]; omega), hpc, if_pos (by simp; omega)]
        exact fin _ (by rw [hqb])
      · have hqb : qb s[i] = [37, hx (s[i].toNat / 16), hx (s[i].toNat % 16)] := by unfold qb; rw [if_neg hp]
        obtain ⟨a1, a2, a3⟩ := hxs h16
        obtain ⟨b1, b2, b3⟩ := hxs h15
        rw [Int.toNat_natCast] at a1 b1
        rw [if_neg hp, if_pos (by simp; omega), if_pos (by omega), if_pos a2, if_pos (by rw [l16]; exact a3), a1, if_pos (by simp; omega), if_pos (by omega), if_pos b2, if_pos (by rw [l16]; exact b3), b1, if_pos (by simp; omega)]
        exact fin _ (by rw [hqb]; simp)
    · rw [if_neg (by omega), List.drop_eq_nil_of_le (by omega)]
      simp [Q]
theorem rquote_eq (s : List UInt8) (hs : s.length ≤ 600) : ossuaryref34_Quote W s = some (word s) := by
  unfold ossuaryref34_Quote word
  by_cases h : s = []
  · rw [if_pos h, if_pos h]
  · rw [if_neg h, if_neg h]
    have e := rquote0 s hs W 0 [] (by omega) (by unfold W; omega) (by simp)
    exact e
/-! ### Split -/
def add1 (b : UInt8) (l : List (List UInt8)) : List (List UInt8) := match l with | [] => [[b]] | p :: ps => (b :: p) :: ps
theorem splitOn_ne (c : UInt8) : ∀ l, splitOn c l ≠ []
  | [] => by simp [splitOn]
  | b :: l => by
    unfold splitOn
    split
    · simp
    · split <;> simp
/-- The last piece is longer by s. -/
theorem rsplit0 (s : List UInt8) (hs : s.length ≤ 600) : ∀ (f i : Nat) (l : List (List UInt8)) (p : List UInt8), i ≤ s.length → s.length - i < f → l.length ≤ i → p.length ≤ i →
    ossuaryref34_Split_l0 W s f i (l ++ [p]) = some (l ++ (match splitOn 32 (s.drop i) with | [] => [p] | x :: xs => (p ++ x) :: xs))
  | 0, i, l, p, h0, h1, h2, h3 => by omega
  | f + 1, i, l, p, h0, h1, h2, h3 => by
    rw [ossuaryref34_Split_l0]
    by_cases h : i < s.length
    · have e1 : s.drop i = s[i] :: s.drop (i + 1) := List.drop_eq_getElem_cons h
      rw [if_pos (by omega), if_pos (by omega), up1 (by omega)]
      simp only [Int.toNat_natCast, getD_at s i h]
      rw [e1]
      by_cases hc : s[i] = 32
      · have hc' : (s[i].toNat : Int) = 32 := by rw [hc]; rfl
        rw [if_pos hc', if_pos (by simp; omega), List.append_assoc, show [p] ++ [([] : List UInt8)] = [p] ++ [[]] from rfl]
        have ih := rsplit0 s hs f (i + 1) (l ++ [p]) [] (by omega) (by omega) (by simp; omega) (by simp)
        rw [List.append_assoc] at ih
        rw [ih]
        simp only [splitOn, hc, if_true]
        cases hx : splitOn 32 (s.drop (i + 1)) with
        | nil => exact absurd hx (splitOn_ne _ _)
        | cons x xs => simp
      · have hc' : ¬ (s[i].toNat : Int) = 32 := fun e => hc (UInt8.toNat_inj.1 (show s[i].toNat = 32 by omega))
        have hw : w64 (((l ++ [p]).length : Int) - 1) = (l.length : Int) := by rw [w64_id (by simp; omega)]; simp
        have hg : (l ++ [p]).getD l.length [] = p := by simp [List.getD_eq_getElem?_getD]
        have hpc : (s[i] :: s.drop (i + 1)).take (i + 1 - i) = [s[i]] := by rw [show i + 1 - i = 1 by omega]; rfl
        rw [if_neg hc', hw, if_pos (by omega), if_pos (by simp; omega), if_pos (by omega), if_pos (by omega)]
        simp only [Int.toNat_natCast]
        rw [hg, hpc, if_pos (by simp; omega), List.set_append_right _ _ (Nat.le_refl _), Nat.sub_self, List.set_cons_zero]
        rw [rsplit0 s hs f (i + 1) l (p ++ [s[i]]) (by omega) (by omega) (by omega) (by simp; omega)]
        simp only [splitOn, if_neg hc]
        cases hx : splitOn 32 (s.drop (i + 1)) with
        | nil => exact absurd hx (splitOn_ne _ _)
        | cons x xs => simp
    · rw [if_neg (by omega), List.drop_eq_nil_of_le (by omega)]
      simp [splitOn]
def words (s : List UInt8) : List (List UInt8) := if s = [] then [] else splitOn 32 s
theorem rsplit_eq (s : List UInt8) (hs : s.length ≤ 600) : ossuaryref34_Split W s = some (words s) := by
  unfold ossuaryref34_Split words
  by_cases h : s = []
  · rw [if_pos h, if_pos h]
  · rw [if_neg h, if_neg h]
    have e := rsplit0 s hs W 0 [] [] (by omega) (by unfold W; omega) (by simp) (by simp)
    have e0 : ((0 : Nat) : Int) = 0 := rfl
    rw [e0] at e
    rw [show ([([] : List UInt8)] : List (List UInt8)) = [] ++ [[]] from rfl, e]
    have := splitOn_ne 32 (s.drop 0)
    rw [List.drop_zero] at this ⊢
    cases hx : splitOn 32 s with
    | nil => exact absurd hx this
    | cons x xs => simp
theorem split_eq (s : List UInt8) (hs : s.length ≤ 600) : words_Split s = some (words s) := by
  unfold words_Split words
  by_cases h : s = []
  · rw [if_pos h, if_pos h]
  · rw [if_neg h, if_neg h]
    unfold strings_Split
    simp only
    rw [if_pos (by omega)]; rfl
theorem splitOn_len (c : UInt8) : ∀ s : List UInt8, (splitOn c s).length ≤ s.length + 1
  | [] => by simp [splitOn]
  | b :: l => by
    have := splitOn_len c l
    unfold splitOn
    split
    · simp; omega
    · split <;> simp_all <;> omega
theorem same0 (l : List (List UInt8)) (hl : l.length ≤ 1000) : ∀ (f i : Nat), i ≤ l.length → l.length - i < f → ossuaryref10_Same_RR_l0 W l l f i = some true
  | 0, i, h0, h1 => by omega
  | f + 1, i, h0, h1 => by
    rw [ossuaryref10_Same_RR_l0]
    by_cases h : i < l.length
    · rw [if_pos (by omega), if_pos (by omega), if_pos (by omega), if_neg (by simp), up1 (by omega)]
      exact same0 l hl f (i + 1) (by omega) (by omega)
    · rw [if_neg (by omega)]
theorem same_eq (l : List (List UInt8)) (hl : l.length ≤ 1000) : ossuaryref10_Same_RR W l l = some true := by
  unfold ossuaryref10_Same_RR
  rw [if_neg (by simp)]
  exact same0 l hl W 0 (by omega) (by unfold W; omega)
end Go.Proofs.YtgbjponaoeiglaaDoor.WordsBares
