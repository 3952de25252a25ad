/- The plain law of FactBack: a batch that is right is read as it was, and what is read has just those bytes. -/
import Derived.Test.YtmhhjhckbiaidaaFactBackPure
import Derived.Test.YtmhhjhckbiaidaaELaw
import Derived.KernelRfl
set_option linter.unusedVariables false
set_option linter.unusedSimpArgs false
namespace Go.Proofs.Ytmhhjhckbiaidaa.FactBack
open Go E

theorem light1 (l : List Api_Fact) (i : Nat) : ∀ (k j : Nat), j ≤ 4 → 4 < j + k → ∃ x, ossuarylaw09_Light_l1 300 l i k j = some x
  | 0, j, h1, h2 => by omega
  | k + 1, j, h1, h2 => by
    rw [ossuarylaw09_Light_l1]
    by_cases h : j < 4
    · have hn : w64 ((j : Int) + 1) = ((j + 1 : Nat) : Int) := by rw [w64_id (by omega)]; omega
      obtain ⟨x, hx⟩ := light1 l i k (j + 1) (by omega) (by omega)
      rw [if_pos (by omega), if_pos (by omega), if_pos (by omega), if_pos (by omega), hn, hx]
      split <;> exact ⟨_, rfl⟩
    · rw [if_neg (by omega)]; exact ⟨_, rfl⟩
theorem light0 (l : List Api_Fact) (hl : l.length ≤ 100) : ∀ (k i : Nat), i ≤ l.length → l.length < i + k → ∃ x, ossuarylaw09_Light_l0 300 l k i = some x
  | 0, i, h1, h2 => by omega
  | k + 1, i, h1, h2 => by
    rw [ossuarylaw09_Light_l0]
    by_cases h : i < l.length
    · have hn : w64 ((i : Int) + 1) = ((i + 1 : Nat) : Int) := by rw [w64_id (by omega)]; omega
      obtain ⟨x, hx⟩ := light0 l hl k (i + 1) (by omega) (by omega)
      obtain ⟨z, hz⟩ := light1 l i 300 0 (by omega) (by omega)
      have hz' : ossuarylaw09_Light_l1 300 l i 300 0 = some z := hz
      rw [if_pos (by omega), hz', hn]
      cases z with
      | inl u => simp only [Option.bind_some, cas]; exact ⟨x, hx⟩
      | inr b => simp only [Option.bind_some, cas]; exact ⟨b, rfl⟩
    · rw [if_neg (by omega)]; exact ⟨_, rfl⟩
theorem light (l : List Api_Fact) : ∃ b, ossuarylaw09_Light 300 l = some b ∧ (b = true → l.length ≤ 100) := by
  unfold ossuarylaw09_Light
  by_cases h : 100 < (l.length : Int)
  · rw [if_pos h]; exact ⟨false, rfl, fun h => by cases h⟩
  · rw [if_neg h]
    obtain ⟨b, hb⟩ := light0 l (by omega) 300 0 (by omega) (by omega)
    exact ⟨b, hb, fun _ => by omega⟩

def short (f : Api_Fact) : Prop := f.Key.Dims_0.length ≤ 40 ∧ f.Key.Dims_1.length ≤ 40 ∧ f.Key.Dims_2.length ≤ 40 ∧ f.Key.Dims_3.length ≤ 40
theorem getD_at {α : Type} (l : List α) (n : Nat) (h : n < l.length) (z : α) : l.getD n z = l[n] := by simp [List.getD_eq_getElem?_getD, List.getElem?_eq_getElem h]
theorem w_step {i : Nat} (h : i < 1000000) : w64 ((i : Int) + 1) = ((i + 1 : Nat) : Int) := by rw [w64_id (by omega)]; omega
def dims (f : Api_Fact) : List (List UInt8) := [f.Key.Dims_0, f.Key.Dims_1, f.Key.Dims_2, f.Key.Dims_3]
theorem l1_step (l : List Api_Fact) (i j k : Nat) (hj : j < 4) : ossuarylaw09_Light_l1 300 l i (k + 1) j = if 40 < (((dims (l.getD i z_Api_Fact)).getD j []).length : Int) then some (Sum.inr false) else ossuarylaw09_Light_l1 300 l i k ((j + 1 : Nat) : Int) := by
  rw [ossuarylaw09_Light_l1, if_pos (by omega), if_pos (by omega), if_pos (by omega), if_pos (by omega), w_step (by omega), Int.toNat_natCast, Int.toNat_natCast]
  rfl
theorem l1_end (l : List Api_Fact) (i k : Nat) : ossuarylaw09_Light_l1 300 l i (k + 1) ((4 : Nat) : Int) = some (Sum.inl ()) := by
  rw [ossuarylaw09_Light_l1, if_neg (by omega)]
theorem light1_le (l : List Api_Fact) (i : Nat) : ∀ (k j : Nat), j ≤ 4 → ossuarylaw09_Light_l1 300 l i k j = some (Sum.inl ()) → ∀ q, j ≤ q → q < 4 → ((dims (l.getD i z_Api_Fact)).getD q []).length ≤ 40
  | 0, j, _, h, _, _, _ => by simp [ossuarylaw09_Light_l1] at h
  | k + 1, j, hj, h, q, h1, h2 => by
    rw [l1_step l i j k (by omega)] at h
    split at h
    · simp at h
    · rename_i hn
      by_cases e : q = j
      · subst e; omega
      · exact light1_le l i k (j + 1) (by omega) h q (by omega) h2
theorem light1_inr (l : List Api_Fact) (i : Nat) : ∀ (k j : Nat) (b : Bool), j ≤ 4 → ossuarylaw09_Light_l1 300 l i k j = some (Sum.inr b) → b = false
  | 0, j, b, _, h => by simp [ossuarylaw09_Light_l1] at h
  | k + 1, j, b, hj, h => by
    by_cases e : j = 4
    · subst e; rw [l1_end] at h; simp at h
    · rw [l1_step l i j k (by omega)] at h
      split at h
      · simp at h; exact h
      · exact light1_inr l i k (j + 1) b (by omega) h
theorem light0_short (l : List Api_Fact) (hl : l.length ≤ 100) : ∀ (k i : Nat), l.length < i + k → ossuarylaw09_Light_l0 300 l k i = some true → ∀ j, i ≤ j → j < l.length → short (l.getD j z_Api_Fact)
  | 0, i, h1, h2, j, h3, h4 => by omega
  | k + 1, i, h1, h2, j, h3, h4 => by
    rw [ossuarylaw09_Light_l0, if_pos (by omega), w_step (by omega)] at h2
    cases hz : ossuarylaw09_Light_l1 300 l i 300 ((0 : Nat) : Int) with
    | none => rw [show ossuarylaw09_Light_l1 300 l i 300 0 = none from hz] at h2; cases h2
    | some z =>
      rw [show ossuarylaw09_Light_l1 300 l i 300 0 = some z from hz] at h2
      cases z with
      | inr b =>
        have := light1_inr l i 300 0 b (by omega) hz
        subst this
        simp [cas] at h2
      | inl u =>
        simp only [Option.bind_some, cas] at h2
        by_cases e : j = i
        · subst e
          have := light1_le l j 300 0 (by omega) hz
          exact ⟨this 0 (by omega) (by omega), this 1 (by omega) (by omega), this 2 (by omega) (by omega), this 3 (by omega) (by omega)⟩
        · exact light0_short l hl k (i + 1) (by omega) h2 j (by omega) h4
theorem light_short (l : List Api_Fact) (h : ossuarylaw09_Light 300 l = some true) : l.length ≤ 100 ∧ ∀ f ∈ l, short f := by
  unfold ossuarylaw09_Light at h
  split at h
  · simp at h
  · have hl : l.length ≤ 100 := by omega
    refine ⟨hl, fun f hf => ?_⟩
    obtain ⟨j, hj, rfl⟩ := List.getElem_of_mem hf
    have := light0_short l hl 300 0 (by omega) h j (by omega) hj
    simpa [List.getD_eq_getElem?_getD, hj] using this

def num : Nat → Nat → List Int
  | 0, n => [(n : Int)]
  | m + 1, n => if 128 ≤ n then ((n % 128 + 128 : Nat) : Int) :: num m (n / 128) else [(n : Int)]
theorem num_len : ∀ m n, (num m n).length ≤ m + 1
  | 0, n => by simp [num]
  | m + 1, n => by
    rw [num]; split
    · have := num_len m (n / 128); simp; omega
    · simp
theorem or128 (n : Nat) : bOr .u8 (wu8 n) 128 = ((n % 128 + 128 : Nat) : Int) := by
  have key : ∀ x : Fin 256, bOr .u8 (x.val : Int) 128 = ((x.val % 128 + 128 : Nat) : Int) := by decide +kernel
  have e : wu8 (n : Int) = ((n % 256 : Nat) : Int) := by simp [wu8, IntKind.wrap, IntKind.signed, IntKind.bits]
  rw [e, key ⟨n % 256, Nat.mod_lt _ (by decide)⟩]
  congr 2
  show n % 256 % 128 = n % 128
  omega
theorem shr7 (n : Nat) : bShr .u64 (n : Int) 7 = ((n / 128 : Nat) : Int) := by
  have e : (2 : Int) ^ min (7 : Int).toNat IntKind.u64.bits = 128 := by decide
  unfold bShr
  rw [e, Int.fdiv_eq_ediv_of_nonneg _ (by decide)]; rfl
theorem wu8_small {n : Nat} (h : n < 128) : wu8 (n : Int) = n := by
  simp [wu8, IntKind.wrap, IntKind.signed, IntKind.bits]; omega
theorem wnum (K : Nat) : ∀ (m n k : Nat) (l : List Int), n < 128 ^ (m + 1) → m < k → l.length + m + 1 ≤ 1000000 →
    (pack_Writer_Num_2_l0 K k n l).bind (fun x1 => if (x1.1.length + [wu8 x1.2].length) * 1 ≤ 140737488355328 then some (x1.1 ++ [wu8 x1.2]) else none) = some (l ++ num m n)
  | m, n, 0, l, h1, h2, h3 => by omega
  | 0, n, k + 1, l, h1, h2, h3 => by
    rw [pack_Writer_Num_2_l0, if_neg (by omega)]
    simp only [Option.bind_some, List.length_singleton]
    rw [if_pos (by omega), wu8_small (by omega), num]
  | m + 1, n, k + 1, l, h1, h2, h3 => by
    rw [pack_Writer_Num_2_l0, num]
    by_cases h : 128 ≤ n
    · rw [if_pos (by omega), if_pos h, if_pos (by simp; omega), or128, shr7]
      rw [wnum K m (n / 128) k _ (by rw [Nat.pow_succ] at h1; exact Nat.div_lt_of_lt_mul (by omega)) (by omega) (by simp; omega)]
      simp
    · rw [if_neg (by omega), if_neg h]
      simp only [Option.bind_some, List.length_singleton]
      rw [if_pos (by omega), wu8_small (by omega)]
theorem num0_eq (K : Nat) : ∀ (k : Nat) (n : Int) (l : List Int), pack_Writer_Num_l0 K k n l = pack_Writer_Num_2_l0 K k n l
  | 0, _, _ => rfl
  | k + 1, n, l => by rw [pack_Writer_Num_l0, pack_Writer_Num_2_l0, num0_eq K k]
theorem p64 : (18446744073709551616 : Nat) ≤ 128 ^ 10 := by decide
theorem num2 (n : Nat) (l : List Int) (h : n < 18446744073709551616) (hl : l.length ≤ 900000) : pack_Writer_Num_2 300 l n = some (l ++ num 9 n) :=
  wnum 300 9 n 300 l (Nat.lt_of_lt_of_le h p64) (by omega) (by omega)
theorem num1 (n : Nat) (h : n < 18446744073709551616) : pack_Writer_Num 300 n = some (num 9 n) := by
  have := wnum 300 9 n 300 [] (Nat.lt_of_lt_of_le h p64) (by omega) (by simp)
  unfold pack_Writer_Num
  rw [num0_eq]
  simpa using this
theorem wu64_nat (a : Int) : ∃ n : Nat, wu64 a = n ∧ n < 18446744073709551616 := by
  have := wu64_in a
  exact ⟨(wu64 a).toNat, by omega, by omega⟩
theorem xorU (a b : Nat) (ha : a < 18446744073709551616) (hb : b < 18446744073709551616) : bXor .u64 a b = ((a ^^^ b : Nat) : Int) := by
  have h := Nat.xor_lt_two_pow (n := 64) ha hb
  have e : BitVec.ofInt 64 (a : Int) = BitVec.ofNat 64 a := by simp
  have e' : BitVec.ofInt 64 (b : Int) = BitVec.ofNat 64 b := by simp
  show wu64 ((BitVec.ofInt 64 (a : Int) ^^^ BitVec.ofInt 64 (b : Int)).toNat : Int) = _
  rw [e, e', BitVec.toNat_xor, BitVec.toNat_ofNat, BitVec.toNat_ofNat, Nat.mod_eq_of_lt ha, Nat.mod_eq_of_lt hb, wu64_id (by omega)]
theorem xor_ones (a : Nat) (ha : a < 18446744073709551616) : a ^^^ 18446744073709551615 = 18446744073709551615 - a := by
  have h1 : (BitVec.ofNat 64 a ^^^ BitVec.allOnes 64).toNat = (~~~ BitVec.ofNat 64 a).toNat := by rw [BitVec.xor_allOnes]
  rw [BitVec.toNat_xor, BitVec.toNat_not, BitVec.toNat_ofNat, Nat.mod_eq_of_lt ha] at h1
  simpa using h1
/-- A number with a sign, as one without. -/
def zig (a : Int) : Nat := if 0 ≤ a then (2 * a).toNat else (-2 * a - 1).toNat
theorem zig_lt {a : Int} (h : inI .i64 a) : zig a < 18446744073709551616 := by
  have := in64 h; unfold zig; split <;> omega
theorem zig_eq {a : Int} (h : inI .i64 a) : bXor .u64 (wu64 (bShl .i64 a 1)) (wu64 (bShr .i64 a 63)) = zig a := by
  have h' := in64 h
  have e1 : bShl .i64 a 1 = w64 (a * 2) := by
    show w64 (a * 2 ^ min (1 : Int).toNat 64) = _
    rfl
  rw [e1, shr63 h']
  obtain ⟨n, hn, hlt⟩ := wu64_nat (w64 (a * 2))
  rw [hn]
  have hv : (n : Int) = (2 * a) % 18446744073709551616 := by
    rw [← hn, wu64_def, w64_def]; split <;> omega
  unfold zig
  by_cases ha : a < 0
  · rw [if_pos ha, if_neg (by omega), show wu64 (-1) = ((18446744073709551615 : Nat) : Int) by decide, xorU n _ hlt (by decide), xor_ones n hlt]
    omega
  · rw [if_neg ha, if_pos (by omega), show wu64 0 = ((0 : Nat) : Int) by decide, xorU n 0 hlt (by decide), Nat.xor_zero]
    omega
theorem wint {a : Int} (h : inI .i64 a) (l : List Int) (hl : l.length ≤ 900000) : pack_Writer_Int 300 l a = some (l ++ num 9 (zig a)) := by
  unfold pack_Writer_Int
  rw [zig_eq h, num2 _ l (zig_lt h) hl]; rfl
theorem byts_len (s : List UInt8) : (byts s).length = s.length := by simp [byts]
theorem wtext (s : List UInt8) (l : List Int) (hs : s.length ≤ 40) (hl : l.length ≤ 800000) : pack_Writer_Text 300 l s = some (l ++ (num 9 s.length ++ byts s)) := by
  unfold pack_Writer_Text
  rw [wu64_id (by omega), num2 _ l (by omega) (by omega)]
  have := num_len 9 s.length
  simp only [Option.bind_some]
  rw [if_pos (by simp; omega)]
  simp
def txt (s : List UInt8) : List Int := num 9 s.length ++ byts s
def fbytes (d : Nat) (f : Api_Fact) : List Int := num 9 (wu64 f.Key.Hour).toNat ++ ((dims f).take d).flatMap txt ++ num 9 (zig f.Value)
theorem txt_len {s : List UInt8} (h : s.length ≤ 40) : (txt s).length ≤ 50 := by
  have := num_len 9 s.length
  simp [txt, byts_len]; omega
theorem short_dims {f : Api_Fact} (h : short f) : ∀ s ∈ dims f, s.length ≤ 40 := by
  intro s hs
  simp [dims] at hs
  obtain ⟨h0, h1, h2, h3⟩ := h
  rcases hs with rfl | rfl | rfl | rfl <;> assumption
theorem flat_len {L : List (List UInt8)} (h : ∀ s ∈ L, s.length ≤ 40) : (L.flatMap txt).length ≤ L.length * 50 := by
  induction L with
  | nil => simp
  | cons s L ih =>
    have h1 := txt_len (h s (by simp))
    have h2 := ih (fun t ht => h t (by simp [ht]))
    simp only [List.flatMap_cons, List.length_append, List.length_cons]
    omega
theorem fbytes_len {f : Api_Fact} (h : short f) (d : Nat) : (fbytes d f).length ≤ 220 := by
  have h1 := num_len 9 (wu64 f.Key.Hour).toNat
  have h2 := num_len 9 (zig f.Value)
  have h3 := flat_len (L := (dims f).take d) (fun s hs => short_dims h s (List.mem_of_mem_take hs))
  have h4 : ((dims f).take d).length ≤ 4 := by simp [dims]; omega
  simp only [fbytes, List.length_append]
  omega
theorem enc1 (l0 : List Api_Fact) (d : Nat) (hd : d ≤ 4) (i : Nat) (hs : short (l0.getD i z_Api_Fact)) : ∀ (k j : Nat) (l : List Int), j ≤ d → d < j + k → l.length + (d - j) * 50 ≤ 700000 →
    fact_Encode_l1 300 l0 d i k j l = some (l ++ (((dims (l0.getD i z_Api_Fact)).take d).drop j).flatMap txt)
  | 0, j, l, h1, h2, h3 => by omega
  | k + 1, j, l, h1, h2, h3 => by
    rw [fact_Encode_l1]
    have el : ([((l0.getD (i : Int).toNat z_Api_Fact).Key).Dims_0, ((l0.getD (i : Int).toNat z_Api_Fact).Key).Dims_1, ((l0.getD (i : Int).toNat z_Api_Fact).Key).Dims_2, ((l0.getD (i : Int).toNat z_Api_Fact).Key).Dims_3] : List (List UInt8)) = dims (l0.getD i z_Api_Fact) := rfl
    rw [el, Int.toNat_natCast, Int.toNat_natCast]
    have hlen : ((dims (l0.getD i z_Api_Fact)).take d).length = d := by simp [dims]; omega
    rw [hlen]
    by_cases h : j < d
    · have hj : j < ((dims (l0.getD i z_Api_Fact)).take d).length := by omega
      have hm : ((dims (l0.getD i z_Api_Fact)).take d)[j] ∈ dims (l0.getD i z_Api_Fact) := List.mem_of_mem_take (List.getElem_mem hj)
      have hsh := short_dims hs _ hm
      have hg : ((dims (l0.getD i z_Api_Fact)).take d).getD j [] = ((dims (l0.getD i z_Api_Fact)).take d)[j] := getD_at _ _ hj _
      rw [if_pos (by omega), if_pos (by omega), hg, wtext _ l hsh (by omega), w_step (by omega)]
      have ht := txt_len hsh
      simp only [Option.bind_some]
      have := enc1 l0 d hd i hs k (j + 1) (l ++ txt ((dims (l0.getD i z_Api_Fact)).take d)[j]) (by omega) (by omega) (by simp only [List.length_append]; omega)
      rw [show l ++ (num 9 ((dims (l0.getD i z_Api_Fact)).take d)[j].length ++ byts ((dims (l0.getD i z_Api_Fact)).take d)[j]) = l ++ txt ((dims (l0.getD i z_Api_Fact)).take d)[j] from rfl, this]
      rw [List.drop_eq_getElem_cons hj]
      simp
    · rw [if_neg (by omega), List.drop_of_length_le (by omega)]
      simp
theorem clone_eq (l : List Int) (h : l.length ≤ 900000) : bytes_Clone l = some l := by
  unfold bytes_Clone
  by_cases h0 : 0 < l.length
  · rw [if_pos h0, if_pos (by simp; omega)]; simp
  · have : l = [] := List.eq_nil_of_length_eq_zero (by omega)
    subst this; rfl
def bytesOk (l : List Int) : Prop := ∀ c ∈ l, 0 ≤ c ∧ c ≤ 255
theorem bytesOk_cons {c : Int} {l : List Int} (h : bytesOk (c :: l)) : (0 ≤ c ∧ c ≤ 255) ∧ bytesOk l := ⟨h c (by simp), fun d hd => h d (by simp [hd])⟩
theorem bytesOk_drop {l : List Int} (h : bytesOk l) (n : Nat) : bytesOk (l.drop n) := fun d hd => h d (List.mem_of_mem_drop hd)
/-- The number that comes next, from group i on, j groups more; what is left; the fault. -/
def rdN : Nat → Nat → Nat → List Int → Nat × List Int × Int
  | 0, i, n, l => (0, l, 4)
  | j + 1, i, n, [] => (0, [], 3)
  | j + 1, i, n, c :: r =>
    if i = 9 ∧ 1 < c % 128 then (0, r, 4) else
    if c < 128 then (if c % 128 = 0 ∧ 0 < i then (0, r, 4) else (n + (c % 128).toNat * 2 ^ (7 * i), r, 0)) else
    rdN j (i + 1) (n + (c % 128).toNat * 2 ^ (7 * i)) r
theorem andNot128 {c : Int} (h : 0 ≤ c ∧ c ≤ 255) : bAndNot .u8 c 128 = c % 128 := by
  have key : ∀ x : Fin 256, bAndNot .u8 (x.val : Int) 128 = (x.val : Int) % 128 := by decide +kernel
  have := key ⟨c.toNat, by omega⟩
  simp only at this
  rw [Int.toNat_of_nonneg h.1] at this
  exact this
theorem pow7 (i : Nat) (h : i ≤ 9) : 2 ^ (7 * i) * 2 ≤ 18446744073709551616 := by
  have : ∀ x : Fin 10, 2 ^ (7 * x.val) * 2 ≤ 18446744073709551616 := by decide
  exact this ⟨i, by omega⟩
theorem pow7' (i : Nat) (h : i ≤ 8) : 2 ^ (7 * i) * 256 ≤ 18446744073709551616 := by
  have : ∀ x : Fin 9, 2 ^ (7 * x.val) * 256 ≤ 18446744073709551616 := by decide
  exact this ⟨i, by omega⟩
theorem orU (a b : Nat) (ha : a < 18446744073709551616) (hb : b < 18446744073709551616) : bOr .u64 a b = ((a ||| b : Nat) : Int) := by
  have h := Nat.or_lt_two_pow (n := 64) ha hb
  have e : BitVec.ofInt 64 (a : Int) = BitVec.ofNat 64 a := by simp
  have e' : BitVec.ofInt 64 (b : Int) = BitVec.ofNat 64 b := by simp
  show wu64 ((BitVec.ofInt 64 (a : Int) ||| BitVec.ofInt 64 (b : Int)).toNat : Int) = _
  rw [e, e', BitVec.toNat_or, BitVec.toNat_ofNat, BitVec.toNat_ofNat, Nat.mod_eq_of_lt ha, Nat.mod_eq_of_lt hb, wu64_id (by omega)]
/-- One group: both ways. -/
theorem group {n i : Nat} {d : Int} (hi : i ≤ 9) (hn : n < 2 ^ (7 * i)) (hd : 0 ≤ d ∧ d < 128) (h9 : i = 9 → d ≤ 1) :
    n + d.toNat * 2 ^ (7 * i) < 18446744073709551616 ∧ bOr .u64 n (bShl .u64 (wu64 d) (w64 (7 * i))) = ((n + d.toNat * 2 ^ (7 * i) : Nat) : Int) ∧ wu64 ((n : Int) + wu64 (d * (2 ^ (7 * i) : Nat))) = ((n + d.toNat * 2 ^ (7 * i) : Nat) : Int) := by
  have hlt : n + d.toNat * 2 ^ (7 * i) < 18446744073709551616 := by
    by_cases h : i = 9
    · have h1 := h9 h
      have h2 := pow7 i hi
      have h3 : d.toNat * 2 ^ (7 * i) ≤ 1 * 2 ^ (7 * i) := Nat.mul_le_mul_right _ (by omega)
      omega
    · have h2 := pow7' i (by omega)
      have h3 : d.toNat * 2 ^ (7 * i) ≤ 127 * 2 ^ (7 * i) := Nat.mul_le_mul_right _ (by omega)
      omega
  obtain ⟨q, rfl⟩ := Int.eq_ofNat_of_zero_le hd.1
  rw [Int.toNat_natCast] at hlt ⊢
  refine ⟨hlt, ?_, ?_⟩
  · have e1 : w64 (7 * (i : Int)) = ((7 * i : Nat) : Int) := by rw [w64_id (by omega)]; omega
    have e2 : bShl .u64 (wu64 (q : Int)) ((7 * i : Nat) : Int) = ((q * 2 ^ (7 * i) : Nat) : Int) := by
      rw [wu64_id (by omega)]
      show wu64 ((q : Int) * 2 ^ min ((7 * i : Nat) : Int).toNat 64) = _
      rw [Int.toNat_natCast, Nat.min_eq_left (by omega)]
      have : (q : Int) * 2 ^ (7 * i) = ((q * 2 ^ (7 * i) : Nat) : Int) := by rw [Int.natCast_mul, Int.natCast_pow]; rfl
      rw [this, wu64_id (by omega)]
    rw [e1, e2, orU n _ (by omega) (by omega)]
    congr 1
    rw [Nat.or_comm, Nat.mul_comm q, ← Nat.two_pow_add_eq_or_of_lt hn]
    omega
  · have : (q : Int) * ((2 ^ (7 * i) : Nat) : Int) = ((q * 2 ^ (7 * i) : Nat) : Int) := by rw [Int.natCast_mul]
    rw [this, wu64_id (by omega) (n := ((q * 2 ^ (7 * i) : Nat) : Int)), wu64_id (by omega)]
    omega
theorem next_lt {n i : Nat} {d : Int} (hn : n < 2 ^ (7 * i)) (hd : 0 ≤ d ∧ d < 128) : n + d.toNat * 2 ^ (7 * i) < 2 ^ (7 * (i + 1)) := by
  have h3 : d.toNat * 2 ^ (7 * i) ≤ 127 * 2 ^ (7 * i) := Nat.mul_le_mul_right _ (by omega)
  have e : 2 ^ (7 * (i + 1)) = 128 * 2 ^ (7 * i) := by rw [show 7 * (i + 1) = 7 + 7 * i by omega, Nat.pow_add]
  omega
def fin (z : Option (Sum (List Int × Int) (Int × List Int × Int))) : Option (Int × List Int × Int) := Option.bind z fun z => (cas z (fun v1 => (thn (pack_Reader_bad v1.1 v1.2) fun x4 => (some ((0, v1.1, x4))))) (fun t_ => (some (t_))))
theorem take1 {c : Int} {r : List Int} (h : r.length ≤ 100000) : pack_Reader_take_2 (c :: r) 0 1 = some (0, true, r, [c]) := by
  unfold pack_Reader_take_2
  have hl : ((c :: r).length : Int) = (r.length : Int) + 1 := by simp
  rw [if_neg (by simp), hl, wu64_id (by omega), if_neg (by omega), if_pos (by decide), if_pos (by omega)]
  rfl
theorem pstep (K k i n : Nat) (c : Int) (r : List Int) (hi : i < 10) (hc : 0 ≤ c ∧ c ≤ 255) (hr : r.length ≤ 100000) : pack_Reader_Num_2_l0 K (k + 1) n i (c :: r) 0 =
    if (i : Int) = 9 ∧ 1 < c % 128 then some (Sum.inl (r, 0)) else if c < 128 then (if c % 128 = 0 ∧ (0 : Int) < i then some (Sum.inl (r, 0)) else some (Sum.inr (bOr .u64 n (bShl .u64 (wu64 (c % 128)) (w64 (7 * (i : Int)))), r, 0))) else
      pack_Reader_Num_2_l0 K k (bOr .u64 n (bShl .u64 (wu64 (c % 128)) (w64 (7 * (i : Int))))) (w64 ((i : Int) + 1)) r 0 := by
  have hg : [c].getD (0 : Int).toNat 0 = c := rfl
  have h0 : (0 : Int) < (([c] : List Int).length : Int) := by simp
  have e7 : (0 : Int) ≤ w64 (7 * (i : Int)) := by rw [w64_id (by omega)]; omega
  rw [pack_Reader_Num_2_l0, if_pos (by omega), take1 hr]
  simp only [Option.bind_some, Bool.not_true, Bool.false_eq_true, if_false, hg, andNot128 hc, h0, if_true, thn_eq]
  by_cases h9 : (i : Int) = 9
  · have hi0 : (0 : Int) < i := by omega
    rw [if_pos h9]
    by_cases hb : 1 < c % 128
    · rw [if_pos hb, if_pos ⟨h9, hb⟩]; rfl
    · rw [if_neg hb, if_neg (fun h => hb (And.right h))]
      by_cases hcl : c < 128 <;> by_cases hz : c % 128 = 0 <;> simp only [hcl, hz, hi0, e7, hg, h0, if_true, if_false, and_true, cas_inl, cas_inr]
  · rw [if_neg h9, if_neg (fun h => h9 (And.left h))]
    by_cases hcl : c < 128 <;> by_cases hz : c % 128 = 0 <;> by_cases hi0 : (0 : Int) < i <;> simp only [hcl, hz, hi0, e7, hg, h0, if_true, if_false, and_true, and_false, and_self, false_and, cas_inl, cas_inr]
theorem pnum (K : Nat) : ∀ (j k i n : Nat) (l : List Int), i + j = 10 → j < k → (i ≤ 9 → n < 2 ^ (7 * i)) → bytesOk l → l.length ≤ 100000 →
    fin (pack_Reader_Num_2_l0 K k n i l 0) = some (((rdN j i n l).1 : Int), (rdN j i n l).2.1, (rdN j i n l).2.2)
  | j, 0, i, n, l, h1, h2, h3, h4, h5 => by omega
  | 0, k + 1, i, n, l, h1, h2, h3, h4, h5 => by
    rw [pack_Reader_Num_2_l0, if_neg (by omega)]
    rfl
  | j + 1, k + 1, i, n, l, h1, h2, h3, h4, h5 => by
    cases l with
    | nil =>
      rw [pack_Reader_Num_2_l0, if_pos (by omega)]; rfl
    | cons c r =>
      obtain ⟨hc, hr⟩ := bytesOk_cons h4
      have h5' : r.length ≤ 100000 := by simp at h5; omega
      have hd : 0 ≤ c % 128 ∧ c % 128 < 128 := by omega
      rw [pstep K k i n c r (by omega) hc h5', rdN]
      by_cases h9 : i = 9 ∧ 1 < c % 128
      · rw [if_pos ⟨by omega, h9.2⟩, if_pos h9]; rfl
      · obtain ⟨g1, g2, _⟩ := group (n := n) (i := i) (by omega) (h3 (by omega)) hd (fun h => by
          by_cases hx : c % 128 ≤ 1
          · exact hx
          · exact absurd ⟨h, by omega⟩ h9)
        rw [if_neg (fun h => h9 ⟨by omega, And.right h⟩), if_neg h9, g2, w_step (by omega)]
        by_cases hcl : c < 128
        · rw [if_pos hcl, if_pos hcl]
          by_cases hz : c % 128 = 0 ∧ (0 : Int) < i
          · rw [if_pos hz, if_pos ⟨hz.1, by omega⟩]; rfl
          · rw [if_neg hz, if_neg (fun h => hz ⟨And.left h, by omega⟩)]; rfl
        · rw [if_neg hcl, if_neg hcl]
          exact pnum K j k (i + 1) _ r (by omega) (by omega) (fun hi => next_lt (h3 (by omega)) hd) hr h5'
theorem rdN_ok : ∀ (j i n : Nat) (l : List Int), i + j = 10 → (i ≤ 9 → n < 2 ^ (7 * i)) → bytesOk l → (rdN j i n l).1 < 18446744073709551616 ∧ bytesOk (rdN j i n l).2.1 ∧ (rdN j i n l).2.1.length ≤ l.length
  | 0, i, n, l, h1, h2, h3 => ⟨by simp [rdN], h3, Nat.le_refl _⟩
  | j + 1, i, n, [], h1, h2, h3 => ⟨by simp [rdN], h3, Nat.le_refl _⟩
  | j + 1, i, n, c :: r, h1, h2, h3 => by
    obtain ⟨hc, hr⟩ := bytesOk_cons h3
    have hd : 0 ≤ c % 128 ∧ c % 128 < 128 := by omega
    rw [rdN]
    by_cases h9 : i = 9 ∧ 1 < c % 128
    · rw [if_pos h9]; exact ⟨by simp, hr, by simp⟩
    · obtain ⟨g1, _, _⟩ := group (n := n) (i := i) (by omega) (h2 (by omega)) hd (fun h => by
        by_cases hx : c % 128 ≤ 1
        · exact hx
        · exact absurd ⟨h, by omega⟩ h9)
      rw [if_neg h9]
      split
      · split
        · exact ⟨by simp, hr, by simp⟩
        · exact ⟨g1, hr, by simp⟩
      · obtain ⟨r1, r2, r3⟩ := rdN_ok j (i + 1) _ r (by omega) (fun hi => next_lt (h2 (by omega)) hd) hr
        exact ⟨r1, r2, by simp; omega⟩
/-- The next number, with the fault so far. -/
def rdn (l : List Int) (f : Int) : Nat × List Int × Int := if f = 0 then rdN 10 0 0 l else (0, l, f)
def good (l : List Int) : Prop := bytesOk l ∧ l.length ≤ 100000
theorem rd_ok {l : List Int} (f : Int) (h : good l) : (rdn l f).1 < 18446744073709551616 ∧ good (rdn l f).2.1 := by
  unfold rdn
  split
  · obtain ⟨a, b, c⟩ := rdN_ok 10 0 0 l rfl (fun _ => by decide) h.1
    exact ⟨a, b, by have := h.2; omega⟩
  · exact ⟨by simp, h⟩
theorem pnum2 {l : List Int} (f : Int) (h : good l) : pack_Reader_Num_2 300 l f = some (((rdn l f).1 : Int), (rdn l f).2.1, (rdn l f).2.2) := by
  unfold rdn
  by_cases hf : f = 0
  · subst hf
    rw [if_pos rfl]
    exact pnum 300 10 300 0 0 l rfl (by decide) (fun _ => by decide) h.1 (by have := h.2; omega)
  · rw [if_neg hf]
    show fin (pack_Reader_Num_2_l0 300 (299 + 1) 0 0 l f) = _
    rw [pack_Reader_Num_2_l0, if_pos (by decide)]
    unfold pack_Reader_take_2
    rw [if_pos hf]
    rfl
theorem pnum1_eq (K : Nat) : ∀ (k : Nat) (n i : Int) (l : List Int) (f : Int), pack_Reader_Num_l0 K k n i l f = pack_Reader_Num_2_l0 K k n i l f
  | 0, _, _, _, _ => rfl
  | k + 1, n, i, l, f => by
    rw [pack_Reader_Num_l0, pack_Reader_Num_2_l0]
    simp only [pnum1_eq K k]
theorem pnum1 {l : List Int} (f : Int) (h : good l) : pack_Reader_Num 300 l f = some (((rdn l f).1 : Int), (rdn l f).2.1, (rdn l f).2.2) := by
  rw [← pnum2 f h]
  unfold pack_Reader_Num pack_Reader_Num_2
  rw [pnum1_eq]
/-- A number that may be so much at most. -/
def wn (most : Nat) (l : List Int) (f : Int) : Nat × List Int × Int := if most < (rdn l f).1 then (0, (rdn l f).2.1, if (rdn l f).2.2 = 0 then 4 else (rdn l f).2.2) else rdn l f
theorem wn_ok {l : List Int} (m : Nat) (f : Int) (h : good l) : (wn m l f).1 < 18446744073709551616 ∧ (wn m l f).1 ≤ m ∧ good (wn m l f).2.1 := by
  have := rd_ok f h
  unfold wn
  split
  · exact ⟨by simp, by simp, this.2⟩
  · exact ⟨this.1, by omega, this.2⟩
theorem mx_nat (m : Nat) (h : m ≤ 1000) : wu64 (mx (m : Int) 0) = m := by
  have e : mx (m : Int) 0 = m := by unfold mx; split <;> omega
  rw [e, wu64_id (by omega)]
theorem pwithin {l : List Int} (m : Nat) (hm : m ≤ 1000) (f : Int) (h : good l) : pack_Reader_within_2 300 l f m = some (((wn m l f).1 : Int), (wn m l f).2.2, (wn m l f).2.1) ∧ pack_Reader_within 300 l f m = some (((wn m l f).1 : Int), (wn m l f).2.2, (wn m l f).2.1) := by
  unfold pack_Reader_within_2 pack_Reader_within
  rw [pnum2 f h, pnum1 f h, mx_nat m hm]
  simp only [Option.bind_some, thn_eq]
  unfold wn
  by_cases hb : m < (rdn l f).1
  · rw [if_pos (by omega), if_pos hb]; exact ⟨rfl, rfl⟩
  · rw [if_neg (by omega), if_neg hb]; exact ⟨rfl, rfl⟩
/-- A text. -/
def rt (l : List Int) (f : Int) : List UInt8 × List Int × Int :=
  let x := wn 16 l f
  if x.2.2 ≠ 0 then ([], x.2.1, x.2.2) else if x.2.1.length < x.1 then ([], x.2.1, 3) else (strs (x.2.1.take x.1), x.2.1.drop x.1, 0)
theorem good_drop {l : List Int} (h : good l) (n : Nat) : good (l.drop n) := ⟨bytesOk_drop h.1 n, by have := h.2; simp; omega⟩
theorem rt_ok {l : List Int} (f : Int) (h : good l) : good (rt l f).2.1 := by
  have := (wn_ok 16 f h).2.2
  unfold rt
  simp only
  split
  · exact this
  · split
    · exact this
    · exact good_drop this _
theorem ptext {l : List Int} (f : Int) (h : good l) : pack_Reader_Text 300 l f 16 = some ((rt l f).2.1, (rt l f).2.2, (rt l f).1) := by
  obtain ⟨h1, h2, h3⟩ := wn_ok 16 f h
  have h4 := h3.2
  unfold pack_Reader_Text
  rw [show (16 : Int) = ((16 : Nat) : Int) from rfl, (pwithin 16 (by decide) f h).1]
  simp only [Option.bind_some]
  unfold pack_Reader_take_2 rt
  simp only
  by_cases hf : (wn 16 l f).2.2 = 0
  · simp only [hf, ne_eq, not_true_eq_false, if_false]
    rw [wu64_id (by omega)]
    by_cases hl : (wn 16 l f).2.1.length < (wn 16 l f).1
    · rw [if_pos (by omega), if_pos hl]; rfl
    · rw [if_neg (by omega), if_neg hl, if_pos (by omega), if_pos (by omega)]
      simp
  · simp only [hf, ne_eq, not_false_eq_true, if_true]; rfl
/-- A number with a sign. -/
def zag (n : Nat) : Int := if n % 2 = 0 then (n / 2 : Nat) else -((n / 2 : Nat) : Int) - 1
theorem shr1 (n : Nat) : bShr .u64 (n : Int) 1 = ((n / 2 : Nat) : Int) := by
  have e : (2 : Int) ^ min (1 : Int).toNat IntKind.u64.bits = 2 := by decide
  unfold bShr
  rw [e, Int.fdiv_eq_ediv_of_nonneg _ (by decide)]; rfl
theorem and1 (n : Nat) (h : n < 18446744073709551616) : bAnd .u64 (n : Int) 1 = ((n % 2 : Nat) : Int) := by
  have e : BitVec.ofInt 64 (n : Int) = BitVec.ofNat 64 n := by simp
  show wu64 ((BitVec.ofInt 64 (n : Int) &&& BitVec.ofInt 64 1).toNat : Int) = _
  have e1 : BitVec.ofInt 64 1 = 1#64 := rfl
  rw [e, e1, BitVec.toNat_and, BitVec.toNat_ofNat, Nat.mod_eq_of_lt h]
  have : n &&& (1#64).toNat = n % 2 := Nat.and_one_is_mod n
  rw [this, wu64_id (by omega)]
theorem zag_p {n : Nat} (h : n < 18446744073709551616) : bXor .i64 (w64 (bShr .u64 (n : Int) 1)) (w64 (0 - w64 (bAnd .u64 (n : Int) 1))) = zag n := by
  rw [shr1, and1 n h, w64_id (by omega) (n := ((n / 2 : Nat) : Int)), w64_id (by omega) (n := ((n % 2 : Nat) : Int)), w64_id (by omega) (n := 0 - ((n % 2 : Nat) : Int))]
  unfold zag
  by_cases h2 : n % 2 = 0
  · rw [if_pos h2, h2]
    exact bXor_zero (by omega)
  · rw [if_neg h2, show n % 2 = 1 by omega]
    have := bXor_ones (a := ((n / 2 : Nat) : Int)) (by omega)
    rw [show (0 : Int) - ((1 : Nat) : Int) = -1 by decide, this]
    omega
theorem pint {l : List Int} (f : Int) (h : good l) : pack_Reader_Int 300 l f = some ((rdn l f).2.1, (rdn l f).2.2, zag (rdn l f).1) := by
  unfold pack_Reader_Int
  rw [pnum2 f h]
  simp only [Option.bind_some, zag_p (rd_ok f h).1]
theorem same_loop (l : List Api_Fact) (hl : l.length ≤ 100) : ∀ (k i : Nat), i ≤ l.length → l.length < i + k → ossuaryref09_Same_l0 300 l l k i = some true
  | 0, i, h1, h2 => by omega
  | k + 1, i, h1, h2 => by
    rw [ossuaryref09_Same_l0]
    by_cases h : i < l.length
    · rw [if_pos (by omega), if_pos (by omega), if_pos (by omega), w_step (by omega), same_loop l hl k (i + 1) (by omega) (by omega)]
      simp
    · rw [if_neg (by omega)]
theorem same_refl (l : List Api_Fact) (hl : l.length ≤ 100) : ossuaryref09_Same 300 l l = some true := by
  unfold ossuaryref09_Same
  rw [if_neg (by simp)]
  exact same_loop l hl 300 0 (by omega) (by omega)
theorem alive_true : ossuarylaw09_alive 300 = some true := by decide +kernel
theorem enc0 (l0 : List Api_Fact) (hs : ∀ f ∈ l0, short f) (hok : ∀ f ∈ l0, inI .i64 f.Value) (hl : l0.length ≤ 100) (d : Nat) (hd : d ≤ 4) : ∀ (k i : Nat) (l : List Int), i ≤ l0.length → l0.length < i + k → l.length + (l0.length - i) * 220 ≤ 600000 →
    fact_Encode_l0 300 l0 d k i l = some (0, l ++ (l0.drop i).flatMap (fbytes d))
  | 0, i, l, h1, h2, h3 => by omega
  | k + 1, i, l, h1, h2, h3 => by
    rw [fact_Encode_l0]
    by_cases h : i < l0.length
    · have hg : l0.getD i z_Api_Fact = l0[i] := getD_at _ _ h _
      have hsh : short (l0.getD i z_Api_Fact) := by rw [hg]; exact hs _ (List.getElem_mem h)
      have hf : inI .i64 (l0.getD i z_Api_Fact).Value := by rw [hg]; exact hok _ (List.getElem_mem h)
      obtain ⟨n, hn, hlt⟩ := wu64_nat (l0.getD i z_Api_Fact).Key.Hour
      have hnl := num_len 9 n
      have hd1 := flat_len (L := (dims (l0.getD i z_Api_Fact)).take d) (fun s hs' => short_dims hsh s (List.mem_of_mem_take hs'))
      have hd2 : ((dims (l0.getD i z_Api_Fact)).take d).length ≤ 4 := by simp [dims]; omega
      have hz := num_len 9 (zig (l0.getD i z_Api_Fact).Value)
      have e1 := enc1 l0 d hd i hsh 300 0 (l ++ num 9 n) (by omega) (by omega) (by simp only [List.length_append]; omega)
      simp only [List.drop_zero] at e1
      have e1' : fact_Encode_l1 300 l0 d i 300 0 (l ++ num 9 n) = some (l ++ num 9 n ++ ((dims (l0.getD i z_Api_Fact)).take d).flatMap txt) := e1
      have hb : fbytes d (l0.getD i z_Api_Fact) = num 9 n ++ ((dims (l0.getD i z_Api_Fact)).take d).flatMap txt ++ num 9 (zig (l0.getD i z_Api_Fact).Value) := by
        unfold fbytes; rw [hn, Int.toNat_natCast]
      have hbl := fbytes_len hsh d
      have r1 := enc0 l0 hs hok hl d hd k (i + 1) (l ++ fbytes d (l0.getD i z_Api_Fact)) (by omega) (by omega) (by simp only [List.length_append]; omega)
      have hdrop : (l0.drop i).flatMap (fbytes d) = fbytes d (l0.getD i z_Api_Fact) ++ (l0.drop (i + 1)).flatMap (fbytes d) := by
        rw [hg, List.drop_eq_getElem_cons h, List.flatMap_cons]
      rw [if_pos (by omega), if_pos (by omega), Int.toNat_natCast, hn, num2 n l hlt (by omega), w_step (by omega)]
      simp only [Option.bind_some]
      rw [if_pos (by omega), if_pos (by omega), e1']
      simp only [Option.bind_some]
      rw [wint hf _ (by simp only [List.length_append]; omega)]
      simp only [Option.bind_some]
      have ea : l ++ num 9 n ++ ((dims (l0.getD i z_Api_Fact)).take d).flatMap txt ++ num 9 (zig (l0.getD i z_Api_Fact).Value) = l ++ fbytes d (l0.getD i z_Api_Fact) := by rw [hb]; simp
      rw [ea, r1, hdrop]
      simp
    · rw [if_neg (by omega), List.drop_of_length_le (by omega)]
      unfold pack_Writer_Bytes
      rw [clone_eq l (by omega)]
      simp

/-! ### Which batches are right -/
def okf (d : Nat) (f : Api_Fact) : Prop := (0 ≤ f.Key.Hour ∧ f.Key.Hour ≤ 16777216) ∧ (-1152921504606846976 ≤ f.Value ∧ f.Value ≤ 1152921504606846976) ∧ ∀ q, q < 4 → ((dims f).getD q []).length ≤ 16 ∧ (d ≤ q → (dims f).getD q [] = [])
theorem check_loop (d : Nat) (a1 a2 a3 a4 : List UInt8) : ∀ (k i : Nat), i ≤ 4 → 4 < i + k → ∃ c, fact_Check_l0 300 a1 a2 a3 a4 d k i = some c ∧ (c = 0 ↔ ∀ q, i ≤ q → q < 4 → (([a1, a2, a3, a4] : List (List UInt8)).getD q []).length ≤ 16 ∧ (d ≤ q → ([a1, a2, a3, a4] : List (List UInt8)).getD q [] = []))
  | 0, i, h1, h2 => by omega
  | k + 1, i, h1, h2 => by
    rw [fact_Check_l0]
    by_cases h : i < 4
    · obtain ⟨c, h3, h4⟩ := check_loop d a1 a2 a3 a4 k (i + 1) (by omega) (by omega)
      rw [if_pos (by omega), if_pos (by omega), if_pos (by omega), w_step (by omega), Int.toNat_natCast, h3]
      by_cases hl : 16 < (([a1, a2, a3, a4] : List (List UInt8)).getD i []).length
      · rw [if_pos (by omega)]
        exact ⟨4, rfl, by simp, fun hq => by have := (hq i (Nat.le_refl _) h).1; omega⟩
      · rw [if_neg (by omega)]
        by_cases hd : (d : Int) ≤ i
        · by_cases he : ([a1, a2, a3, a4] : List (List UInt8)).getD i [] = []
          · rw [if_pos hd, if_neg (fun hn => hn he)]
            refine ⟨c, rfl, h4.trans ⟨fun hq q h5 h6 => ?_, fun hq q h5 h6 => hq q (by omega) h6⟩⟩
            by_cases e : q = i
            · subst e; exact ⟨by omega, fun _ => he⟩
            · exact hq q (by omega) h6
          · rw [if_pos hd, if_pos he]
            exact ⟨4, rfl, by simp, fun hq => absurd ((hq i (Nat.le_refl _) h).2 (by omega)) he⟩
        · rw [if_neg hd]
          refine ⟨c, rfl, h4.trans ⟨fun hq q h5 h6 => ?_, fun hq q h5 h6 => hq q (by omega) h6⟩⟩
          by_cases e : q = i
          · subst e; exact ⟨by omega, fun h => by omega⟩
          · exact hq q (by omega) h6
    · rw [if_neg (by omega)]
      exact ⟨0, rfl, fun _ q h5 h6 => by omega, fun _ => rfl⟩
theorem check_spec (d : Nat) (h1 : 1 ≤ d) (h4 : d ≤ 4) (f : Api_Fact) : ∃ c, fact_Check 300 f.Key.Hour f.Key.Dims_0 f.Key.Dims_1 f.Key.Dims_2 f.Key.Dims_3 f.Value d = some c ∧ (c = 0 ↔ okf d f) := by
  unfold fact_Check fact_many okf
  rw [if_pos (by omega), decide_eq_true (by omega)]
  simp only [thn_eq, Bool.not_true, Bool.false_eq_true, if_false]
  by_cases c1 : f.Key.Hour < 0
  · rw [if_pos c1]; exact ⟨2, rfl, by simp, fun h => by have := h.1; omega⟩
  · rw [if_neg c1]
    by_cases c2 : 16777216 < f.Key.Hour
    · rw [if_pos c2]; exact ⟨2, rfl, by simp, fun h => by have := h.1; omega⟩
    · rw [if_neg c2]
      by_cases c3 : 1152921504606846976 < f.Value
      · rw [if_pos c3]; exact ⟨2, rfl, by simp, fun h => by have := h.2.1; omega⟩
      · rw [if_neg c3]
        by_cases c4 : f.Value < -1152921504606846976
        · rw [if_pos c4]; exact ⟨2, rfl, by simp, fun h => by have := h.2.1; omega⟩
        · rw [if_neg c4]
          obtain ⟨c, e1, e2⟩ := check_loop d f.Key.Dims_0 f.Key.Dims_1 f.Key.Dims_2 f.Key.Dims_3 300 0 (by omega) (by omega)
          refine ⟨c, e1, e2.trans ⟨fun h => ⟨by omega, by omega, fun q hq => h q (by omega) hq⟩, fun h q _ hq => h.2.2 q hq⟩⟩
theorem all_loop (d : Nat) (h1 : 1 ≤ d) (h4 : d ≤ 4) (l : List Api_Fact) (hl : l.length ≤ 100) : ∀ (k i : Nat), i ≤ l.length → l.length < i + k → ∃ c n, fact_All_l0 300 l d k i = some (c, n) ∧ (c = 0 ↔ ∀ q, i ≤ q → (h : q < l.length) → okf d l[q])
  | 0, i, h1, h2 => by omega
  | k + 1, i, h5, h2 => by
    rw [fact_All_l0]
    by_cases h : i < l.length
    · obtain ⟨c, n, h3, h6⟩ := all_loop d h1 h4 l hl k (i + 1) (by omega) (by omega)
      obtain ⟨b, b1, b2⟩ := check_spec d h1 h4 l[i]
      rw [if_pos (by omega), if_pos (by omega), w_step (by omega), Int.toNat_natCast, getD_at l i h, b1, h3]
      simp only [Option.bind_some]
      by_cases hb : b = 0
      · rw [if_neg (fun hn => hn hb)]
        refine ⟨c, n, rfl, h6.trans ⟨fun hq q h7 h8 => ?_, fun hq q h7 h8 => hq q (by omega) h8⟩⟩
        by_cases e : q = i
        · subst e; exact b2.1 hb
        · exact hq q (by omega) h8
      · rw [if_pos hb]
        exact ⟨b, i, rfl, fun h => absurd h hb, fun hq => absurd (b2.2 (hq i (Nat.le_refl _) h)) hb⟩
    · rw [if_neg (by omega)]
      exact ⟨0, 0, rfl, fun _ q h7 h8 => by omega, fun _ => rfl⟩
def right (d : Int) (l : List Api_Fact) : Prop := 1 ≤ d ∧ d ≤ 4 ∧ 0 < l.length ∧ l.length ≤ 50 ∧ ∀ f ∈ l, okf d.toNat f
theorem all_spec (d : Int) (l : List Api_Fact) (hl : l.length ≤ 100) : ∃ c n, fact_All 300 l d = some (c, n) ∧ (c = 0 ↔ right d l) := by
  unfold fact_All fact_many right
  simp only [thn_eq]
  by_cases h1 : 1 ≤ d
  · by_cases h2 : d ≤ 4
    · rw [if_pos h1, decide_eq_true h2]
      simp only [Bool.not_true, Bool.false_eq_true, if_false]
      obtain ⟨q, rfl⟩ := Int.eq_ofNat_of_zero_le (show 0 ≤ d by omega)
      by_cases h3 : (l.length : Int) = 0
      · rw [if_pos h3]; exact ⟨1, 0, rfl, by simp, fun h => by omega⟩
      · rw [if_neg h3]
        by_cases h4 : 50 < (l.length : Int)
        · rw [if_pos h4]; exact ⟨1, 0, rfl, by simp, fun h => by omega⟩
        · rw [if_neg h4]
          obtain ⟨c, n, e1, e2⟩ := all_loop q (by omega) (by omega) l hl 300 0 (by omega) (by omega)
          refine ⟨c, n, e1, e2.trans ⟨fun h => ⟨h1, h2, by omega, by omega, fun f hf => ?_⟩, fun h k _ hk => ?_⟩⟩
          · obtain ⟨k, hk, rfl⟩ := List.getElem_of_mem hf
            exact h k (by omega) hk
          · exact h.2.2.2.2 _ (List.getElem_mem hk)
    · rw [if_pos h1, decide_eq_false h2]
      exact ⟨1, 0, rfl, by simp, fun h => absurd h.2.1 h2⟩
  · rw [if_neg h1]
    exact ⟨1, 0, rfl, by simp, fun h => absurd h.1 h1⟩
theorem right_short {d : Int} {l : List Api_Fact} (h : right d l) : ∀ f ∈ l, short f := by
  intro f hf
  have h2 := (h.2.2.2.2 f hf).2.2
  have h0 := (h2 0 (by omega)).1
  have h1 := (h2 1 (by omega)).1
  have h3 := (h2 2 (by omega)).1
  have h4 := (h2 3 (by omega)).1
  exact ⟨Nat.le_trans h0 (by decide), Nat.le_trans h1 (by decide), Nat.le_trans h3 (by decide), Nat.le_trans h4 (by decide)⟩
def batch (d : Nat) (l : List Api_Fact) : List Int := num 9 l.length ++ l.flatMap (fbytes d)
theorem encode (d : Int) (l : List Api_Fact) (hl : l.length ≤ 100) : ∃ c n, fact_All 300 l d = some (c, n) ∧ (c = 0 ↔ right d l) ∧ (c ≠ 0 → fact_Encode 300 l d = some (c, [])) ∧ (c = 0 → fact_Encode 300 l d = some (0, batch d.toNat l)) := by
  obtain ⟨c, n, e1, e2⟩ := all_spec d l hl
  refine ⟨c, n, e1, e2, fun hc => ?_, fun hc => ?_⟩
  · unfold fact_Encode
    rw [e1]
    simp only [Option.bind_some]
    rw [if_pos hc]
  · have hr := e2.1 hc
    obtain ⟨q, rfl⟩ := Int.eq_ofNat_of_zero_le (show 0 ≤ d by have := hr.1; omega)
    unfold fact_Encode
    rw [e1]
    simp only [Option.bind_some]
    rw [if_neg (fun h => h hc), wu64_id (by omega), num1 _ (by omega)]
    simp only [Option.bind_some]
    have hn := num_len 9 l.length
    exact enc0 l (right_short hr) (fun f hf => in64_mk (by have := (hr.2.2.2.2 f hf).2.1; omega)) hl q (by have := hr.2.1; omega) 300 0 (num 9 l.length) (by omega) (by omega) (by omega)

/-! ### What was written is read -/
theorem rdN_num : ∀ (m j i n acc : Nat) (r : List Int), i + j = 10 → m < j → n < 128 ^ (m + 1) → n * 2 ^ (7 * i) < 18446744073709551616 → (0 < i → n ≠ 0) → rdN j i acc (num m n ++ r) = (acc + n * 2 ^ (7 * i), r, 0)
  | m, 0, i, n, acc, r, h1, h2, h3, h4, h5 => by omega
  | m, j + 1, i, n, acc, r, h1, h2, h3, h4, h5 => by
    have nine : i = 9 → n ≤ 1 := by
      intro e; subst e
      have : n * 2 ^ (7 * 9) = n * 9223372036854775808 := rfl
      omega
    by_cases hn : 128 ≤ n
    · cases m with
      | zero => omega
      | succ m =>
        have hi : i ≤ 8 := by
          by_cases e : i = 9
          · have := nine e; omega
          · omega
        have e1 : ((n % 128 + 128 : Nat) : Int) % 128 = ((n % 128 : Nat) : Int) := by omega
        have e3 : 2 ^ (7 * (i + 1)) = 2 ^ (7 * i) * 128 := by rw [show 7 * (i + 1) = 7 * i + 7 by omega, Nat.pow_add]
        rw [num, if_pos hn, List.cons_append, rdN, if_neg (fun h => by omega), if_neg (by omega), e1, Int.toNat_natCast]
        rw [rdN_num m j (i + 1) (n / 128) _ r (by omega) (by omega) (by rw [Nat.pow_succ] at h3; omega) (by
          rw [e3]
          have : n / 128 * (2 ^ (7 * i) * 128) ≤ n * 2 ^ (7 * i) := by
            rw [Nat.mul_comm (2 ^ (7 * i)), ← Nat.mul_assoc]
            exact Nat.mul_le_mul_right _ (by omega)
          omega) (fun _ => by omega)]
        congr 1
        rw [e3, Nat.add_assoc]
        congr 1
        have : n / 128 * (2 ^ (7 * i) * 128) = n / 128 * 128 * 2 ^ (7 * i) := by rw [Nat.mul_comm (2 ^ (7 * i)), Nat.mul_assoc]
        rw [this, ← Nat.add_mul]
        congr 1
        omega
    · have hnum : num m n = [(n : Int)] := by
        cases m with
        | zero => rfl
        | succ m => rw [num, if_neg hn]
      have e1 : (n : Int) % 128 = n := by omega
      rw [hnum, List.singleton_append, rdN, e1, if_neg (fun h => by have := nine h.1; omega), if_pos (by omega), if_neg (fun h => h5 h.2 (by omega)), Int.toNat_natCast]
theorem rd_num (n : Nat) (r : List Int) (h : n < 18446744073709551616) : rdn (num 9 n ++ r) 0 = (n, r, 0) := by
  unfold rdn
  rw [if_pos rfl, rdN_num 9 10 0 n 0 r rfl (by decide) (Nat.lt_of_lt_of_le h p64) (by simpa using h) (by simp)]
  simp
theorem strs_byts (s : List UInt8) : strs (byts s) = s := by
  simp only [strs, byts, List.map_map]
  conv => rhs; rw [← List.map_id s]
  apply List.map_congr_left
  intro b _
  simp
theorem byts_strs : ∀ (l : List Int), bytesOk l → byts (strs l) = l
  | [], _ => rfl
  | c :: l, h => by
    obtain ⟨hc, hl⟩ := bytesOk_cons h
    have ih := byts_strs l hl
    simp only [byts, strs, List.map_map] at ih ⊢
    rw [List.map_cons, ih]
    congr 1
    show ((UInt8.ofNat c.toNat).toNat : Int) = c
    rw [UInt8.toNat_ofNat', Nat.mod_eq_of_lt (by omega)]
    omega
theorem rt_txt (s : List UInt8) (r : List Int) (h : s.length ≤ 16) : rt (txt s ++ r) 0 = (s, r, 0) := by
  have e : rdn (txt s ++ r) 0 = (s.length, byts s ++ r, 0) := by
    unfold txt
    rw [List.append_assoc]
    exact rd_num s.length _ (by omega)
  have hn : ¬ 16 < s.length := by omega
  unfold rt wn
  simp only [e, hn, if_false, ne_eq, not_true_eq_false]
  have hb := byts_len s
  rw [if_neg (by simp; omega), ← hb, List.take_left', List.drop_left', strs_byts] <;> rfl
theorem zag_zig {a : Int} (h : inI .i64 a) : zag (zig a) = a := by
  have := in64 h
  unfold zag zig
  split <;> split <;> omega
theorem zig_zag (n : Nat) : zig (zag n) = n := by
  unfold zag zig
  split <;> split <;> omega
theorem zag_in {n : Nat} (h : n < 18446744073709551616) : inI .i64 (zag n) := by
  apply in64_mk
  unfold zag
  split <;> omega
theorem bytesOk_append {a b : List Int} (ha : bytesOk a) (hb : bytesOk b) : bytesOk (a ++ b) := fun c hc => by
  rcases List.mem_append.1 hc with h | h
  · exact ha c h
  · exact hb c h
theorem num_ok : ∀ (m n : Nat), n < 128 ^ (m + 1) → bytesOk (num m n)
  | 0, n, h => fun c hc => by simp [num] at hc; omega
  | m + 1, n, h => by
    rw [num]
    split
    · intro c hc
      rcases List.mem_cons.1 hc with e | hc
      · omega
      · exact num_ok m (n / 128) (by rw [Nat.pow_succ] at h; omega) c hc
    · intro c hc
      simp at hc; omega
theorem num9_ok {n : Nat} (h : n < 18446744073709551616) : bytesOk (num 9 n) := num_ok 9 n (Nat.lt_of_lt_of_le h p64)
theorem byts_ok (s : List UInt8) : bytesOk (byts s) := fun c hc => by
  simp [byts] at hc
  obtain ⟨b, _, rfl⟩ := hc
  have := b.toNat_lt
  omega
theorem txt_ok {s : List UInt8} (h : s.length ≤ 16) : bytesOk (txt s) := bytesOk_append (num9_ok (by omega)) (byts_ok s)
theorem flat_ok {L : List (List UInt8)} (h : ∀ s ∈ L, s.length ≤ 16) : bytesOk (L.flatMap txt) := fun c hc => by
  rw [List.mem_flatMap] at hc
  obtain ⟨s, hs, hc⟩ := hc
  exact txt_ok (h s hs) c hc
theorem comp {α : Type} (D : List α) (z t : α) (i d q : Nat) (hi : i < d) : (if i + 1 ≤ q ∧ q < d then D.getD q z else if (i : Int).toNat = q then D.getD i z else t) = if i ≤ q ∧ q < d then D.getD q z else t := by
  rw [Int.toNat_natCast]
  by_cases h1 : i + 1 ≤ q ∧ q < d
  · rw [if_pos h1, if_pos (by omega)]
  · rw [if_neg h1]
    by_cases h2 : i = q
    · rw [if_pos h2, if_pos (by omega), h2]
    · rw [if_neg h2, if_neg (by omega)]
theorem dims_read (d : Nat) (hd : d ≤ 4) (x1 : Int × List Int × Int) (D : List (List UInt8)) (hD : D.length = 4) (hs : ∀ s ∈ D, s.length ≤ 16) (r : List Int) : ∀ (k i : Nat) (t0 t1 t2 t3 : List UInt8), i ≤ d → d < i + k → good (((D.take d).drop i).flatMap txt ++ r) →
    fact_one_l0 300 d x1 k i (((D.take d).drop i).flatMap txt ++ r) 0 t0 t1 t2 t3 = some (r, 0, w64 x1.1, if i ≤ 0 ∧ 0 < d then D.getD 0 [] else t0, if i ≤ 1 ∧ 1 < d then D.getD 1 [] else t1, if i ≤ 2 ∧ 2 < d then D.getD 2 [] else t2, if i ≤ 3 ∧ 3 < d then D.getD 3 [] else t3)
  | 0, i, t0, t1, t2, t3, h1, h2, hg => by omega
  | k + 1, i, t0, t1, t2, t3, h1, h2, hg => by
    rw [fact_one_l0]
    by_cases h : i < d
    · have hlt : i < (D.take d).length := by simp; omega
      have hq : (D.take d)[i] = D.getD i [] := by rw [List.getElem_take, getD_at D i (by omega)]
      have hsh : (D.getD i []).length ≤ 16 := by rw [getD_at D i (by omega)]; exact hs _ (List.getElem_mem _)
      have e : ((D.take d).drop i).flatMap txt ++ r = txt (D.getD i []) ++ ((((D.take d).drop (i + 1)).flatMap txt) ++ r) := by
        rw [List.drop_eq_getElem_cons hlt, List.flatMap_cons, hq, List.append_assoc]
      have hp := rt_txt (D.getD i []) ((((D.take d).drop (i + 1)).flatMap txt) ++ r) hsh
      rw [e] at hg ⊢
      have hg' := rt_ok 0 hg
      rw [hp] at hg'
      have i0 : (0 : Int) ≤ (i : Int) := by omega
      have i4 : (i : Int) < (4 : Int) := by omega
      rw [if_pos (by omega), ptext 0 hg, hp]
      simp only [Option.bind_some, i0, i4, if_true, w_step (show i < 1000000 by omega)]
      rw [dims_read d hd x1 D hD hs r k (i + 1) _ _ _ _ (by omega) (by omega) hg']
      simp only [comp D [] _ i d _ h]
    · rw [if_neg (by omega), List.drop_of_length_le (by simp; omega)]
      have hn : ∀ q : Nat, ¬ (i ≤ q ∧ q < d) := fun q => by omega
      simp only [hn 0, hn 1, hn 2, hn 3, if_false]
      rfl
/-- A fact's bytes, read. -/
theorem fbytes_ok {d : Nat} (hd : d ≤ 4) {f : Api_Fact} (h : okf d f) : bytesOk (fbytes d f) := by
  obtain ⟨n, hn, hlt⟩ := wu64_nat f.Key.Hour
  unfold fbytes
  rw [hn, Int.toNat_natCast]
  refine bytesOk_append (bytesOk_append (num9_ok hlt) (flat_ok fun s hs => ?_)) (num9_ok (zig_lt (in64_mk (by have := h.2.1; omega))))
  have hm := List.mem_of_mem_take hs
  obtain ⟨q, hq, rfl⟩ := List.getElem_of_mem hm
  have := (h.2.2 q hq).1
  rwa [getD_at _ _ hq] at this
theorem okf_short {d : Nat} {f : Api_Fact} (h : okf d f) : short f := by
  have h2 := h.2.2
  exact ⟨Nat.le_trans (h2 0 (by omega)).1 (by decide), Nat.le_trans (h2 1 (by omega)).1 (by decide), Nat.le_trans (h2 2 (by omega)).1 (by decide), Nat.le_trans (h2 3 (by omega)).1 (by decide)⟩
theorem one_read (d : Nat) (hd : d ≤ 4) (f : Api_Fact) (h : okf d f) (r : List Int) (hg : good (fbytes d f ++ r)) :
    fact_one 300 (fbytes d f ++ r) 0 d = some (f.Key.Hour, f.Key.Dims_0, f.Key.Dims_1, f.Key.Dims_2, f.Key.Dims_3, f.Value, true, r, 0) := by
  have hh := h.1
  have hv : inI .i64 f.Value := in64_mk (by have := h.2.1; omega)
  have e0 : (wu64 f.Key.Hour).toNat = f.Key.Hour.toNat := by rw [wu64_id (by omega)]
  have e1 : fbytes d f ++ r = num 9 f.Key.Hour.toNat ++ (((dims f).take d).flatMap txt ++ (num 9 (zig f.Value) ++ r)) := by
    unfold fbytes; rw [e0]; simp
  have hr := rd_num f.Key.Hour.toNat (((dims f).take d).flatMap txt ++ (num 9 (zig f.Value) ++ r)) (by omega)
  rw [e1] at hg ⊢
  have hg1 := (rd_ok 0 hg).2
  rw [hr] at hg1
  unfold fact_one
  rw [pnum2 0 hg, hr]
  simp only [Option.bind_some]
  rw [if_neg (by omega)]
  have hlen : ∀ s ∈ dims f, s.length ≤ 16 := by
    intro s hs
    obtain ⟨q, hq, rfl⟩ := List.getElem_of_mem hs
    have := (h.2.2 q hq).1
    rwa [getD_at _ _ hq] at this
  have hdr := dims_read d hd ((f.Key.Hour.toNat : Int), ((dims f).take d).flatMap txt ++ (num 9 (zig f.Value) ++ r), 0) (dims f) rfl hlen (num 9 (zig f.Value) ++ r) 300 0 [] [] [] [] (by omega) (by omega) hg1
  simp only [List.drop_zero] at hdr
  rw [show fact_one_l0 300 (d : Int) ((f.Key.Hour.toNat : Int), ((dims f).take d).flatMap txt ++ (num 9 (zig f.Value) ++ r), 0) 300 0 (((dims f).take d).flatMap txt ++ (num 9 (zig f.Value) ++ r)) 0 [] [] [] [] = _ from hdr]
  have hg2 : good (num 9 (zig f.Value) ++ r) := ⟨fun c hc => hg1.1 c (List.mem_append_right _ hc), by have := hg1.2; simp only [List.length_append] at this ⊢; omega⟩
  simp only [Option.bind_some]
  rw [pint 0 hg2, rd_num _ r (zig_lt hv), zag_zig hv]
  simp only [Option.bind_some]
  have hz : ∀ q, q < 4 → (if 0 ≤ q ∧ q < d then (dims f).getD q [] else []) = (dims f).getD q [] := by
    intro q hq
    by_cases hqd : q < d
    · rw [if_pos ⟨by omega, hqd⟩]
    · rw [if_neg (by omega), (h.2.2 q hq).2 (by omega)]
  have z0 := hz 0 (by omega)
  have z1 := hz 1 (by omega)
  have z2 := hz 2 (by omega)
  have z3 := hz 3 (by omega)
  simp only [z0, z1, z2, z3]
  have ew : w64 (f.Key.Hour.toNat : Int) = f.Key.Hour := by rw [w64_id (by omega)]; omega
  rw [ew]
  rfl
theorem good_append {a b : List Int} (h : good (a ++ b)) : good b := ⟨fun c hc => h.1 c (List.mem_append_right _ hc), by have := h.2; simp only [List.length_append] at this; omega⟩
theorem facts_read (d : Nat) (hd : d ≤ 4) (l : List Api_Fact) (hl : l.length ≤ 50) (h : ∀ f ∈ l, okf d f) (x4 : List Int × Int × Int) (hx : x4.2.2 = l.length) : ∀ (k i : Nat), i ≤ l.length → l.length < i + k → good ((l.drop i).flatMap (fbytes d)) →
    fact_Read_l0 300 d x4 k i (l.take i) ((l.drop i).flatMap (fbytes d)) 0 = some (Sum.inl (l, [], 0))
  | 0, i, h1, h2, hg => by omega
  | k + 1, i, h1, h2, hg => by
    rw [fact_Read_l0, hx]
    by_cases hi : i < l.length
    · have e : (l.drop i).flatMap (fbytes d) = fbytes d l[i] ++ (l.drop (i + 1)).flatMap (fbytes d) := by rw [List.drop_eq_getElem_cons hi, List.flatMap_cons]
      rw [e] at hg ⊢
      have hroom : ∀ x : Api_Fact, ((l.take i).length + [x].length) * 80 ≤ 140737488355328 := fun x => by simp; omega
      rw [if_pos (by omega), one_read d hd l[i] (h _ (List.getElem_mem hi)) _ hg]
      simp only [Option.bind_some, Bool.not_true, Bool.false_eq_true, if_false, thn_eq, pack_Reader_Fault, not_true_eq_false, hroom, if_true, w_step (show i < 1000000 by omega)]
      have et : l.take i ++ [(⟨⟨l[i].Key.Hour, l[i].Key.Dims_0, l[i].Key.Dims_1, l[i].Key.Dims_2, l[i].Key.Dims_3⟩, l[i].Value⟩ : Api_Fact)] = l.take (i + 1) := by
        rw [List.take_succ_eq_append_getElem hi]
      rw [et]
      exact facts_read d hd l hl h x4 hx k (i + 1) (by omega) (by omega) (good_append hg)
    · rw [if_neg (by omega), List.take_of_length_le (by omega), List.drop_of_length_le (by omega)]
      rfl
theorem batch_good {d : Nat} (hd : d ≤ 4) {l : List Api_Fact} (hl : l.length ≤ 50) (h : ∀ f ∈ l, okf d f) : good (batch d l) := by
  unfold batch
  have hb : bytesOk (l.flatMap (fbytes d)) := fun c hc => by
    rw [List.mem_flatMap] at hc
    obtain ⟨f, hf, hc⟩ := hc
    exact fbytes_ok hd (h f hf) c hc
  have hlen : ∀ (L : List Api_Fact), (∀ f ∈ L, okf d f) → (L.flatMap (fbytes d)).length ≤ L.length * 220 := by
    intro L
    induction L with
    | nil => simp
    | cons f L ih =>
      intro hL
      have h1 := fbytes_len (okf_short (hL f (by simp))) d
      have h2 := ih (fun g hg => hL g (by simp [hg]))
      simp only [List.flatMap_cons, List.length_append, List.length_cons]
      omega
  have h1 := hlen l h
  have h2 := num_len 9 l.length
  exact ⟨bytesOk_append (num9_ok (by omega)) hb, by simp only [List.length_append]; omega⟩
theorem read_batch (d : Int) (l : List Api_Fact) (h : right d l) : fact_Read 300 (batch d.toNat l) d = some (0, l) := by
  obtain ⟨h1, h2, h3, h4, h5⟩ := h
  obtain ⟨q, rfl⟩ := Int.eq_ofNat_of_zero_le (show 0 ≤ d by omega)
  rw [Int.toNat_natCast] at h5 ⊢
  have hg := batch_good (d := q) (by omega) h4 h5
  have hr : rdn (batch q l) 0 = (l.length, l.flatMap (fbytes q), 0) := rd_num l.length _ (by omega)
  have hw : wn 50 (batch q l) 0 = (l.length, l.flatMap (fbytes q), 0) := by unfold wn; rw [hr]; simp only; rw [if_neg (by omega)]
  have hg2 : good (l.flatMap (fbytes q)) := good_append hg
  unfold fact_Read fact_many
  simp only [thn_eq]
  rw [if_pos h1, decide_eq_true h2]
  simp only [Bool.not_true, Bool.false_eq_true, if_false]
  unfold pack_NewReader
  rw [clone_eq _ (by have := hg.2; omega)]
  simp only [Option.bind_some]
  unfold pack_Reader_Count
  rw [show (50 : Int) = ((50 : Nat) : Int) from rfl, (pwithin 50 (by decide) 0 hg).2, hw]
  simp only [Option.bind_some]
  rw [w64_id (by omega)]
  have hf := facts_read q (by omega) l h4 h5 (l.flatMap (fbytes q), 0, (l.length : Int)) rfl 300 0 (by omega) (by omega) (by simpa using hg2)
  simp only [List.take_zero, List.drop_zero] at hf
  rw [show fact_Read_l0 300 (q : Int) (l.flatMap (fbytes q), 0, (l.length : Int)) 300 0 [] (l.flatMap (fbytes q)) 0 = _ from hf]
  simp only [Option.bind_some, cas, pack_Reader_Fault, pack_Reader_Left, not_true_eq_false, if_false, List.length_nil]
  obtain ⟨c, n, a1, a2⟩ := all_spec q l (by omega)
  have hc : c = 0 := a2.2 ⟨h1, h2, h3, h4, by rw [Int.toNat_natCast]; exact h5⟩
  rw [if_neg (by decide), a1]
  simp only [Option.bind_some, hc, not_true_eq_false, if_false]

/-! ### What is read has just those bytes -/
theorem rdN_inv : ∀ (j i acc : Nat) (l : List Int), i + j = 10 → bytesOk l → (rdN j i acc l).2.2 = 0 → ∃ n, (rdN j i acc l).1 = acc + n * 2 ^ (7 * i) ∧ l = num (j - 1) n ++ (rdN j i acc l).2.1 ∧ (0 < i → n ≠ 0)
  | 0, i, acc, l, h1, h2, h3 => by simp [rdN] at h3
  | j + 1, i, acc, [], h1, h2, h3 => by simp [rdN] at h3
  | j + 1, i, acc, c :: r, h1, h2, h3 => by
    obtain ⟨hc, hr⟩ := bytesOk_cons h2
    rw [rdN] at h3 ⊢
    by_cases h9 : i = 9 ∧ 1 < c % 128
    · rw [if_pos h9] at h3; simp at h3
    · rw [if_neg h9] at h3 ⊢
      by_cases hcl : c < 128
      · rw [if_pos hcl] at h3 ⊢
        by_cases hz : c % 128 = 0 ∧ 0 < i
        · rw [if_pos hz] at h3; simp at h3
        · rw [if_neg hz]
          have hn : num j c.toNat = [c] := by
            cases j with
            | zero => simp [num]; omega
            | succ j => rw [num, if_neg (by omega)]; simp; omega
          refine ⟨c.toNat, ?_, ?_, fun hi e => hz ⟨by omega, hi⟩⟩
          · have : (c % 128).toNat = c.toNat := by omega
            rw [this]
          · simp only [Nat.add_sub_cancel]
            rw [hn]; rfl
      · rw [if_neg hcl] at h3 ⊢
        obtain ⟨n, e1, e2, e3⟩ := rdN_inv j (i + 1) _ r (by omega) hr h3
        have hn0 := e3 (by omega)
        cases j with
        | zero => simp [rdN] at h3
        | succ j =>
          refine ⟨(c % 128).toNat + 128 * n, ?_, ?_, fun _ => by omega⟩
          · rw [e1]
            have e4 : 2 ^ (7 * (i + 1)) = 128 * 2 ^ (7 * i) := by rw [show 7 * (i + 1) = 7 + 7 * i by omega, Nat.pow_add]
            rw [e4, Nat.add_mul, Nat.add_assoc, Nat.mul_comm 128 n, Nat.mul_assoc]
          · simp only [Nat.add_sub_cancel] at e2 ⊢
            rw [num, if_pos (by omega), show ((c % 128).toNat + 128 * n) / 128 = n by omega, List.cons_append, ← e2]
            congr 1
            omega
theorem rd_inv {l : List Int} (h : good l) {f : Int} (h0 : (rdn l f).2.2 = 0) : f = 0 ∧ l = num 9 (rdn l f).1 ++ (rdn l f).2.1 := by
  unfold rdn at h0 ⊢
  by_cases hf : f = 0
  · rw [if_pos hf] at h0 ⊢
    obtain ⟨n, e1, e2, _⟩ := rdN_inv 10 0 0 l rfl h.1 h0
    refine ⟨hf, ?_⟩
    have : (rdN 10 0 0 l).1 = n := by rw [e1]; simp
    rw [this]
    exact e2
  · rw [if_neg hf] at h0; exact absurd h0 hf
theorem wn_inv {m : Nat} {l : List Int} {f : Int} (h0 : (wn m l f).2.2 = 0) : wn m l f = rdn l f := by
  unfold wn at h0 ⊢
  split
  · rename_i hb
    rw [if_pos hb] at h0
    simp only at h0
    split at h0
    · cases h0
    · rename_i hn; exact absurd h0 hn
  · rfl
theorem rt_inv {l : List Int} (h : good l) {f : Int} (h0 : (rt l f).2.2 = 0) : f = 0 ∧ l = txt (rt l f).1 ++ (rt l f).2.1 ∧ (rt l f).1.length ≤ 16 := by
  have hw := wn_ok 16 f h
  unfold rt at h0 ⊢
  simp only at h0 ⊢
  by_cases h1 : (wn 16 l f).2.2 = 0
  · have e := wn_inv h1
    rw [e] at h1 hw
    obtain ⟨e1, e2⟩ := rd_inv h h1
    rw [e] at h0 ⊢
    simp only [h1, ne_eq, not_true_eq_false, if_false] at h0 ⊢
    by_cases h2 : (rdn l f).2.1.length < (rdn l f).1
    · rw [if_pos h2] at h0; simp at h0
    · rw [if_neg h2]
      have hb : bytesOk ((rdn l f).2.1.take (rdn l f).1) := fun c hc => hw.2.2.1 c (List.mem_of_mem_take hc)
      have hl : (strs ((rdn l f).2.1.take (rdn l f).1)).length = (rdn l f).1 := by simp [strs]; omega
      refine ⟨e1, ?_, by rw [hl]; exact hw.2.1⟩
      unfold txt
      rw [hl, byts_strs _ hb, List.append_assoc, List.take_append_drop]
      exact e2
  · rw [if_pos h1] at h0
    exact absurd h0 h1
theorem dims_inv (d : Nat) (hd : d ≤ 4) (x1 : Int × List Int × Int) : ∀ (k i : Nat) (l : List Int) (f : Int) (t0 t1 t2 t3 : List UInt8) (r : List Int × Int × Int × List UInt8 × List UInt8 × List UInt8 × List UInt8), i ≤ d → d < i + k → good l →
    fact_one_l0 300 d x1 k i l f t0 t1 t2 t3 = some r → r.2.2.1 = w64 x1.1 ∧ good r.1 ∧
    (r.2.1 = 0 → f = 0 ∧ l = ((([r.2.2.2.1, r.2.2.2.2.1, r.2.2.2.2.2.1, r.2.2.2.2.2.2] : List (List UInt8)).take d).drop i).flatMap txt ++ r.1 ∧
      (∀ q, q < 4 → (q < i ∨ d ≤ q) → ([r.2.2.2.1, r.2.2.2.2.1, r.2.2.2.2.2.1, r.2.2.2.2.2.2] : List (List UInt8)).getD q [] = ([t0, t1, t2, t3] : List (List UInt8)).getD q []))
  | 0, i, l, f, t0, t1, t2, t3, r, h1, h2, hg, h => by omega
  | k + 1, i, l, f, t0, t1, t2, t3, r, h1, h2, hg, h => by
    rw [fact_one_l0] at h
    by_cases hi : i < d
    · have i0 : (0 : Int) ≤ (i : Int) := by omega
      have i4 : (i : Int) < (4 : Int) := by omega
      rw [if_pos (by omega), ptext f hg] at h
      simp only [Option.bind_some, i0, i4, if_true, w_step (show i < 1000000 by omega), Int.toNat_natCast] at h
      obtain ⟨g1, g2, g3⟩ := dims_inv d hd x1 k (i + 1) _ _ _ _ _ _ r (by omega) (by omega) (rt_ok f hg) h
      refine ⟨g1, g2, fun h0 => ?_⟩
      obtain ⟨e1, e2, e3⟩ := g3 h0
      obtain ⟨u1, u2, u3⟩ := rt_inv hg e1
      have hT := e3 i (by omega) (.inl (by omega))
      have hTi : ([r.2.2.2.1, r.2.2.2.2.1, r.2.2.2.2.2.1, r.2.2.2.2.2.2] : List (List UInt8)).getD i [] = (rt l f).1 := by
        rw [hT]
        have : i = 0 ∨ i = 1 ∨ i = 2 ∨ i = 3 := by omega
        rcases this with rfl | rfl | rfl | rfl <;> rfl
      refine ⟨u1, ?_, fun q hq hqi => ?_⟩
      · have hlt : i < (([r.2.2.2.1, r.2.2.2.2.1, r.2.2.2.2.2.1, r.2.2.2.2.2.2] : List (List UInt8)).take d).length := by simp; omega
        have hq : (([r.2.2.2.1, r.2.2.2.2.1, r.2.2.2.2.2.1, r.2.2.2.2.2.2] : List (List UInt8)).take d)[i] = (rt l f).1 := by
          rw [List.getElem_take, ← hTi, getD_at _ i (by simp; omega)]
        rw [List.drop_eq_getElem_cons hlt, List.flatMap_cons, hq, List.append_assoc, ← e2]
        exact u2
      · rw [e3 q hq (by omega)]
        have hne : i ≠ q := by omega
        have : q = 0 ∨ q = 1 ∨ q = 2 ∨ q = 3 := by omega
        rcases this with rfl | rfl | rfl | rfl <;> simp [hne]
    · rw [if_neg (by omega)] at h
      cases h
      refine ⟨rfl, hg, fun h0 => ⟨h0, ?_, fun q hq _ => rfl⟩⟩
      rw [List.drop_of_length_le (by simp; omega)]
      rfl
theorem one_inv (d : Nat) (hd : d ≤ 4) (l : List Int) (f : Int) (hg : good l) : ∃ r, fact_one 300 l f d = some r ∧ good r.2.2.2.2.2.2.2.1 ∧ (r.2.2.2.2.2.2.1 = true → r.2.2.2.2.2.2.2.2 = 0 → f = 0 ∧ inI .i64 r.2.2.2.2.2.1 ∧
    l = fbytes d ⟨⟨r.1, r.2.1, r.2.2.1, r.2.2.2.1, r.2.2.2.2.1⟩, r.2.2.2.2.2.1⟩ ++ r.2.2.2.2.2.2.2.1) := by
  unfold fact_one
  rw [pnum2 f hg]
  simp only [Option.bind_some]
  have h1 := rd_ok f hg
  by_cases hb : 16777216 < (rdn l f).1
  · rw [if_pos (by omega)]
    exact ⟨_, rfl, h1.2, fun h => by simp at h⟩
  · rw [if_neg (by omega)]
    obtain ⟨r, e1, e2, e3⟩ : ∃ r, fact_one_l0 300 d (((rdn l f).1 : Int), (rdn l f).2.1, (rdn l f).2.2) 300 0 (rdn l f).2.1 (rdn l f).2.2 [] [] [] [] = some r ∧ good r.1 ∧ True := by
      have key : ∀ (k i : Nat) (l : List Int) (f : Int) (x1 : Int × List Int × Int) (t0 t1 t2 t3 : List UInt8), i ≤ d → d < i + k → good l → ∃ r, fact_one_l0 300 d x1 k i l f t0 t1 t2 t3 = some r ∧ good r.1 ∧ True := by
        intro k
        induction k with
        | zero => intro i l f x1 t0 t1 t2 t3 h1 h2 h3; omega
        | succ k ih =>
          intro i l f x1 t0 t1 t2 t3 h1 h2 h3
          rw [fact_one_l0]
          by_cases h : i < d
          · have i0 : (0 : Int) ≤ (i : Int) := by omega
            have i4 : (i : Int) < (4 : Int) := by omega
            rw [if_pos (by omega), ptext f h3]
            simp only [Option.bind_some, i0, i4, if_true, w_step (show i < 1000000 by omega)]
            exact ih (i + 1) _ _ _ _ _ _ _ (by omega) (by omega) (rt_ok f h3)
          · rw [if_neg (by omega)]
            exact ⟨_, rfl, h3, trivial⟩
      exact key 300 0 _ _ _ _ _ _ _ (by omega) (by omega) h1.2
    obtain ⟨g1, g2, g3⟩ := dims_inv d hd _ 300 0 _ _ _ _ _ _ r (by omega) (by omega) h1.2 e1
    rw [e1]
    simp only [Option.bind_some]
    rw [pint r.2.1 e2]
    have h2 := rd_ok r.2.1 e2
    simp only [Option.bind_some]
    refine ⟨_, rfl, h2.2, fun _ h0 => ?_⟩
    simp only at h0
    obtain ⟨u1, u2⟩ := rd_inv e2 h0
    obtain ⟨v1, v2, _⟩ := g3 u1
    obtain ⟨w1, w2⟩ := rd_inv hg v1
    refine ⟨w1, zag_in h2.1, ?_⟩
    have eh : (wu64 r.2.2.1).toNat = (rdn l f).1 := by
      rw [g1]
      simp only
      rw [w64_id (by omega), wu64_id (by omega), Int.toNat_natCast]
    show l = num 9 (wu64 r.2.2.1).toNat ++ (([r.2.2.2.1, r.2.2.2.2.1, r.2.2.2.2.2.1, r.2.2.2.2.2.2] : List (List UInt8)).take d).flatMap txt ++ num 9 (zig (zag (rdn r.1 r.2.1).1)) ++ (rdn r.1 r.2.1).2.1
    rw [eh, zig_zag]
    rw [List.drop_zero] at v2
    rw [List.append_assoc, List.append_assoc, ← u2, ← v2]
    exact w2
theorem facts_inv (d : Nat) (hd : d ≤ 4) (m : Nat) (hm : m ≤ 50) (x4 : List Int × Int × Int) (hx : x4.2.2 = m) : ∀ (k i : Nat) (l : List Int) (f : Int) (out : List Api_Fact), i ≤ m → m < i + k → good l → out.length ≤ i →
    ∃ z, fact_Read_l0 300 d x4 k i out l f = some z ∧ (∀ v, z = Sum.inr v → v.1 ≠ 0 ∧ v.2 = []) ∧ (∀ v, z = Sum.inl v → good v.2.1 ∧ v.1.length ≤ 50 ∧ (v.2.2 = 0 → f = 0 ∧ ∃ new : List Api_Fact, v.1 = out ++ new ∧ new.length = m - i ∧ (∀ g ∈ new, inI .i64 g.Value) ∧ l = new.flatMap (fbytes d) ++ v.2.1))
  | 0, i, l, f, out, h1, h2, h3, h4 => by omega
  | k + 1, i, l, f, out, h1, h2, h3, h4 => by
    rw [fact_Read_l0, hx]
    by_cases h : i < m
    · obtain ⟨r, e1, e2, e3⟩ := one_inv d hd l f h3
      rw [if_pos (by omega), e1]
      simp only [Option.bind_some, thn_eq, pack_Reader_Fault]
      cases hr : r.2.2.2.2.2.2.1 with
      | false =>
        simp only [Bool.not_false, if_true]
        exact ⟨_, rfl, fun v hv => (by cases hv; exact ⟨by decide, rfl⟩), fun v hv => (by cases hv)⟩
      | true =>
        simp only [Bool.not_true, Bool.false_eq_true, if_false]
        by_cases hf : r.2.2.2.2.2.2.2.2 = 0
        · have hroom : ∀ x : Api_Fact, (out.length + [x].length) * 80 ≤ 140737488355328 := fun x => by simp; omega
          obtain ⟨u1, u2, u3⟩ := e3 hr hf
          simp only [hf, not_true_eq_false, if_false, hroom, if_true, w_step (show i < 1000000 by omega)]
          obtain ⟨z, z1, z2, z3⟩ := facts_inv d hd m hm x4 hx k (i + 1) r.2.2.2.2.2.2.2.1 0 (out ++ [(⟨⟨r.1, r.2.1, r.2.2.1, r.2.2.2.1, r.2.2.2.2.1⟩, r.2.2.2.2.2.1⟩ : Api_Fact)]) (by omega) (by omega) e2 (by simp; omega)
          refine ⟨z, z1, z2, fun v hv => ?_⟩
          obtain ⟨w1, w2, w3⟩ := z3 v hv
          refine ⟨w1, w2, fun h0 => ⟨u1, ?_⟩⟩
          obtain ⟨_, new, n1, n2, n3, n4⟩ := w3 h0
          refine ⟨⟨⟨r.1, r.2.1, r.2.2.1, r.2.2.2.1, r.2.2.2.2.1⟩, r.2.2.2.2.2.1⟩ :: new, by rw [n1]; simp, by simp; omega, ?_, ?_⟩
          · intro g hg
            rcases List.mem_cons.1 hg with e | hg
            · rw [e]; exact u2
            · exact n3 g hg
          · rw [List.flatMap_cons, List.append_assoc, ← n4]
            exact u3
        · simp only [hf, not_false_eq_true, if_true]
          exact ⟨_, rfl, fun v hv => (by cases hv; exact ⟨hf, rfl⟩), fun v hv => (by cases hv)⟩
    · rw [if_neg (by omega)]
      refine ⟨_, rfl, fun v hv => (by cases hv), fun v hv => ?_⟩
      cases hv
      exact ⟨h3, by show out.length ≤ 50; omega, fun h0 => ⟨h0, [], by simp, by simp; omega, by simp, by simp⟩⟩
theorem read_inv (d : Int) (b : List Int) (hg : good b) : ∃ h m, fact_Read 300 b d = some (h, m) ∧ (h ≠ 0 → m = []) ∧ (h = 0 → right d m ∧ b = batch d.toNat m) := by
  unfold fact_Read fact_many
  simp only [thn_eq]
  by_cases h1 : 1 ≤ d
  · by_cases h2 : d ≤ 4
    · rw [if_pos h1, decide_eq_true h2]
      simp only [Bool.not_true, Bool.false_eq_true, if_false]
      obtain ⟨q, rfl⟩ := Int.eq_ofNat_of_zero_le (show 0 ≤ d by omega)
      unfold pack_NewReader
      rw [clone_eq b (by have := hg.2; omega)]
      simp only [Option.bind_some]
      obtain ⟨w1, w2, w3⟩ := wn_ok 50 0 hg
      unfold pack_Reader_Count
      rw [show (50 : Int) = ((50 : Nat) : Int) from rfl, (pwithin 50 (by decide) 0 hg).2]
      simp only [Option.bind_some]
      rw [w64_id (by omega)]
      obtain ⟨z, z1, z2, z3⟩ := facts_inv q (by omega) (wn 50 b 0).1 w2 ((wn 50 b 0).2.1, (wn 50 b 0).2.2, ((wn 50 b 0).1 : Int)) rfl 300 0 (wn 50 b 0).2.1 (wn 50 b 0).2.2 [] (by omega) (by omega) w3 (by simp)
      rw [show fact_Read_l0 300 (q : Int) ((wn 50 b 0).2.1, (wn 50 b 0).2.2, ((wn 50 b 0).1 : Int)) 300 0 [] (wn 50 b 0).2.1 (wn 50 b 0).2.2 = some z from z1]
      simp only [Option.bind_some]
      cases z with
      | inr v =>
        obtain ⟨a1, a2⟩ := z2 v rfl
        exact ⟨v.1, v.2, rfl, fun _ => a2, fun h => absurd h a1⟩
      | inl v =>
        obtain ⟨a1, a2, a3⟩ := z3 v rfl
        simp only [cas, pack_Reader_Fault, pack_Reader_Left]
        by_cases hf : v.2.2 = 0
        · by_cases hr : (0 : Int) < (v.2.1.length : Int)
          · simp only [hf, hr, not_true_eq_false, if_false, if_true]
            exact ⟨_, _, rfl, fun _ => rfl, fun h => by simp at h⟩
          · obtain ⟨c, n, b1, b2⟩ := all_spec q v.1 (by omega)
            simp only [hf, hr, not_true_eq_false, if_false, b1, Option.bind_some]
            by_cases hc : c = 0
            · simp only [hc, not_true_eq_false, if_false]
              refine ⟨_, _, rfl, fun h => absurd rfl h, fun _ => ⟨b2.1 hc, ?_⟩⟩
              obtain ⟨f0, new, n1, n2, n3, n4⟩ := a3 hf
              have hv0 : v.2.1 = [] := List.eq_nil_of_length_eq_zero (by omega)
              have hw := wn_inv f0
              rw [hw] at f0 n4
              obtain ⟨_, r2⟩ := rd_inv hg f0
              have hlen : v.1.length = (rdn b 0).1 := by rw [n1]; simp; rw [n2, hw]; simp
              unfold batch
              rw [hlen, n1, List.nil_append, Int.toNat_natCast]
              rw [hv0, List.append_nil] at n4
              rw [← n4]
              exact r2
            · simp only [hc, not_false_eq_true, if_true]
              exact ⟨_, _, rfl, fun _ => rfl, fun h => absurd h hc⟩
        · simp only [hf, not_false_eq_true, if_true]
          exact ⟨_, _, rfl, fun _ => rfl, fun h => absurd h hf⟩
    · rw [if_pos h1, decide_eq_false h2]
      exact ⟨1, [], rfl, fun _ => rfl, fun h => by simp at h⟩
  · rw [if_neg h1]
    exact ⟨1, [], rfl, fun _ => rfl, fun h => by simp at h⟩
theorem law (l : List Api_Fact) (b : List Int) (d : Int) (h1 : l.length * 80 ≤ 140737488351232 ∧ ∀ x ∈ l, ok_Api_Fact x) (h2 : b.length * 1 ≤ 140737488351232 ∧ ∀ x ∈ b, inI .u8 x) (h3 : inI .i64 d) : ∃ K, ossuarylaw09_FactBack K l b d = some true := by
  refine ⟨300, ?_⟩
  obtain ⟨t, hb, _⟩ := light l
  unfold ossuarylaw09_FactBack
  rw [hb]
  simp only [Option.bind_some]
  cases t with
  | false => rw [alive_true]; rfl
  | true =>
    obtain ⟨hl, hs⟩ := light_short l hb
    simp only [Bool.not_true, Bool.false_eq_true, if_false]
    by_cases hlong : 1000 < (b.length : Int)
    · rw [if_pos hlong, alive_true]; rfl
    · rw [if_neg hlong]
      have hg : good b := ⟨fun c hc => by have := h2.2 c hc; simpa [inI, IntKind.min, IntKind.max, IntKind.signed, IntKind.bits] using this, by omega⟩
      obtain ⟨c, n, e1, e2, e3, e4⟩ := encode d l hl
      obtain ⟨h, m, r1, r2, r3⟩ := read_inv d b hg
      -- what stands behind the first part
      have rest : (fact_Read 300 b d).bind (fun x9 => (if ¬ (x9.1 = 0) then (if (x9.2.length : Int) = 0 then ((ossuarylaw09_alive 300).bind fun x10 => (some (x10))) else (some (false))) else ((fact_Encode 300 x9.2 d).bind fun x11 => (if x11.1 = 0 then (thn (ossuaryref01_Same x11.2 b) fun x12 => (if x12 = true then ((ossuarylaw09_alive 300).bind fun x13 => (some (x13))) else (some (false)))) else (some (false)))))) = some true := by
        rw [r1]
        simp only [Option.bind_some]
        by_cases hh : h = 0
        · obtain ⟨q1, q2⟩ := r3 hh
          obtain ⟨c', n', f1, f2, f3, f4⟩ := encode d m (by have := q1.2.2.2.1; omega)
          have hc' : c' = 0 := f2.2 q1
          simp only [hh, not_true_eq_false, if_false]
          rw [f4 hc']
          simp only [Option.bind_some, if_true, thn_eq, ossuaryref01_Same, ← q2, beq_self_eq_true, alive_true]
        · have := r2 hh
          subst this
          simp only [hh, not_false_eq_true, if_true, List.length_nil, alive_true]
          rfl
      by_cases hc : c = 0
      · rw [e4 hc, e1]
        have hr := e2.1 hc
        simp only [Option.bind_some, hc, not_true_eq_false, if_false, if_true]
        rw [read_batch d l hr]
        simp only [Option.bind_some, not_true_eq_false, if_false]
        rw [same_refl l hl]
        simp only [Option.bind_some, Bool.not_true, Bool.false_eq_true, if_false, cas]
        exact rest
      · rw [e3 hc, e1]
        simp only [Option.bind_some, not_true_eq_false, if_false, hc, cas]
        exact rest
end Go.Proofs.Ytmhhjhckbiaidaa.FactBack
