/- The plain law of StatSums: shares, buckets and a pivot's cells together. Written by mksums.py. -/
import Derived.Test.YtndeodpckfjakaaStatSumsPure
import Derived.Test.YtndeodpckfjakaaELaw
import Derived.KernelRfl
set_option linter.unusedVariables false
set_option linter.unusedSimpArgs false
set_option maxRecDepth 100000
namespace Go.Proofs.Ytndeodpckfjakaa.StatSums
open Go E
def blen : Nat → Nat → Nat
  | 0, _ => 0
  | f + 1, n => if n = 0 then 0 else blen f (n / 2) + 1
theorem blen_more : ∀ (f g n : Nat), n < 2 ^ f → f ≤ g → blen g n = blen f n
  | 0, g, n, h, _ => by
    have : n = 0 := by simpa using h
    subst this
    cases g <;> simp [blen]
  | f + 1, g, n, h, hg => by
    cases g with
    | zero => omega
    | succ g =>
      rw [blen, blen]
      split
      · rfl
      · rw [blen_more f g (n / 2) (by rw [Nat.pow_succ] at h; omega) (by omega)]
theorem blen_shift : ∀ (k f n : Nat), 2 ^ k ≤ n → k ≤ f → blen f n = blen (f - k) (n / 2 ^ k) + k
  | 0, f, n, h, _ => by simp
  | k + 1, f, n, h, hf => by
    cases f with
    | zero => omega
    | succ f =>
      have h2 : 2 ^ (k + 1) = 2 * 2 ^ k := by rw [Nat.pow_succ, Nat.mul_comm]
      have hp : 0 < 2 ^ k := Nat.pow_pos (by decide)
      rw [blen, if_neg (by omega), blen_shift k f (n / 2) (by omega) (by omega), show f + 1 - (k + 1) = f - k by omega, Nat.div_div_eq_div_mul, ← h2]
      omega
theorem blen_le : ∀ f n, blen f n ≤ f
  | 0, _ => Nat.le_refl _
  | f + 1, n => by
    rw [blen]; split
    · omega
    · have := blen_le f (n / 2); omega
theorem shrU (n k : Nat) (h : k ≤ 64) : bShr .u64 (n : Int) (k : Int) = ((n / 2 ^ k : Nat) : Int) := by
  show (n : Int).fdiv (2 ^ min (k : Int).toNat 64) = _
  rw [Int.toNat_natCast, Nat.min_eq_left h]
  have : (2 : Int) ^ k = ((2 ^ k : Nat) : Int) := by rw [Int.natCast_pow]; rfl
  rw [this, Int.fdiv_eq_ediv_of_nonneg _ (Int.natCast_nonneg _)]; rfl
/-- The table of a byte's bits. -/
def tab : List UInt8 := [0, 1, 2, 2, 3, 3, 3, 3, 4, 4, 4, 4, 4, 4, 4, 4, 5, 5, 5, 5, 5, 5, 5, 5, 5, 5, 5, 5, 5, 5, 5, 5, 6, 6, 6, 6, 6, 6, 6, 6, 6, 6, 6, 6, 6, 6, 6, 6, 6, 6, 6, 6, 6, 6, 6, 6, 6, 6, 6, 6, 6, 6, 6, 6, 7, 7, 7, 7, 7, 7, 7, 7, 7, 7, 7, 7, 7, 7, 7, 7, 7, 7, 7, 7, 7, 7, 7, 7, 7, 7, 7, 7, 7, 7, 7, 7, 7, 7, 7, 7, 7, 7, 7, 7, 7, 7, 7, 7, 7, 7, 7, 7, 7, 7, 7, 7, 7, 7, 7, 7, 7, 7, 7, 7, 7, 7, 7, 7, 8, 8, 8, 8, 8, 8, 8, 8, 8, 8, 8, 8, 8, 8, 8, 8, 8, 8, 8, 8, 8, 8, 8, 8, 8, 8, 8, 8, 8, 8, 8, 8, 8, 8, 8, 8, 8, 8, 8, 8, 8, 8, 8, 8, 8, 8, 8, 8, 8, 8, 8, 8, 8, 8, 8, 8, 8, 8, 8, 8, 8, 8, 8, 8, 8, 8, 8, 8, 8, 8, 8, 8, 8, 8, 8, 8, 8, 8, 8, 8, 8, 8, 8, 8, 8, 8, 8, 8, 8, 8, 8, 8, 8, 8, 8, 8, 8, 8, 8, 8, 8, 8, 8, 8, 8, 8, 8, 8, 8, 8, 8, 8, 8, 8, 8, 8, 8, 8, 8, 8, 8, 8, 8, 8, 8, 8, 8, 8]
theorem tab_eq : ∀ x : Fin 256, ((tab.getD x.val 0).toNat : Int) = ((blen 8 x.val : Nat) : Int) := by decide +kernel
theorem tab_len : tab.length = 256 := by decide +kernel
theorem w64_add {a b : Nat} (h : a + b ≤ 1000) : w64 ((a : Int) + (b : Int)) = ((a + b : Nat) : Int) := by rw [w64_id (by omega)]; omega
theorem blen_8 {n : Nat} (h : n < 256) (f : Nat) (hf : 8 ≤ f) : blen f n = blen 8 n := blen_more 8 f n (by simpa using h) hf
set_option maxRecDepth 100000 in
theorem len64 (n : Nat) (h : n < 18446744073709551616) : bits_Len64 (n : Int) = some ((blen 64 n : Nat) : Int) := by
  -- what comes of it: so many bits are gone, and the rest
  have step : ∀ (x c f k : Nat), k ≤ f → 2 ^ k ≤ x → blen f x + c = blen (f - k) (x / 2 ^ k) + (c + k) := fun x c f k h1 h2 => by rw [blen_shift k f x h2 h1]; omega
  have fin : ∀ (x c : Nat), x < 256 → c ≤ 100 → (if 0 ≤ (wu8 (x : Int)) then (if (wu8 (x : Int)) < (tab.length : Int) then some (w64 ((c : Int) + (w64 ((tab.getD (wu8 (x : Int)).toNat 0).toNat : Int)))) else none) else none) = some ((blen 8 x + c : Nat) : Int) := by
    intro x c hx hc
    have e : wu8 (x : Int) = x := by simp [wu8, IntKind.wrap, IntKind.signed, IntKind.bits]; omega
    have hb := blen_le 8 x
    have ht := tab_eq ⟨x, hx⟩
    simp only at ht
    rw [e, tab_len, if_pos (by omega), if_pos (by omega), Int.toNat_natCast, ht, w64_id (by omega) (n := ((blen 8 x : Nat) : Int)), w64_add (by omega)]
    congr 2
    omega
  unfold bits_Len64
  simp only [thn_eq]
  -- 32 bits
  obtain ⟨x1, c1, e1, l1, b1, hc1⟩ : ∃ x1 c1 : Nat, (if 4294967296 ≤ (n : Int) then (bShr .u64 (n : Int) 32, (32 : Int)) else ((n : Int), (0 : Int))) = ((x1 : Int), (c1 : Int)) ∧ x1 < 4294967296 ∧ blen 64 n = blen 32 x1 + c1 ∧ c1 ≤ 32 := by
    by_cases h1 : 4294967296 ≤ n
    · have p : (2 : Nat) ^ 32 = 4294967296 := by decide
      refine ⟨n / 2 ^ 32, 32, ?_, by omega, ?_, by omega⟩
      · rw [if_pos (by omega)]
        have := shrU n 32 (by omega)
        rw [show ((32 : Nat) : Int) = 32 from rfl] at this
        rw [this]; rfl
      · have := step n 0 64 32 (by omega) (by omega)
        simpa using this
    · exact ⟨n, 0, by rw [if_neg (by omega)]; rfl, by omega, by rw [Nat.add_zero]; exact blen_more 32 64 n (Nat.lt_of_lt_of_le (show n < 4294967296 by omega) (by decide)) (by omega), by omega⟩
  rw [e1]
  obtain ⟨x2, c2, e2, l2, b2, hc2⟩ : ∃ x2 c2 : Nat, (if 65536 ≤ (x1 : Int) then (bShr .u64 (x1 : Int) 16, w64 ((c1 : Int) + 16)) else ((x1 : Int), (c1 : Int))) = ((x2 : Int), (c2 : Int)) ∧ x2 < 65536 ∧ blen 32 x1 + c1 = blen 16 x2 + c2 ∧ c2 ≤ 48 := by
    by_cases h1 : 65536 ≤ x1
    · have p : (2 : Nat) ^ 16 = 65536 := by decide
      refine ⟨x1 / 2 ^ 16, c1 + 16, ?_, by omega, ?_, by omega⟩
      · rw [if_pos (by omega)]
        have := shrU x1 16 (by omega)
        rw [show ((16 : Nat) : Int) = 16 from rfl] at this
        have h2 := w64_add (a := c1) (b := 16) (by omega)
        rw [show ((16 : Nat) : Int) = 16 from rfl] at h2
        rw [this, h2]
      · exact step x1 c1 32 16 (by omega) (by omega)
    · exact ⟨x1, c1, by rw [if_neg (by omega)], by omega, by rw [blen_more 16 32 x1 (Nat.lt_of_lt_of_le (show x1 < 65536 by omega) (by decide)) (by omega)], by omega⟩
  simp only [e2]
  obtain ⟨x3, c3, e3, l3, b3, hc3⟩ : ∃ x3 c3 : Nat, (if 256 ≤ (x2 : Int) then (bShr .u64 (x2 : Int) 8, w64 ((c2 : Int) + 8)) else ((x2 : Int), (c2 : Int))) = ((x3 : Int), (c3 : Int)) ∧ x3 < 256 ∧ blen 16 x2 + c2 = blen 8 x3 + c3 ∧ c3 ≤ 56 := by
    by_cases h1 : 256 ≤ x2
    · have p : (2 : Nat) ^ 8 = 256 := by decide
      refine ⟨x2 / 2 ^ 8, c2 + 8, ?_, by omega, ?_, by omega⟩
      · rw [if_pos (by omega)]
        have := shrU x2 8 (by omega)
        rw [show ((8 : Nat) : Int) = 8 from rfl] at this
        have h2 := w64_add (a := c2) (b := 8) (by omega)
        rw [show ((8 : Nat) : Int) = 8 from rfl] at h2
        rw [this, h2]
      · exact step x2 c2 16 8 (by omega) (by omega)
    · exact ⟨x2, c2, by rw [if_neg (by omega)], by omega, by rw [blen_8 (by omega) 16 (by omega)], by omega⟩
  simp only [e3]
  rw [b1, b2, b3]
  exact fin x3 c3 l3 (by omega)

/-! ### 128 bits -/
theorem andU (n k : Nat) (h : k ≤ 64) (hn : n < 18446744073709551616) : bAnd .u64 (n : Int) ((2 ^ k - 1 : Nat) : Int) = ((n % 2 ^ k : Nat) : Int) := by
  have hk : (2 : Nat) ^ k ≤ 2 ^ 64 := Nat.pow_le_pow_right (by decide) h
  have h64 : (2 : Nat) ^ 64 = 18446744073709551616 := by decide
  have hp : 0 < 2 ^ k := Nat.pow_pos (by decide)
  show wu64 (((BitVec.ofInt 64 (n : Int)) &&& (BitVec.ofInt 64 ((2 ^ k - 1 : Nat) : Int))).toNat : Int) = _
  rw [BitVec.toNat_and]
  simp only [BitVec.ofInt_natCast, BitVec.toNat_ofNat]
  rw [Nat.mod_eq_of_lt (by omega), Nat.mod_eq_of_lt (by omega), Nat.and_two_pow_sub_one_eq_mod]
  have := Nat.mod_lt n hp
  rw [wu64_id (by omega)]
theorem shlU (n k : Nat) (h : k ≤ 64) : bShl .u64 (n : Int) (k : Int) = wu64 ((n * 2 ^ k : Nat) : Int) := by
  show wu64 ((n : Int) * 2 ^ min (k : Int).toNat 64) = _
  rw [Int.toNat_natCast, Nat.min_eq_left h]
  simp
theorem orU (a b k : Nat) (h : b < 2 ^ k) (hs : a * 2 ^ k + b < 18446744073709551616) : bOr .u64 ((a * 2 ^ k : Nat) : Int) (b : Int) = ((a * 2 ^ k + b : Nat) : Int) := by
  show wu64 (((BitVec.ofInt 64 ((a * 2 ^ k : Nat) : Int)) ||| (BitVec.ofInt 64 (b : Int))).toNat : Int) = _
  rw [BitVec.toNat_or]
  simp only [BitVec.ofInt_natCast, BitVec.toNat_ofNat]
  have h64 : (2 : Nat) ^ 64 = 18446744073709551616 := by decide
  rw [Nat.mod_eq_of_lt (by omega), Nat.mod_eq_of_lt (by omega), Nat.mul_comm a, ← Nat.two_pow_add_eq_or_of_lt h a, Nat.mul_comm]
  rw [wu64_id (by omega)]
theorem wuN {n : Nat} (h : n < 18446744073709551616) : wu64 (n : Int) = n := wu64_id (by omega)
theorem mul64 (n : Nat) (hn : n ≤ 4611686018427387904) : ∃ hi lo : Nat, bits_Mul64 (n : Int) 10000 = ((hi : Int), (lo : Int)) ∧ hi * 18446744073709551616 + lo = n * 10000 ∧ lo < 18446744073709551616 := by
  have hx0 : bAnd .u64 (n : Int) 4294967295 = ((n % 4294967296 : Nat) : Int) := andU n 32 (by decide) (by omega)
  have hx1 : bShr .u64 (n : Int) 32 = ((n / 4294967296 : Nat) : Int) := shrU n 32 (by decide)
  have hy0 : bAnd .u64 (10000 : Int) 4294967295 = 10000 := andU 10000 32 (by decide) (by decide)
  have hy1 : bShr .u64 (10000 : Int) 32 = 0 := shrU 10000 32 (by decide)
  refine ⟨n * 10000 / 18446744073709551616, n * 10000 % 18446744073709551616, ?_, by omega, by omega⟩
  unfold bits_Mul64
  rw [hx0, hx1, hy0, hy1]
  have e1 : wu64 (((n % 4294967296 : Nat) : Int) * 10000) = ((n % 4294967296 * 10000 : Nat) : Int) := by rw [wu64_id (by omega)]; omega
  have e2 : bShr .u64 ((n % 4294967296 * 10000 : Nat) : Int) 32 = ((n % 4294967296 * 10000 / 4294967296 : Nat) : Int) := shrU _ 32 (by decide)
  have e3 : wu64 (((n / 4294967296 : Nat) : Int) * 10000) = ((n / 4294967296 * 10000 : Nat) : Int) := by rw [wu64_id (by omega)]; omega
  have e4 : wu64 (((n / 4294967296 * 10000 : Nat) : Int) + ((n % 4294967296 * 10000 / 4294967296 : Nat) : Int)) = ((n * 10000 / 4294967296 : Nat) : Int) := by rw [wu64_id (by omega)]; omega
  have e5 : bShr .u64 ((n * 10000 / 4294967296 : Nat) : Int) 32 = ((n * 10000 / 4294967296 / 4294967296 : Nat) : Int) := shrU _ 32 (by decide)
  have e6 : bAnd .u64 ((n * 10000 / 4294967296 : Nat) : Int) 4294967295 = ((n * 10000 / 4294967296 % 4294967296 : Nat) : Int) := andU _ 32 (by decide) (by omega)
  have e7 : wu64 (((n % 4294967296 : Nat) : Int) * 0) = 0 := by rw [Int.mul_zero]; rfl
  have e8 : wu64 (((n * 10000 / 4294967296 % 4294967296 : Nat) : Int) + 0) = ((n * 10000 / 4294967296 % 4294967296 : Nat) : Int) := by rw [Int.add_zero, wu64_id (by omega)]
  have e9 : bShr .u64 ((n * 10000 / 4294967296 % 4294967296 : Nat) : Int) 32 = ((n * 10000 / 4294967296 % 4294967296 / 4294967296 : Nat) : Int) := shrU _ 32 (by decide)
  have e10 : wu64 (((n / 4294967296 : Nat) : Int) * 0) = 0 := by rw [Int.mul_zero]; rfl
  rw [e1, e2, e3, e4, e5, e6, e7, e8, e9, e10]
  refine Prod.ext ?_ ?_
  · simp only [Int.zero_add]
    rw [wu64_id (n := ((n * 10000 / 4294967296 / 4294967296 : Nat) : Int)) (by omega), wu64_id (by omega)]
    omega
  · simp only
    rw [wu64_def]; omega
theorem blen_between : ∀ (f n : Nat), n < 2 ^ f → 0 < n → 0 < blen f n ∧ 2 ^ (blen f n - 1) ≤ n ∧ n < 2 ^ blen f n
  | 0, n, h, h0 => by simp at h; omega
  | f + 1, n, h, h0 => by
    rw [blen, if_neg (by omega)]
    by_cases h1 : n = 1
    · subst h1
      have : blen f (1 / 2) = 0 := by cases f <;> simp [blen]
      rw [this]; decide
    · obtain ⟨p, q, r⟩ := blen_between f (n / 2) (by rw [Nat.pow_succ] at h; omega) (by omega)
      refine ⟨by omega, ?_, by rw [Nat.pow_succ]; omega⟩
      have e : blen f (n / 2) + 1 - 1 = (blen f (n / 2) - 1) + 1 := by omega
      rw [e, Nat.pow_succ]; omega
/-- A divisor moved up so far that its top bit stands. -/
theorem norm (y : Nat) (h0 : 0 < y) (hy : y ≤ 4611686018427387904) : ∃ s : Nat, bits_LeadingZeros64 (y : Int) = some (s : Int) ∧ 1 ≤ s ∧ s < 64 ∧ 9223372036854775808 ≤ y * 2 ^ s ∧ y * 2 ^ s < 18446744073709551616 := by
  have h64 : (2 : Nat) ^ 64 = 18446744073709551616 := by decide
  obtain ⟨p, q, r⟩ := blen_between 64 y (by omega) h0
  have hb := blen_le 64 y
  have hb63 : blen 64 y ≤ 63 := by
    apply Classical.byContradiction
    intro hn
    have : blen 64 y = 64 := by omega
    rw [this] at q
    have : (2 : Nat) ^ (64 - 1) = 9223372036854775808 := by decide
    omega
  refine ⟨64 - blen 64 y, ?_, by omega, by omega, ?_, ?_⟩
  · unfold bits_LeadingZeros64
    rw [len64 y (by omega)]
    simp only [Option.bind_some]
    rw [w64_id (by omega)]
    congr 1; omega
  · have h1 : 2 ^ (blen 64 y - 1) * 2 ^ (64 - blen 64 y) ≤ y * 2 ^ (64 - blen 64 y) := Nat.mul_le_mul_right _ q
    rw [← Nat.pow_add, show blen 64 y - 1 + (64 - blen 64 y) = 63 by omega] at h1
    have : (2 : Nat) ^ 63 = 9223372036854775808 := by decide
    omega
  · have h1 : y * 2 ^ (64 - blen 64 y) < 2 ^ blen 64 y * 2 ^ (64 - blen 64 y) := Nat.mul_lt_mul_of_pos_right r (Nat.pow_pos (by decide))
    rw [← Nat.pow_add, show blen 64 y + (64 - blen 64 y) = 64 by omega] at h1
    omega
/-- The second digit: lowered until it fits. -/
theorem digit (x20 : (Int × Int × Int × Int × Int × Int × Int × Int)) (yn1 yn0 un0 U Q : Nat) (h1 : x20.2.2.2.1 = yn1) (h0 : x20.2.2.2.2.1 = yn0) (hu : x20.2.2.2.2.2.2.2 = un0)
    (hy1 : 2147483648 ≤ yn1) (hy1' : yn1 < 4294967296) (hy0 : yn0 < 4294967296) (hu0 : un0 < 4294967296) (hQ : Q * (yn1 * 4294967296 + yn0) ≤ U) (hQ' : U < (Q + 1) * (yn1 * 4294967296 + yn0)) (m : Int) :
    ∀ (k q r : Nat), 6442450944 ≤ r + k * 2147483648 → q < 4294967296 → Q ≤ q → r < 4294967296 → (q * yn1 + r) * 4294967296 + un0 = U → bits_Div64_l1 300 x20 k m q r = some ((Q : Int), m) := by
  intro k
  induction k with
  | zero => intro q r hk hq hQq hr he; omega
  | succ k ih =>
    intro q r hk hq hQq hr he
    have hqy : q * yn0 ≤ 4294967295 * 4294967295 := Nat.mul_le_mul (by omega) (by omega)
    have ea : wu64 (4294967296 * (r : Int)) = ((4294967296 * r : Nat) : Int) := by rw [wu64_id (by omega)]; omega
    have eb : wu64 (((4294967296 * r : Nat) : Int) + (un0 : Int)) = ((4294967296 * r + un0 : Nat) : Int) := by rw [wu64_id (by omega)]; omega
    have ec : wu64 ((q : Int) * (yn0 : Int)) = ((q * yn0 : Nat) : Int) := by rw [← Int.natCast_mul, wuN (by omega)]
    have ed : wu64 ((r : Int) + (yn1 : Int)) = ((r + yn1 : Nat) : Int) := by rw [wu64_id (by omega)]; omega
    have x1 : q * (yn1 * 4294967296 + yn0) = q * yn1 * 4294967296 + q * yn0 := by rw [Nat.mul_add, Nat.mul_assoc]
    have x2 : (q * yn1 + r) * 4294967296 = q * yn1 * 4294967296 + r * 4294967296 := Nat.add_mul _ _ _
    rw [bits_Div64_l1, h1, h0, hu, ea, eb, ec, ed]
    simp only [thn_eq]
    rw [if_neg (by omega)]
    by_cases ht : 4294967296 * r + un0 < q * yn0
    · -- too big
      have hlt : Q < q := by
        apply Classical.byContradiction
        intro hn
        have : q = Q := by omega
        subst this
        omega
      have ef : wu64 ((q : Int) - 1) = ((q - 1 : Nat) : Int) := by rw [wu64_id (by omega)]; omega
      rw [if_pos (by omega), cas_inl, ef]
      have x3 : (q - 1) * yn1 + yn1 = q * yn1 := by
        have : q = (q - 1) + 1 := by omega
        rw [this]; simp [Nat.add_mul]
      by_cases hbig : 4294967296 ≤ r + yn1
      · rw [if_pos (by omega)]
        have hle : (q - 1) * (yn1 * 4294967296 + yn0) ≤ U := by
          have y1 : (q - 1) * (yn1 * 4294967296 + yn0) = (q - 1) * yn1 * 4294967296 + (q - 1) * yn0 := by rw [Nat.mul_add, Nat.mul_assoc]
          have y2 : (q - 1) * yn0 ≤ 4294967295 * 4294967295 := Nat.mul_le_mul (by omega) (by omega)
          omega
        have : q - 1 = Q := by
          have h3 : (q - 1) < Q + 1 := Nat.lt_of_mul_lt_mul_right (Nat.lt_of_le_of_lt hle hQ')
          omega
        rw [this]
      · rw [if_neg (by omega)]
        refine ih (q - 1) (r + yn1) (by omega) (by omega) (by omega) (by omega) ?_
        have : (q - 1) * yn1 + (r + yn1) = q * yn1 + r := by omega
        rw [this]; exact he
    · rw [if_neg (by omega), cas_inr]
      have hle : q * (yn1 * 4294967296 + yn0) ≤ U := by omega
      have : q = Q := by
        have h3 : q < Q + 1 := Nat.lt_of_mul_lt_mul_right (Nat.lt_of_le_of_lt hle hQ')
        omega
      rw [this]
theorem split32 (Y : Nat) : Y / 4294967296 * 4294967296 + Y % 4294967296 = Y := by omega
theorem vsplit (A B C V : Nat) (hC : C = A * 4294967296 + B / 4294967296) (hV : V = A * 18446744073709551616 + B) : C * 4294967296 + B % 4294967296 = V := by omega
theorem shl32 (A B C : Nat) (hC : C = A * 4294967296 + B / 4294967296) (hA : A < 10000) (hB : B < 18446744073709551616) : C < 42949672960000 := by omega
theorem div64 (hi lo y U : Nat) (hU : hi * 18446744073709551616 + lo = U) (hlo : lo < 18446744073709551616) (hy : y ≤ 4611686018427387904) (h0 : 0 < y) (hb : U ≤ 10000 * y) : ∃ r, bits_Div64 300 (hi : Int) (lo : Int) (y : Int) = some (((U / y : Nat) : Int), r) := by
  have hq : U / y ≤ 10000 := Nat.div_le_of_le_mul (by rw [Nat.mul_comm]; exact hb)
  unfold bits_Div64
  rw [if_neg (by omega), if_neg (by omega)]
  by_cases hh : hi = 0
  · subst hh
    have hUl : lo = U := by omega
    subst hUl
    rw [if_pos (by rfl)]
    have : wu64 (Int.tdiv (lo : Int) (y : Int)) = ((lo / y : Nat) : Int) := by
      have : Int.tdiv (lo : Int) (y : Int) = ((lo / y : Nat) : Int) := by rw [Int.tdiv_eq_ediv_of_nonneg (by omega)]; rfl
      rw [this, wuN (by omega)]
    rw [this]
    exact ⟨_, rfl⟩
  · rw [if_neg (by omega)]
    obtain ⟨s, e1, s1, s2, n1, n2⟩ := norm y h0 hy
    rw [e1]
    simp only [Option.bind_some]
    have hs : wu64 (s : Int) = s := wuN (by omega)
    have hs2 : wu64 (64 - (s : Int)) = ((64 - s : Nat) : Int) := by rw [wu64_id (by omega)]; omega
    have hp : 2 ^ s * 2 ^ (64 - s) = 18446744073709551616 := by rw [← Nat.pow_add, show s + (64 - s) = 64 by omega]
    have hps : 0 < 2 ^ s := Nat.pow_pos (by decide)
    have hY : bShl .u64 (y : Int) (s : Int) = ((y * 2 ^ s : Nat) : Int) := by rw [shlU y s (by omega), wuN n2]
    generalize hYd : y * 2 ^ s = Y at *
    have hyn1 : bShr .u64 (Y : Int) 32 = ((Y / 4294967296 : Nat) : Int) := shrU Y 32 (by decide)
    have hyn0 : bAnd .u64 (Y : Int) 4294967295 = ((Y % 4294967296 : Nat) : Int) := andU Y 32 (by decide) n2
    -- what is divided, moved up as far
    have hV : U * 2 ^ s ≤ 10000 * Y := by rw [← hYd, ← Nat.mul_assoc]; exact Nat.mul_le_mul_right _ hb
    have hhis : hi * 2 ^ s < 10000 := by
      have h1 : (hi * 2 ^ s) * 18446744073709551616 ≤ U * 2 ^ s := by
        rw [← hU, Nat.add_mul, Nat.mul_right_comm]; omega
      omega
    have hun32a : bShl .u64 (hi : Int) (s : Int) = ((hi * 2 ^ s : Nat) : Int) := by rw [shlU hi s (by omega), wuN (by omega)]
    have hun32b : bShr .u64 (lo : Int) ((64 - s : Nat) : Int) = ((lo / 2 ^ (64 - s) : Nat) : Int) := shrU lo (64 - s) (by omega)
    have hlow : lo / 2 ^ (64 - s) < 2 ^ s := by rw [Nat.div_lt_iff_lt_mul (Nat.pow_pos (by decide)), hp]; exact hlo
    have hp64 : 2 ^ s ≤ 9223372036854775808 := by
      have : (2 : Nat) ^ s ≤ 2 ^ 63 := Nat.pow_le_pow_right (by decide) (by omega)
      have e : (2 : Nat) ^ 63 = 9223372036854775808 := by decide
      omega
    have hor := orU hi (lo / 2 ^ (64 - s)) s hlow (by omega)
    generalize hA : hi * 2 ^ s + lo / 2 ^ (64 - s) = A at *
    have hun10 : bShl .u64 (lo : Int) (s : Int) = ((lo * 2 ^ s % 18446744073709551616 : Nat) : Int) := by rw [shlU lo s (by omega), wu64_def]; rfl
    have hsplit : lo * 2 ^ s % 18446744073709551616 + 18446744073709551616 * (lo / 2 ^ (64 - s)) = lo * 2 ^ s := by
      have h1 : lo * 2 ^ s / 18446744073709551616 = lo / 2 ^ (64 - s) := by
        rw [← hp, Nat.mul_comm (2 ^ s), Nat.mul_div_mul_right _ _ hps]
      have := Nat.mod_add_div (lo * 2 ^ s) 18446744073709551616
      rw [h1] at this
      exact this
    generalize hB : lo * 2 ^ s % 18446744073709551616 = B at *
    have hB' : B < 18446744073709551616 := by rw [← hB]; exact Nat.mod_lt _ (by decide)
    obtain ⟨V, hVV⟩ : ∃ V, V = A * 18446744073709551616 + B := ⟨_, rfl⟩
    have hVd : U * 2 ^ s = V := by
      have e1 : (hi * 18446744073709551616 + lo) * 2 ^ s = hi * 2 ^ s * 18446744073709551616 + lo * 2 ^ s := by rw [Nat.add_mul, Nat.mul_right_comm]
      have e0 : (hi * 18446744073709551616 + lo) * 2 ^ s = U * 2 ^ s := congrArg (· * 2 ^ s) hU
      rewrite [e1] at e0
      omega
    have hA' : A < 10000 := by omega
    have hQd : U / y = (V) / Y := by
      rw [← hVd, ← hYd, Nat.mul_div_mul_right _ _ hps]
    have hun1 : bShr .u64 (B : Int) 32 = ((B / 4294967296 : Nat) : Int) := shrU B 32 (by decide)
    have hun0 : bAnd .u64 (B : Int) 4294967295 = ((B % 4294967296 : Nat) : Int) := andU B 32 (by decide) hB'
    rw [hs, hs2, hY, hyn1, hyn0, hun32a, hun32b, hor, hun10, hun1, hun0, if_pos (by omega), if_pos (by omega), if_neg (by omega)]
    have hY1 : 2147483648 ≤ Y / 4294967296 := by omega
    have hd0 : Int.tdiv (A : Int) ((Y / 4294967296 : Nat) : Int) = 0 := by
      rw [Int.tdiv_eq_ediv_of_nonneg (by omega)]
      exact Int.ediv_eq_zero_of_lt (by omega) (by omega)
    have hq1 : wu64 (Int.tdiv (A : Int) ((Y / 4294967296 : Nat) : Int)) = 0 := by rw [hd0]; rfl
    have hr1 : wu64 ((A : Int) - wu64 (0 * ((Y / 4294967296 : Nat) : Int))) = A := by
      rw [Int.zero_mul]
      show wu64 ((A : Int) - 0) = _
      rw [Int.sub_zero, wuN (by omega)]
    rw [hq1, hr1]
    -- the first digit is nought
    have hl0 : bits_Div64_l0 300 300 (Y : Int) (s : Int) ((Y / 4294967296 : Nat) : Int) ((Y % 4294967296 : Nat) : Int) (A : Int) ((B / 4294967296 : Nat) : Int) ((B % 4294967296 : Nat) : Int) 0 (A : Int) = some ((0 : Int), (Y : Int), (s : Int), ((Y / 4294967296 : Nat) : Int), ((Y % 4294967296 : Nat) : Int), (A : Int), ((B / 4294967296 : Nat) : Int), ((B % 4294967296 : Nat) : Int)) := by
      rw [bits_Div64_l0]
      have z : wu64 (0 * ((Y % 4294967296 : Nat) : Int)) = 0 := by rw [Int.zero_mul]; rfl
      have p : 0 ≤ wu64 (wu64 (4294967296 * (A : Int)) + ((B / 4294967296 : Nat) : Int)) := (wu64_in _).1
      rw [z]
      simp only [thn_eq]
      rw [if_neg (by omega), if_neg (by omega), cas_inr]
    rw [hl0]
    simp only [Option.bind_some]
    rw [if_neg (by omega)]
    obtain ⟨C, hC⟩ : ∃ C, C = A * 4294967296 + B / 4294967296 := ⟨_, rfl⟩
    have hun21 : wu64 (wu64 (wu64 ((A : Int) * 4294967296) + ((B / 4294967296 : Nat) : Int)) - wu64 (0 * (Y : Int))) = (C : Int) := by
      rw [Int.zero_mul]
      show wu64 (wu64 (wu64 ((A : Int) * 4294967296) + ((B / 4294967296 : Nat) : Int)) - 0) = _
      rw [Int.sub_zero, wu64_id (n := (A : Int) * 4294967296) (by omega), wu64_id (n := (A : Int) * 4294967296 + ((B / 4294967296 : Nat) : Int)) (by omega), wu64_id (by omega)]
      omega
    rw [hun21]
    generalize hyy : Y / 4294967296 = y1 at *
    have hC' : C < 42949672960000 := by omega
    have hy1l : y1 < 4294967296 := by omega
    have hq0 : wu64 (Int.tdiv (C : Int) (y1 : Int)) = ((C / y1 : Nat) : Int) := by
      have : Int.tdiv (C : Int) (y1 : Int) = ((C / y1 : Nat) : Int) := by rw [Int.tdiv_eq_ediv_of_nonneg (by omega)]; rfl
      have := Nat.div_le_self C y1
      rw [‹Int.tdiv (C : Int) (y1 : Int) = _›, wuN (by omega)]
    have hCd := Nat.div_add_mod C y1
    have hCm := Nat.mod_lt C (show 0 < y1 by omega)
    have hCq : C / y1 < 4294967296 := by
      rw [Nat.div_lt_iff_lt_mul (by omega)]; omega
    have hr0 : wu64 ((C : Int) - wu64 (((C / y1 : Nat) : Int) * (y1 : Int))) = ((C % y1 : Nat) : Int) := by
      have e : ((C / y1 : Nat) : Int) * (y1 : Int) = ((y1 * (C / y1) : Nat) : Int) := by rw [Nat.mul_comm]; exact (Int.natCast_mul _ _).symm
      rw [e, wu64_id (n := ((y1 * (C / y1) : Nat) : Int)) (by omega), wu64_id (by omega)]
      omega
    rw [hq0, hr0]
    -- the second digit
    have hYe : y1 * 4294967296 + Y % 4294967296 = Y := by rewrite [← hyy]; exact split32 Y
    have hVe : C * 4294967296 + B % 4294967296 = V := vsplit A B C V hC hVV
    have hY0 : 0 < Y := Nat.lt_of_lt_of_le (by decide) n1
    have hQle : U / y * Y ≤ V := by rw [hQd]; exact Nat.div_mul_le_self _ _
    have hQlt : V < (U / y + 1) * Y := by
      rw [hQd]
      have h1 := Nat.div_add_mod (V) Y
      have h2 := Nat.mod_lt (V) hY0
      rw [Nat.add_mul, Nat.one_mul, Nat.mul_comm]
      omega
    have hge : U / y ≤ C / y1 := by
      rw [Nat.le_div_iff_mul_le (by omega)]
      have h1 : U / y * Y = U / y * y1 * 4294967296 + U / y * (Y % 4294967296) := by
        rw [Nat.mul_assoc, ← Nat.mul_add, hYe]
      omega
    have hdig := digit ((0 : Int), (Y : Int), (s : Int), (y1 : Int), ((Y % 4294967296 : Nat) : Int), (A : Int), ((B / 4294967296 : Nat) : Int), ((B % 4294967296 : Nat) : Int)) y1 (Y % 4294967296) (B % 4294967296) (V) (U / y) rfl rfl rfl hY1 hy1l (Nat.mod_lt _ (by decide)) (Nat.mod_lt _ (by decide)) (by rw [hYe]; exact hQle) (by rw [hYe]; exact hQlt) (C : Int) 300 (C / y1) (C % y1) (by omega) hCq hge (by omega) (by rw [Nat.mul_comm (C / y1), hCd]; exact hVe)
    rw [hdig]
    simp only [Option.bind_some]
    rw [if_pos (by omega)]
    refine ⟨_, congrArg some (Prod.ext ?_ rfl)⟩
    simp only
    rw [Int.zero_mul]
    show wu64 (wu64 0 + _) = _
    rw [show wu64 0 = 0 from rfl, Int.zero_add, wuN (by omega)]
theorem one_share (n y : Nat) (hn : n ≤ y) (h0 : 0 < y) (hy : y ≤ 4611686018427387904) : ∃ (hi lo : Nat) (r : Int), bits_Mul64 (n : Int) 10000 = ((hi : Int), (lo : Int)) ∧ bits_Div64 300 (hi : Int) (lo : Int) (y : Int) = some (((n * 10000 / y : Nat) : Int), r) := by
  obtain ⟨hi, lo, e1, e2, e3⟩ := mul64 n (by omega)
  obtain ⟨r, e4⟩ := div64 hi lo y (n * 10000) e2 e3 hy h0 (by omega)
  exact ⟨hi, lo, r, e1, e4⟩
theorem up1 {i : Nat} (h : i < 100000) : w64 ((i : Int) + 1) = ((i + 1 : Nat) : Int) := by rw [w64_id (by omega)]; omega
theorem getD_at {α : Type} (l : List α) (z : α) {i : Nat} (h : i < l.length) : l.getD i z = l[i] := by rw [List.getD_eq_getElem?_getD, List.getElem?_eq_getElem h]; rfl
/-! ### Are they few, and right? -/
theorem light_in (l0 : List Api_Row) (i : Nat) : ∀ (k j : Nat), j ≤ 4 → 4 < j + k → ∃ x, ossuarylaw35_light_R_l1 300 l0 i k j = some x
  | 0, j, h1, h2 => by omega
  | k + 1, j, h1, h2 => by
    rw [ossuarylaw35_light_R_l1]
    by_cases h : j < 4
    · obtain ⟨x, hx⟩ := light_in l0 i k (j + 1) (by omega) (by omega)
      rw [if_pos (by omega), if_pos (by omega), if_pos (by omega), if_pos (by omega), up1 (by omega), hx]
      split <;> exact ⟨_, rfl⟩
    · rw [if_neg (by omega)]; exact ⟨_, rfl⟩
theorem light_out (l0 : List Api_Row) (hl : l0.length ≤ 60) : ∀ (k i : Nat), i ≤ l0.length → l0.length < i + k → ∃ b, ossuarylaw35_light_R_l0 300 l0 k i = some b
  | 0, i, h1, h2 => by omega
  | k + 1, i, h1, h2 => by
    rw [ossuarylaw35_light_R_l0]
    by_cases h : i < l0.length
    · obtain ⟨x, hx⟩ := light_out l0 hl k (i + 1) (by omega) (by omega)
      obtain ⟨z, hz⟩ := light_in l0 i 300 0 (by omega) (by omega)
      have hz' : ossuarylaw35_light_R_l1 300 l0 i 300 0 = some z := hz
      rw [if_pos (by omega), hz', up1 (by omega)]
      cases z with
      | inl u => simp only [Option.bind_some, cas]; exact ⟨x, hx⟩
      | inr b => simp only [Option.bind_some, cas]; exact ⟨b, rfl⟩
    · rw [if_neg (by omega)]; exact ⟨_, rfl⟩
theorem light (l0 : List Api_Row) : ∃ b, ossuarylaw35_light_R 300 l0 = some b ∧ (b = true → l0.length ≤ 60) := by
  unfold ossuarylaw35_light_R
  by_cases hl : 60 < (l0.length : Int)
  · rw [if_pos hl]; exact ⟨false, rfl, fun h => by cases h⟩
  · rw [if_neg hl]
    obtain ⟨b, e⟩ := light_out l0 (by omega) 300 0 (by omega) (by omega)
    exact ⟨b, e, fun _ => by omega⟩
theorem cmp0 (a1 a2 a3 a4 b1 b2 b3 b4 : List UInt8) : ∀ (k i : Nat), i ≤ 4 → 4 < i + k → ∃ r, ossuaryref09_Compare_l0 300 a1 a2 a3 a4 b1 b2 b3 b4 k i = some r
  | 0, i, h1, h2 => by omega
  | k + 1, i, h1, h2 => by
    rw [ossuaryref09_Compare_l0]
    by_cases h : i < 4
    · obtain ⟨r, hr⟩ := cmp0 a1 a2 a3 a4 b1 b2 b3 b4 k (i + 1) (by omega) (by omega)
      rw [if_pos (by omega), if_pos (by omega), if_pos (by omega), up1 (by omega), hr]
      split
      · exact ⟨_, rfl⟩
      · split <;> exact ⟨_, rfl⟩
    · rw [if_neg (by omega)]; exact ⟨_, rfl⟩
theorem cmp (a0 : Int) (a1 a2 a3 a4 : List UInt8) (b0 : Int) (b1 b2 b3 b4 : List UInt8) : ∃ r, ossuaryref09_Compare 300 a0 a1 a2 a3 a4 b0 b1 b2 b3 b4 = some r := by
  unfold ossuaryref09_Compare
  obtain ⟨r, hr⟩ := cmp0 a1 a2 a3 a4 b1 b2 b3 b4 300 0 (by omega) (by omega)
  have hr' : ossuaryref09_Compare_l0 300 a1 a2 a3 a4 b1 b2 b3 b4 300 0 = some r := hr
  rw [hr']
  split
  · split <;> exact ⟨_, rfl⟩
  · exact ⟨_, rfl⟩
theorem right0 (l : List Api_Row) (hl : l.length ≤ 60) : ∀ (k i : Nat), i ≤ l.length → l.length < i + k → ∃ b, ossuaryref11_Right_R_l0 300 l k i = some b
  | 0, i, h1, h2 => by omega
  | k + 1, i, h1, h2 => by
    rw [ossuaryref11_Right_R_l0]
    by_cases h : i < l.length
    · obtain ⟨b, hb⟩ := right0 l hl k (i + 1) (by omega) (by omega)
      rw [if_pos (by omega), up1 (by omega)]
      simp only [hb, thn_eq]
      by_cases h0 : 0 < i
      · have e : w64 ((i : Int) - 1) = ((i - 1 : Nat) : Int) := by rw [w64_id (by omega)]; omega
        rw [if_pos (by omega), e, if_pos (by omega), if_pos (by omega), if_pos (by omega)]
        generalize ((i - 1 : Nat) : Int).toNat = p
        obtain ⟨r, hr⟩ := cmp (l.getD p z_Api_Row).Key.Hour (l.getD p z_Api_Row).Key.Dims_0 (l.getD p z_Api_Row).Key.Dims_1 (l.getD p z_Api_Row).Key.Dims_2 (l.getD p z_Api_Row).Key.Dims_3 (l.getD (i : Int).toNat z_Api_Row).Key.Hour (l.getD (i : Int).toNat z_Api_Row).Key.Dims_0 (l.getD (i : Int).toNat z_Api_Row).Key.Dims_1 (l.getD (i : Int).toNat z_Api_Row).Key.Dims_2 (l.getD (i : Int).toNat z_Api_Row).Key.Dims_3
        rw [hr]
        simp only [Option.bind_some]
        split
        · exact ⟨_, rfl⟩
        · split
          · exact ⟨_, rfl⟩
          · split <;> exact ⟨_, rfl⟩
      · rw [if_neg (by omega), if_pos (by omega)]
        split
        · exact ⟨_, rfl⟩
        · split <;> exact ⟨_, rfl⟩
    · rw [if_neg (by omega)]; exact ⟨_, rfl⟩
/-! ### Buckets -/
def S (f : Nat → Int) : Nat → Int
  | 0 => 0
  | n + 1 => S f n + f n
theorem S_upd (f : Nat → Int) (j : Nat) (v : Int) : ∀ n, S (updF f j v) n = S f n + (if j < n then v - f j else 0)
  | 0 => rfl
  | n + 1 => by
    rw [S, S, S_upd f j v n]
    unfold updF
    by_cases h : n = j
    · subst h
      rw [if_pos rfl, if_neg (by omega), if_pos (by omega)]; omega
    · rw [if_neg h]
      by_cases h2 : j < n
      · rw [if_pos h2, if_pos (by omega)]; omega
      · rw [if_neg h2, if_neg (by omega)]; omega
theorem buckets (l0 : List Int) (hl : l0.length ≤ 100) (hin : ∀ x ∈ l0, inI .i64 x) : ∀ (k i : Nat) (f : Nat → Int), i ≤ l0.length → l0.length < i + k → (∀ j, 0 ≤ f j ∧ f j ≤ i) → S f 65 = i →
    ∃ g, stat_Buckets_R_l0 300 l0 k i f = some g ∧ (∀ j, 0 ≤ g j ∧ g j ≤ 100) ∧ S g 65 = (l0.length : Int)
  | 0, i, f, h1, h2, _, _ => by omega
  | k + 1, i, f, h1, h2, h3, h4 => by
    rw [stat_Buckets_R_l0]
    by_cases h : i < l0.length
    · have hg : l0.getD i 0 = l0[i] := getD_at _ _ h
      have hx := in64 (hin _ (List.getElem_mem h))
      rw [← hg] at hx
      have hb := blen_le 64 (l0.getD i 0).natAbs
      rw [if_pos (by omega), if_pos (by omega), Int.toNat_natCast, abs64 hx, len64 _ (by omega)]
      simp only [Option.bind_some]
      rw [if_pos (by omega), up1 (by omega), Int.toNat_natCast]
      generalize hB : blen 64 (l0.getD i 0).natAbs = B at hb ⊢
      have hfB := h3 B
      have ew : w64 (f B + 1) = f B + 1 := w64_id (by omega)
      rw [ew]
      by_cases h65 : B < 65
      · rw [if_pos (by omega)]
        refine buckets l0 hl hin k (i + 1) _ (by omega) (by omega) (fun j => ?_) ?_
        · have := h3 j
          unfold updF
          split <;> omega
        · rw [S_upd, if_pos h65, h4]; omega
      · omega
    · rw [if_neg (by omega)]
      exact ⟨f, rfl, fun j => by have := h3 j; omega, by rw [h4]; omega⟩
theorem S_in (g : Nat → Int) (hg : ∀ j, 0 ≤ g j ∧ g j ≤ 100) : ∀ n : Nat, 0 ≤ S g n ∧ S g n ≤ 100 * n
  | 0 => by simp [S]
  | n + 1 => by
    have h1 := S_in g hg n
    have h2 := hg n
    rw [S]
    omega
theorem bsum (g : Nat → Int) (hg : ∀ j, 0 ≤ g j ∧ g j ≤ 100) : ∀ (k i : Nat), i ≤ 65 → 65 < i + k → ossuarylaw35_StatSums_l1 300 g k (S g i) i = some (S g 65)
  | 0, i, h1, h2 => by omega
  | k + 1, i, h1, h2 => by
    rw [ossuarylaw35_StatSums_l1]
    by_cases h : i < 65
    · have h3 := S_in g hg i
      have h4 := hg i
      rw [if_pos (by omega), if_pos (by omega), if_pos (by omega), up1 (by omega), Int.toNat_natCast, w64_id (by omega)]
      exact bsum g hg k (i + 1) (by omega) (by omega)
    · have : i = 65 := by omega
      subst this
      rw [if_neg (by omega)]
/-! ### Shares -/
abbrev sm (l0 : List Api_Row) (i : Nat) : Int := (l0.getD i z_Api_Row).Cell.Sum
theorem sm_in (l0 : List Api_Row) (hin : ∀ x ∈ l0, ok_Api_Row x) (i : Nat) (h : i < l0.length) : -9223372036854775808 ≤ sm l0 i ∧ sm l0 i ≤ 9223372036854775807 := by
  have hg : l0.getD i z_Api_Row = l0[i] := getD_at _ _ h
  have := (hin _ (List.getElem_mem h)).2.2.1
  rw [← hg] at this
  exact in64 this
def SS (l0 : List Api_Row) : Nat → Nat
  | 0 => 0
  | n + 1 => SS l0 n + (sm l0 n).toNat
def Q (l0 : List Api_Row) (v : Nat) : Nat → Nat
  | 0 => 0
  | n + 1 => Q l0 v n + (sm l0 n).toNat * 10000 / v
theorem SS_mono (l0 : List Api_Row) : ∀ (n j : Nat), j < n → (sm l0 j).toNat ≤ SS l0 n
  | 0, j, h => by omega
  | n + 1, j, h => by
    rw [SS]
    by_cases e : j = n
    · subst e; omega
    · have := SS_mono l0 n j (by omega); omega
theorem Q_le (l0 : List Api_Row) (v : Nat) : ∀ n, v * Q l0 v n ≤ 10000 * SS l0 n
  | 0 => by simp [Q]
  | n + 1 => by
    have ih := Q_le l0 v n
    have h := Nat.mul_div_le ((sm l0 n).toNat * 10000) v
    rw [Q, SS, Nat.mul_add, Nat.mul_add]
    omega
theorem Q_ge (l0 : List Api_Row) (v : Nat) (hv : 0 < v) : ∀ n, 10000 * SS l0 n ≤ v * (Q l0 v n + n)
  | 0 => by simp [SS]
  | n + 1 => by
    have ih := Q_ge l0 v hv n
    have h := Nat.lt_mul_div_succ ((sm l0 n).toNat * 10000) hv
    rw [Q, SS]
    have e : v * (Q l0 v n + (sm l0 n).toNat * 10000 / v + (n + 1)) = v * (Q l0 v n + n) + v * ((sm l0 n).toNat * 10000 / v + 1) := by
      rw [← Nat.mul_add]; congr 1; omega
    rw [e]
    omega
theorem tot (l0 : List Api_Row) (hl : l0.length ≤ 60) (hin : ∀ x ∈ l0, ok_Api_Row x) : ∀ (k i : Nat), i ≤ l0.length → l0.length < i + k → SS l0 i ≤ 4611686018427387904 → (∀ j, j < i → 0 ≤ sm l0 j) →
    stat_Shares_R_l0 300 l0 k (SS l0 i) i = some (Sum.inr (false, [])) ∨ (stat_Shares_R_l0 300 l0 k (SS l0 i) i = some (Sum.inl (SS l0 l0.length : Int)) ∧ SS l0 l0.length ≤ 4611686018427387904 ∧ ∀ j, j < l0.length → 0 ≤ sm l0 j)
  | 0, i, h1, h2, _, _ => by omega
  | k + 1, i, h1, h2, h3, h5 => by
    rw [stat_Shares_R_l0]
    by_cases h : i < l0.length
    · have hx := sm_in l0 hin i h
      have hil : (i : Int) < (l0.length : Int) := by omega
      have hi0 : (0 : Int) ≤ (i : Int) := by omega
      have hS : SS l0 (i + 1) = SS l0 i + (sm l0 i).toNat := rfl
      simp only [if_pos hil, if_pos hi0, Int.toNat_natCast]
      have hs' : (l0.getD i z_Api_Row).Cell.Sum = sm l0 i := rfl
      rw [hs']
      by_cases hn : sm l0 i < 0
      · left
        rw [if_pos hn]
      · have e1 : wu64 (sm l0 i) = ((sm l0 i).toNat : Int) := by rw [wu64_id (by omega)]; omega
        rw [if_neg hn, e1]
        have e2 : wu64 ((SS l0 i : Int) + ((sm l0 i).toNat : Int)) = (SS l0 (i + 1) : Int) := by rw [wu64_id (by omega), hS]; omega
        rw [e2]
        by_cases hb : 4611686018427387904 < (SS l0 (i + 1) : Int)
        · left
          rw [if_pos hb]
        · rw [if_neg hb, up1 (by omega)]
          refine tot l0 hl hin k (i + 1) (by omega) (by omega) (by omega) (fun j hj => ?_)
          by_cases hji : j = i
          · subst hji; omega
          · exact h5 j (by omega)
    · right
      have : i = l0.length := by omega
      subst this
      rw [if_neg (by omega)]
      exact ⟨rfl, h3, h5⟩
def qf (l0 : List Api_Row) (v : Nat) (j : Nat) : Int := (((sm l0 j).toNat * 10000 / v : Nat) : Int)
theorem shares (l0 : List Api_Row) (hl : l0.length ≤ 60) (v : Nat) (h0 : 0 < v) (hv : v ≤ 4611686018427387904) (hs : ∀ j, j < l0.length → 0 ≤ sm l0 j ∧ sm l0 j ≤ (v : Int)) : ∀ (k i : Nat), i ≤ l0.length → l0.length < i + k →
    stat_Shares_R_l1 300 l0 (v : Int) k i ((List.range i).map (qf l0 v)) = some (true, (List.range l0.length).map (qf l0 v))
  | 0, i, h1, h2 => by omega
  | k + 1, i, h1, h2 => by
    rw [stat_Shares_R_l1]
    by_cases h : i < l0.length
    · have hx := hs i h
      obtain ⟨n, hn⟩ : ∃ n : Nat, sm l0 i = n := ⟨(sm l0 i).toNat, by omega⟩
      have hs' : (l0.getD i z_Api_Row).Cell.Sum = (n : Int) := hn
      obtain ⟨hi, lo, r, e1, e2⟩ := one_share n v (by omega) h0 hv
      have hil : (i : Int) < (l0.length : Int) := by omega
      have hi0 : (0 : Int) ≤ (i : Int) := by omega
      simp only [if_pos hil, if_pos hi0, Int.toNat_natCast, hs', thn_eq]
      have hq : n * 10000 / v ≤ 10000 := Nat.div_le_of_le_mul (by omega)
      have hq0 := Int.natCast_nonneg (n * 10000 / v)
      rw [wuN (by omega), e1]
      simp only
      rw [e2]
      simp only [Option.bind_some]
      rw [if_pos (by simp; omega), w64_id (n := ((n * 10000 / v : Nat) : Int)) (by omega), up1 (by omega)]
      have e3 : (List.range i).map (qf l0 v) ++ [((n * 10000 / v : Nat) : Int)] = (List.range (i + 1)).map (qf l0 v) := by
        have e4 : qf l0 v i = ((n * 10000 / v : Nat) : Int) := by unfold qf; rw [hn]; rfl
        rw [List.range_succ, List.map_append, List.map_singleton, e4]
      rw [e3]
      exact shares l0 hl v h0 hv hs k (i + 1) (by omega) (by omega)
    · have : i = l0.length := by omega
      subst this
      rw [if_neg (by omega)]
theorem Q_in (l0 : List Api_Row) (v : Nat) (n : Nat) (hq : ∀ j, j < n → (sm l0 j).toNat * 10000 / v ≤ 10000) : ∀ i, i ≤ n → Q l0 v i ≤ 10000 * i
  | 0, _ => by simp [Q]
  | i + 1, h => by
    have h1 := Q_in l0 v n hq i (by omega)
    have h2 := hq i (by omega)
    rw [Q]
    omega
theorem ssum (l0 : List Api_Row) (v n : Nat) (hn : n ≤ 60) (hq : ∀ j, j < n → (sm l0 j).toNat * 10000 / v ≤ 10000) : ∀ (k i : Nat), i ≤ n → n < i + k → ossuarylaw35_StatSums_l0 300 (true, (List.range n).map (qf l0 v)) k (Q l0 v i) i = some (Sum.inl (Q l0 v n : Int))
  | 0, i, h1, h2 => by omega
  | k + 1, i, h1, h2 => by
    rw [ossuarylaw35_StatSums_l0]
    by_cases h : i < n
    · have hlen : ((List.range n).map (qf l0 v)).length = n := by simp
      have h3 := Q_in l0 v n hq i (by omega)
      have h4 := hq i h
      have eg : ((List.range n).map (qf l0 v)).getD i 0 = qf l0 v i := by rw [getD_at _ _ (by omega)]; simp
      have hq0 : 0 ≤ qf l0 v i := Int.natCast_nonneg _
      have hq1 : qf l0 v i ≤ 10000 := by unfold qf; exact_mod_cast h4
      simp only [hlen]
      rw [if_pos (by omega), if_pos (by omega), Int.toNat_natCast, eg, if_neg (by omega), up1 (by omega)]
      have e : w64 ((Q l0 v i : Int) + qf l0 v i) = (Q l0 v (i + 1) : Int) := by
        rw [w64_id (by omega)]
        exact (Int.natCast_add _ _).symm
      rw [e]
      exact ssum l0 v n hn hq k (i + 1) (by omega) (by omega)
    · have : i = n := by omega
      subst this
      rw [if_neg (by simp)]
/-- What shares come to: none, or so many together. -/
theorem share_law (l0 : List Api_Row) (hl : l0.length ≤ 60) (hin : ∀ x ∈ l0, ok_Api_Row x) : ∃ b out, stat_Shares_R 300 l0 = some (b, out) ∧ ((b = false ∧ out = []) ∨ (b = true ∧ ∃ q : Int, ossuarylaw35_StatSums_l0 300 (b, out) 300 0 0 = some (Sum.inl q) ∧ q ≤ 10000 ∧ 10000 - (l0.length : Int) ≤ q)) := by
  unfold stat_Shares_R
  rcases tot l0 hl hin 300 0 (by omega) (by omega) (by simp [SS]) (fun j hj => by omega) with e1 | ⟨e1, h1, h2⟩
  · have e1' : stat_Shares_R_l0 300 l0 300 0 0 = some (Sum.inr (false, [])) := e1
    rw [e1']
    exact ⟨false, [], rfl, .inl ⟨rfl, rfl⟩⟩
  · have e1' : stat_Shares_R_l0 300 l0 300 0 0 = some (Sum.inl (SS l0 l0.length : Int)) := e1
    rw [e1']
    simp only [Option.bind_some, cas_inl]
    by_cases hv : (SS l0 l0.length : Int) = 0
    · rw [if_pos hv]; exact ⟨false, [], rfl, .inl ⟨rfl, rfl⟩⟩
    · rw [if_neg hv]
      generalize hV : SS l0 l0.length = v at hv h1
      have hm := fun j hj => SS_mono l0 l0.length j hj
      rw [hV] at hm
      have hsh := shares l0 hl v (by omega) h1 (fun j hj => ⟨h2 j hj, by have := hm j hj; omega⟩) 300 0 (by omega) (by omega)
      have hsh' : stat_Shares_R_l1 300 l0 (v : Int) 300 0 [] = some (true, (List.range l0.length).map (qf l0 v)) := hsh
      rw [hsh']
      have hq : ∀ j, j < l0.length → (sm l0 j).toNat * 10000 / v ≤ 10000 := fun j hj => Nat.div_le_of_le_mul (by have := hm j hj; omega)
      have hsum := ssum l0 v l0.length hl hq 300 0 (by omega) (by omega)
      refine ⟨true, _, rfl, .inr ⟨rfl, (Q l0 v l0.length : Int), hsum, ?_, ?_⟩⟩
      · have h3 := Q_le l0 v l0.length
        rw [hV, Nat.mul_comm 10000 v] at h3
        have := Nat.le_of_mul_le_mul_left h3 (by omega)
        omega
      · have h3 := Q_ge l0 v (by omega) l0.length
        rw [hV, Nat.mul_comm 10000 v] at h3
        have := Nat.le_of_mul_le_mul_left h3 (by omega)
        omega
/-! ### Dictionaries -/
abbrev Pr := Omap_pair__string___int
theorem find (l : List Pr) (hl : l.length ≤ 200) (p : List UInt8) : ∀ (k i j : Nat), i ≤ j → j ≤ l.length → j < i + k → ∃ r : Nat, sort_Search_O_l0 300 l p k i j = some (r : Int) ∧ r ≤ l.length
  | 0, i, j, h1, h2, h3 => by omega
  | k + 1, i, j, h1, h2, h3 => by
    rw [sort_Search_O_l0]
    by_cases h : i < j
    · have e1 : w64 ((i : Int) + (j : Int)) = ((i + j : Nat) : Int) := by rw [w64_id (by omega)]; omega
      have e2 : bShr .u64 ((i + j : Nat) : Int) 1 = (((i + j) / 2 : Nat) : Int) := shrU (i + j) 1 (by decide)
      have e3 : w64 (bShr .u64 (wu64 (w64 ((i : Int) + (j : Int)))) 1) = (((i + j) / 2 : Nat) : Int) := by
        rw [e1, wuN (by omega), e2, w64_id (by omega)]
      rw [if_pos (by omega), e3]
      unfold omap_Map__string___int_place_1_O
      rw [if_pos (by omega), if_pos (by omega), up1 (by omega)]
      simp only [Option.bind_some]
      split
      · exact find l hl p k ((i + j) / 2 + 1) j (by omega) (by omega) (by omega)
      · exact find l hl p k i ((i + j) / 2) (by omega) (by omega) (by omega)
    · rw [if_neg (by omega)]
      exact ⟨i, rfl, by omega⟩
theorem place (l : List Pr) (hl : l.length ≤ 200) (p : List UInt8) : ∃ (b : Bool) (r : Nat), omap_Map__string___int_place_O 300 l p = some (b, (r : Int)) ∧ r ≤ l.length ∧ (b = true → r < l.length) := by
  unfold omap_Map__string___int_place_O sort_Search_O
  obtain ⟨r, hr, h⟩ := find l hl p 300 0 l.length (by omega) (by omega) (by omega)
  have hr' : sort_Search_O_l0 300 l p 300 0 (l.length : Int) = some (r : Int) := hr
  rw [hr']
  simp only [Option.bind_some]
  by_cases q : r < l.length
  · rw [if_pos (by omega), if_pos (by omega)]; exact ⟨_, r, rfl, h, fun _ => q⟩
  · rw [if_neg (by omega)]; exact ⟨false, r, rfl, h, fun h => by cases h⟩
def below (n : Int) (l : List Pr) : Prop := ∀ p ∈ l, 0 ≤ p.v ∧ p.v < n
theorem put (l : List Pr) (hl : l.length ≤ 199) (a : List UInt8) (v n : Int) (hb : below n l) (h0 : 0 ≤ v) (h1 : v < n) : ∃ b l', omap_Map__string___int_Put_O 300 l a v = some (b, l') ∧ below n l' ∧ l'.length ≤ l.length + 1 ∧ 0 < l'.length := by
  unfold omap_Map__string___int_Put_O
  obtain ⟨b, r, hr, h2, h3⟩ := place l (by omega) a
  rw [hr]
  simp only [Option.bind_some]
  cases b with
  | true =>
    have := h3 rfl
    rw [if_pos rfl, if_pos (by omega), if_pos (by omega), Int.toNat_natCast]
    refine ⟨false, _, rfl, fun p hp => ?_, by simp, by simp; omega⟩
    rcases List.mem_or_eq_of_mem_set hp with hp | rfl
    · exact hb p hp
    · exact ⟨h0, h1⟩
  | false =>
    rw [if_neg (by decide)]
    unfold slices_Insert____omap_pair__string___int__omap_pair__string___int insL
    simp only
    rw [if_pos ⟨by omega, by omega, by omega⟩, Int.toNat_natCast]
    simp only [Option.bind_some]
    refine ⟨true, _, rfl, fun p hp => ?_, ?_, ?_⟩
    · rw [List.mem_insertIdx h2] at hp
      rcases hp with rfl | hp
      · exact ⟨h0, h1⟩
      · exact hb p hp
    · rw [List.length_insertIdx_of_le_length h2]; omega
    · rw [List.length_insertIdx_of_le_length h2]; omega
theorem of_l0 (ts : List (List UInt8)) (hl : ts.length ≤ 60) : ∀ (k i : Nat) (m : List Pr), i ≤ ts.length → ts.length < i + k → m.length ≤ i → below 1 m → (0 < i → 0 < m.length) → ∃ m', dict_Of__string_R_l0 300 ts k i m = some m' ∧ m'.length ≤ 60 ∧ below 1 m' ∧ (0 < ts.length → 0 < m'.length)
  | 0, i, m, h1, h2, h3, h4, h5 => by omega
  | k + 1, i, m, h1, h2, h3, h4, h5 => by
    rw [dict_Of__string_R_l0]
    by_cases h : i < ts.length
    · rw [if_pos (by omega), if_pos (by omega), up1 (by omega)]
      obtain ⟨b, m', e, q1, q2, q3⟩ := put m (by omega) (ts.getD (i : Int).toNat []) 0 1 h4 (by omega) (by omega)
      rw [e]
      simp only [Option.bind_some]
      exact of_l0 ts hl k (i + 1) m' (by omega) (by omega) (by omega) q1 (fun _ => q3)
    · rw [if_neg (by omega)]
      exact ⟨m, rfl, by omega, h4, fun h => h5 (by omega)⟩
theorem each_l0 (m : List Pr) (hl : m.length ≤ 60) : ∀ (k i : Nat) (z : List (List UInt8)), i ≤ m.length → m.length < i + k → z.length = i → ∃ d, omap_each__string__int_1_YR_l0 300 (List (List UInt8)) (dict_Of__string_R_r1 300) m k i z = some d ∧ d.length = m.length
  | 0, i, z, h1, h2, h3 => by omega
  | k + 1, i, z, h1, h2, h3 => by
    rw [omap_each__string__int_1_YR_l0]
    by_cases h : i < m.length
    · rw [if_pos (by omega), if_pos (by omega), up1 (by omega)]
      unfold dict_Of__string_R_r1
      rw [if_pos (by simp; omega)]
      simp only [Option.bind_some, Bool.not_true, Bool.false_eq_true, if_false]
      exact each_l0 m hl k (i + 1) _ (by omega) (by omega) (by simp; omega)
    · rw [if_neg (by omega)]
      exact ⟨z, rfl, by omega⟩
theorem of_l2 (d : List (List UInt8)) (hl : d.length ≤ 60) : ∀ (k i : Nat) (m : List Pr), i ≤ d.length → d.length < i + k → m.length ≤ 60 + i → below d.length m → ∃ m', dict_Of__string_R_l2 300 d k i m = some (d, m') ∧ m'.length ≤ 120 ∧ below d.length m'
  | 0, i, m, h1, h2, h3, h4 => by omega
  | k + 1, i, m, h1, h2, h3, h4 => by
    rw [dict_Of__string_R_l2]
    by_cases h : i < d.length
    · rw [if_pos (by omega), if_pos (by omega), up1 (by omega)]
      obtain ⟨b, m', e, q1, q2, q3⟩ := put m (by omega) (d.getD (i : Int).toNat []) i d.length h4 (by omega) (by omega)
      rw [e]
      simp only [Option.bind_some]
      exact of_l2 d hl k (i + 1) m' (by omega) (by omega) (by omega) q1
    · rw [if_neg (by omega)]
      exact ⟨m, rfl, by omega, h4⟩
/-- A dictionary: its codes are of its things. -/
def Dict (x : List (List UInt8) × List Pr) : Prop := x.1.length ≤ 60 ∧ x.2.length ≤ 120 ∧ below x.1.length x.2
theorem of (ts : List (List UInt8)) (hl : ts.length ≤ 60) : ∃ x, dict_Of__string_R 300 ts = some x ∧ Dict x ∧ (0 < ts.length → 0 < x.1.length) := by
  unfold dict_Of__string_R
  obtain ⟨m, e1, a1, a2, a3⟩ := of_l0 ts hl 300 0 [] (by omega) (by omega) (by simp) (by intro p hp; simp at hp) (by omega)
  have e1' : dict_Of__string_R_l0 300 ts 300 0 [] = some m := e1
  obtain ⟨d, e2, b1⟩ := each_l0 m a1 300 0 [] (by omega) (by omega) rfl
  have e2' : omap_each__string__int_1_YR_l0 300 (List (List UInt8)) (dict_Of__string_R_r1 300) m 300 0 [] = some d := e2
  have hbel : below d.length m := fun p hp => by
    have h1 := a2 p hp
    have h2 := List.length_pos_of_mem hp
    omega
  obtain ⟨m', e3, c1, c2⟩ := of_l2 d (by omega) 300 0 m (by omega) (by omega) (by omega) hbel
  have e3' : dict_Of__string_R_l2 300 d 300 0 m = some (d, m') := e3
  unfold omap_each__string__int_1_YR
  simp only [thn_eq, e1', Option.bind_some, e2', e3']
  exact ⟨_, rfl, ⟨by show d.length ≤ 60; omega, c1, c2⟩, fun h => by have := a3 h; show 0 < d.length; omega⟩
theorem code (x : List (List UInt8) × List Pr) (hx : Dict x) (h0 : 0 < x.1.length) (a : List UInt8) : ∃ (c : Nat) (b : Bool), dict_Dict__string_Code_OO 300 x.1 x.2 a = some ((c : Int), b) ∧ c < x.1.length := by
  unfold dict_Dict__string_Code_OO omap_Map__string___int_Get_O
  obtain ⟨b, r, hr, h2, h3⟩ := place x.2 (by have := hx.2.1; omega) a
  rw [hr]
  simp only [Option.bind_some]
  cases b with
  | false => exact ⟨0, false, rfl, h0⟩
  | true =>
    have hlt := h3 rfl
    simp only [Bool.not_true, Bool.false_eq_true, if_false]
    rw [if_pos (by omega), if_pos (by omega), Int.toNat_natCast, getD_at _ _ hlt]
    have hb := hx.2.2 _ (List.getElem_mem hlt)
    refine ⟨(x.2[r]).v.toNat, true, ?_, by omega⟩
    simp only [Option.bind_some]
    congr 2
    omega
theorem texts_l0 (l0 : List Api_Row) (hl : l0.length ≤ 60) (a : Nat) (ha : a < 4) : ∀ (k i : Nat) (acc : List (List UInt8)), i ≤ l0.length → l0.length < i + k → acc.length = i → ∃ x, stat_texts_R_l0 300 l0 a k i acc = some x ∧ Dict x ∧ (0 < l0.length → 0 < x.1.length)
  | 0, i, acc, h1, h2, h3 => by omega
  | k + 1, i, acc, h1, h2, h3 => by
    rw [stat_texts_R_l0]
    by_cases h : i < l0.length
    · rw [if_pos (by omega), if_pos (by omega), if_pos (by omega), if_pos (by omega), if_pos (by simp; omega), up1 (by omega)]
      exact texts_l0 l0 hl a ha k (i + 1) _ (by omega) (by omega) (by simp; omega)
    · rw [if_neg (by omega)]
      obtain ⟨x, e, h5, h6⟩ := of acc (by omega)
      rw [e]
      exact ⟨x, rfl, h5, fun h => h6 (by omega)⟩
theorem texts (l0 : List Api_Row) (hl : l0.length ≤ 60) (a : Nat) (ha : a < 4) : ∃ x, stat_texts_R 300 l0 a = some x ∧ Dict x ∧ (0 < l0.length → 0 < x.1.length) :=
  texts_l0 l0 hl a ha 300 0 [] (by omega) (by omega) rfl
theorem all_l0 (d : List (List UInt8)) (m : List Pr) (hl : d.length ≤ 60) : ∀ (k i : Nat) (acc : List (List UInt8)), i ≤ d.length → d.length < i + k → acc.length = i → ∃ r, stat_all_OO_l0 300 d m d.length k i acc = some r
  | 0, i, acc, h1, h2, h3 => by omega
  | k + 1, i, acc, h1, h2, h3 => by
    rw [stat_all_OO_l0]
    by_cases h : i < d.length
    · unfold dict_Dict__string_At_OO
      rw [if_pos (by omega), if_neg (by omega), if_neg (by omega), if_pos (by omega), if_pos (by omega)]
      simp only [Option.bind_some]
      rw [if_pos (by simp; omega), up1 (by omega)]
      exact all_l0 d m hl k (i + 1) _ (by omega) (by omega) (by simp; omega)
    · rw [if_neg (by omega)]; exact ⟨acc, rfl⟩
theorem all (x : List (List UInt8) × List Pr) (hx : Dict x) : ∃ r, stat_all_OO 300 x.1 x.2 = some r := by
  have := hx.1
  obtain ⟨r, e⟩ := all_l0 x.1 x.2 hx.1 300 0 [] (by omega) (by omega) rfl
  exact ⟨r, e⟩
/-! ### The table -/
def cnt : List Api_Cell → Int
  | [] => 0
  | c :: l => c.Count + cnt l
def sum2 : List (List Api_Cell) → Int
  | [] => 0
  | r :: t => cnt r + sum2 t
theorem cnt_set (c : Api_Cell) : ∀ (l : List Api_Cell) (b : Nat), b < l.length → cnt (l.set b c) = cnt l - (l.getD b z_Api_Cell).Count + c.Count
  | [], b, h => by simp at h
  | x :: l, 0, h => by simp only [List.set_cons_zero, cnt, List.getD_cons_zero]; omega
  | x :: l, b + 1, h => by
    have ih := cnt_set c l b (by simpa using h)
    simp only [List.set_cons_succ, cnt, List.getD_cons_succ]
    omega
theorem sum2_set (r : List Api_Cell) : ∀ (t : List (List Api_Cell)) (a : Nat), a < t.length → sum2 (t.set a r) = sum2 t - cnt (t.getD a []) + cnt r
  | [], a, h => by simp at h
  | x :: t, 0, h => by simp only [List.set_cons_zero, sum2, List.getD_cons_zero]; omega
  | x :: t, a + 1, h => by
    have ih := sum2_set r t a (by simpa using h)
    simp only [List.set_cons_succ, sum2, List.getD_cons_succ]
    omega
theorem cnt_rep : ∀ n : Nat, cnt (List.replicate n (⟨0, 0, 0, 0⟩ : Api_Cell)) = 0
  | 0 => rfl
  | n + 1 => by rw [List.replicate_succ, cnt, cnt_rep n]; rfl
theorem sum2_app (r : List Api_Cell) : ∀ t : List (List Api_Cell), sum2 (t ++ [r]) = sum2 t + cnt r
  | [] => by simp [sum2]
  | x :: t => by simp only [List.cons_append, sum2, sum2_app r t]; omega
theorem w64_mod (n : Int) : w64 n % 18446744073709551616 = n % 18446744073709551616 := by rw [w64_def]; split <;> omega
theorem w64_eq {x y : Int} (h : x % 18446744073709551616 = y % 18446744073709551616) : w64 x = w64 y := by rw [w64_def, w64_def, h]
theorem merge (a b : Api_Cell) (h : (cell_Merge a.Count a.Sum a.Min a.Max b.Count b.Sum b.Min b.Max).2.2.2.2 = true) : (cell_Merge a.Count a.Sum a.Min a.Max b.Count b.Sum b.Min b.Max).1 % 18446744073709551616 = (a.Count + b.Count) % 18446744073709551616 := by
  unfold cell_Merge at h ⊢
  simp only [thn_eq] at h ⊢
  by_cases h1 : a.Count = 0
  · rw [if_pos h1]; simp only; rw [h1, Int.zero_add]
  · rw [if_neg h1] at h ⊢
    by_cases h2 : b.Count = 0
    · rw [if_pos h2]; simp only; rw [h2, Int.add_zero]
    · rw [if_neg h2] at h ⊢
      split
      · rename_i q; rw [if_pos q] at h; cases h
      · rename_i q
        rw [if_neg q] at h
        split
        · rename_i q2; rw [if_pos q2] at h; cases h
        · exact w64_mod _
def W (l0 : List Api_Row) : Nat → Int
  | 0 => 0
  | n + 1 => W l0 n + (l0.getD n z_Api_Row).Cell.Count
theorem piv0 (x : List (List UInt8) × List Pr) (hx : Dict x) (n1 : Nat) (hn : n1 ≤ 60) : ∀ (k i : Nat) (T : List (List Api_Cell)), i ≤ n1 → n1 < i + k → T.length = i → (∀ r ∈ T, r.length = x.1.length) → sum2 T = 0 →
    ∃ T', stat_Pivot_R_l0 300 x (n1 : Int) k i T = some T' ∧ T'.length = n1 ∧ (∀ r ∈ T', r.length = x.1.length) ∧ sum2 T' = 0
  | 0, i, T, h1, h2, h3, h4, h5 => by omega
  | k + 1, i, T, h1, h2, h3, h4, h5 => by
    rw [stat_Pivot_R_l0]
    have hl := hx.1
    by_cases h : i < n1
    · simp only [thn_eq, dict_Dict__string_Len_OO]
      rw [if_pos (by omega), if_pos (by omega), if_pos (by omega), if_pos (by omega), up1 (by omega), Int.toNat_natCast]
      refine piv0 x hx n1 hn k (i + 1) _ (by omega) (by omega) (by simp; omega) (fun r hr => ?_) ?_
      · rw [List.mem_append, List.mem_singleton] at hr
        rcases hr with hr | rfl
        · exact h4 r hr
        · simp
      · rw [sum2_app, cnt_rep, h5]; rfl
    · rw [if_neg (by omega)]
      exact ⟨T, rfl, by omega, h4, h5⟩
theorem piv1 (l0 : List Api_Row) (hl : l0.length ≤ 60) (x y : List (List UInt8) × List Pr) (hx : Dict x) (hy : Dict y) (h0 : 0 < l0.length → 0 < x.1.length ∧ 0 < y.1.length) (t1 t2 : List (List UInt8)) : ∀ (k i : Nat) (T : List (List Api_Cell)), i ≤ l0.length → l0.length < i + k →
    T.length = x.1.length → (∀ r ∈ T, r.length = y.1.length) → sum2 T % 18446744073709551616 = W l0 i % 18446744073709551616 →
    ∃ z, stat_Pivot_R_l1 300 l0 0 1 x y t1 t2 k i T = some z ∧ (z.1 = 6 ∨ (z.1 = 0 ∧ z.2.2.2.length ≤ 60 ∧ (∀ r ∈ z.2.2.2, r.length ≤ 60) ∧ sum2 z.2.2.2 % 18446744073709551616 = W l0 l0.length % 18446744073709551616))
  | 0, i, T, h1, h2, h3, h4, h5 => by omega
  | k + 1, i, T, h1, h2, h3, h4, h5 => by
    rw [stat_Pivot_R_l1]
    by_cases h : i < l0.length
    · obtain ⟨p1, p2⟩ := h0 (by omega)
      rw [if_pos (by omega), if_pos (by omega), if_pos (by omega), if_pos (by omega), up1 (by omega), Int.toNat_natCast]
      obtain ⟨c, b, e1, q1⟩ := code x hx p1 ([(l0.getD i z_Api_Row).Key.Dims_0, (l0.getD i z_Api_Row).Key.Dims_1, (l0.getD i z_Api_Row).Key.Dims_2, (l0.getD i z_Api_Row).Key.Dims_3].getD (0 : Int).toNat [])
      obtain ⟨c2, b2, e2, q2⟩ := code y hy p2 ([(l0.getD i z_Api_Row).Key.Dims_0, (l0.getD i z_Api_Row).Key.Dims_1, (l0.getD i z_Api_Row).Key.Dims_2, (l0.getD i z_Api_Row).Key.Dims_3].getD (1 : Int).toNat [])
      rw [e1]
      simp only [Option.bind_some]
      rw [if_pos (by omega), if_pos (by omega), e2]
      simp only [Option.bind_some, Int.toNat_natCast]
      have hc : c < T.length := by omega
      have hr : (T.getD c []).length = y.1.length := by rw [getD_at _ _ hc]; exact h4 _ (List.getElem_mem hc)
      rw [if_pos (by omega), if_pos (by omega), if_pos (by omega), if_pos (by omega)]
      simp only [thn_eq]
      have hm := merge ((T.getD c []).getD c2 z_Api_Cell) (l0.getD i z_Api_Row).Cell
      generalize cell_Merge ((T.getD c []).getD c2 z_Api_Cell).Count ((T.getD c []).getD c2 z_Api_Cell).Sum ((T.getD c []).getD c2 z_Api_Cell).Min ((T.getD c []).getD c2 z_Api_Cell).Max (l0.getD i z_Api_Row).Cell.Count (l0.getD i z_Api_Row).Cell.Sum (l0.getD i z_Api_Row).Cell.Min (l0.getD i z_Api_Row).Cell.Max = mg at hm ⊢
      cases hb : mg.2.2.2.2 with
      | false => exact ⟨_, rfl, .inl rfl⟩
      | true =>
        have hm := hm hb
        simp only [Bool.not_true, Bool.false_eq_true, if_false]
        refine piv1 l0 hl x y hx hy h0 t1 t2 k (i + 1) _ (by omega) (by omega) (by simp; omega) (fun r hr2 => ?_) ?_
        · rcases List.mem_or_eq_of_mem_set hr2 with hr2 | rfl
          · exact h4 r hr2
          · rw [List.length_set]; exact hr
        · rw [sum2_set _ _ _ hc, cnt_set _ _ _ (by omega), W]
          simp only
          omega
    · rw [if_neg (by omega)]
      have : i = l0.length := by omega
      subst this
      have hx1 := hx.1
      have hy1 := hy.1
      exact ⟨_, rfl, .inr ⟨rfl, by simp only; omega, fun r hr => by have := h4 r hr; omega, h5⟩⟩
theorem pivot (l0 : List Api_Row) (hl : l0.length ≤ 60) : ∃ z, stat_Pivot_R 300 l0 0 1 = some z ∧ (z.1 = 6 ∨ (z.1 = 0 ∧ z.2.2.2.length ≤ 60 ∧ (∀ r ∈ z.2.2.2, r.length ≤ 60) ∧ sum2 z.2.2.2 % 18446744073709551616 = W l0 l0.length % 18446744073709551616)) := by
  unfold stat_Pivot_R
  rw [if_neg (by decide), if_neg (by decide), if_neg (by decide), if_neg (by decide), if_neg (by decide)]
  obtain ⟨x, e1, x1, x2⟩ := texts l0 hl 0 (by omega)
  obtain ⟨y, e2, y1, y2⟩ := texts l0 hl 1 (by omega)
  have e1' : stat_texts_R 300 l0 0 = some x := e1
  have e2' : stat_texts_R 300 l0 1 = some y := e2
  rw [e1']
  simp only [Option.bind_some]
  rw [e2']
  simp only [Option.bind_some]
  obtain ⟨r1, f1⟩ := all x x1
  obtain ⟨r2, f2⟩ := all y y1
  rw [f1]
  simp only [Option.bind_some]
  rw [f2]
  simp only [Option.bind_some, thn_eq, dict_Dict__string_Len_OO]
  have hx1 := x1.1
  obtain ⟨T, g1, g2, g3, g4⟩ := piv0 y y1 x.1.length x1.1 300 0 [] (by omega) (by omega) rfl (by simp) rfl
  have g1' : stat_Pivot_R_l0 300 y (x.1.length : Int) 300 0 [] = some T := g1
  rw [g1']
  simp only [Option.bind_some]
  exact piv1 l0 hl x y x1 y1 (fun h => ⟨x2 h, y2 h⟩) r1 r2 300 0 T (by omega) (by omega) g2 g3 (by rw [g4]; rfl)
theorem w64_add' (a b : Int) : w64 (w64 a + b) = w64 (a + b) := w64_eq (by have := w64_mod a; omega)
theorem sum3 (x : Int × List (List UInt8) × List (List UInt8) × List (List Api_Cell)) (i : Nat) (R : List Api_Cell) (hR : x.2.2.2.getD i [] = R) (hl : R.length ≤ 60) : ∀ (k j : Nat) (acc : Int), j ≤ R.length → R.length < j + k →
    ossuarylaw35_StatSums_l3 300 x i k (w64 acc) j = some (w64 (acc + cnt (R.drop j)))
  | 0, j, acc, h1, h2 => by omega
  | k + 1, j, acc, h1, h2 => by
    rw [ossuarylaw35_StatSums_l3]
    simp only [Int.toNat_natCast, hR]
    by_cases h : j < R.length
    · rw [if_pos (by omega), if_pos (by omega), if_pos (by omega), up1 (by omega), w64_add', sum3 x i R hR hl k (j + 1) _ (by omega) (by omega), getD_at _ _ h, List.drop_eq_getElem_cons h, cnt, Int.add_assoc]
    · rw [if_pos (by omega), if_neg (by omega), List.drop_eq_nil_of_le (by omega), cnt, Int.add_zero]
theorem sum2l (x : Int × List (List UInt8) × List (List UInt8) × List (List Api_Cell)) (hl : x.2.2.2.length ≤ 60) (hr : ∀ r ∈ x.2.2.2, r.length ≤ 60) : ∀ (k i : Nat) (acc : Int), i ≤ x.2.2.2.length → x.2.2.2.length < i + k →
    ossuarylaw35_StatSums_l2 300 x k (w64 acc) i = some (w64 (acc + sum2 (x.2.2.2.drop i)))
  | 0, i, acc, h1, h2 => by omega
  | k + 1, i, acc, h1, h2 => by
    rw [ossuarylaw35_StatSums_l2]
    by_cases h : i < x.2.2.2.length
    · have hR := hr _ (List.getElem_mem h)
      have e := sum3 x i _ (getD_at _ _ h) hR 300 0 acc (by omega) (by omega)
      have e' : ossuarylaw35_StatSums_l3 300 x i 300 (w64 acc) 0 = some (w64 (acc + cnt x.2.2.2[i])) := e
      rw [if_pos (by omega), e', up1 (by omega)]
      simp only [Option.bind_some]
      rw [sum2l x hl hr k (i + 1) _ (by omega) (by omega), List.drop_eq_getElem_cons h, sum2, Int.add_assoc]
    · rw [if_neg (by omega), List.drop_eq_nil_of_le (by omega), sum2, Int.add_zero]
theorem sum4 (l0 : List Api_Row) (hl : l0.length ≤ 60) : ∀ (k i : Nat), i ≤ l0.length → l0.length < i + k → ossuarylaw35_StatSums_l4 300 l0 k (w64 (W l0 i)) i = some (w64 (W l0 l0.length))
  | 0, i, h1, h2 => by omega
  | k + 1, i, h1, h2 => by
    rw [ossuarylaw35_StatSums_l4]
    by_cases h : i < l0.length
    · rw [if_pos (by omega), if_pos (by omega), up1 (by omega), Int.toNat_natCast, w64_add']
      exact sum4 l0 hl k (i + 1) (by omega) (by omega)
    · have : i = l0.length := by omega
      subst this
      rw [if_neg (by omega)]
theorem alive_true : ossuarylaw35_alive 300 = some true := by decide +kernel
theorem law (l : List Api_Row) (l1 : List Int) (h : l.length * 104 ≤ 140737488351232 ∧ ∀ x ∈ l, ok_Api_Row x) (h1 : l1.length * 8 ≤ 140737488351232 ∧ ∀ x ∈ l1, inI .i64 x) : ∃ K, ossuarylaw35_StatSums K l l1 = some true := by
  refine ⟨300, ?_⟩
  unfold ossuarylaw35_StatSums
  obtain ⟨b, e1, e2⟩ := light l
  rw [e1]
  simp only [Option.bind_some, alive_true]
  cases b with
  | false => rfl
  | true =>
    have hl := e2 rfl
    simp only [Bool.not_true, Bool.false_eq_true, if_false]
    by_cases h100 : 100 < (l1.length : Int)
    · rw [if_pos h100]
    · rw [if_neg h100]
      obtain ⟨b, e3⟩ := right0 l hl 300 0 (by omega) (by omega)
      have e3' : ossuaryref11_Right_R 300 l = some b := e3
      rw [e3']
      simp only [Option.bind_some]
      cases b with
      | false => rfl
      | true =>
        simp only [Bool.not_true, Bool.false_eq_true, if_false]
        obtain ⟨c, out, q1, q2⟩ := share_law l hl h.2
        rw [q1]
        simp only [Option.bind_some]
        obtain ⟨g, g1, g2, g3⟩ := buckets l1 (by omega) h1.2 300 0 (fun _ => 0) (by omega) (by omega) (fun j => ⟨by omega, by omega⟩) rfl
        have g1' : stat_Buckets_R 300 l1 = some g := g1
        have g4 : ossuarylaw35_StatSums_l1 300 g 300 0 0 = some (l1.length : Int) := by
          have := bsum g g2 300 0 (by omega) (by omega)
          rw [g3] at this
          exact this
        obtain ⟨z, z1, z2⟩ := pivot l hl
        have fin : (do
            (stat_Buckets_R 300 l1).bind fun x43 => (Option.bind (ossuarylaw35_StatSums_l1 300 x43 300 0 0) fun x44 => ((stat_Pivot_R 300 l 0 1).bind fun x45 => (if ¬ (x45.1 = 0) then (if x45.1 = 6 then (if x44 = (l1.length : Int) then some true else (some (false))) else (some (false))) else (if ¬ (x44 = (l1.length : Int)) then (if x45.1 = 6 then (if x44 = (l1.length : Int) then some true else (some (false))) else (some (false))) else (Option.bind (ossuarylaw35_StatSums_l2 300 x45 300 0 0) fun x53 => (Option.bind (ossuarylaw35_StatSums_l4 300 l 300 0 0) fun x57 => (if x53 = x57 then some true else (some (false)))))))))) = some true := by
          rw [g1']
          simp only [Option.bind_some]
          rw [g4]
          simp only [Option.bind_some]
          rw [z1]
          simp only [Option.bind_some]
          rcases z2 with z2 | ⟨z2, z3, z4, z5⟩
          · rw [z2]; simp
          · rw [z2]
            simp only [not_true, if_false]
            have f1 := sum2l z z3 z4 300 0 0 (by omega) (by omega)
            have f1' : ossuarylaw35_StatSums_l2 300 z 300 0 0 = some (w64 (0 + sum2 z.2.2.2)) := f1
            have f2 := sum4 l hl 300 0 (by omega) (by omega)
            have f2' : ossuarylaw35_StatSums_l4 300 l 300 0 0 = some (w64 (W l l.length)) := f2
            rw [f1']
            simp only [Option.bind_some]
            rw [f2']
            simp only [Option.bind_some]
            rw [if_pos]
            rw [Int.zero_add]
            exact w64_eq z5
        rcases q2 with ⟨rfl, rfl⟩ | ⟨rfl, q, s1, s2, s3⟩
        · have e0 : ossuarylaw35_StatSums_l0 300 (false, []) 300 0 0 = some (Sum.inl 0) := rfl
          rw [e0]
          simp only [Option.bind_some, cas_inl, thn_eq, Bool.false_eq_true, if_false, Bool.not_false, if_true]
          exact fin
        · rw [s1]
          simp only [Option.bind_some, cas_inl, thn_eq, if_true]
          rw [if_neg (by omega), w64_id (by omega), if_neg (by omega)]
          simp only [Bool.not_true, Bool.false_eq_true, if_false, cas_inl]
          exact fin
end Go.Proofs.Ytndeodpckfjakaa.StatSums
