/- Plain lemmas that the plain laws use: whole numbers of a kind, bits, lists by index. No machine in it. -/
import Derived.Test.YtgbjponaoeiglaaDoorEArith
set_option linter.unusedVariables false
set_option linter.unusedSimpArgs false
namespace Go.Proofs.YtgbjponaoeiglaaDoor.E
open Go

theorem thn_eq {α β : Type} (x : α) (f : α → β) : thn x f = f x := rfl
theorem in64 {x : Int} (h : inI .i64 x) : -9223372036854775808 ≤ x ∧ x ≤ 9223372036854775807 := by
  simpa [inI, IntKind.min, IntKind.max, IntKind.signed, IntKind.bits] using h
theorem in64_mk {x : Int} (h : -9223372036854775808 ≤ x ∧ x ≤ 9223372036854775807) : inI .i64 x := by
  simpa [inI, IntKind.min, IntKind.max, IntKind.signed, IntKind.bits] using h
theorem w64_def (n : Int) : w64 n = if n % 18446744073709551616 ≥ 9223372036854775808 then n % 18446744073709551616 - 18446744073709551616 else n % 18446744073709551616 := by
  simp [w64, IntKind.wrap, IntKind.signed, IntKind.bits]
theorem w64_id {n : Int} (h : -9223372036854775808 ≤ n ∧ n ≤ 9223372036854775807) : w64 n = n := by
  rw [w64_def]; split <;> omega
theorem w64_in (n : Int) : -9223372036854775808 ≤ w64 n ∧ w64 n ≤ 9223372036854775807 := by
  rw [w64_def]; split <;> omega
theorem wu64_def (n : Int) : wu64 n = n % 18446744073709551616 := by
  simp [wu64, IntKind.wrap, IntKind.signed, IntKind.bits]
theorem wu64_id {n : Int} (h : 0 ≤ n ∧ n ≤ 18446744073709551615) : wu64 n = n := by
  rw [wu64_def]; omega
theorem wu64_in (n : Int) : 0 ≤ wu64 n ∧ wu64 n ≤ 18446744073709551615 := by
  rw [wu64_def]; omega
theorem shr63 {r : Int} (h : -9223372036854775808 ≤ r ∧ r ≤ 9223372036854775807) : bShr .i64 r 63 = if r < 0 then -1 else 0 := by
  have e : (2 : Int) ^ min (63 : Int).toNat IntKind.i64.bits = 9223372036854775808 := by decide
  unfold bShr
  rw [e, Int.fdiv_eq_ediv_of_nonneg _ (by decide)]
  split <;> omega
/-- A pattern of 64 bits as a number with a sign. -/
theorem wrap_bits (x : BitVec 64) : w64 (x.toNat : Int) = x.toInt := by
  rw [BitVec.toInt_eq_toNat_cond, w64_def]
  have := x.isLt
  split <;> split <;> omega
theorem toInt_of {a : Int} (h : -9223372036854775808 ≤ a ∧ a ≤ 9223372036854775807) : (BitVec.ofInt 64 a).toInt = a := by
  rw [BitVec.toInt_ofInt, Int.bmod_def]
  have e : ((2 ^ 64 : Nat) : Int) = 18446744073709551616 := by decide
  rw [e]
  split <;> omega
theorem neg_msb (x : BitVec 64) : x.toInt < 0 ↔ x.msb = true := by
  rw [BitVec.msb_eq_toInt]; simp
theorem bXor_toInt (a b : Int) : bXor .i64 a b = (BitVec.ofInt 64 a ^^^ BitVec.ofInt 64 b).toInt := wrap_bits _
theorem bAnd_toInt (a b : Int) : bAnd .i64 a b = (BitVec.ofInt 64 a &&& BitVec.ofInt 64 b).toInt := wrap_bits _
theorem ofInt_toInt (x : BitVec 64) : BitVec.ofInt 64 x.toInt = x := by simp
theorem toInt_in (x : BitVec 64) : -9223372036854775808 ≤ x.toInt ∧ x.toInt ≤ 9223372036854775807 := by
  have h1 := x.le_toInt
  have h2 := @BitVec.toInt_lt 64 x
  simp at h1 h2
  omega
theorem bXor_neg {a b : Int} (ha : -9223372036854775808 ≤ a ∧ a ≤ 9223372036854775807) (hb : -9223372036854775808 ≤ b ∧ b ≤ 9223372036854775807) : bXor .i64 a b < 0 ↔ ¬ (a < 0 ↔ b < 0) := by
  rw [bXor_toInt, neg_msb, BitVec.msb_xor]
  have h1 : a < 0 ↔ (BitVec.ofInt 64 a).msb = true := by rw [← neg_msb, toInt_of ha]
  have h2 : b < 0 ↔ (BitVec.ofInt 64 b).msb = true := by rw [← neg_msb, toInt_of hb]
  rw [h1, h2]
  cases (BitVec.ofInt 64 a).msb <;> cases (BitVec.ofInt 64 b).msb <;> simp
theorem bXor_in (a b : Int) : -9223372036854775808 ≤ bXor .i64 a b ∧ bXor .i64 a b ≤ 9223372036854775807 := by
  rw [bXor_toInt]; exact toInt_in _
theorem bAnd_in (a b : Int) : -9223372036854775808 ≤ bAnd .i64 a b ∧ bAnd .i64 a b ≤ 9223372036854775807 := by
  rw [bAnd_toInt]; exact toInt_in _
theorem bAnd_neg {a b : Int} (ha : -9223372036854775808 ≤ a ∧ a ≤ 9223372036854775807) (hb : -9223372036854775808 ≤ b ∧ b ≤ 9223372036854775807) : bAnd .i64 a b < 0 ↔ a < 0 ∧ b < 0 := by
  rw [bAnd_toInt, neg_msb, BitVec.msb_and]
  have h1 : a < 0 ↔ (BitVec.ofInt 64 a).msb = true := by rw [← neg_msb, toInt_of ha]
  have h2 : b < 0 ↔ (BitVec.ofInt 64 b).msb = true := by rw [← neg_msb, toInt_of hb]
  rw [h1, h2, Bool.and_eq_true]
theorem bXor_zero {a : Int} (ha : -9223372036854775808 ≤ a ∧ a ≤ 9223372036854775807) : bXor .i64 a 0 = a := by
  rw [bXor_toInt]
  have : BitVec.ofInt 64 0 = 0#64 := rfl
  rw [this, BitVec.xor_zero, toInt_of ha]
theorem bXor_ones {a : Int} (ha : -9223372036854775808 ≤ a ∧ a ≤ 9223372036854775807) : bXor .i64 a (-1) = -1 - a := by
  rw [bXor_toInt]
  have : BitVec.ofInt 64 (-1) = BitVec.allOnes 64 := rfl
  rw [this, BitVec.xor_allOnes, BitVec.toInt_not]
  have h1 : (BitVec.ofInt 64 a).toNat = (a % 18446744073709551616).toNat := by simp [BitVec.toNat_ofInt]
  rw [h1, Int.bmod_def]
  have e : ((2 ^ 64 : Nat) : Int) = 18446744073709551616 := by decide
  rw [e]
  have h2 := Int.emod_nonneg a (show (18446744073709551616 : Int) ≠ 0 by decide)
  have h3 := Int.emod_lt_of_pos a (show (0 : Int) < 18446744073709551616 by decide)
  have e2 : (2 : Int) ^ 64 = 18446744073709551616 := by decide
  simp only [e2]
  split <;> omega
/-- Does a sum go beyond the kind? The sign of a sum that does is neither one's. -/
theorem over64 {a b : Int} (ha : -9223372036854775808 ≤ a ∧ a ≤ 9223372036854775807) (hb : -9223372036854775808 ≤ b ∧ b ≤ 9223372036854775807) :
    (bShr .i64 (bAnd .i64 (bXor .i64 a (w64 (a + b))) (bXor .i64 b (w64 (a + b)))) 63 == 0) = decide (-9223372036854775808 ≤ a + b ∧ a + b ≤ 9223372036854775807) := by
  have hw := w64_in (a + b)
  rw [shr63 (bAnd_in _ _), Bool.eq_iff_iff]
  simp only [decide_eq_true_eq, beq_iff_eq]
  have h := bAnd_neg (bXor_in a (w64 (a + b))) (bXor_in b (w64 (a + b)))
  rw [bXor_neg ha hw, bXor_neg hb hw] at h
  have hd := w64_def (a + b)
  split
  · rename_i hn
    have := h.1 hn
    constructor
    · intro h; cases h
    · intro hr
      rw [w64_id hr] at this
      omega
  · rename_i hn
    have hn' := fun h' => hn (h.2 h')
    constructor
    · intro _
      apply Classical.byContradiction
      intro hc
      apply hn'
      split at hd <;> omega
    · intro _; rfl
/-- A number without its sign. -/
theorem abs64 {a : Int} (ha : -9223372036854775808 ≤ a ∧ a ≤ 9223372036854775807) : wu64 (w64 (bXor .i64 a (bShr .i64 a 63) - bShr .i64 a 63)) = a.natAbs := by
  rw [shr63 ha]
  split
  · rw [bXor_ones ha, wu64_def, w64_def]; split <;> omega
  · rw [bXor_zero ha, wu64_def, w64_def]; split <;> omega
theorem at_pre {α : Type} (pre : List α) (x : α) (rest : List α) (z : α) : (pre ++ x :: rest).getD (pre.length : Int).toNat z = x := by
  simp [List.getD_eq_getElem?_getD]
end Go.Proofs.YtgbjponaoeiglaaDoor.E
