/- The plain law of StatShares: every row's share of the whole in ten thousandths, and its rank. -/
import Derived.Test.YthdggcleffadeaaStatSharesPure
import Derived.Test.YthdggcleffadeaaELaw
import Derived.Test.YthdggcleffadeaaEHeap
import Derived.KernelRfl
set_option linter.unusedVariables false
set_option linter.unusedSimpArgs false
namespace Go.Proofs.Ythdggcleffadeaa.StatShares
open Go E

abbrev It := Pile_item__int64
abbrev z0 : It := z_Pile_item__int64
def lt (a b : It) : Bool := if b.x < a.x then true else if a.x < b.x then false else decide (a.n < b.n)
theorem weak : Weak lt where
  asym a b h := by
    unfold lt at *
    split at h
    · rename_i h1; rw [if_neg (by omega), if_pos h1]
    · split at h
      · cases h
      · rename_i h1 h2
        rw [if_neg h2, if_neg h1]
        simp at h ⊢; omega
  neg a b c h := by
    unfold lt at *
    by_cases h1 : b.x < a.x
    · left; rw [if_pos h1]
    · by_cases h2 : a.x < b.x
      · right
        by_cases h3 : c.x < b.x
        · rw [if_pos h3]
        · rw [if_neg (by omega), if_pos (by omega)] at h; cases h
      · by_cases h3 : c.x < b.x
        · right; rw [if_pos h3]
        · by_cases h4 : b.x < c.x
          · rw [if_neg (by omega), if_pos (by omega)] at h; cases h
          · rw [if_neg (by omega), if_neg (by omega)] at h
            rw [if_neg h1, if_neg h2, if_neg h3, if_neg h4]
            simp at h ⊢; omega
theorem get_set_eta (l : List It) (k : Nat) : (⟨(l.getD k z0).x, (l.getD k z0).n⟩ : It) = l.getD k z0 := rfl

theorem ahead_eq (l : List It) (p : Int) (i k : Nat) (hi : i < l.length) (hk : k < l.length) : pile_Pile__int64_ahead l p i k = some (lt (l.getD i z0) (l.getD k z0)) := by
  unfold pile_Pile__int64_ahead stat_Rank_1 lt
  rw [if_pos (by omega), if_pos (by omega), if_pos (by omega), if_pos (by omega)]
  simp only [thn_eq, Int.toNat_natCast, decide_eq_true_eq]
  split
  · rfl
  · split <;> rfl
theorem half (n : Nat) (h0 : 0 < n) (h : n ≤ 1000) : bShr .i64 (w64 ((n : Int) - 1)) 1 = (par n : Nat) := by
  rw [w64_id (by omega)]
  unfold bShr par
  have e : (2 : Int) ^ min (1 : Int).toNat IntKind.i64.bits = 2 := by decide
  rw [e, Int.fdiv_eq_ediv_of_nonneg _ (by decide)]
  omega
theorem up_spec (K : Nat) (p : Int) : ∀ (k i : Nat) (l : List It), i < k → i < l.length → l.length ≤ 1000 → UpInv z0 lt l i → ∃ l', pile_Pile__int64_up_l0 K p k i l = some l' ∧ Heap z0 lt l' ∧ l'.Perm l
  | 0, i, l, h, _, _, _ => by omega
  | k + 1, i, l, hk, hi, hl, hu => by
    rw [pile_Pile__int64_up_l0]
    by_cases h0 : 0 < i
    · have hp := par_lt h0
      rw [if_pos (by omega), half i h0 (by omega), ahead_eq l p i (par i) hi (by omega)]
      simp only [Option.bind_some]
      cases hc : lt (l.getD i z0) (l.getD (par i) z0) with
      | false => exact ⟨l, rfl, heap_of_up hu hc, List.Perm.refl _⟩
      | true =>
        obtain ⟨l', h1, h2, h3⟩ := up_spec K p k (par i) (swp z0 l i (par i)) (by omega) (by rw [swp_length]; omega) (by rw [swp_length]; exact hl) (up_step weak hi h0 hu hc)
        refine ⟨l', ?_, h2, h3.trans (swp_perm hi (by omega))⟩
        simp only [Bool.not_true, Bool.false_eq_true, if_false, Int.toNat_natCast, List.length_set]
        rw [if_pos (by omega), if_pos (by omega), if_pos (by omega), if_pos (by omega), if_pos (by omega)]
        exact h1
    · have : i = 0 := by omega
      subst this
      rw [if_neg (by omega)]
      exact ⟨l, rfl, heap_of_up0 hu, List.Perm.refl _⟩
/-- The foremost of an item and its children. -/
theorem pick_spec (K : Nat) (p : Int) (l : List It) (i : Nat) (hi : i < l.length) (hl : l.length ≤ 1000) : ∃ f : Nat, pile_Pile__int64_down_l1 K p i l 300 i (w64 ((bShl .i64 i 1) + 1)) = some (f : Int) ∧
    ((f = i ∧ ∀ c, 0 < c → c < l.length → par c = i → lt (l.getD c z0) (l.getD i z0) = false) ∨
     (f < l.length ∧ 0 < f ∧ par f = i ∧ lt (l.getD f z0) (l.getD i z0) = true ∧ ∀ c, 0 < c → c < l.length → par c = i → lt (l.getD c z0) (l.getD f z0) = false)) := by
  have es : bShl .i64 (i : Int) 1 = 2 * (i : Int) := by
    have e : (2 : Int) ^ min (1 : Int).toNat IntKind.i64.bits = 2 := by decide
    unfold bShl
    rw [e]
    show w64 _ = _
    rw [w64_id (by omega)]; omega
  have e1 : w64 (2 * (i : Int) + 1) = ((2 * i + 1 : Nat) : Int) := by rw [w64_id (by omega)]; omega
  have e2 : w64 (2 * (i : Int) + 2) = ((2 * i + 2 : Nat) : Int) := by rw [w64_id (by omega)]; omega
  have e3 : w64 (((2 * i + 1 : Nat) : Int) + 1) = ((2 * i + 2 : Nat) : Int) := by rw [w64_id (by omega)]; omega
  have e4 : w64 (((2 * i + 2 : Nat) : Int) + 1) = ((2 * i + 3 : Nat) : Int) := by rw [w64_id (by omega)]; omega
  have kid : ∀ c, 0 < c → par c = i → c = 2 * i + 1 ∨ c = 2 * i + 2 := by intro c _ h; unfold par at h; omega
  have p1 : par (2 * i + 1) = i := by unfold par; omega
  have p2 : par (2 * i + 2) = i := by unfold par; omega
  -- one round
  have round : ∀ (k : Nat) (f c : Nat), f < l.length → pile_Pile__int64_down_l1 K p i l (k + 1) f c = if (c : Int) ≤ ((2 * i + 2 : Nat) : Int) then (if (c : Int) < (l.length : Int) then (if lt (l.getD c z0) (l.getD f z0) = true then pile_Pile__int64_down_l1 K p i l k c (w64 ((c : Int) + 1)) else pile_Pile__int64_down_l1 K p i l k f (w64 ((c : Int) + 1))) else some (f : Int)) else some (f : Int) := by
    intro k f c hf
    rw [pile_Pile__int64_down_l1, es, e2]
    by_cases h1 : (c : Int) ≤ ((2 * i + 2 : Nat) : Int)
    · rw [if_pos h1, if_pos h1]
      by_cases h2 : (c : Int) < (l.length : Int)
      · rw [if_pos h2, if_pos h2, ahead_eq l p c f (by omega) hf]
        rfl
      · rw [if_neg h2, if_neg h2]
    · rw [if_neg h1, if_neg h1]
  rw [es, e1]
  by_cases l1 : 2 * i + 1 < l.length
  · cases c1 : lt (l.getD (2 * i + 1) z0) (l.getD i z0) with
    | true =>
      by_cases l2 : 2 * i + 2 < l.length
      · cases c2 : lt (l.getD (2 * i + 2) z0) (l.getD (2 * i + 1) z0) with
        | true =>
          refine ⟨2 * i + 2, ?_, .inr ⟨l2, by omega, p2, weak.trans c2 c1, ?_⟩⟩
          · rw [round 299 _ _ hi, if_pos (by omega), if_pos (by omega), if_pos c1, e3, round 298 _ _ l1, if_pos (by omega), if_pos (by omega), if_pos c2, e4, round 297 _ _ l2, if_neg (by omega)]
          · intro c h0 hc hp
            rcases kid c h0 hp with rfl | rfl
            · exact weak.asym _ _ c2
            · exact weak.irr _
        | false =>
          refine ⟨2 * i + 1, ?_, .inr ⟨l1, by omega, p1, c1, ?_⟩⟩
          · rw [round 299 _ _ hi, if_pos (by omega), if_pos (by omega), if_pos c1, e3, round 298 _ _ l1, if_pos (by omega), if_pos (by omega), c2, if_neg (by decide), e4, round 297 _ _ l1, if_neg (by omega)]
          · intro c h0 hc hp
            rcases kid c h0 hp with rfl | rfl
            · exact weak.irr _
            · exact c2
      · refine ⟨2 * i + 1, ?_, .inr ⟨l1, by omega, p1, c1, ?_⟩⟩
        · rw [round 299 _ _ hi, if_pos (by omega), if_pos (by omega), if_pos c1, e3, round 298 _ _ l1, if_pos (by omega), if_neg (by omega)]
        · intro c h0 hc hp
          rcases kid c h0 hp with rfl | rfl
          · exact weak.irr _
          · omega
    | false =>
      by_cases l2 : 2 * i + 2 < l.length
      · cases c2 : lt (l.getD (2 * i + 2) z0) (l.getD i z0) with
        | true =>
          refine ⟨2 * i + 2, ?_, .inr ⟨l2, by omega, p2, c2, ?_⟩⟩
          · rw [round 299 _ _ hi, if_pos (by omega), if_pos (by omega), c1, if_neg (by decide), e3, round 298 _ _ hi, if_pos (by omega), if_pos (by omega), if_pos c2, e4, round 297 _ _ l2, if_neg (by omega)]
          · intro c h0 hc hp
            rcases kid c h0 hp with rfl | rfl
            · exact weak.lefts c1 c2
            · exact weak.irr _
        | false =>
          refine ⟨i, ?_, .inl ⟨rfl, ?_⟩⟩
          · rw [round 299 _ _ hi, if_pos (by omega), if_pos (by omega), c1, if_neg (by decide), e3, round 298 _ _ hi, if_pos (by omega), if_pos (by omega), c2, if_neg (by decide), e4, round 297 _ _ hi, if_neg (by omega)]
          · intro c h0 hc hp
            rcases kid c h0 hp with rfl | rfl
            · exact c1
            · exact c2
      · refine ⟨i, ?_, .inl ⟨rfl, ?_⟩⟩
        · rw [round 299 _ _ hi, if_pos (by omega), if_pos (by omega), c1, if_neg (by decide), e3, round 298 _ _ hi, if_pos (by omega), if_neg (by omega)]
        · intro c h0 hc hp
          rcases kid c h0 hp with rfl | rfl
          · exact c1
          · omega
  · refine ⟨i, ?_, .inl ⟨rfl, ?_⟩⟩
    · rw [round 299 _ _ hi, if_pos (by omega), if_neg (by omega)]
    · intro c h0 hc hp
      rcases kid c h0 hp with rfl | rfl
      · omega
      · omega
theorem down_spec (p : Int) : ∀ (k i : Nat) (l : List It), l.length < i + k → i < l.length → l.length ≤ 1000 → DownInv z0 lt l i → ∃ l', pile_Pile__int64_down_l0 300 p k i l = some l' ∧ Heap z0 lt l' ∧ l'.Perm l
  | 0, i, l, h, hi, _, _ => by omega
  | k + 1, i, l, hk, hi, hl, hd => by
    rw [pile_Pile__int64_down_l0]
    obtain ⟨f, hf, h⟩ := pick_spec 300 p l i hi hl
    rw [hf]
    simp only [Option.bind_some]
    rcases h with ⟨rfl, hc⟩ | ⟨hfl, hf0, hfp, hlt, hc⟩
    · rw [if_pos rfl]
      exact ⟨l, rfl, heap_of_down hd hc, List.Perm.refl _⟩
    · have hif := par_lt hf0
      obtain ⟨l', h1, h2, h3⟩ := down_spec p k f (swp z0 l i f) (by rw [swp_length]; omega) (by rw [swp_length]; exact hfl) (by rw [swp_length]; exact hl) (down_step weak hfl hf0 hfp hd hlt hc)
      refine ⟨l', ?_, h2, h3.trans (swp_perm hi hfl)⟩
      rw [if_neg (by omega)]
      simp only [Int.toNat_natCast, List.length_set]
      rw [if_pos (by omega), if_pos (by omega), if_pos (by omega), if_pos (by omega), if_pos (by omega)]
      exact h1
theorem down_nil (p : Int) : pile_Pile__int64_down_l0 300 p 300 0 [] = some [] := by kernel_rfl
theorem push_spec (l : List It) (p x : Int) (hl : l.length ≤ 299) (hh : Heap z0 lt l) : ∃ l', pile_Pile__int64_Push_2 300 l p x = some (l', w64 (p + 1)) ∧ Heap z0 lt l' ∧ l'.Perm (l ++ [⟨x, p⟩]) := by
  obtain ⟨l', h1, h2, h3⟩ := up_spec 300 (w64 (p + 1)) 300 l.length (l ++ [⟨x, p⟩]) (by omega) (by simp) (by simp; omega) (up_push _ hh)
  refine ⟨l', ?_, h2, h3⟩
  unfold pile_Pile__int64_Push_2 pile_Pile__int64_up
  rw [if_pos (by simp; omega)]
  have e : w64 (((l ++ [(⟨x, p⟩ : It)]).length : Int) - 1) = (l.length : Int) := by rw [w64_id (by simp; omega)]; simp
  rw [e, h1]
  rfl
theorem pop_spec (l : List It) (p : Int) (h0 : 0 < l.length) (hl : l.length ≤ 299) (hh : Heap z0 lt l) : ∃ l', pile_Pile__int64_Pop 300 l p = some (true, l', (l.getD 0 z0).x) ∧ Heap z0 lt l' ∧ (l.getD 0 z0 :: l').Perm l := by
  have hd := down_pop (z := z0) (lt := lt) hh h0
  have hp := pop_perm (z := z0) h0
  have hlen : ((l.set 0 (l.getD (l.length - 1) z0)).take (l.length - 1)).length = l.length - 1 := by simp
  have hdown : ∃ l', pile_Pile__int64_down_l0 300 p 300 0 ((l.set 0 (l.getD (l.length - 1) z0)).take (l.length - 1)) = some l' ∧ Heap z0 lt l' ∧ l'.Perm ((l.set 0 (l.getD (l.length - 1) z0)).take (l.length - 1)) := by
    by_cases h1 : l.length = 1
    · have : (l.set 0 (l.getD (l.length - 1) z0)).take (l.length - 1) = [] := List.eq_nil_of_length_eq_zero (by rw [hlen]; omega)
      rw [this]
      exact ⟨[], down_nil p, fun k _ hk => by simp at hk, List.Perm.refl _⟩
    · exact down_spec p 300 0 _ (by rw [hlen]; omega) (by rw [hlen]; omega) (by rw [hlen]; omega) hd
  obtain ⟨l', h1, h2, h3⟩ := hdown
  refine ⟨l', ?_, h2, (List.Perm.cons _ h3).trans hp⟩
  unfold pile_Pile__int64_Pop pile_Pile__int64_Top pile_Pile__int64_Len pile_Pile__int64_down
  have e : w64 ((l.length : Int) - 1) = ((l.length - 1 : Nat) : Int) := by rw [w64_id (by omega)]; omega
  simp only [thn_eq]
  rw [if_neg (by omega), if_pos (by omega)]
  simp only [Option.bind_some, Bool.not_true, Bool.false_eq_true, if_false]
  rw [e, if_pos (by omega), if_pos (by omega), if_pos (by omega), if_pos (by simp)]
  simp only [Int.toNat_natCast]
  have e0 : (0 : Int).toNat = 0 := rfl
  rw [e0]
  show (pile_Pile__int64_down_l0 300 p 300 0 ((l.set 0 (l.getD (l.length - 1) z0)).take (l.length - 1))).bind _ = _
  rw [h1]
  rfl
theorem pop_nil (p : Int) : pile_Pile__int64_Pop 300 [] p = some (false, [], 0) := by
  unfold pile_Pile__int64_Pop pile_Pile__int64_Top pile_Pile__int64_Len
  simp [thn_eq]

/-! ### Bits -/
def blen : Nat → Nat → Nat
  | 0, _ => 0
  | f + 1, n => if n = 0 then 0 else blen f (n / 2) + 1
theorem blen_more : ∀ (f g n : Nat), n < 2 ^ f → f ≤ g → blen g n = blen f n
  | 0, g, n, h, _ => by
    have : n = 0 := by simpa using h
    subst this
    cases g <;> simp [blen]
  | f + 1, g, n, h, hg => by
    cases g with
    | zero => omega
    | succ g =>
      rw [blen, blen]
      split
      · rfl
      · rw [blen_more f g (n / 2) (by rw [Nat.pow_succ] at h; omega) (by omega)]
theorem blen_shift : ∀ (k f n : Nat), 2 ^ k ≤ n → k ≤ f → blen f n = blen (f - k) (n / 2 ^ k) + k
  | 0, f, n, h, _ => by simp
  | k + 1, f, n, h, hf => by
    cases f with
    | zero => omega
    | succ f =>
      have h2 : 2 ^ (k + 1) = 2 * 2 ^ k := by rw [Nat.pow_succ, Nat.mul_comm]
      have hp : 0 < 2 ^ k := Nat.pow_pos (by decide)
      rw [blen, if_neg (by omega), blen_shift k f (n / 2) (by omega) (by omega), show f + 1 - (k + 1) = f - k by omega, Nat.div_div_eq_div_mul, ← h2]
      omega
theorem blen_le : ∀ f n, blen f n ≤ f
  | 0, _ => Nat.le_refl _
  | f + 1, n => by
    rw [blen]; split
    · omega
    · have := blen_le f (n / 2); omega
theorem shrU (n k : Nat) (h : k ≤ 64) : bShr .u64 (n : Int) (k : Int) = ((n / 2 ^ k : Nat) : Int) := by
  show (n : Int).fdiv (2 ^ min (k : Int).toNat 64) = _
  rw [Int.toNat_natCast, Nat.min_eq_left h]
  have : (2 : Int) ^ k = ((2 ^ k : Nat) : Int) := by rw [Int.natCast_pow]; rfl
  rw [this, Int.fdiv_eq_ediv_of_nonneg _ (Int.natCast_nonneg _)]; rfl
/-- The table of a byte's bits. -/
def tab : List UInt8 := [0, 1, 2, 2, 3, 3, 3, 3, 4, 4, 4, 4, 4, 4, 4, 4, 5, 5, 5, 5, 5, 5, 5, 5, 5, 5, 5, 5, 5, 5, 5, 5, 6, 6, 6, 6, 6, 6, 6, 6, 6, 6, 6, 6, 6, 6, 6, 6, 6, 6, 6, 6, 6, 6, 6, 6, 6, 6, 6, 6, 6, 6, 6, 6, 7, 7, 7, 7, 7, 7, 7, 7, 7, 7, 7, 7, 7, 7, 7, 7, 7, 7, 7, 7, 7, 7, 7, 7, 7, 7, 7, 7, 7, 7, 7, 7, 7, 7, 7, 7, 7, 7, 7, 7, 7, 7, 7, 7, 7, 7, 7, 7, 7, 7, 7, 7, 7, 7, 7, 7, 7, 7, 7, 7, 7, 7, 7, 7, 8, 8, 8, 8, 8, 8, 8, 8, 8, 8, 8, 8, 8, 8, 8, 8, 8, 8, 8, 8, 8, 8, 8, 8, 8, 8, 8, 8, 8, 8, 8, 8, 8, 8, 8, 8, 8, 8, 8, 8, 8, 8, 8, 8, 8, 8, 8, 8, 8, 8, 8, 8, 8, 8, 8, 8, 8, 8, 8, 8, 8, 8, 8, 8, 8, 8, 8, 8, 8, 8, 8, 8, 8, 8, 8, 8, 8, 8, 8, 8, 8, 8, 8, 8, 8, 8, 8, 8, 8, 8, 8, 8, 8, 8, 8, 8, 8, 8, 8, 8, 8, 8, 8, 8, 8, 8, 8, 8, 8, 8, 8, 8, 8, 8, 8, 8, 8, 8, 8, 8, 8, 8, 8, 8, 8, 8, 8, 8]
theorem tab_eq : ∀ x : Fin 256, ((tab.getD x.val 0).toNat : Int) = ((blen 8 x.val : Nat) : Int) := by decide +kernel
theorem tab_len : tab.length = 256 := by decide +kernel
theorem w64_add {a b : Nat} (h : a + b ≤ 1000) : w64 ((a : Int) + (b : Int)) = ((a + b : Nat) : Int) := by rw [w64_id (by omega)]; omega
theorem blen_8 {n : Nat} (h : n < 256) (f : Nat) (hf : 8 ≤ f) : blen f n = blen 8 n := blen_more 8 f n (by simpa using h) hf
set_option maxRecDepth 100000 in
theorem len64 (n : Nat) (h : n < 18446744073709551616) : bits_Len64 (n : Int) = some ((blen 64 n : Nat) : Int) := by
  -- what comes of it: so many bits are gone, and the rest
  have step : ∀ (x c f k : Nat), k ≤ f → 2 ^ k ≤ x → blen f x + c = blen (f - k) (x / 2 ^ k) + (c + k) := fun x c f k h1 h2 => by rw [blen_shift k f x h2 h1]; omega
  have fin : ∀ (x c : Nat), x < 256 → c ≤ 100 → (if 0 ≤ (wu8 (x : Int)) then (if (wu8 (x : Int)) < (tab.length : Int) then some (w64 ((c : Int) + (w64 ((tab.getD (wu8 (x : Int)).toNat 0).toNat : Int)))) else none) else none) = some ((blen 8 x + c : Nat) : Int) := by
    intro x c hx hc
    have e : wu8 (x : Int) = x := by simp [wu8, IntKind.wrap, IntKind.signed, IntKind.bits]; omega
    have hb := blen_le 8 x
    have ht := tab_eq ⟨x, hx⟩
    simp only at ht
    rw [e, tab_len, if_pos (by omega), if_pos (by omega), Int.toNat_natCast, ht, w64_id (by omega) (n := ((blen 8 x : Nat) : Int)), w64_add (by omega)]
    congr 2
    omega
  unfold bits_Len64
  simp only [thn_eq]
  -- 32 bits
  obtain ⟨x1, c1, e1, l1, b1, hc1⟩ : ∃ x1 c1 : Nat, (if 4294967296 ≤ (n : Int) then (bShr .u64 (n : Int) 32, (32 : Int)) else ((n : Int), (0 : Int))) = ((x1 : Int), (c1 : Int)) ∧ x1 < 4294967296 ∧ blen 64 n = blen 32 x1 + c1 ∧ c1 ≤ 32 := by
    by_cases h1 : 4294967296 ≤ n
    · have p : (2 : Nat) ^ 32 = 4294967296 := by decide
      refine ⟨n / 2 ^ 32, 32, ?_, by omega, ?_, by omega⟩
      · rw [if_pos (by omega)]
        have := shrU n 32 (by omega)
        rw [show ((32 : Nat) : Int) = 32 from rfl] at this
        rw [this]; rfl
      · have := step n 0 64 32 (by omega) (by omega)
        simpa using this
    · exact ⟨n, 0, by rw [if_neg (by omega)]; rfl, by omega, by rw [Nat.add_zero]; exact blen_more 32 64 n (Nat.lt_of_lt_of_le (show n < 4294967296 by omega) (by decide)) (by omega), by omega⟩
  rw [e1]
  obtain ⟨x2, c2, e2, l2, b2, hc2⟩ : ∃ x2 c2 : Nat, (if 65536 ≤ (x1 : Int) then (bShr .u64 (x1 : Int) 16, w64 ((c1 : Int) + 16)) else ((x1 : Int), (c1 : Int))) = ((x2 : Int), (c2 : Int)) ∧ x2 < 65536 ∧ blen 32 x1 + c1 = blen 16 x2 + c2 ∧ c2 ≤ 48 := by
    by_cases h1 : 65536 ≤ x1
    · have p : (2 : Nat) ^ 16 = 65536 := by decide
      refine ⟨x1 / 2 ^ 16, c1 + 16, ?_, by omega, ?_, by omega⟩
      · rw [if_pos (by omega)]
        have := shrU x1 16 (by omega)
        rw [show ((16 : Nat) : Int) = 16 from rfl] at this
        have h2 := w64_add (a := c1) (b := 16) (by omega)
        rw [show ((16 : Nat) : Int) = 16 from rfl] at h2
        rw [this, h2]
      · exact step x1 c1 32 16 (by omega) (by omega)
    · exact ⟨x1, c1, by rw [if_neg (by omega)], by omega, by rw [blen_more 16 32 x1 (Nat.lt_of_lt_of_le (show x1 < 65536 by omega) (by decide)) (by omega)], by omega⟩
  simp only [e2]
  obtain ⟨x3, c3, e3, l3, b3, hc3⟩ : ∃ x3 c3 : Nat, (if 256 ≤ (x2 : Int) then (bShr .u64 (x2 : Int) 8, w64 ((c2 : Int) + 8)) else ((x2 : Int), (c2 : Int))) = ((x3 : Int), (c3 : Int)) ∧ x3 < 256 ∧ blen 16 x2 + c2 = blen 8 x3 + c3 ∧ c3 ≤ 56 := by
    by_cases h1 : 256 ≤ x2
    · have p : (2 : Nat) ^ 8 = 256 := by decide
      refine ⟨x2 / 2 ^ 8, c2 + 8, ?_, by omega, ?_, by omega⟩
      · rw [if_pos (by omega)]
        have := shrU x2 8 (by omega)
        rw [show ((8 : Nat) : Int) = 8 from rfl] at this
        have h2 := w64_add (a := c2) (b := 8) (by omega)
        rw [show ((8 : Nat) : Int) = 8 from rfl] at h2
        rw [this, h2]
      · exact step x2 c2 16 8 (by omega) (by omega)
    · exact ⟨x2, c2, by rw [if_neg (by omega)], by omega, by rw [blen_8 (by omega) 16 (by omega)], by omega⟩
  simp only [e3]
  rw [b1, b2, b3]
  exact fin x3 c3 l3 (by omega)

/-! ### 128 bits -/
theorem andU (n k : Nat) (h : k ≤ 64) (hn : n < 18446744073709551616) : bAnd .u64 (n : Int) ((2 ^ k - 1 : Nat) : Int) = ((n % 2 ^ k : Nat) : Int) := by
  have hk : (2 : Nat) ^ k ≤ 2 ^ 64 := Nat.pow_le_pow_right (by decide) h
  have h64 : (2 : Nat) ^ 64 = 18446744073709551616 := by decide
  have hp : 0 < 2 ^ k := Nat.pow_pos (by decide)
  show wu64 (((BitVec.ofInt 64 (n : Int)) &&& (BitVec.ofInt 64 ((2 ^ k - 1 : Nat) : Int))).toNat : Int) = _
  rw [BitVec.toNat_and]
  simp only [BitVec.ofInt_natCast, BitVec.toNat_ofNat]
  rw [Nat.mod_eq_of_lt (by omega), Nat.mod_eq_of_lt (by omega), Nat.and_two_pow_sub_one_eq_mod]
  have := Nat.mod_lt n hp
  rw [wu64_id (by omega)]
theorem shlU (n k : Nat) (h : k ≤ 64) : bShl .u64 (n : Int) (k : Int) = wu64 ((n * 2 ^ k : Nat) : Int) := by
  show wu64 ((n : Int) * 2 ^ min (k : Int).toNat 64) = _
  rw [Int.toNat_natCast, Nat.min_eq_left h]
  simp
theorem orU (a b k : Nat) (h : b < 2 ^ k) (hs : a * 2 ^ k + b < 18446744073709551616) : bOr .u64 ((a * 2 ^ k : Nat) : Int) (b : Int) = ((a * 2 ^ k + b : Nat) : Int) := by
  show wu64 (((BitVec.ofInt 64 ((a * 2 ^ k : Nat) : Int)) ||| (BitVec.ofInt 64 (b : Int))).toNat : Int) = _
  rw [BitVec.toNat_or]
  simp only [BitVec.ofInt_natCast, BitVec.toNat_ofNat]
  have h64 : (2 : Nat) ^ 64 = 18446744073709551616 := by decide
  rw [Nat.mod_eq_of_lt (by omega), Nat.mod_eq_of_lt (by omega), Nat.mul_comm a, ← Nat.two_pow_add_eq_or_of_lt h a, Nat.mul_comm]
  rw [wu64_id (by omega)]
theorem wuN {n : Nat} (h : n < 18446744073709551616) : wu64 (n : Int) = n := wu64_id (by omega)
theorem mul64 (n : Nat) (hn : n ≤ 4611686018427387904) : ∃ hi lo : Nat, bits_Mul64 (n : Int) 10000 = ((hi : Int), (lo : Int)) ∧ hi * 18446744073709551616 + lo = n * 10000 ∧ lo < 18446744073709551616 := by
  have hx0 : bAnd .u64 (n : Int) 4294967295 = ((n % 4294967296 : Nat) : Int) := andU n 32 (by decide) (by omega)
  have hx1 : bShr .u64 (n : Int) 32 = ((n / 4294967296 : Nat) : Int) := shrU n 32 (by decide)
  have hy0 : bAnd .u64 (10000 : Int) 4294967295 = 10000 := andU 10000 32 (by decide) (by decide)
  have hy1 : bShr .u64 (10000 : Int) 32 = 0 := shrU 10000 32 (by decide)
  refine ⟨n * 10000 / 18446744073709551616, n * 10000 % 18446744073709551616, ?_, by omega, by omega⟩
  unfold bits_Mul64
  rw [hx0, hx1, hy0, hy1]
  have e1 : wu64 (((n % 4294967296 : Nat) : Int) * 10000) = ((n % 4294967296 * 10000 : Nat) : Int) := by rw [wu64_id (by omega)]; omega
  have e2 : bShr .u64 ((n % 4294967296 * 10000 : Nat) : Int) 32 = ((n % 4294967296 * 10000 / 4294967296 : Nat) : Int) := shrU _ 32 (by decide)
  have e3 : wu64 (((n / 4294967296 : Nat) : Int) * 10000) = ((n / 4294967296 * 10000 : Nat) : Int) := by rw [wu64_id (by omega)]; omega
  have e4 : wu64 (((n / 4294967296 * 10000 : Nat) : Int) + ((n % 4294967296 * 10000 / 4294967296 : Nat) : Int)) = ((n * 10000 / 4294967296 : Nat) : Int) := by rw [wu64_id (by omega)]; omega
  have e5 : bShr .u64 ((n * 10000 / 4294967296 : Nat) : Int) 32 = ((n * 10000 / 4294967296 / 4294967296 : Nat) : Int) := shrU _ 32 (by decide)
  have e6 : bAnd .u64 ((n * 10000 / 4294967296 : Nat) : Int) 4294967295 = ((n * 10000 / 4294967296 % 4294967296 : Nat) : Int) := andU _ 32 (by decide) (by omega)
  have e7 : wu64 (((n % 4294967296 : Nat) : Int) * 0) = 0 := by rw [Int.mul_zero]; rfl
  have e8 : wu64 (((n * 10000 / 4294967296 % 4294967296 : Nat) : Int) + 0) = ((n * 10000 / 4294967296 % 4294967296 : Nat) : Int) := by rw [Int.add_zero, wu64_id (by omega)]
  have e9 : bShr .u64 ((n * 10000 / 4294967296 % 4294967296 : Nat) : Int) 32 = ((n * 10000 / 4294967296 % 4294967296 / 4294967296 : Nat) : Int) := shrU _ 32 (by decide)
  have e10 : wu64 (((n / 4294967296 : Nat) : Int) * 0) = 0 := by rw [Int.mul_zero]; rfl
  rw [e1, e2, e3, e4, e5, e6, e7, e8, e9, e10]
  refine Prod.ext ?_ ?_
  · simp only [Int.zero_add]
    rw [wu64_id (n := ((n * 10000 / 4294967296 / 4294967296 : Nat) : Int)) (by omega), wu64_id (by omega)]
    omega
  · simp only
    rw [wu64_def]; omega
theorem blen_between : ∀ (f n : Nat), n < 2 ^ f → 0 < n → 0 < blen f n ∧ 2 ^ (blen f n - 1) ≤ n ∧ n < 2 ^ blen f n
  | 0, n, h, h0 => by simp at h; omega
  | f + 1, n, h, h0 => by
    rw [blen, if_neg (by omega)]
    by_cases h1 : n = 1
    · subst h1
      have : blen f (1 / 2) = 0 := by cases f <;> simp [blen]
      rw [this]; decide
    · obtain ⟨p, q, r⟩ := blen_between f (n / 2) (by rw [Nat.pow_succ] at h; omega) (by omega)
      refine ⟨by omega, ?_, by rw [Nat.pow_succ]; omega⟩
      have e : blen f (n / 2) + 1 - 1 = (blen f (n / 2) - 1) + 1 := by omega
      rw [e, Nat.pow_succ]; omega
/-- A divisor moved up so far that its top bit stands. -/
theorem norm (y : Nat) (h0 : 0 < y) (hy : y ≤ 4611686018427387904) : ∃ s : Nat, bits_LeadingZeros64 (y : Int) = some (s : Int) ∧ 1 ≤ s ∧ s < 64 ∧ 9223372036854775808 ≤ y * 2 ^ s ∧ y * 2 ^ s < 18446744073709551616 := by
  have h64 : (2 : Nat) ^ 64 = 18446744073709551616 := by decide
  obtain ⟨p, q, r⟩ := blen_between 64 y (by omega) h0
  have hb := blen_le 64 y
  have hb63 : blen 64 y ≤ 63 := by
    apply Classical.byContradiction
    intro hn
    have : blen 64 y = 64 := by omega
    rw [this] at q
    have : (2 : Nat) ^ (64 - 1) = 9223372036854775808 := by decide
    omega
  refine ⟨64 - blen 64 y, ?_, by omega, by omega, ?_, ?_⟩
  · unfold bits_LeadingZeros64
    rw [len64 y (by omega)]
    simp only [Option.bind_some]
    rw [w64_id (by omega)]
    congr 1; omega
  · have h1 : 2 ^ (blen 64 y - 1) * 2 ^ (64 - blen 64 y) ≤ y * 2 ^ (64 - blen 64 y) := Nat.mul_le_mul_right _ q
    rw [← Nat.pow_add, show blen 64 y - 1 + (64 - blen 64 y) = 63 by omega] at h1
    have : (2 : Nat) ^ 63 = 9223372036854775808 := by decide
    omega
  · have h1 : y * 2 ^ (64 - blen 64 y) < 2 ^ blen 64 y * 2 ^ (64 - blen 64 y) := Nat.mul_lt_mul_of_pos_right r (Nat.pow_pos (by decide))
    rw [← Nat.pow_add, show blen 64 y + (64 - blen 64 y) = 64 by omega] at h1
    omega
/-- The second digit: lowered until it fits. -/
theorem digit (x20 : (Int × Int × Int × Int × Int × Int × Int × Int)) (yn1 yn0 un0 U Q : Nat) (h1 : x20.2.2.2.1 = yn1) (h0 : x20.2.2.2.2.1 = yn0) (hu : x20.2.2.2.2.2.2.2 = un0)
    (hy1 : 2147483648 ≤ yn1) (hy1' : yn1 < 4294967296) (hy0 : yn0 < 4294967296) (hu0 : un0 < 4294967296) (hQ : Q * (yn1 * 4294967296 + yn0) ≤ U) (hQ' : U < (Q + 1) * (yn1 * 4294967296 + yn0)) (m : Int) :
    ∀ (k q r : Nat), 6442450944 ≤ r + k * 2147483648 → q < 4294967296 → Q ≤ q → r < 4294967296 → (q * yn1 + r) * 4294967296 + un0 = U → bits_Div64_l1 300 x20 k m q r = some ((Q : Int), m) := by
  intro k
  induction k with
  | zero => intro q r hk hq hQq hr he; omega
  | succ k ih =>
    intro q r hk hq hQq hr he
    have hqy : q * yn0 ≤ 4294967295 * 4294967295 := Nat.mul_le_mul (by omega) (by omega)
    have ea : wu64 (4294967296 * (r : Int)) = ((4294967296 * r : Nat) : Int) := by rw [wu64_id (by omega)]; omega
    have eb : wu64 (((4294967296 * r : Nat) : Int) + (un0 : Int)) = ((4294967296 * r + un0 : Nat) : Int) := by rw [wu64_id (by omega)]; omega
    have ec : wu64 ((q : Int) * (yn0 : Int)) = ((q * yn0 : Nat) : Int) := by rw [← Int.natCast_mul, wuN (by omega)]
    have ed : wu64 ((r : Int) + (yn1 : Int)) = ((r + yn1 : Nat) : Int) := by rw [wu64_id (by omega)]; omega
    have x1 : q * (yn1 * 4294967296 + yn0) = q * yn1 * 4294967296 + q * yn0 := by rw [Nat.mul_add, Nat.mul_assoc]
    have x2 : (q * yn1 + r) * 4294967296 = q * yn1 * 4294967296 + r * 4294967296 := Nat.add_mul _ _ _
    rw [bits_Div64_l1, h1, h0, hu, ea, eb, ec, ed]
    simp only [thn_eq]
    rw [if_neg (by omega)]
    by_cases ht : 4294967296 * r + un0 < q * yn0
    · -- too big
      have hlt : Q < q := by
        apply Classical.byContradiction
        intro hn
        have : q = Q := by omega
        subst this
        omega
      have ef : wu64 ((q : Int) - 1) = ((q - 1 : Nat) : Int) := by rw [wu64_id (by omega)]; omega
      rw [if_pos (by omega), cas_inl, ef]
      have x3 : (q - 1) * yn1 + yn1 = q * yn1 := by
        have : q = (q - 1) + 1 := by omega
        rw [this]; simp [Nat.add_mul]
      by_cases hbig : 4294967296 ≤ r + yn1
      · rw [if_pos (by omega)]
        have hle : (q - 1) * (yn1 * 4294967296 + yn0) ≤ U := by
          have y1 : (q - 1) * (yn1 * 4294967296 + yn0) = (q - 1) * yn1 * 4294967296 + (q - 1) * yn0 := by rw [Nat.mul_add, Nat.mul_assoc]
          have y2 : (q - 1) * yn0 ≤ 4294967295 * 4294967295 := Nat.mul_le_mul (by omega) (by omega)
          omega
        have : q - 1 = Q := by
          have h3 : (q - 1) < Q + 1 := Nat.lt_of_mul_lt_mul_right (Nat.lt_of_le_of_lt hle hQ')
          omega
        rw [this]
      · rw [if_neg (by omega)]
        refine ih (q - 1) (r + yn1) (by omega) (by omega) (by omega) (by omega) ?_
        have : (q - 1) * yn1 + (r + yn1) = q * yn1 + r := by omega
        rw [this]; exact he
    · rw [if_neg (by omega), cas_inr]
      have hle : q * (yn1 * 4294967296 + yn0) ≤ U := by omega
      have : q = Q := by
        have h3 : q < Q + 1 := Nat.lt_of_mul_lt_mul_right (Nat.lt_of_le_of_lt hle hQ')
        omega
      rw [this]
theorem split32 (Y : Nat) : Y / 4294967296 * 4294967296 + Y % 4294967296 = Y := by omega
theorem vsplit (A B C V : Nat) (hC : C = A * 4294967296 + B / 4294967296) (hV : V = A * 18446744073709551616 + B) : C * 4294967296 + B % 4294967296 = V := by omega
theorem shl32 (A B C : Nat) (hC : C = A * 4294967296 + B / 4294967296) (hA : A < 10000) (hB : B < 18446744073709551616) : C < 42949672960000 := by omega
theorem div64 (hi lo y U : Nat) (hU : hi * 18446744073709551616 + lo = U) (hlo : lo < 18446744073709551616) (hy : y ≤ 4611686018427387904) (h0 : 0 < y) (hb : U ≤ 10000 * y) : ∃ r, bits_Div64 300 (hi : Int) (lo : Int) (y : Int) = some (((U / y : Nat) : Int), r) := by
  have hq : U / y ≤ 10000 := Nat.div_le_of_le_mul (by rw [Nat.mul_comm]; exact hb)
  unfold bits_Div64
  rw [if_neg (by omega), if_neg (by omega)]
  by_cases hh : hi = 0
  · subst hh
    have hUl : lo = U := by omega
    subst hUl
    rw [if_pos (by rfl)]
    have : wu64 (Int.tdiv (lo : Int) (y : Int)) = ((lo / y : Nat) : Int) := by
      have : Int.tdiv (lo : Int) (y : Int) = ((lo / y : Nat) : Int) := by rw [Int.tdiv_eq_ediv_of_nonneg (by omega)]; rfl
      rw [this, wuN (by omega)]
    rw [this]
    exact ⟨_, rfl⟩
  · rw [if_neg (by omega)]
    obtain ⟨s, e1, s1, s2, n1, n2⟩ := norm y h0 hy
    rw [e1]
    simp only [Option.bind_some]
    have hs : wu64 (s : Int) = s := wuN (by omega)
    have hs2 : wu64 (64 - (s : Int)) = ((64 - s : Nat) : Int) := by rw [wu64_id (by omega)]; omega
    have hp : 2 ^ s * 2 ^ (64 - s) = 18446744073709551616 := by rw [← Nat.pow_add, show s + (64 - s) = 64 by omega]
    have hps : 0 < 2 ^ s := Nat.pow_pos (by decide)
    have hY : bShl .u64 (y : Int) (s : Int) = ((y * 2 ^ s : Nat) : Int) := by rw [shlU y s (by omega), wuN n2]
    generalize hYd : y * 2 ^ s = Y at *
    have hyn1 : bShr .u64 (Y : Int) 32 = ((Y / 4294967296 : Nat) : Int) := shrU Y 32 (by decide)
    have hyn0 : bAnd .u64 (Y : Int) 4294967295 = ((Y % 4294967296 : Nat) : Int) := andU Y 32 (by decide) n2
    -- what is divided, moved up as far
    have hV : U * 2 ^ s ≤ 10000 * Y := by rw [← hYd, ← Nat.mul_assoc]; exact Nat.mul_le_mul_right _ hb
    have hhis : hi * 2 ^ s < 10000 := by
      have h1 : (hi * 2 ^ s) * 18446744073709551616 ≤ U * 2 ^ s := by
        rw [← hU, Nat.add_mul, Nat.mul_right_comm]; omega
      omega
    have hun32a : bShl .u64 (hi : Int) (s : Int) = ((hi * 2 ^ s : Nat) : Int) := by rw [shlU hi s (by omega), wuN (by omega)]
    have hun32b : bShr .u64 (lo : Int) ((64 - s : Nat) : Int) = ((lo / 2 ^ (64 - s) : Nat) : Int) := shrU lo (64 - s) (by omega)
    have hlow : lo / 2 ^ (64 - s) < 2 ^ s := by rw [Nat.div_lt_iff_lt_mul (Nat.pow_pos (by decide)), hp]; exact hlo
    have hp64 : 2 ^ s ≤ 9223372036854775808 := by
      have : (2 : Nat) ^ s ≤ 2 ^ 63 := Nat.pow_le_pow_right (by decide) (by omega)
      have e : (2 : Nat) ^ 63 = 9223372036854775808 := by decide
      omega
    have hor := orU hi (lo / 2 ^ (64 - s)) s hlow (by omega)
    generalize hA : hi * 2 ^ s + lo / 2 ^ (64 - s) = A at *
    have hun10 : bShl .u64 (lo : Int) (s : Int) = ((lo * 2 ^ s % 18446744073709551616 : Nat) : Int) := by rw [shlU lo s (by omega), wu64_def]; rfl
    have hsplit : lo * 2 ^ s % 18446744073709551616 + 18446744073709551616 * (lo / 2 ^ (64 - s)) = lo * 2 ^ s := by
      have h1 : lo * 2 ^ s / 18446744073709551616 = lo / 2 ^ (64 - s) := by
        rw [← hp, Nat.mul_comm (2 ^ s), Nat.mul_div_mul_right _ _ hps]
      have := Nat.mod_add_div (lo * 2 ^ s) 18446744073709551616
      rw [h1] at this
      exact this
    generalize hB : lo * 2 ^ s % 18446744073709551616 = B at *
    have hB' : B < 18446744073709551616 := by rw [← hB]; exact Nat.mod_lt _ (by decide)
    obtain ⟨V, hVV⟩ : ∃ V, V = A * 18446744073709551616 + B := ⟨_, rfl⟩
    have hVd : U * 2 ^ s = V := by
      have e1 : (hi * 18446744073709551616 + lo) * 2 ^ s = hi * 2 ^ s * 18446744073709551616 + lo * 2 ^ s := by rw [Nat.add_mul, Nat.mul_right_comm]
      have e0 : (hi * 18446744073709551616 + lo) * 2 ^ s = U * 2 ^ s := congrArg (· * 2 ^ s) hU
      rewrite [e1] at e0
      omega
    have hA' : A < 10000 := by omega
    have hQd : U / y = (V) / Y := by
      rw [← hVd, ← hYd, Nat.mul_div_mul_right _ _ hps]
    have hun1 : bShr .u64 (B : Int) 32 = ((B / 4294967296 : Nat) : Int) := shrU B 32 (by decide)
    have hun0 : bAnd .u64 (B : Int) 4294967295 = ((B % 4294967296 : Nat) : Int) := andU B 32 (by decide) hB'
    rw [hs, hs2, hY, hyn1, hyn0, hun32a, hun32b, hor, hun10, hun1, hun0, if_pos (by omega), if_pos (by omega), if_neg (by omega)]
    have hY1 : 2147483648 ≤ Y / 4294967296 := by omega
    have hd0 : Int.tdiv (A : Int) ((Y / 4294967296 : Nat) : Int) = 0 := by
      rw [Int.tdiv_eq_ediv_of_nonneg (by omega)]
      exact Int.ediv_eq_zero_of_lt (by omega) (by omega)
    have hq1 : wu64 (Int.tdiv (A : Int) ((Y / 4294967296 : Nat) : Int)) = 0 := by rw [hd0]; rfl
    have hr1 : wu64 ((A : Int) - wu64 (0 * ((Y / 4294967296 : Nat) : Int))) = A := by
      rw [Int.zero_mul]
      show wu64 ((A : Int) - 0) = _
      rw [Int.sub_zero, wuN (by omega)]
    rw [hq1, hr1]
    -- the first digit is nought
    have hl0 : bits_Div64_l0 300 300 (Y : Int) (s : Int) ((Y / 4294967296 : Nat) : Int) ((Y % 4294967296 : Nat) : Int) (A : Int) ((B / 4294967296 : Nat) : Int) ((B % 4294967296 : Nat) : Int) 0 (A : Int) = some ((0 : Int), (Y : Int), (s : Int), ((Y / 4294967296 : Nat) : Int), ((Y % 4294967296 : Nat) : Int), (A : Int), ((B / 4294967296 : Nat) : Int), ((B % 4294967296 : Nat) : Int)) := by
      rw [bits_Div64_l0]
      have z : wu64 (0 * ((Y % 4294967296 : Nat) : Int)) = 0 := by rw [Int.zero_mul]; rfl
      have p : 0 ≤ wu64 (wu64 (4294967296 * (A : Int)) + ((B / 4294967296 : Nat) : Int)) := (wu64_in _).1
      rw [z]
      simp only [thn_eq]
      rw [if_neg (by omega), if_neg (by omega), cas_inr]
    rw [hl0]
    simp only [Option.bind_some]
    rw [if_neg (by omega)]
    obtain ⟨C, hC⟩ : ∃ C, C = A * 4294967296 + B / 4294967296 := ⟨_, rfl⟩
    have hun21 : wu64 (wu64 (wu64 ((A : Int) * 4294967296) + ((B / 4294967296 : Nat) : Int)) - wu64 (0 * (Y : Int))) = (C : Int) := by
      rw [Int.zero_mul]
      show wu64 (wu64 (wu64 ((A : Int) * 4294967296) + ((B / 4294967296 : Nat) : Int)) - 0) = _
      rw [Int.sub_zero, wu64_id (n := (A : Int) * 4294967296) (by omega), wu64_id (n := (A : Int) * 4294967296 + ((B / 4294967296 : Nat) : Int)) (by omega), wu64_id (by omega)]
      omega
    rw [hun21]
    generalize hyy : Y / 4294967296 = y1 at *
    have hC' : C < 42949672960000 := by omega
    have hy1l : y1 < 4294967296 := by omega
    have hq0 : wu64 (Int.tdiv (C : Int) (y1 : Int)) = ((C / y1 : Nat) : Int) := by
      have : Int.tdiv (C : Int) (y1 : Int) = ((C / y1 : Nat) : Int) := by rw [Int.tdiv_eq_ediv_of_nonneg (by omega)]; rfl
      have := Nat.div_le_self C y1
      rw [‹Int.tdiv (C : Int) (y1 : Int) = _›, wuN (by omega)]
    have hCd := Nat.div_add_mod C y1
    have hCm := Nat.mod_lt C (show 0 < y1 by omega)
    have hCq : C / y1 < 4294967296 := by
      rw [Nat.div_lt_iff_lt_mul (by omega)]; omega
    have hr0 : wu64 ((C : Int) - wu64 (((C / y1 : Nat) : Int) * (y1 : Int))) = ((C % y1 : Nat) : Int) := by
      have e : ((C / y1 : Nat) : Int) * (y1 : Int) = ((y1 * (C / y1) : Nat) : Int) := by rw [Nat.mul_comm]; exact (Int.natCast_mul _ _).symm
      rw [e, wu64_id (n := ((y1 * (C / y1) : Nat) : Int)) (by omega), wu64_id (by omega)]
      omega
    rw [hq0, hr0]
    -- the second digit
    have hYe : y1 * 4294967296 + Y % 4294967296 = Y := by rewrite [← hyy]; exact split32 Y
    have hVe : C * 4294967296 + B % 4294967296 = V := vsplit A B C V hC hVV
    have hY0 : 0 < Y := Nat.lt_of_lt_of_le (by decide) n1
    have hQle : U / y * Y ≤ V := by rw [hQd]; exact Nat.div_mul_le_self _ _
    have hQlt : V < (U / y + 1) * Y := by
      rw [hQd]
      have h1 := Nat.div_add_mod (V) Y
      have h2 := Nat.mod_lt (V) hY0
      rw [Nat.add_mul, Nat.one_mul, Nat.mul_comm]
      omega
    have hge : U / y ≤ C / y1 := by
      rw [Nat.le_div_iff_mul_le (by omega)]
      have h1 : U / y * Y = U / y * y1 * 4294967296 + U / y * (Y % 4294967296) := by
        rw [Nat.mul_assoc, ← Nat.mul_add, hYe]
      omega
    have hdig := digit ((0 : Int), (Y : Int), (s : Int), (y1 : Int), ((Y % 4294967296 : Nat) : Int), (A : Int), ((B / 4294967296 : Nat) : Int), ((B % 4294967296 : Nat) : Int)) y1 (Y % 4294967296) (B % 4294967296) (V) (U / y) rfl rfl rfl hY1 hy1l (Nat.mod_lt _ (by decide)) (Nat.mod_lt _ (by decide)) (by rw [hYe]; exact hQle) (by rw [hYe]; exact hQlt) (C : Int) 300 (C / y1) (C % y1) (by omega) hCq hge (by omega) (by rw [Nat.mul_comm (C / y1), hCd]; exact hVe)
    rw [hdig]
    simp only [Option.bind_some]
    rw [if_pos (by omega)]
    refine ⟨_, congrArg some (Prod.ext ?_ rfl)⟩
    simp only
    rw [Int.zero_mul]
    show wu64 (wu64 0 + _) = _
    rw [show wu64 0 = 0 from rfl, Int.zero_add, wuN (by omega)]
/-! ### A share, digit by digit -/
theorem share_in (a1 rest : Int) (hr : 0 ≤ rest) (hr1 : rest < a1) (ha : a1 ≤ 4611686018427387904) : ∀ (m j : Nat) (k : Nat) (d r : Int), j + m = 10 → m < k → rest * j = d * a1 + r → 0 ≤ r → r < a1 → 0 ≤ d → d ≤ j →
    ∃ d' r', ossuaryref35_share_l1 300 a1 rest k d r j = some (d', r') ∧ rest * 10 = d' * a1 + r' ∧ 0 ≤ r' ∧ r' < a1 ∧ 0 ≤ d' ∧ d' ≤ 10
  | m, j, 0, d, r, _, h, _, _, _, _, _ => by omega
  | 0, j, k + 1, d, r, h1, _, h2, h3, h4, h5, h6 => by
    have : j = 10 := by omega
    subst this
    rw [ossuaryref35_share_l1, if_neg (by decide)]
    exact ⟨d, r, rfl, h2, h3, h4, h5, h6⟩
  | m + 1, j, k + 1, d, r, h1, hk, h2, h3, h4, h5, h6 => by
    have e1 : w64 (a1 - rest) = a1 - rest := w64_id (by omega)
    have e2 : w64 ((j : Int) + 1) = ((j + 1 : Nat) : Int) := by rw [w64_id (by omega)]; omega
    have e3 : rest * ((j + 1 : Nat) : Int) = rest * j + rest := by rw [show ((j + 1 : Nat) : Int) = (j : Int) + 1 by omega, Int.mul_add, Int.mul_one]
    rw [ossuaryref35_share_l1, if_pos (by omega), e1, e2]
    by_cases h : a1 - rest ≤ r
    · have e4 : w64 (d + 1) = d + 1 := w64_id (by omega)
      have e5 : w64 (r - (a1 - rest)) = r - (a1 - rest) := w64_id (by omega)
      rw [if_pos h, e4, e5]
      exact share_in a1 rest hr hr1 ha m (j + 1) k (d + 1) (r - (a1 - rest)) (by omega) (by omega) (by rw [e3, Int.add_mul, Int.one_mul]; omega) (by omega) (by omega) (by omega) (by omega)
    · have e5 : w64 (r + rest) = r + rest := w64_id (by omega)
      rw [if_neg h, e5]
      exact share_in a1 rest hr hr1 ha m (j + 1) k d (r + rest) (by omega) (by omega) (by rw [e3]; omega) (by omega) (by omega) (by omega) (by omega)
theorem share_step (a1 rest v : Int) (hr : 0 ≤ rest) (hr1 : rest < a1) (ha : a1 ≤ 4611686018427387904) (hv : 0 ≤ v) (hv1 : v ≤ 100000) (k j : Nat) (hj : j < 4) : ∃ d r, ossuaryref35_share_l0 300 a1 (k + 1) rest v j = ossuaryref35_share_l0 300 a1 k r (10 * v + d) ((j + 1 : Nat) : Int) ∧ rest * 10 = d * a1 + r ∧ 0 ≤ r ∧ r < a1 ∧ 0 ≤ d ∧ d ≤ 10 := by
  obtain ⟨d, r, h1, h2, h3, h4, h5, h6⟩ := share_in a1 rest hr hr1 ha 10 0 300 0 0 rfl (by decide) (by simp) (by decide) (by omega) (by decide) (by decide)
  refine ⟨d, r, ?_, h2, h3, h4, h5, h6⟩
  have h1' : ossuaryref35_share_l1 300 a1 rest 300 0 0 0 = some (d, r) := h1
  rw [ossuaryref35_share_l0, if_pos (by omega), h1']
  simp only [Option.bind_some]
  rw [w64_id (n := 10 * v) (by omega), w64_id (n := 10 * v + d) (by omega), show w64 ((j : Int) + 1) = ((j + 1 : Nat) : Int) by rw [w64_id (by omega)]; omega]
theorem share_eq (n y : Nat) (hn : n < y) (hy : y ≤ 4611686018427387904) : ossuaryref35_share 300 (n : Int) (y : Int) = some ((n * 10000 / y : Nat) : Int) := by
  obtain ⟨d1, r1, a1, a2, a3, a4, a5, a6⟩ := share_step (y : Int) (n : Int) 0 (by omega) (by omega) (by omega) (by omega) (by omega) 299 0 (by omega)
  obtain ⟨d2, r2, b1, b2, b3, b4, b5, b6⟩ := share_step (y : Int) r1 (10 * 0 + d1) (by omega) (by omega) (by omega) (by omega) (by omega) 298 1 (by omega)
  obtain ⟨d3, r3, c1, c2, c3, c4, c5, c6⟩ := share_step (y : Int) r2 (10 * (10 * 0 + d1) + d2) (by omega) (by omega) (by omega) (by omega) (by omega) 297 2 (by omega)
  obtain ⟨d4, r4, f1, f2, f3, f4, f5, f6⟩ := share_step (y : Int) r3 (10 * (10 * (10 * 0 + d1) + d2) + d3) (by omega) (by omega) (by omega) (by omega) (by omega) 296 3 (by omega)
  have e : ossuaryref35_share 300 (n : Int) (y : Int) = ossuaryref35_share_l0 300 (y : Int) (299 + 1) (n : Int) 0 ((0 : Nat) : Int) := rfl
  rw [e, a1, b1, c1, f1, ossuaryref35_share_l0, if_neg (by decide)]
  congr 1
  have hfin : (n : Int) * 10000 = (10 * (10 * (10 * (10 * 0 + d1) + d2) + d3) + d4) * (y : Int) + r4 := by
    have g1 : (10 * (10 * (10 * (10 * 0 + d1) + d2) + d3) + d4) * (y : Int) = 1000 * (d1 * y) + 100 * (d2 * y) + 10 * (d3 * y) + d4 * y := by
      simp only [Int.add_mul, Int.mul_add, Int.mul_assoc]; omega
    rw [g1]
    omega
  have hq : ((n * 10000 / y : Nat) : Int) = (n : Int) * 10000 / (y : Int) := by rw [Int.natCast_ediv, Int.natCast_mul]; rfl
  rw [hq, hfin, Int.add_comm (_ * (y : Int)), Int.add_mul_ediv_right _ _ (by omega), Int.ediv_eq_zero_of_lt f3 f4, Int.zero_add]
/-! ### The shares -/
abbrev sm (l0 : List Api_Row) (i : Nat) : Int := (l0.getD i z_Api_Row).Cell.Sum
theorem sm_in (l0 : List Api_Row) (hin : ∀ x ∈ l0, ok_Api_Row x) (i : Nat) (h : i < l0.length) : -9223372036854775808 ≤ sm l0 i ∧ sm l0 i ≤ 9223372036854775807 := by
  have hg : l0.getD i z_Api_Row = l0[i] := by simp [List.getD_eq_getElem?_getD, List.getElem?_eq_getElem h]
  have := (hin _ (List.getElem_mem h)).2.2.1
  rw [← hg] at this
  exact in64 this
theorem tot (l0 : List Api_Row) (hl : l0.length ≤ 60) (hin : ∀ x ∈ l0, ok_Api_Row x) : ∀ (k i : Nat) (all : Int), i ≤ l0.length → l0.length < i + k → 0 ≤ all → all ≤ 4611686018427387904 → (∀ j, j < i → 0 ≤ sm l0 j ∧ sm l0 j ≤ all) →
    (stat_Shares_l0 300 l0 k all i = some (Sum.inr (false, [])) ∧ ossuaryref35_Shares_l0 300 l0 k all i = some (Sum.inr (false, []))) ∨
    ∃ v : Int, stat_Shares_l0 300 l0 k all i = some (Sum.inl v) ∧ ossuaryref35_Shares_l0 300 l0 k all i = some (Sum.inl v) ∧ 0 ≤ v ∧ v ≤ 4611686018427387904 ∧ ∀ j, j < l0.length → 0 ≤ sm l0 j ∧ sm l0 j ≤ v
  | 0, i, all, h1, h2, _, _, _ => by omega
  | k + 1, i, all, h1, h2, h3, h4, h5 => by
    rw [stat_Shares_l0, ossuaryref35_Shares_l0]
    by_cases h : i < l0.length
    · have hx := sm_in l0 hin i h
      have hil : (i : Int) < (l0.length : Int) := by omega
      have hi0 : (0 : Int) ≤ (i : Int) := by omega
      simp only [if_pos hil, if_pos hi0, Int.toNat_natCast]
      generalize hs : sm l0 i = x at *
      have hs' : (l0.getD i z_Api_Row).Cell.Sum = x := hs
      simp only [hs']
      by_cases hn : x < 0
      · left
        rw [if_pos hn, if_pos hn]; exact ⟨rfl, rfl⟩
      · have e1 : wu64 x = x := wu64_id (by omega)
        have e2 : wu64 (all + x) = all + x := wu64_id (by omega)
        have e3 : w64 (4611686018427387904 - all) = 4611686018427387904 - all := w64_id (by omega)
        rw [if_neg hn, if_neg hn, e1, e2, e3]
        by_cases hb : 4611686018427387904 < all + x
        · left
          rw [if_pos hb, if_pos (by omega)]; exact ⟨rfl, rfl⟩
        · rw [if_neg hb, if_neg (by omega), w64_id (n := all + x) (by omega), show w64 ((i : Int) + 1) = ((i + 1 : Nat) : Int) by rw [w64_id (by omega)]; omega]
          refine tot l0 hl hin k (i + 1) (all + x) (by omega) (by omega) (by omega) (by omega) (fun j hj => ?_)
          by_cases hji : j = i
          · subst hji; rw [hs]; omega
          · have := h5 j (by omega); omega
    · right
      rw [if_neg (by omega), if_neg (by omega)]
      exact ⟨all, rfl, rfl, h3, h4, fun j hj => h5 j (by omega)⟩
theorem one_share (n y : Nat) (hn : n ≤ y) (h0 : 0 < y) (hy : y ≤ 4611686018427387904) : ∃ (hi lo : Nat) (r : Int), bits_Mul64 (n : Int) 10000 = ((hi : Int), (lo : Int)) ∧ bits_Div64 300 (hi : Int) (lo : Int) (y : Int) = some (((n * 10000 / y : Nat) : Int), r) := by
  obtain ⟨hi, lo, e1, e2, e3⟩ := mul64 n (by omega)
  obtain ⟨r, e4⟩ := div64 hi lo y (n * 10000) e2 e3 hy h0 (by omega)
  exact ⟨hi, lo, r, e1, e4⟩
theorem shares (l0 : List Api_Row) (hl : l0.length ≤ 60) (v : Nat) (h0 : 0 < v) (hv : v ≤ 4611686018427387904) (hs : ∀ j, j < l0.length → 0 ≤ sm l0 j ∧ sm l0 j ≤ (v : Int)) : ∀ (k i : Nat) (acc : List Int), i ≤ l0.length → l0.length < i + k → acc.length = i →
    ∃ out, stat_Shares_l1 300 l0 (v : Int) k i acc = some (true, out) ∧ ossuaryref35_Shares_l1 300 l0 (v : Int) k i acc = some (true, out) ∧ out.length ≤ 60
  | 0, i, acc, h1, h2, _ => by omega
  | k + 1, i, acc, h1, h2, h3 => by
    rw [stat_Shares_l1, ossuaryref35_Shares_l1]
    by_cases h : i < l0.length
    · have hx := hs i h
      obtain ⟨n, hn⟩ : ∃ n : Nat, sm l0 i = n := ⟨(sm l0 i).toNat, by omega⟩
      have hs' : (l0.getD i z_Api_Row).Cell.Sum = (n : Int) := hn
      obtain ⟨hi, lo, r, e1, e2⟩ := one_share n v (by omega) h0 hv
      have hil : (i : Int) < (l0.length : Int) := by omega
      have hi0 : (0 : Int) ≤ (i : Int) := by omega
      simp only [if_pos hil, if_pos hi0, Int.toNat_natCast, hs', thn_eq]
      have hq : n * 10000 / v ≤ 10000 := Nat.div_le_of_le_mul (by omega)
      have hq0 := Int.natCast_nonneg (n * 10000 / v)
      rw [wuN (by omega), e1]
      simp only
      rw [e2]
      simp only [Option.bind_some]
      rw [if_pos (by simp; omega), w64_id (n := ((n * 10000 / v : Nat) : Int)) (by omega), show w64 ((i : Int) + 1) = ((i + 1 : Nat) : Int) by rw [w64_id (by omega)]; omega]
      by_cases he : (n : Int) = (v : Int)
      · have : n = v := by omega
        subst this
        have hq1 : n * 10000 / n = 10000 := by rw [Nat.mul_comm]; exact Nat.mul_div_cancel _ h0
        rw [if_pos rfl, if_pos (by simp; omega), hq1]
        exact shares l0 hl n h0 hv hs k (i + 1) _ (by omega) (by omega) (by simp; omega)
      · rw [if_neg he, share_eq n v (by omega) hv]
        simp only [Option.bind_some]
        rw [if_pos (by simp; omega)]
        exact shares l0 hl v h0 hv hs k (i + 1) _ (by omega) (by omega) (by simp; omega)
    · rw [if_neg (by omega), if_neg (by omega)]
      exact ⟨acc, rfl, rfl, by omega⟩
theorem shares_both (l0 : List Api_Row) (hl : l0.length ≤ 60) (hin : ∀ x ∈ l0, ok_Api_Row x) : ∃ b out, stat_Shares 300 l0 = some (b, out) ∧ ossuaryref35_Shares 300 l0 = some (b, out) ∧ out.length ≤ 60 := by
  unfold stat_Shares ossuaryref35_Shares
  rcases tot l0 hl hin 300 0 0 (by omega) (by omega) (by decide) (by decide) (fun j hj => by omega) with ⟨e1, e2⟩ | ⟨v, e1, e2, h0, h1, h2⟩
  · have e1' : stat_Shares_l0 300 l0 300 0 0 = some (Sum.inr (false, [])) := e1
    have e2' : ossuaryref35_Shares_l0 300 l0 300 0 0 = some (Sum.inr (false, [])) := e2
    rw [e1', e2']
    simp only [Option.bind_some, cas_inr]
    exact ⟨false, [], rfl, rfl, by simp⟩
  · have e1' : stat_Shares_l0 300 l0 300 0 0 = some (Sum.inl v) := e1
    have e2' : ossuaryref35_Shares_l0 300 l0 300 0 0 = some (Sum.inl v) := e2
    rw [e1', e2']
    simp only [Option.bind_some, cas_inl]
    by_cases hv : v = 0
    · rw [if_pos hv, if_pos hv]
      exact ⟨false, [], rfl, rfl, by simp⟩
    · rw [if_neg hv, if_neg hv]
      obtain ⟨n, rfl⟩ : ∃ n : Nat, v = n := ⟨v.toNat, by omega⟩
      obtain ⟨out, q1, q2, q3⟩ := shares l0 hl n (by omega) (by omega) h2 300 0 [] (by omega) (by omega) rfl
      exact ⟨true, out, q1, q2, q3⟩
theorem same_loop (l : List Int) (hl : l.length ≤ 100) : ∀ (k i : Nat), i ≤ l.length → l.length < i + k → ossuaryref08_Same_l0 300 l l k i = some true
  | 0, i, h1, h2 => by omega
  | k + 1, i, h1, h2 => by
    rw [ossuaryref08_Same_l0]
    by_cases h : i < l.length
    · rw [if_pos (by omega), if_pos (by omega), if_pos (by omega), if_neg (by simp), show w64 ((i : Int) + 1) = ((i + 1 : Nat) : Int) by rw [w64_id (by omega)]; omega]
      exact same_loop l hl k (i + 1) (by omega) (by omega)
    · rw [if_neg (by omega)]
theorem law_loop (l : List Int) (hl : l.length ≤ 100) : ∀ (k i : Nat), i ≤ l.length → l.length < i + k → ossuarylaw35_StatShares_l0 300 l l k i = some (Sum.inl ())
  | 0, i, h1, h2 => by omega
  | k + 1, i, h1, h2 => by
    rw [ossuarylaw35_StatShares_l0]
    by_cases h : i < l.length
    · rw [if_pos (by omega), if_pos (by omega), if_pos (by omega), if_neg (by simp), show w64 ((i : Int) + 1) = ((i + 1 : Nat) : Int) by rw [w64_id (by omega)]; omega]
      exact law_loop l hl k (i + 1) (by omega) (by omega)
    · rw [if_neg (by omega)]
/-! ### The ranks -/
def Desc (l : List Int) : Prop := l.Pairwise (fun a b => b ≤ a)
theorem root_most {h : List It} (hh : Heap z0 lt h) (c : It) (hc : c ∈ h) : c.x ≤ (h.getD 0 z0).x := by
  obtain ⟨j, hj, rfl⟩ := List.getElem_of_mem hc
  have := heap_least weak hh j hj
  rw [List.getD_eq_getElem?_getD, List.getElem?_eq_getElem hj, Option.getD_some] at this
  unfold lt at this
  apply Classical.byContradiction
  intro hn
  rw [if_pos (by omega)] at this
  cases this
theorem sorted_loop (K : Nat) (p : Int) (hK : K = 300) : ∀ (k : Nat) (l : List It) (acc : List Int), l.length < k → l.length + acc.length ≤ 299 → Heap z0 lt l → ∃ out, pile_Pile__int64_Sorted_l0 K p k acc l = some (acc ++ out) ∧ out.Perm (l.map (·.x)) ∧ Desc out
  | 0, l, acc, h, _, _ => by omega
  | k + 1, l, acc, hk, hl, hh => by
    subst hK
    rw [pile_Pile__int64_Sorted_l0]
    by_cases h0 : 0 < l.length
    · obtain ⟨l', h1, h2, h3⟩ := pop_spec l p h0 (by omega) hh
      have hlen : l'.length + 1 = l.length := by simpa using h3.length_eq
      obtain ⟨out, h4, h5, h6⟩ := sorted_loop 300 p rfl k l' (acc ++ [(l.getD 0 z0).x]) (by omega) (by simp; omega) h2
      rw [h1]
      simp only [Option.bind_some, Bool.not_true, Bool.false_eq_true, if_false]
      rw [if_pos (by simp; omega), h4]
      refine ⟨(l.getD 0 z0).x :: out, by simp, ?_, List.pairwise_cons.2 ⟨fun c hc => ?_, h6⟩⟩
      · have := (h3.map (·.x)).symm
        simp only [List.map_cons] at this
        exact ((List.Perm.cons _ h5).trans this.symm)
      · have hc' := h5.subset hc
        rw [List.mem_map] at hc'
        obtain ⟨c', hc', rfl⟩ := hc'
        exact root_most hh c' (h3.subset (by simp [hc']))
    · have : l = [] := List.eq_nil_of_length_eq_zero (by omega)
      subst this
      rw [pop_nil]
      exact ⟨[], by simp, List.Perm.refl _, List.Pairwise.nil⟩
theorem sort_loop (l0 : List Int) (hl : l0.length ≤ 150) : ∀ (rest pre : List Int) (k : Nat) (h : List It) (p : Int), l0 = pre ++ rest → rest.length < k → h.length = pre.length → Heap z0 lt h → (h.map (·.x)).Perm pre →
    ∃ out, pile_Sort__int64_l0 300 l0 k pre.length h p = some out ∧ out.Perm l0 ∧ Desc out
  | [], pre, k + 1, h, p, e, _, hlen, hh, hp => by
    rw [List.append_nil] at e
    subst e
    obtain ⟨out, h1, h2, h3⟩ := sorted_loop 300 p rfl 300 h [] (by omega) (by simp; omega) hh
    have hs : pile_Pile__int64_Sorted 300 h p = some out := by
      unfold pile_Pile__int64_Sorted
      rw [if_pos (by simp; omega)]
      simpa using h1
    rw [pile_Sort__int64_l0, if_neg (by omega), hs]
    exact ⟨out, rfl, h2.trans hp, h3⟩
  | x :: rest, pre, k + 1, h, p, e, hk, hlen, hh, hp => by
    have hl2 : pre.length + 1 ≤ 150 := by rw [e] at hl; simp at hl; omega
    have hn : w64 ((pre.length : Int) + 1) = ((pre ++ [x]).length : Int) := by rw [w64_id (by omega)]; simp
    have hg : l0.getD (pre.length : Int).toNat 0 = x := by rw [e]; exact at_pre _ _ _ _
    obtain ⟨h', q1, q2, q3⟩ := push_spec h p x (by omega) hh
    rw [pile_Sort__int64_l0, if_pos (by rw [e]; simp; omega), if_pos (by omega), hg, hn, q1]
    simp only [Option.bind_some]
    refine sort_loop l0 hl rest (pre ++ [x]) k h' _ (by simp [e]) (by simp at hk; omega) (by rw [q3.length_eq]; simp [hlen]) q2 ?_
    have := q3.map (·.x)
    rw [List.map_append] at this
    exact this.trans (List.Perm.append hp (List.Perm.refl _))
theorem sort_spec (l : List Int) (hl : l.length ≤ 150) : ∃ out, pile_Sort__int64 300 l = some out ∧ out.Perm l ∧ Desc out := by
  obtain ⟨out, h1, h2, h3⟩ := sort_loop l hl l [] 300 [] pile_New__int64 rfl (by omega) rfl (fun k _ hk => by simp at hk) (List.Perm.refl _)
  exact ⟨out, h1, h2, h3⟩
/-- How many are more than a number. -/
def above (x : Int) (l : List Int) : Nat := l.countP (fun a => decide (x < a))
theorem above_at (x : Int) : ∀ (s : List Int) (i : Nat), i ≤ s.length → (∀ m, m < i → x < s.getD m 0) → (∀ m, i ≤ m → m < s.length → s.getD m 0 ≤ x) → above x s = i
  | [], i, h, _, _ => by simp at h; subst h; rfl
  | a :: s, 0, _, _, h3 => by
    have ha : a ≤ x := by simpa using h3 0 (by omega) (by simp)
    have hs : above x s = 0 := above_at x s 0 (by omega) (by intro m hm; omega) (fun m _ hm => by simpa using h3 (m + 1) (by omega) (by simpa using hm))
    unfold above at hs ⊢
    rw [List.countP_cons_of_neg (by simp; omega)]
    exact hs
  | a :: s, i + 1, h, h2, h3 => by
    have ha : x < a := by simpa using h2 0 (by omega)
    have hs : above x s = i := above_at x s i (by simpa using h) (fun m hm => by simpa using h2 (m + 1) (by omega)) (fun m h4 hm => by simpa using h3 (m + 1) (by omega) (by simpa using hm))
    unfold above at hs ⊢
    rw [List.countP_cons_of_pos (by simp; omega), hs]
theorem desc_get {s : List Int} (h : Desc s) {i j : Nat} (hij : i ≤ j) (hj : j < s.length) : s.getD j 0 ≤ s.getD i 0 := by
  by_cases he : i = j
  · subst he; exact Int.le_refl _
  · have := List.pairwise_iff_getElem.1 h i j (by omega) hj (by omega)
    simpa [List.getD_eq_getElem?_getD, List.getElem?_eq_getElem hj, List.getElem?_eq_getElem (show i < s.length by omega)] using this
theorem search (s : List Int) (hs : s.length ≤ 60) (hd : Desc s) (p0 : Int) (p1 p2 p3 p4 : List UInt8) (p5 x p7 p8 : Int) : ∀ (k i j : Nat), i ≤ j → j ≤ s.length → j < i + k → (∀ m, m < i → x < s.getD m 0) → (∀ m, j ≤ m → m < s.length → s.getD m 0 ≤ x) →
    sort_Search_l0 300 s p0 p1 p2 p3 p4 p5 x p7 p8 k i j = some ((above x s : Nat) : Int)
  | 0, i, j, h1, h2, h3, _, _ => by omega
  | k + 1, i, j, h1, h2, h3, h4, h5 => by
    rw [sort_Search_l0]
    by_cases h : i < j
    · have e1 : w64 ((i : Int) + (j : Int)) = ((i + j : Nat) : Int) := by rw [w64_id (by omega)]; omega
      have e2 : bShr .u64 ((i + j : Nat) : Int) 1 = (((i + j) / 2 : Nat) : Int) := shrU (i + j) 1 (by decide)
      have e3 : w64 (bShr .u64 (wu64 (w64 ((i : Int) + (j : Int)))) 1) = (((i + j) / 2 : Nat) : Int) := by
        rw [e1, wuN (by omega), e2, w64_id (by omega)]
      have hm : (i + j) / 2 < s.length := by omega
      rw [if_pos (by omega), e3]
      unfold stat_Rank_2
      rw [if_pos (by omega), if_pos (by omega), Int.toNat_natCast]
      simp only [Option.bind_some]
      by_cases hx : s.getD ((i + j) / 2) 0 ≤ x
      · rw [decide_eq_true hx, if_neg (by decide)]
        exact search s hs hd p0 p1 p2 p3 p4 p5 x p7 p8 k i ((i + j) / 2) (by omega) (by omega) (by omega) h4 (fun m hm1 hm2 => by
          have := desc_get hd hm1 hm2; omega)
      · rw [decide_eq_false hx, if_pos (by decide), show w64 ((((i + j) / 2 : Nat) : Int) + 1) = (((i + j) / 2 + 1 : Nat) : Int) by rw [w64_id (by omega)]; omega]
        exact search s hs hd p0 p1 p2 p3 p4 p5 x p7 p8 k ((i + j) / 2 + 1) j (by omega) (by omega) (by omega) (fun m hm1 => by
          have := desc_get hd (show m ≤ (i + j) / 2 by omega) hm; omega) h5
    · rw [if_neg (by omega)]
      have : i = j := by omega
      subst this
      rw [above_at x s i h2 h4 h5]
abbrev sums (l0 : List Api_Row) : List Int := l0.map fun r => r.Cell.Sum
theorem rank_l0 (l0 : List Api_Row) (hl : l0.length ≤ 60) : ∀ (rest pre : List Api_Row) (k : Nat), l0 = pre ++ rest → rest.length < k → stat_Rank_l0 300 l0 k pre.length (sums pre) = some (sums l0)
  | [], pre, k + 1, e, _ => by
    rw [List.append_nil] at e
    subst e
    rw [stat_Rank_l0, if_neg (by omega)]
  | x :: rest, pre, k + 1, e, hk => by
    have hl2 : pre.length + 1 ≤ 60 := by rw [e] at hl; simp at hl; omega
    have hn : w64 ((pre.length : Int) + 1) = ((pre ++ [x]).length : Int) := by rw [w64_id (by omega)]; simp
    have hg : l0.getD (pre.length : Int).toNat z_Api_Row = x := by rw [e]; exact at_pre _ _ _ _
    rw [stat_Rank_l0, if_pos (by rw [e]; simp; omega), if_pos (by omega), if_pos (by simp; omega), hg, hn]
    have := rank_l0 l0 hl rest (pre ++ [x]) k (by simp [e]) (by simp at hk; omega)
    simpa [sums] using this
theorem rank_l1 (l0 : List Api_Row) (hl : l0.length ≤ 60) (s : List Int) (hp : s.Perm (sums l0)) (hd : Desc s) : ∀ (rest pre : List Api_Row) (k : Nat), l0 = pre ++ rest → rest.length < k → stat_Rank_l1 300 l0 s k pre.length (pre.map fun r => ((above r.Cell.Sum (sums l0) : Nat) : Int)) = some (l0.map fun r => ((above r.Cell.Sum (sums l0) : Nat) : Int))
  | [], pre, k + 1, e, _ => by
    rw [List.append_nil] at e
    subst e
    rw [stat_Rank_l1, if_neg (by omega)]
  | x :: rest, pre, k + 1, e, hk => by
    have hl2 : pre.length + 1 ≤ 60 := by rw [e] at hl; simp at hl; omega
    have hn : w64 ((pre.length : Int) + 1) = ((pre ++ [x]).length : Int) := by rw [w64_id (by omega)]; simp
    have hg : l0.getD (pre.length : Int).toNat z_Api_Row = x := by rw [e]; exact at_pre _ _ _ _
    have hsl : s.length = l0.length := by rw [hp.length_eq]; simp
    have hab : above x.Cell.Sum s = above x.Cell.Sum (sums l0) := hp.countP_eq _
    have hse := search s (by omega) hd x.Key.Hour x.Key.Dims_0 x.Key.Dims_1 x.Key.Dims_2 x.Key.Dims_3 x.Cell.Count x.Cell.Sum x.Cell.Min x.Cell.Max 300 0 s.length (by omega) (by omega) (by omega) (by intro m hm; omega) (by intro m h1 h2; omega)
    rw [hab] at hse
    rw [stat_Rank_l1, if_pos (by rw [e]; simp; omega), if_pos (by omega), hg, hn]
    have hse' : sort_Search 300 (s.length : Int) s x.Key.Hour x.Key.Dims_0 x.Key.Dims_1 x.Key.Dims_2 x.Key.Dims_3 x.Cell.Count x.Cell.Sum x.Cell.Min x.Cell.Max = some ((above x.Cell.Sum (sums l0) : Nat) : Int) := hse
    rw [hse']
    simp only [Option.bind_some]
    rw [if_pos (by simp; omega)]
    have := rank_l1 l0 hl s hp hd rest (pre ++ [x]) k (by simp [e]) (by simp at hk; omega)
    simpa using this
theorem count_loop (l0 : List Api_Row) (hl : l0.length ≤ 60) (i : Nat) (x : Api_Row) (hx : l0.getD i z_Api_Row = x) : ∀ (rest pre : List Api_Row) (k c : Nat), l0 = pre ++ rest → rest.length < k → c ≤ pre.length →
    ossuaryref35_Rank_l1 300 l0 i k c pre.length = some ((c + above x.Cell.Sum (sums rest) : Nat) : Int)
  | [], pre, k + 1, c, e, _, _ => by
    rw [List.append_nil] at e
    subst e
    rw [ossuaryref35_Rank_l1, if_neg (by omega)]
    rfl
  | y :: rest, pre, k + 1, c, e, hk, hc => by
    have hl2 : pre.length + 1 ≤ 60 := by rw [e] at hl; simp at hl; omega
    have hn : w64 ((pre.length : Int) + 1) = ((pre ++ [y]).length : Int) := by rw [w64_id (by omega)]; simp
    have hg : l0.getD (pre.length : Int).toNat z_Api_Row = y := by rw [e]; exact at_pre _ _ _ _
    have hc1 : w64 ((c : Int) + 1) = ((c + 1 : Nat) : Int) := by rw [w64_id (by omega)]; omega
    have hi : l0.getD (i : Int).toNat z_Api_Row = x := by rw [Int.toNat_natCast]; exact hx
    rw [ossuaryref35_Rank_l1, if_pos (by rw [e]; simp; omega), if_pos (by omega), if_pos (by omega), hg, hi, hn, hc1]
    by_cases h : x.Cell.Sum < y.Cell.Sum
    · rw [if_pos h, count_loop l0 hl i x hx rest (pre ++ [y]) k (c + 1) (by simp [e]) (by simp at hk; omega) (by simp; omega)]
      congr 2
      unfold above sums
      rw [List.map_cons, List.countP_cons_of_pos (by simpa using h)]
      omega
    · rw [if_neg h, count_loop l0 hl i x hx rest (pre ++ [y]) k c (by simp [e]) (by simp at hk; omega) (by simp; omega)]
      congr 2
      unfold above sums
      rw [List.map_cons, List.countP_cons_of_neg (by simpa using h)]
theorem ref_rank (l0 : List Api_Row) (hl : l0.length ≤ 60) : ∀ (rest pre : List Api_Row) (k : Nat), l0 = pre ++ rest → rest.length < k → ossuaryref35_Rank_l0 300 l0 k pre.length (pre.map fun r => ((above r.Cell.Sum (sums l0) : Nat) : Int)) = some (l0.map fun r => ((above r.Cell.Sum (sums l0) : Nat) : Int))
  | [], pre, k + 1, e, _ => by
    rw [List.append_nil] at e
    subst e
    rw [ossuaryref35_Rank_l0, if_neg (by omega)]
  | x :: rest, pre, k + 1, e, hk => by
    have hl2 : pre.length + 1 ≤ 60 := by rw [e] at hl; simp at hl; omega
    have hn : w64 ((pre.length : Int) + 1) = ((pre ++ [x]).length : Int) := by rw [w64_id (by omega)]; simp
    have hg : l0.getD pre.length z_Api_Row = x := by rw [e]; exact at_pre _ _ _ _
    have hc := count_loop l0 hl pre.length x hg l0 [] 300 0 rfl (by omega) (by simp)
    have hc' : ossuaryref35_Rank_l1 300 l0 (pre.length : Int) 300 0 0 = some ((above x.Cell.Sum (sums l0) : Nat) : Int) := by
      rw [Nat.zero_add] at hc; exact hc
    rw [ossuaryref35_Rank_l0, if_pos (by rw [e]; simp; omega), hc', hn]
    simp only [Option.bind_some]
    rw [if_pos (by simp; omega)]
    simp only [Option.bind_some]
    have := ref_rank l0 hl rest (pre ++ [x]) k (by simp [e]) (by simp at hk; omega)
    simpa using this
theorem ranks (l0 : List Api_Row) (hl : l0.length ≤ 60) : ∃ r, stat_Rank 300 l0 = some r ∧ ossuaryref35_Rank 300 l0 = some r ∧ r.length ≤ 60 := by
  have hr : ossuaryref35_Rank 300 l0 = some (l0.map fun r => ((above r.Cell.Sum (sums l0) : Nat) : Int)) := ref_rank l0 hl l0 [] 300 rfl (by omega)
  refine ⟨_, ?_, hr, by simpa using hl⟩
  obtain ⟨s, h1, h2, h3⟩ := sort_spec (sums l0) (by simp; omega)
  unfold stat_Rank
  have e1 : stat_Rank_l0 300 l0 300 0 [] = some (sums l0) := rank_l0 l0 hl l0 [] 300 rfl (by omega)
  rw [e1]
  simp only [Option.bind_some]
  rw [h1]
  simp only [Option.bind_some]
  exact rank_l1 l0 hl s h2 h3 l0 [] 300 rfl (by omega)
/-! ### A light input -/
theorem light_in (l0 : List Api_Row) (i : Nat) : ∀ (m j k : Nat), j + m = 4 → m < k → ossuarylaw35_light_l1 300 l0 i k j = some (Sum.inl ()) ∨ ossuarylaw35_light_l1 300 l0 i k j = some (Sum.inr false)
  | m, j, 0, _, h => by omega
  | 0, j, k + 1, h1, _ => by
    have : j = 4 := by omega
    subst this
    left
    rw [ossuarylaw35_light_l1, if_neg (by decide)]
  | m + 1, j, k + 1, h1, hk => by
    rw [ossuarylaw35_light_l1, if_pos (by omega), if_pos (by omega), if_pos (by omega), if_pos (by omega)]
    split
    · right; rfl
    · rw [show w64 ((j : Int) + 1) = ((j + 1 : Nat) : Int) by rw [w64_id (by omega)]; omega]
      exact light_in l0 i m (j + 1) k (by omega) (by omega)
theorem light_out (l0 : List Api_Row) (hl : l0.length ≤ 60) : ∀ (k i : Nat), i ≤ l0.length → l0.length < i + k → ∃ b, ossuarylaw35_light_l0 300 l0 k i = some b
  | 0, i, h1, h2 => by omega
  | k + 1, i, h1, h2 => by
    rw [ossuarylaw35_light_l0]
    by_cases h : i < l0.length
    · rw [if_pos (by omega)]
      rcases light_in l0 i 4 0 300 rfl (by decide) with e | e
      · have e' : ossuarylaw35_light_l1 300 l0 i 300 0 = some (Sum.inl ()) := e
        rw [e']
        simp only [Option.bind_some, cas_inl]
        rw [show w64 ((i : Int) + 1) = ((i + 1 : Nat) : Int) by rw [w64_id (by omega)]; omega]
        exact light_out l0 hl k (i + 1) (by omega) (by omega)
      · have e' : ossuarylaw35_light_l1 300 l0 i 300 0 = some (Sum.inr false) := e
        rw [e']
        exact ⟨false, rfl⟩
    · rw [if_neg (by omega)]
      exact ⟨true, rfl⟩
theorem light (l0 : List Api_Row) : ∃ b, ossuarylaw35_light 300 l0 = some b ∧ (b = true → l0.length ≤ 60) := by
  unfold ossuarylaw35_light
  by_cases hl : 60 < (l0.length : Int)
  · rw [if_pos hl]; exact ⟨false, rfl, fun h => by cases h⟩
  · rw [if_neg hl]
    obtain ⟨b, e⟩ := light_out l0 (by omega) 300 0 (by omega) (by omega)
    exact ⟨b, e, fun _ => by omega⟩
theorem alive_true : ossuarylaw35_alive 300 = some true := by decide +kernel
theorem law (l : List Api_Row) (h : l.length * 104 ≤ 140737488351232 ∧ ∀ x ∈ l, ok_Api_Row x) : ∃ K, ossuarylaw35_StatShares K l = some true := by
  refine ⟨300, ?_⟩
  unfold ossuarylaw35_StatShares
  obtain ⟨b, e1, e2⟩ := light l
  rw [e1]
  simp only [Option.bind_some]
  cases b with
  | false => rw [if_pos (by decide), alive_true]; rfl
  | true =>
    have hl := e2 rfl
    rw [if_neg (by decide)]
    obtain ⟨c, out, q1, q2, q3⟩ := shares_both l hl h.2
    obtain ⟨r, r1, r2, r3⟩ := ranks l hl
    rw [q1, q2, r1, r2]
    simp only [Option.bind_some]
    rw [if_neg (by simp)]
    have e3 : ossuarylaw35_StatShares_l0 300 r r 300 0 = some (Sum.inl ()) := law_loop r (by omega) 300 0 (by omega) (by omega)
    have e4 : ossuaryref08_Same 300 out out = some true := by
      unfold ossuaryref08_Same
      rw [if_neg (by simp)]
      exact same_loop out (by omega) 300 0 (by omega) (by omega)
    rw [e3]
    simp only [Option.bind_some, cas_inl]
    rw [e4]
    simp only [Option.bind_some, if_true, beq_self_eq_true]
    rw [alive_true]
    rfl

end Go.Proofs.Ythdggcleffadeaa.StatShares
