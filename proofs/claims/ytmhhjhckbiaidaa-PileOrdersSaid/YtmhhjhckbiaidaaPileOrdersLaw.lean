/- The plain law of PileOrders: numbers that are pushed are popped, each one, in order. -/
import Derived.Test.YtmhhjhckbiaidaaPileOrdersPure
import Derived.Test.YtmhhjhckbiaidaaELaw
import Derived.Test.YtmhhjhckbiaidaaEHeap
import Derived.KernelRfl
set_option linter.unusedVariables false
set_option linter.unusedSimpArgs false
namespace Go.Proofs.Ytmhhjhckbiaidaa.PileOrders
open Go E

abbrev It := Pile_item__int64
abbrev z0 : It := z_Pile_item__int64
def lt (a b : It) : Bool := if a.x < b.x then true else if b.x < a.x then false else decide (a.n < b.n)
theorem weak : Weak lt where
  asym a b h := by
    unfold lt at *
    split at h
    · rename_i h1; rw [if_neg (by omega), if_pos h1]
    · split at h
      · cases h
      · rename_i h1 h2
        rw [if_neg h2, if_neg h1]
        simp at h ⊢; omega
  neg a b c h := by
    unfold lt at *
    by_cases h1 : a.x < b.x
    · left; rw [if_pos h1]
    · by_cases h2 : b.x < a.x
      · right
        by_cases h3 : b.x < c.x
        · rw [if_pos h3]
        · rw [if_neg (by omega), if_pos (by omega)] at h; cases h
      · by_cases h3 : b.x < c.x
        · right; rw [if_pos h3]
        · by_cases h4 : c.x < b.x
          · rw [if_neg (by omega), if_pos (by omega)] at h; cases h
          · rw [if_neg (by omega), if_neg (by omega)] at h
            rw [if_neg h1, if_neg h2, if_neg h3, if_neg h4]
            simp at h ⊢; omega
theorem get_set_eta (l : List It) (k : Nat) : (⟨(l.getD k z0).x, (l.getD k z0).n⟩ : It) = l.getD k z0 := rfl

theorem ahead_eq (l : List It) (p : Int) (i k : Nat) (hi : i < l.length) (hk : k < l.length) : pile_Pile__int64_ahead l p i k = some (lt (l.getD i z0) (l.getD k z0)) := by
  unfold pile_Pile__int64_ahead ossuarylaw07_ahead lt
  rw [if_pos (by omega), if_pos (by omega), if_pos (by omega), if_pos (by omega)]
  simp only [thn_eq, Int.toNat_natCast, decide_eq_true_eq]
  split
  · rfl
  · split <;> rfl
theorem half (n : Nat) (h0 : 0 < n) (h : n ≤ 1000) : bShr .i64 (w64 ((n : Int) - 1)) 1 = (par n : Nat) := by
  rw [w64_id (by omega)]
  unfold bShr par
  have e : (2 : Int) ^ min (1 : Int).toNat IntKind.i64.bits = 2 := by decide
  rw [e, Int.fdiv_eq_ediv_of_nonneg _ (by decide)]
  omega
theorem up_spec (K : Nat) (p : Int) : ∀ (k i : Nat) (l : List It), i < k → i < l.length → l.length ≤ 1000 → UpInv z0 lt l i → ∃ l', pile_Pile__int64_up_l0 K p k i l = some l' ∧ Heap z0 lt l' ∧ l'.Perm l
  | 0, i, l, h, _, _, _ => by omega
  | k + 1, i, l, hk, hi, hl, hu => by
    rw [pile_Pile__int64_up_l0]
    by_cases h0 : 0 < i
    · have hp := par_lt h0
      rw [if_pos (by omega), half i h0 (by omega), ahead_eq l p i (par i) hi (by omega)]
      simp only [Option.bind_some]
      cases hc : lt (l.getD i z0) (l.getD (par i) z0) with
      | false => exact ⟨l, rfl, heap_of_up hu hc, List.Perm.refl _⟩
      | true =>
        obtain ⟨l', h1, h2, h3⟩ := up_spec K p k (par i) (swp z0 l i (par i)) (by omega) (by rw [swp_length]; omega) (by rw [swp_length]; exact hl) (up_step weak hi h0 hu hc)
        refine ⟨l', ?_, h2, h3.trans (swp_perm hi (by omega))⟩
        simp only [Bool.not_true, Bool.false_eq_true, if_false, Int.toNat_natCast, List.length_set]
        rw [if_pos (by omega), if_pos (by omega), if_pos (by omega), if_pos (by omega), if_pos (by omega)]
        exact h1
    · have : i = 0 := by omega
      subst this
      rw [if_neg (by omega)]
      exact ⟨l, rfl, heap_of_up0 hu, List.Perm.refl _⟩
/-- The foremost of an item and its children. -/
theorem pick_spec (K : Nat) (p : Int) (l : List It) (i : Nat) (hi : i < l.length) (hl : l.length ≤ 1000) : ∃ f : Nat, pile_Pile__int64_down_l1 K p i l 300 i (w64 ((bShl .i64 i 1) + 1)) = some (f : Int) ∧
    ((f = i ∧ ∀ c, 0 < c → c < l.length → par c = i → lt (l.getD c z0) (l.getD i z0) = false) ∨
     (f < l.length ∧ 0 < f ∧ par f = i ∧ lt (l.getD f z0) (l.getD i z0) = true ∧ ∀ c, 0 < c → c < l.length → par c = i → lt (l.getD c z0) (l.getD f z0) = false)) := by
  have es : bShl .i64 (i : Int) 1 = 2 * (i : Int) := by
    have e : (2 : Int) ^ min (1 : Int).toNat IntKind.i64.bits = 2 := by decide
    unfold bShl
    rw [e]
    show w64 _ = _
    rw [w64_id (by omega)]; omega
  have e1 : w64 (2 * (i : Int) + 1) = ((2 * i + 1 : Nat) : Int) := by rw [w64_id (by omega)]; omega
  have e2 : w64 (2 * (i : Int) + 2) = ((2 * i + 2 : Nat) : Int) := by rw [w64_id (by omega)]; omega
  have e3 : w64 (((2 * i + 1 : Nat) : Int) + 1) = ((2 * i + 2 : Nat) : Int) := by rw [w64_id (by omega)]; omega
  have e4 : w64 (((2 * i + 2 : Nat) : Int) + 1) = ((2 * i + 3 : Nat) : Int) := by rw [w64_id (by omega)]; omega
  have kid : ∀ c, 0 < c → par c = i → c = 2 * i + 1 ∨ c = 2 * i + 2 := by intro c _ h; unfold par at h; omega
  have p1 : par (2 * i + 1) = i := by unfold par; omega
  have p2 : par (2 * i + 2) = i := by unfold par; omega
  -- one round
  have round : ∀ (k : Nat) (f c : Nat), f < l.length → pile_Pile__int64_down_l1 K p i l (k + 1) f c = if (c : Int) ≤ ((2 * i + 2 : Nat) : Int) then (if (c : Int) < (l.length : Int) then (if lt (l.getD c z0) (l.getD f z0) = true then pile_Pile__int64_down_l1 K p i l k c (w64 ((c : Int) + 1)) else pile_Pile__int64_down_l1 K p i l k f (w64 ((c : Int) + 1))) else some (f : Int)) else some (f : Int) := by
    intro k f c hf
    rw [pile_Pile__int64_down_l1, es, e2]
    by_cases h1 : (c : Int) ≤ ((2 * i + 2 : Nat) : Int)
    · rw [if_pos h1, if_pos h1]
      by_cases h2 : (c : Int) < (l.length : Int)
      · rw [if_pos h2, if_pos h2, ahead_eq l p c f (by omega) hf]
        rfl
      · rw [if_neg h2, if_neg h2]
    · rw [if_neg h1, if_neg h1]
  rw [es, e1]
  by_cases l1 : 2 * i + 1 < l.length
  · cases c1 : lt (l.getD (2 * i + 1) z0) (l.getD i z0) with
    | true =>
      by_cases l2 : 2 * i + 2 < l.length
      · cases c2 : lt (l.getD (2 * i + 2) z0) (l.getD (2 * i + 1) z0) with
        | true =>
          refine ⟨2 * i + 2, ?_, .inr ⟨l2, by omega, p2, weak.trans c2 c1, ?_⟩⟩
          · rw [round 299 _ _ hi, if_pos (by omega), if_pos (by omega), if_pos c1, e3, round 298 _ _ l1, if_pos (by omega), if_pos (by omega), if_pos c2, e4, round 297 _ _ l2, if_neg (by omega)]
          · intro c h0 hc hp
            rcases kid c h0 hp with rfl | rfl
            · exact weak.asym _ _ c2
            · exact weak.irr _
        | false =>
          refine ⟨2 * i + 1, ?_, .inr ⟨l1, by omega, p1, c1, ?_⟩⟩
          · rw [round 299 _ _ hi, if_pos (by omega), if_pos (by omega), if_pos c1, e3, round 298 _ _ l1, if_pos (by omega), if_pos (by omega), c2, if_neg (by decide), e4, round 297 _ _ l1, if_neg (by omega)]
          · intro c h0 hc hp
            rcases kid c h0 hp with rfl | rfl
            · exact weak.irr _
            · exact c2
      · refine ⟨2 * i + 1, ?_, .inr ⟨l1, by omega, p1, c1, ?_⟩⟩
        · rw [round 299 _ _ hi, if_pos (by omega), if_pos (by omega), if_pos c1, e3, round 298 _ _ l1, if_pos (by omega), if_neg (by omega)]
        · intro c h0 hc hp
          rcases kid c h0 hp with rfl | rfl
          · exact weak.irr _
          · omega
    | false =>
      by_cases l2 : 2 * i + 2 < l.length
      · cases c2 : lt (l.getD (2 * i + 2) z0) (l.getD i z0) with
        | true =>
          refine ⟨2 * i + 2, ?_, .inr ⟨l2, by omega, p2, c2, ?_⟩⟩
          · rw [round 299 _ _ hi, if_pos (by omega), if_pos (by omega), c1, if_neg (by decide), e3, round 298 _ _ hi, if_pos (by omega), if_pos (by omega), if_pos c2, e4, round 297 _ _ l2, if_neg (by omega)]
          · intro c h0 hc hp
            rcases kid c h0 hp with rfl | rfl
            · exact weak.lefts c1 c2
            · exact weak.irr _
        | false =>
          refine ⟨i, ?_, .inl ⟨rfl, ?_⟩⟩
          · rw [round 299 _ _ hi, if_pos (by omega), if_pos (by omega), c1, if_neg (by decide), e3, round 298 _ _ hi, if_pos (by omega), if_pos (by omega), c2, if_neg (by decide), e4, round 297 _ _ hi, if_neg (by omega)]
          · intro c h0 hc hp
            rcases kid c h0 hp with rfl | rfl
            · exact c1
            · exact c2
      · refine ⟨i, ?_, .inl ⟨rfl, ?_⟩⟩
        · rw [round 299 _ _ hi, if_pos (by omega), if_pos (by omega), c1, if_neg (by decide), e3, round 298 _ _ hi, if_pos (by omega), if_neg (by omega)]
        · intro c h0 hc hp
          rcases kid c h0 hp with rfl | rfl
          · exact c1
          · omega
  · refine ⟨i, ?_, .inl ⟨rfl, ?_⟩⟩
    · rw [round 299 _ _ hi, if_pos (by omega), if_neg (by omega)]
    · intro c h0 hc hp
      rcases kid c h0 hp with rfl | rfl
      · omega
      · omega
theorem down_spec (p : Int) : ∀ (k i : Nat) (l : List It), l.length < i + k → i < l.length → l.length ≤ 1000 → DownInv z0 lt l i → ∃ l', pile_Pile__int64_down_l0 300 p k i l = some l' ∧ Heap z0 lt l' ∧ l'.Perm l
  | 0, i, l, h, hi, _, _ => by omega
  | k + 1, i, l, hk, hi, hl, hd => by
    rw [pile_Pile__int64_down_l0]
    obtain ⟨f, hf, h⟩ := pick_spec 300 p l i hi hl
    rw [hf]
    simp only [Option.bind_some]
    rcases h with ⟨rfl, hc⟩ | ⟨hfl, hf0, hfp, hlt, hc⟩
    · rw [if_pos rfl]
      exact ⟨l, rfl, heap_of_down hd hc, List.Perm.refl _⟩
    · have hif := par_lt hf0
      obtain ⟨l', h1, h2, h3⟩ := down_spec p k f (swp z0 l i f) (by rw [swp_length]; omega) (by rw [swp_length]; exact hfl) (by rw [swp_length]; exact hl) (down_step weak hfl hf0 hfp hd hlt hc)
      refine ⟨l', ?_, h2, h3.trans (swp_perm hi hfl)⟩
      rw [if_neg (by omega)]
      simp only [Int.toNat_natCast, List.length_set]
      rw [if_pos (by omega), if_pos (by omega), if_pos (by omega), if_pos (by omega), if_pos (by omega)]
      exact h1
theorem down_nil (p : Int) : pile_Pile__int64_down_l0 300 p 300 0 [] = some [] := by kernel_rfl
theorem push_spec (l : List It) (p x : Int) (hl : l.length ≤ 299) (hh : Heap z0 lt l) : ∃ l', pile_Pile__int64_Push_2 300 l p x = some (l', w64 (p + 1)) ∧ Heap z0 lt l' ∧ l'.Perm (l ++ [⟨x, p⟩]) := by
  obtain ⟨l', h1, h2, h3⟩ := up_spec 300 (w64 (p + 1)) 300 l.length (l ++ [⟨x, p⟩]) (by omega) (by simp) (by simp; omega) (up_push _ hh)
  refine ⟨l', ?_, h2, h3⟩
  unfold pile_Pile__int64_Push_2 pile_Pile__int64_up
  rw [if_pos (by simp; omega)]
  have e : w64 (((l ++ [(⟨x, p⟩ : It)]).length : Int) - 1) = (l.length : Int) := by rw [w64_id (by simp; omega)]; simp
  rw [e, h1]
  rfl
theorem pop_spec (l : List It) (p : Int) (h0 : 0 < l.length) (hl : l.length ≤ 299) (hh : Heap z0 lt l) : ∃ l', pile_Pile__int64_Pop 300 l p = some (true, l', (l.getD 0 z0).x) ∧ Heap z0 lt l' ∧ (l.getD 0 z0 :: l').Perm l := by
  have hd := down_pop (z := z0) (lt := lt) hh h0
  have hp := pop_perm (z := z0) h0
  have hlen : ((l.set 0 (l.getD (l.length - 1) z0)).take (l.length - 1)).length = l.length - 1 := by simp
  have hdown : ∃ l', pile_Pile__int64_down_l0 300 p 300 0 ((l.set 0 (l.getD (l.length - 1) z0)).take (l.length - 1)) = some l' ∧ Heap z0 lt l' ∧ l'.Perm ((l.set 0 (l.getD (l.length - 1) z0)).take (l.length - 1)) := by
    by_cases h1 : l.length = 1
    · have : (l.set 0 (l.getD (l.length - 1) z0)).take (l.length - 1) = [] := List.eq_nil_of_length_eq_zero (by rw [hlen]; omega)
      rw [this]
      exact ⟨[], down_nil p, fun k _ hk => by simp at hk, List.Perm.refl _⟩
    · exact down_spec p 300 0 _ (by rw [hlen]; omega) (by rw [hlen]; omega) (by rw [hlen]; omega) hd
  obtain ⟨l', h1, h2, h3⟩ := hdown
  refine ⟨l', ?_, h2, (List.Perm.cons _ h3).trans hp⟩
  unfold pile_Pile__int64_Pop pile_Pile__int64_Top pile_Pile__int64_Len pile_Pile__int64_down
  have e : w64 ((l.length : Int) - 1) = ((l.length - 1 : Nat) : Int) := by rw [w64_id (by omega)]; omega
  simp only [thn_eq]
  rw [if_neg (by omega), if_pos (by omega)]
  simp only [Option.bind_some, Bool.not_true, Bool.false_eq_true, if_false]
  rw [e, if_pos (by omega), if_pos (by omega), if_pos (by omega), if_pos (by simp)]
  simp only [Int.toNat_natCast]
  have e0 : (0 : Int).toNat = 0 := rfl
  rw [e0]
  show (pile_Pile__int64_down_l0 300 p 300 0 ((l.set 0 (l.getD (l.length - 1) z0)).take (l.length - 1))).bind _ = _
  rw [h1]
  rfl
theorem pop_nil (p : Int) : pile_Pile__int64_Pop 300 [] p = some (false, [], 0) := by
  unfold pile_Pile__int64_Pop pile_Pile__int64_Top pile_Pile__int64_Len
  simp [thn_eq]
theorem sorted_loop (K : Nat) (p : Int) (hK : K = 300) : ∀ (k : Nat) (l : List It) (acc : List Int), l.length < k → l.length + acc.length ≤ 299 → Heap z0 lt l → ∃ out, pile_Pile__int64_Sorted_l0 K p k acc l = some (acc ++ out) ∧ out.Perm (l.map (·.x))
  | 0, l, acc, h, _, _ => by omega
  | k + 1, l, acc, hk, hl, hh => by
    subst hK
    rw [pile_Pile__int64_Sorted_l0]
    by_cases h0 : 0 < l.length
    · obtain ⟨l', h1, h2, h3⟩ := pop_spec l p h0 (by omega) hh
      have hlen : l'.length + 1 = l.length := by simpa using h3.length_eq
      obtain ⟨out, h4, h5⟩ := sorted_loop 300 p rfl k l' (acc ++ [(l.getD 0 z0).x]) (by omega) (by simp; omega) h2
      rw [h1]
      simp only [Option.bind_some, Bool.not_true, Bool.false_eq_true, if_false]
      rw [if_pos (by simp; omega), h4]
      refine ⟨(l.getD 0 z0).x :: out, by simp, ?_⟩
      have := (h3.map (·.x)).symm
      simp only [List.map_cons] at this
      exact ((List.Perm.cons _ h5).trans this.symm)
    · have : l = [] := List.eq_nil_of_length_eq_zero (by omega)
      subst this
      rw [pop_nil]
      exact ⟨[], by simp, List.Perm.refl _⟩
theorem sorted_spec (l : List It) (p : Int) (hl : l.length ≤ 299) (hh : Heap z0 lt l) : ∃ out, pile_Pile__int64_Sorted 300 l p = some out ∧ out.Perm (l.map (·.x)) := by
  obtain ⟨out, h1, h2⟩ := sorted_loop 300 p rfl 300 l [] (by omega) (by simp; omega) hh
  refine ⟨out, ?_, h2⟩
  unfold pile_Pile__int64_Sorted
  rw [if_pos (by simp; omega)]
  simpa using h1
theorem many_spec (K : Nat) (l : List Int) (x7 : Bool × List It × Int) : ∀ (rest pre : List Int) (k : Nat) (c : Nat), l = pre ++ rest → l.length ≤ 200 → rest.length < k → c + rest.length ≤ 200 →
    ossuarylaw07_PileOrders_l2 K l x7 k c pre.length = some ((c + rest.count x7.2.2 : Nat) : Int)
  | [], pre, k + 1, c, e, _, _, _ => by
    rw [List.append_nil] at e
    subst e
    simp [ossuarylaw07_PileOrders_l2]
  | x :: rest, pre, k + 1, c, e, hl, hk, hc => by
    have hlen : pre.length + 1 ≤ 200 := by rw [e] at hl; simp at hl; omega
    have hn : w64 ((pre.length : Int) + 1) = ((pre ++ [x]).length : Int) := by rw [w64_id (by omega)]; simp
    have hg : l.getD (pre.length : Int).toNat 0 = x := by rw [e]; exact at_pre _ _ _ _
    have hc1 : w64 ((c : Int) + 1) = ((c + 1 : Nat) : Int) := by simp at hc; rw [w64_id (by omega)]; omega
    rw [ossuarylaw07_PileOrders_l2, if_pos (by rw [e]; simp; omega), if_pos (by omega), hg, hn, hc1]
    simp at hc hk
    by_cases h : x = x7.2.2
    · rw [if_pos h, many_spec K l x7 rest (pre ++ [x]) k (c + 1) (by simp [e]) hl (by omega) (by omega)]
      subst h
      simp [List.count_cons]
      omega
    · rw [if_neg h, many_spec K l x7 rest (pre ++ [x]) k c (by simp [e]) hl (by omega) (by omega)]
      simp [List.count_cons, h]
theorem had_spec (K : Nat) (l : List Int) (x7 : Bool × List It × Int) : ∀ (rest pre : List Int) (k : Nat) (c : Nat), l = pre ++ rest → l.length ≤ 200 → rest.length < k → c + rest.length ≤ 200 →
    ossuarylaw07_PileOrders_l3 K x7 l k c pre.length = some ((c + rest.count x7.2.2 : Nat) : Int)
  | [], pre, k + 1, c, e, _, _, _ => by
    rw [List.append_nil] at e
    subst e
    simp [ossuarylaw07_PileOrders_l3]
  | x :: rest, pre, k + 1, c, e, hl, hk, hc => by
    have hlen : pre.length + 1 ≤ 200 := by rw [e] at hl; simp at hl; omega
    have hn : w64 ((pre.length : Int) + 1) = ((pre ++ [x]).length : Int) := by rw [w64_id (by omega)]; simp
    have hg : l.getD (pre.length : Int).toNat 0 = x := by rw [e]; exact at_pre _ _ _ _
    have hc1 : w64 ((c : Int) + 1) = ((c + 1 : Nat) : Int) := by simp at hc; rw [w64_id (by omega)]; omega
    rw [ossuarylaw07_PileOrders_l3, if_pos (by rw [e]; simp; omega), if_pos (by omega), hg, hn, hc1]
    simp at hc hk
    by_cases h : x = x7.2.2
    · rw [if_pos h, had_spec K l x7 rest (pre ++ [x]) k (c + 1) (by simp [e]) hl (by omega) (by omega)]
      subst h
      simp [List.count_cons]
      omega
    · rw [if_neg h, had_spec K l x7 rest (pre ++ [x]) k c (by simp [e]) hl (by omega) (by omega)]
      simp [List.count_cons, h]
theorem pushes (l0 : List Int) (hl : l0.length ≤ 150) : ∀ (rest pre : List Int) (k : Nat) (h : List It) (p : Int), l0 = pre ++ rest → rest.length < k → h.length = pre.length → Heap z0 lt h → (h.map (·.x)).Perm pre →
    ∃ h' p', ossuarylaw07_PileOrders_l0 300 l0 k pre.length h p = some (h', p') ∧ Heap z0 lt h' ∧ (h'.map (·.x)).Perm l0
  | [], pre, k + 1, h, p, e, _, _, hh, hp => by
    rw [List.append_nil] at e
    subst e
    rw [ossuarylaw07_PileOrders_l0, if_neg (by omega)]
    exact ⟨h, p, rfl, hh, hp⟩
  | x :: rest, pre, k + 1, h, p, e, hk, hlen, hh, hp => by
    have hl2 : pre.length + 1 ≤ 150 := by rw [e] at hl; simp at hl; omega
    have hn : w64 ((pre.length : Int) + 1) = ((pre ++ [x]).length : Int) := by rw [w64_id (by omega)]; simp
    have hg : l0.getD (pre.length : Int).toNat 0 = x := by rw [e]; exact at_pre _ _ _ _
    obtain ⟨h', q1, q2, q3⟩ := push_spec h p x (by omega) hh
    rw [ossuarylaw07_PileOrders_l0, if_pos (by rw [e]; simp; omega), if_pos (by omega), hg, hn, q1]
    simp only [Option.bind_some]
    refine pushes l0 hl rest (pre ++ [x]) k h' _ (by simp [e]) (by simp at hk; omega) (by rw [q3.length_eq]; simp [hlen]) q2 ?_
    have := q3.map (·.x)
    rw [List.map_append] at this
    exact this.trans (List.Perm.append hp (List.Perm.refl _))
theorem pops (l0 : List Int) (hl : l0.length ≤ 150) (x3 : List It × Int) : ∀ (k : Nat) (last : Int) (i : Nat) (gone : List Int) (h : List It), l0.length < i + k → gone.length = i → (gone ++ h.map (·.x)).Perm l0 → Heap z0 lt h → (∀ c ∈ h, last ≤ c.x) →
    ossuarylaw07_PileOrders_l1 300 l0 x3 k last i h = some (Sum.inl [])
  | 0, last, i, gone, h, hk, hg, hp, _, _ => by
    have := hp.length_eq
    simp at this
    omega
  | k + 1, last, i, gone, h, hk, hg, hp, hh, hlast => by
    have hlen := hp.length_eq
    simp at hlen
    rw [ossuarylaw07_PileOrders_l1]
    by_cases hi : i < l0.length
    · rw [if_pos (by omega)]
      obtain ⟨h', q1, q2, q3⟩ := pop_spec h x3.2 (by omega) (by omega) hh
      have hlen' : h'.length + 1 = h.length := by simpa using q3.length_eq
      have hroot : h.getD 0 z0 ∈ h := q3.subset (by simp)
      obtain ⟨out, s1, s2⟩ := sorted_spec h' x3.2 (by omega) q2
      have hol : out.length = h'.length := by simpa using s2.length_eq
      have hmany := many_spec 300 l0 (true, h', (h.getD 0 z0).x) l0 [] 300 0 rfl (by omega) (by omega) (by omega)
      have hhad := had_spec 300 out (true, h', (h.getD 0 z0).x) out [] 300 0 rfl (by omega) (by omega) (by omega)
      simp only [List.length_nil, Nat.zero_add, Int.natCast_zero, Int.ofNat_zero] at hmany hhad
      have hcount : out.count (h.getD 0 z0).x < l0.count (h.getD 0 z0).x := by
        rw [← hp.count_eq, List.count_append, s2.count_eq, ← (q3.map (·.x)).count_eq]
        simp only [List.map_cons, List.count_cons_self]
        omega
      rw [q1]
      simp only [Option.bind_some, Bool.not_true, Bool.false_eq_true, if_false]
      rw [if_neg (by have := hlast _ hroot; omega)]
      have hm0 : ossuarylaw07_PileOrders_l2 300 l0 (true, h', (h.getD 0 z0).x) 300 0 0 = some ((l0.count (h.getD 0 z0).x : Nat) : Int) := hmany
      have hh0 : ossuarylaw07_PileOrders_l3 300 (true, h', (h.getD 0 z0).x) out 300 0 0 = some ((out.count (h.getD 0 z0).x : Nat) : Int) := hhad
      rw [hm0, s1]
      simp only [Option.bind_some]
      rw [hh0]
      simp only [Option.bind_some]
      rw [if_neg (by omega)]
      simp only [cas, Option.bind_some]
      rw [show w64 ((i : Int) + 1) = ((i + 1 : Nat) : Int) by rw [w64_id (by omega)]; omega]
      refine pops l0 hl x3 k (h.getD 0 z0).x (i + 1) (gone ++ [(h.getD 0 z0).x]) h' (by omega) (by simp [hg]) ?_ q2 ?_
      · refine List.Perm.trans ?_ hp
        have := q3.map (·.x)
        rw [List.append_assoc]
        exact List.Perm.append (List.Perm.refl _) this
      · intro c hc
        have hc' : c ∈ h := q3.subset (by simp [hc])
        obtain ⟨j, hj, rfl⟩ := List.getElem_of_mem hc'
        have := heap_least weak hh j hj
        rw [List.getD_eq_getElem?_getD, List.getElem?_eq_getElem hj, Option.getD_some] at this
        unfold lt at this
        apply Classical.byContradiction
        intro hn
        rw [if_pos (by omega)] at this
        cases this
    · rw [if_neg (by omega)]
      have : h = [] := List.eq_nil_of_length_eq_zero (by omega)
      rw [this]
theorem alive_true : ossuarylaw07_alive 300 = some true := by decide +kernel
theorem law (l : List Int) (h : l.length * 8 ≤ 140737488351232 ∧ ∀ x ∈ l, inI .i64 x) : ∃ K, ossuarylaw07_PileOrders K l = some true := by
  refine ⟨300, ?_⟩
  unfold ossuarylaw07_PileOrders
  by_cases hl : 150 < (l.length : Int)
  · rw [if_pos hl, alive_true]; rfl
  · rw [if_neg hl]
    obtain ⟨h', p', q1, q2, q3⟩ := pushes l (by omega) l [] 300 [] 0 rfl (by omega) rfl (fun k _ hk => by simp at hk) (List.Perm.refl _)
    have q1' : ossuarylaw07_PileOrders_l0 300 l 300 0 ([] : List It) pile_New__int64 = some (h', p') := q1
    have q4 := pops l (by omega) (h', p') 300 (-9223372036854775808) 0 [] h' (by omega) rfl q3 q2 (by
      intro c hc
      have : c.x ∈ l := q3.subset (List.mem_map_of_mem hc)
      exact (in64 (h.2 _ this)).1)
    have q4' : ossuarylaw07_PileOrders_l1 300 l (h', p') 300 (-9223372036854775808) 0 h' = some (Sum.inl []) := q4
    simp only [thn_eq]
    rw [q1']
    simp only [Option.bind_some]
    rw [q4']
    simp only [Option.bind_some, cas]
    rw [pop_nil, alive_true]
    rfl
end Go.Proofs.Ytmhhjhckbiaidaa.PileOrders
