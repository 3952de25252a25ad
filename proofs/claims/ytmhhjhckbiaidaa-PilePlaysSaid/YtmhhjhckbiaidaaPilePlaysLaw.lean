/- The plain law of PilePlays: what any acts on a pile answer, one behind the other, how many things it has, and all of them, in order. -/
import Derived.Test.YtmhhjhckbiaidaaPilePlaysPure
import Derived.Test.YtmhhjhckbiaidaaELaw
import Derived.Test.YtmhhjhckbiaidaaEHeap
import Derived.KernelRfl
set_option linter.unusedVariables false
set_option linter.unusedSimpArgs false
namespace Go.Proofs.Ytmhhjhckbiaidaa.PilePlays
open Go E

abbrev It := Pile_item__ossuaryref07_Item
abbrev z0 : It := z_Pile_item__ossuaryref07_Item
def lt (a b : It) : Bool := if a.x.Weight < b.x.Weight then true else if b.x.Weight < a.x.Weight then false else decide (a.n < b.n)
theorem weak : Weak lt where
  asym a b h := by
    unfold lt at *
    split at h
    · rename_i h1; rw [if_neg (by omega), if_pos h1]
    · split at h
      · cases h
      · rename_i h1 h2
        rw [if_neg h2, if_neg h1]
        simp at h ⊢; omega
  neg a b c h := by
    unfold lt at *
    by_cases h1 : a.x.Weight < b.x.Weight
    · left; rw [if_pos h1]
    · by_cases h2 : b.x.Weight < a.x.Weight
      · right
        by_cases h3 : b.x.Weight < c.x.Weight
        · rw [if_pos h3]
        · rw [if_neg (by omega), if_pos (by omega)] at h; cases h
      · by_cases h3 : b.x.Weight < c.x.Weight
        · right; rw [if_pos h3]
        · by_cases h4 : c.x.Weight < b.x.Weight
          · rw [if_neg (by omega), if_pos (by omega)] at h; cases h
          · rw [if_neg (by omega), if_neg (by omega)] at h
            rw [if_neg h1, if_neg h2, if_neg h3, if_neg h4]
            simp at h ⊢; omega

theorem ahead_eq (l : List It) (p : Int) (i k : Nat) (hi : i < l.length) (hk : k < l.length) : pile_Pile__ossuaryref07_Item_ahead l p i k = some (lt (l.getD i z0) (l.getD k z0)) := by
  unfold pile_Pile__ossuaryref07_Item_ahead ossuarylaw07_lighter lt
  rw [if_pos (by omega), if_pos (by omega), if_pos (by omega), if_pos (by omega)]
  simp only [thn_eq, Int.toNat_natCast, decide_eq_true_eq]
  split
  · rfl
  · split <;> rfl
theorem half (n : Nat) (h0 : 0 < n) (h : n ≤ 1000) : bShr .i64 (w64 ((n : Int) - 1)) 1 = (par n : Nat) := by
  rw [w64_id (by omega)]
  unfold bShr par
  have e : (2 : Int) ^ min (1 : Int).toNat IntKind.i64.bits = 2 := by decide
  rw [e, Int.fdiv_eq_ediv_of_nonneg _ (by decide)]
  omega
theorem up_spec (K : Nat) (p : Int) : ∀ (k i : Nat) (l : List It), i < k → i < l.length → l.length ≤ 1000 → UpInv z0 lt l i → ∃ l', pile_Pile__ossuaryref07_Item_up_l0 K p k i l = some l' ∧ Heap z0 lt l' ∧ l'.Perm l
  | 0, i, l, h, _, _, _ => by omega
  | k + 1, i, l, hk, hi, hl, hu => by
    rw [pile_Pile__ossuaryref07_Item_up_l0]
    by_cases h0 : 0 < i
    · have hp := par_lt h0
      rw [if_pos (by omega), half i h0 (by omega), ahead_eq l p i (par i) hi (by omega)]
      simp only [Option.bind_some]
      cases hc : lt (l.getD i z0) (l.getD (par i) z0) with
      | false => exact ⟨l, rfl, heap_of_up hu hc, List.Perm.refl _⟩
      | true =>
        obtain ⟨l', h1, h2, h3⟩ := up_spec K p k (par i) (swp z0 l i (par i)) (by omega) (by rw [swp_length]; omega) (by rw [swp_length]; exact hl) (up_step weak hi h0 hu hc)
        refine ⟨l', ?_, h2, h3.trans (swp_perm hi (by omega))⟩
        simp only [Bool.not_true, Bool.false_eq_true, if_false, Int.toNat_natCast, List.length_set]
        rw [if_pos (by omega), if_pos (by omega), if_pos (by omega), if_pos (by omega), if_pos (by omega)]
        exact h1
    · have : i = 0 := by omega
      subst this
      rw [if_neg (by omega)]
      exact ⟨l, rfl, heap_of_up0 hu, List.Perm.refl _⟩
/-- The foremost of an item and its children. -/
theorem pick_spec (K : Nat) (p : Int) (l : List It) (i : Nat) (hi : i < l.length) (hl : l.length ≤ 1000) : ∃ f : Nat, pile_Pile__ossuaryref07_Item_down_l1 K p i l 300 i (w64 ((bShl .i64 i 1) + 1)) = some (f : Int) ∧
    ((f = i ∧ ∀ c, 0 < c → c < l.length → par c = i → lt (l.getD c z0) (l.getD i z0) = false) ∨
     (f < l.length ∧ 0 < f ∧ par f = i ∧ lt (l.getD f z0) (l.getD i z0) = true ∧ ∀ c, 0 < c → c < l.length → par c = i → lt (l.getD c z0) (l.getD f z0) = false)) := by
  have es : bShl .i64 (i : Int) 1 = 2 * (i : Int) := by
    have e : (2 : Int) ^ min (1 : Int).toNat IntKind.i64.bits = 2 := by decide
    unfold bShl
    rw [e]
    show w64 _ = _
    rw [w64_id (by omega)]; omega
  have e1 : w64 (2 * (i : Int) + 1) = ((2 * i + 1 : Nat) : Int) := by rw [w64_id (by omega)]; omega
  have e2 : w64 (2 * (i : Int) + 2) = ((2 * i + 2 : Nat) : Int) := by rw [w64_id (by omega)]; omega
  have e3 : w64 (((2 * i + 1 : Nat) : Int) + 1) = ((2 * i + 2 : Nat) : Int) := by rw [w64_id (by omega)]; omega
  have e4 : w64 (((2 * i + 2 : Nat) : Int) + 1) = ((2 * i + 3 : Nat) : Int) := by rw [w64_id (by omega)]; omega
  have kid : ∀ c, 0 < c → par c = i → c = 2 * i + 1 ∨ c = 2 * i + 2 := by intro c _ h; unfold par at h; omega
  have p1 : par (2 * i + 1) = i := by unfold par; omega
  have p2 : par (2 * i + 2) = i := by unfold par; omega
  -- one round
  have round : ∀ (k : Nat) (f c : Nat), f < l.length → pile_Pile__ossuaryref07_Item_down_l1 K p i l (k + 1) f c = if (c : Int) ≤ ((2 * i + 2 : Nat) : Int) then (if (c : Int) < (l.length : Int) then (if lt (l.getD c z0) (l.getD f z0) = true then pile_Pile__ossuaryref07_Item_down_l1 K p i l k c (w64 ((c : Int) + 1)) else pile_Pile__ossuaryref07_Item_down_l1 K p i l k f (w64 ((c : Int) + 1))) else some (f : Int)) else some (f : Int) := by
    intro k f c hf
    rw [pile_Pile__ossuaryref07_Item_down_l1, es, e2]
    by_cases h1 : (c : Int) ≤ ((2 * i + 2 : Nat) : Int)
    · rw [if_pos h1, if_pos h1]
      by_cases h2 : (c : Int) < (l.length : Int)
      · rw [if_pos h2, if_pos h2, ahead_eq l p c f (by omega) hf]
        rfl
      · rw [if_neg h2, if_neg h2]
    · rw [if_neg h1, if_neg h1]
  rw [es, e1]
  by_cases l1 : 2 * i + 1 < l.length
  · cases c1 : lt (l.getD (2 * i + 1) z0) (l.getD i z0) with
    | true =>
      by_cases l2 : 2 * i + 2 < l.length
      · cases c2 : lt (l.getD (2 * i + 2) z0) (l.getD (2 * i + 1) z0) with
        | true =>
          refine ⟨2 * i + 2, ?_, .inr ⟨l2, by omega, p2, weak.trans c2 c1, ?_⟩⟩
          · rw [round 299 _ _ hi, if_pos (by omega), if_pos (by omega), if_pos c1, e3, round 298 _ _ l1, if_pos (by omega), if_pos (by omega), if_pos c2, e4, round 297 _ _ l2, if_neg (by omega)]
          · intro c h0 hc hp
            rcases kid c h0 hp with rfl | rfl
            · exact weak.asym _ _ c2
            · exact weak.irr _
        | false =>
          refine ⟨2 * i + 1, ?_, .inr ⟨l1, by omega, p1, c1, ?_⟩⟩
          · rw [round 299 _ _ hi, if_pos (by omega), if_pos (by omega), if_pos c1, e3, round 298 _ _ l1, if_pos (by omega), if_pos (by omega), c2, if_neg (by decide), e4, round 297 _ _ l1, if_neg (by omega)]
          · intro c h0 hc hp
            rcases kid c h0 hp with rfl | rfl
            · exact weak.irr _
            · exact c2
      · refine ⟨2 * i + 1, ?_, .inr ⟨l1, by omega, p1, c1, ?_⟩⟩
        · rw [round 299 _ _ hi, if_pos (by omega), if_pos (by omega), if_pos c1, e3, round 298 _ _ l1, if_pos (by omega), if_neg (by omega)]
        · intro c h0 hc hp
          rcases kid c h0 hp with rfl | rfl
          · exact weak.irr _
          · omega
    | false =>
      by_cases l2 : 2 * i + 2 < l.length
      · cases c2 : lt (l.getD (2 * i + 2) z0) (l.getD i z0) with
        | true =>
          refine ⟨2 * i + 2, ?_, .inr ⟨l2, by omega, p2, c2, ?_⟩⟩
          · rw [round 299 _ _ hi, if_pos (by omega), if_pos (by omega), c1, if_neg (by decide), e3, round 298 _ _ hi, if_pos (by omega), if_pos (by omega), if_pos c2, e4, round 297 _ _ l2, if_neg (by omega)]
          · intro c h0 hc hp
            rcases kid c h0 hp with rfl | rfl
            · exact weak.lefts c1 c2
            · exact weak.irr _
        | false =>
          refine ⟨i, ?_, .inl ⟨rfl, ?_⟩⟩
          · rw [round 299 _ _ hi, if_pos (by omega), if_pos (by omega), c1, if_neg (by decide), e3, round 298 _ _ hi, if_pos (by omega), if_pos (by omega), c2, if_neg (by decide), e4, round 297 _ _ hi, if_neg (by omega)]
          · intro c h0 hc hp
            rcases kid c h0 hp with rfl | rfl
            · exact c1
            · exact c2
      · refine ⟨i, ?_, .inl ⟨rfl, ?_⟩⟩
        · rw [round 299 _ _ hi, if_pos (by omega), if_pos (by omega), c1, if_neg (by decide), e3, round 298 _ _ hi, if_pos (by omega), if_neg (by omega)]
        · intro c h0 hc hp
          rcases kid c h0 hp with rfl | rfl
          · exact c1
          · omega
  · refine ⟨i, ?_, .inl ⟨rfl, ?_⟩⟩
    · rw [round 299 _ _ hi, if_pos (by omega), if_neg (by omega)]
    · intro c h0 hc hp
      rcases kid c h0 hp with rfl | rfl
      · omega
      · omega
theorem down_spec (p : Int) : ∀ (k i : Nat) (l : List It), l.length < i + k → i < l.length → l.length ≤ 1000 → DownInv z0 lt l i → ∃ l', pile_Pile__ossuaryref07_Item_down_l0 300 p k i l = some l' ∧ Heap z0 lt l' ∧ l'.Perm l
  | 0, i, l, h, hi, _, _ => by omega
  | k + 1, i, l, hk, hi, hl, hd => by
    rw [pile_Pile__ossuaryref07_Item_down_l0]
    obtain ⟨f, hf, h⟩ := pick_spec 300 p l i hi hl
    rw [hf]
    simp only [Option.bind_some]
    rcases h with ⟨rfl, hc⟩ | ⟨hfl, hf0, hfp, hlt, hc⟩
    · rw [if_pos rfl]
      exact ⟨l, rfl, heap_of_down hd hc, List.Perm.refl _⟩
    · have hif := par_lt hf0
      obtain ⟨l', h1, h2, h3⟩ := down_spec p k f (swp z0 l i f) (by rw [swp_length]; omega) (by rw [swp_length]; exact hfl) (by rw [swp_length]; exact hl) (down_step weak hfl hf0 hfp hd hlt hc)
      refine ⟨l', ?_, h2, h3.trans (swp_perm hi hfl)⟩
      rw [if_neg (by omega)]
      simp only [Int.toNat_natCast, List.length_set]
      rw [if_pos (by omega), if_pos (by omega), if_pos (by omega), if_pos (by omega), if_pos (by omega)]
      exact h1
theorem down_nil (p : Int) : pile_Pile__ossuaryref07_Item_down_l0 300 p 300 0 [] = some [] := by kernel_rfl
theorem push_spec (l : List It) (p : Int) (x : Ossuaryref07_Item) (hl : l.length ≤ 299) (hh : Heap z0 lt l) : ∃ l', pile_Pile__ossuaryref07_Item_Push_2 300 l p x.Weight x.Name = some (l', w64 (p + 1)) ∧ Heap z0 lt l' ∧ l'.Perm (l ++ [⟨x, p⟩]) := by
  obtain ⟨l', h1, h2, h3⟩ := up_spec 300 (w64 (p + 1)) 300 l.length (l ++ [⟨x, p⟩]) (by omega) (by simp) (by simp; omega) (up_push _ hh)
  refine ⟨l', ?_, h2, h3⟩
  unfold pile_Pile__ossuaryref07_Item_Push_2 pile_Pile__ossuaryref07_Item_up
  rw [if_pos (by simp; omega)]
  have e : w64 (((l ++ [(⟨x, p⟩ : It)]).length : Int) - 1) = (l.length : Int) := by rw [w64_id (by simp; omega)]; simp
  rw [e, h1]
  rfl
theorem pop_spec (l : List It) (p : Int) (h0 : 0 < l.length) (hl : l.length ≤ 299) (hh : Heap z0 lt l) : ∃ l', pile_Pile__ossuaryref07_Item_Pop_2 300 l p = some (true, l', (l.getD 0 z0).x.Weight, (l.getD 0 z0).x.Name) ∧ Heap z0 lt l' ∧ (l.getD 0 z0 :: l').Perm l := by
  have hd := down_pop (z := z0) (lt := lt) hh h0
  have hp := pop_perm (z := z0) h0
  have hlen : ((l.set 0 (l.getD (l.length - 1) z0)).take (l.length - 1)).length = l.length - 1 := by simp
  have hdown : ∃ l', pile_Pile__ossuaryref07_Item_down_l0 300 p 300 0 ((l.set 0 (l.getD (l.length - 1) z0)).take (l.length - 1)) = some l' ∧ Heap z0 lt l' ∧ l'.Perm ((l.set 0 (l.getD (l.length - 1) z0)).take (l.length - 1)) := by
    by_cases h1 : l.length = 1
    · have : (l.set 0 (l.getD (l.length - 1) z0)).take (l.length - 1) = [] := List.eq_nil_of_length_eq_zero (by rw [hlen]; omega)
      rw [this]
      exact ⟨[], down_nil p, fun k _ hk => by simp at hk, List.Perm.refl _⟩
    · exact down_spec p 300 0 _ (by rw [hlen]; omega) (by rw [hlen]; omega) (by rw [hlen]; omega) hd
  obtain ⟨l', h1, h2, h3⟩ := hdown
  refine ⟨l', ?_, h2, (List.Perm.cons _ h3).trans hp⟩
  unfold pile_Pile__ossuaryref07_Item_Pop_2 pile_Pile__ossuaryref07_Item_Top_2 pile_Pile__ossuaryref07_Item_Len_2 pile_Pile__ossuaryref07_Item_down
  have e : w64 ((l.length : Int) - 1) = ((l.length - 1 : Nat) : Int) := by rw [w64_id (by omega)]; omega
  simp only [thn_eq]
  rw [if_neg (by omega), if_pos (by omega)]
  simp only [Option.bind_some, Bool.not_true, Bool.false_eq_true, if_false]
  rw [e, if_pos (by omega), if_pos (by omega), if_pos (by omega), if_pos (by simp)]
  simp only [Int.toNat_natCast]
  have e0 : (0 : Int).toNat = 0 := rfl
  rw [e0]
  show (pile_Pile__ossuaryref07_Item_down_l0 300 p 300 0 ((l.set 0 (l.getD (l.length - 1) z0)).take (l.length - 1))).bind _ = _
  rw [h1]
  rfl
theorem pop_nil (p : Int) : pile_Pile__ossuaryref07_Item_Pop_2 300 [] p = some (false, [], 0, []) := by
  unfold pile_Pile__ossuaryref07_Item_Pop_2 pile_Pile__ossuaryref07_Item_Top_2 pile_Pile__ossuaryref07_Item_Len_2
  simp [thn_eq]
/-! ### Sorted rows -/
def Sd (l : List It) : Prop := l.Pairwise fun a b => lt b a = false
def Ns (l : List It) : Prop := l.Pairwise fun a b => a.n ≠ b.n
theorem lt_ne {a b : It} (h1 : lt a b = false) (h2 : lt b a = false) : a.n = b.n := by
  unfold lt at h1 h2
  by_cases h : a.x.Weight < b.x.Weight
  · rw [if_pos h] at h1; cases h1
  · by_cases h' : b.x.Weight < a.x.Weight
    · rw [if_pos h'] at h2; cases h2
    · rw [if_neg h, if_neg h'] at h1
      rw [if_neg h', if_neg h] at h2
      simp at h1 h2
      omega
theorem Ns.perm {l m : List It} (h : l.Perm m) (hn : Ns m) : Ns l := (List.Perm.pairwise_iff (R := fun a b : It => a.n ≠ b.n) (fun {_ _} h => Ne.symm h) h).2 hn
theorem sd_unique : ∀ {l m : List It}, l.Perm m → Sd l → Sd m → Ns l → l = m
  | [], m, hp, _, _, _ => (List.Perm.nil_eq hp)
  | a :: l, [], hp, _, _, _ => by have := hp.length_eq; simp at this
  | a :: l, b :: m, hp, h1, h2, hn => by
    have e : a = b := by
      apply Classical.byContradiction
      intro hab
      have ha : a ∈ m := by
        have : a ∈ b :: m := hp.subset (by simp)
        rcases List.mem_cons.1 this with h | h
        · exact absurd h hab
        · exact h
      have hb : b ∈ l := by
        have : b ∈ a :: l := hp.symm.subset (by simp)
        rcases List.mem_cons.1 this with h | h
        · exact absurd h.symm hab
        · exact h
      have q1 := (List.pairwise_cons.1 h1).1 b hb
      have q2 := (List.pairwise_cons.1 h2).1 a ha
      exact (List.pairwise_cons.1 hn).1 b hb (lt_ne q2 q1)
    subst e
    rw [sd_unique (List.Perm.cons_inv hp) (List.pairwise_cons.1 h1).2 (List.pairwise_cons.1 h2).2 (List.pairwise_cons.1 hn).2]
/-- The things of a list, each with when it came. -/
def tag : Nat → List Ossuaryref07_Item → List It
  | _, [] => []
  | k, x :: l => ⟨x, (k : Int)⟩ :: tag (k + 1) l
theorem tag_n : ∀ (l : List Ossuaryref07_Item) (k : Nat), ∀ a ∈ tag k l, (k : Int) ≤ a.n ∧ a.n < k + l.length
  | [], k, a, h => by cases h
  | x :: l, k, a, h => by
    rcases List.mem_cons.1 h with rfl | h
    · simp; omega
    · have := tag_n l (k + 1) a h
      simp; omega
theorem tag_ns : ∀ (l : List Ossuaryref07_Item) (k : Nat), Ns (tag k l)
  | [], k => List.Pairwise.nil
  | x :: l, k => List.pairwise_cons.2 ⟨fun a h => by have := tag_n l (k + 1) a h; simp only; omega, tag_ns l (k + 1)⟩
theorem tag_append : ∀ (l m : List Ossuaryref07_Item) (k : Nat), tag k (l ++ m) = tag k l ++ tag (k + l.length) m
  | [], m, k => by simp [tag]
  | x :: l, m, k => by
    simp only [List.cons_append, tag, tag_append l m (k + 1), List.length_cons]
    rw [show k + 1 + l.length = k + (l.length + 1) by omega]
theorem tag_len (l : List Ossuaryref07_Item) : ∀ k, (tag k l).length = l.length := by
  induction l with
  | nil => intro k; rfl
  | cons x l ih => intro k; simp [tag, ih]

/-! ### What the program sorts -/
theorem sorted_loop (K : Nat) (p : Int) (hK : K = 300) : ∀ (k : Nat) (l : List It) (acc : List Ossuaryref07_Item), l.length < k → l.length + acc.length ≤ 299 → Heap z0 lt l → ∃ out : List It, pile_Pile__ossuaryref07_Item_Sorted_l0 K p k acc l = some (acc ++ out.map (·.x)) ∧ out.Perm l ∧ Sd out
  | 0, l, acc, h, _, _ => by omega
  | k + 1, l, acc, hk, hl, hh => by
    subst hK
    rw [pile_Pile__ossuaryref07_Item_Sorted_l0]
    by_cases h0 : 0 < l.length
    · obtain ⟨l', h1, h2, h3⟩ := pop_spec l p h0 (by omega) hh
      have hlen : l'.length + 1 = l.length := by simpa using h3.length_eq
      obtain ⟨out, h4, h5, h6⟩ := sorted_loop 300 p rfl k l' (acc ++ [(l.getD 0 z0).x]) (by omega) (by simp; omega) h2
      rw [h1]
      simp only [Option.bind_some, Bool.not_true, Bool.false_eq_true, if_false]
      rw [if_pos (by simp; omega)]
      have h4' : pile_Pile__ossuaryref07_Item_Sorted_l0 300 p k (acc ++ [(⟨(l.getD 0 z0).x.Weight, (l.getD 0 z0).x.Name⟩ : Ossuaryref07_Item)]) l' = some (acc ++ [(l.getD 0 z0).x] ++ out.map (·.x)) := h4
      rw [h4']
      refine ⟨l.getD 0 z0 :: out, by simp, (List.Perm.cons _ h5).trans h3, List.pairwise_cons.2 ⟨fun c hc => ?_, h6⟩⟩
      have hc' : c ∈ l := h3.subset (by simp [h5.subset hc])
      obtain ⟨j, hj, rfl⟩ := List.getElem_of_mem hc'
      have := heap_least weak hh j hj
      rwa [List.getD_eq_getElem?_getD (i := j), List.getElem?_eq_getElem hj, Option.getD_some] at this
    · have : l = [] := List.eq_nil_of_length_eq_zero (by omega)
      subst this
      rw [pop_nil]
      exact ⟨[], by simp, List.Perm.refl _, List.Pairwise.nil⟩
theorem sorted_spec (l : List It) (p : Int) (hl : l.length ≤ 299) (hh : Heap z0 lt l) : ∃ out : List It, pile_Pile__ossuaryref07_Item_Sorted 300 l p = some (out.map (·.x)) ∧ out.Perm l ∧ Sd out := by
  obtain ⟨out, h1, h2, h3⟩ := sorted_loop 300 p rfl 300 l [] (by omega) (by simp; omega) hh
  refine ⟨out, ?_, h2, h3⟩
  unfold pile_Pile__ossuaryref07_Item_Sorted
  rw [if_pos (by simp; omega)]
  simpa using h1
/-! ### What the reference sorts -/
theorem place_loop (K : Nat) (R : List It) (hR : R.length ≤ 200) (w : Int) : ∀ (rest pre : List It) (k : Nat), R = pre ++ rest → rest.length < k → (∀ a ∈ pre, a.x.Weight ≤ w) →
    ∃ i : Nat, ossuaryref07_Pile_Push_3_l0 K (R.map (·.x)) w k pre.length = some (i : Int) ∧ i ≤ R.length ∧ (∀ a ∈ R.take i, a.x.Weight ≤ w) ∧ (∀ h : i < R.length, w < R[i].x.Weight)
  | [], pre, k + 1, e, _, hp => by
    rw [List.append_nil] at e
    subst e
    rw [ossuaryref07_Pile_Push_3_l0, if_neg (by simp)]
    exact ⟨R.length, rfl, Nat.le_refl _, by simpa using hp, fun h => by omega⟩
  | a :: rest, pre, k + 1, e, hk, hp => by
    have hl2 : pre.length + 1 ≤ 200 := by rw [e] at hR; simp at hR; omega
    have hn : w64 ((pre.length : Int) + 1) = ((pre ++ [a]).length : Int) := by rw [w64_id (by omega)]; simp
    have hg : (R.map (·.x)).getD (pre.length : Int).toNat z_Ossuaryref07_Item = a.x := by
      rw [e, List.map_append, List.map_cons]
      have := at_pre (pre.map (·.x)) a.x (rest.map (·.x)) z_Ossuaryref07_Item
      rwa [List.length_map] at this
    rw [ossuaryref07_Pile_Push_3_l0, if_pos (by rw [e]; simp; omega), if_pos (by omega), hg]
    by_cases h : a.x.Weight ≤ w
    · rw [if_pos h, hn]
      refine place_loop K R hR w rest (pre ++ [a]) k (by simp [e]) (by simp at hk; omega) ?_
      intro b hb
      rcases List.mem_append.1 hb with hb | hb
      · exact hp b hb
      · simp at hb; subst hb; exact h
    · rw [if_neg h]
      refine ⟨pre.length, rfl, by rw [e]; simp, ?_, fun hlt => ?_⟩
      · rw [e, List.take_left]; exact hp
      · have : R[pre.length] = a := by simp [e]
        rw [this]; omega
theorem insert_sd {R : List It} {x : Ossuaryref07_Item} {n : Int} {i : Nat} (hs : Sd R) (hn : ∀ a ∈ R, a.n < n) (h1 : ∀ a ∈ R.take i, a.x.Weight ≤ x.Weight) (h2 : ∀ h : i < R.length, x.Weight < R[i].x.Weight) : Sd (R.take i ++ ⟨x, n⟩ :: R.drop i) := by
  have hs' : (R.take i ++ R.drop i).Pairwise fun a b => lt b a = false := by rw [List.take_append_drop]; exact hs
  obtain ⟨s1, s2, s3⟩ := List.pairwise_append.1 hs'
  have hdrop : ∀ a ∈ R.drop i, x.Weight < a.x.Weight := by
    intro a ha
    have hi : i < R.length := by
      apply Classical.byContradiction
      intro h
      rw [List.drop_eq_nil_of_le (by omega)] at ha
      cases ha
    rw [List.drop_eq_getElem_cons hi] at ha s2
    rcases List.mem_cons.1 ha with rfl | ha
    · exact h2 hi
    · have := (List.pairwise_cons.1 s2).1 a ha
      have h3 := h2 hi
      unfold lt at this
      split at this
      · cases this
      · omega
  refine List.pairwise_append.2 ⟨s1, List.pairwise_cons.2 ⟨fun a ha => ?_, s2⟩, fun a ha b hb => ?_⟩
  · have := hdrop a ha
    unfold lt
    rw [if_neg (by simp only; omega), if_pos (by simp only; omega)]
  · rcases List.mem_cons.1 hb with rfl | hb
    · have q1 := h1 a ha
      have q2 := hn a (List.mem_of_mem_take ha)
      unfold lt
      rw [if_neg (by simp only; omega)]
      split
      · rfl
      · simp; omega
    · exact s3 a ha b hb
theorem ref_push (R : List It) (x : Ossuaryref07_Item) (n : Int) (hR : R.length ≤ 150) (hs : Sd R) (hn : ∀ a ∈ R, a.n < n) : ∃ R' : List It, ossuaryref07_Pile_Push_3 300 (R.map (·.x)) x.Weight x.Name = some (R'.map (·.x)) ∧ R'.Perm (R ++ [⟨x, n⟩]) ∧ Sd R' := by
  obtain ⟨i, h1, h2, h3, h4⟩ := place_loop 300 R (by omega) x.Weight R [] 300 rfl (by omega) (by simp)
  refine ⟨R.take i ++ ⟨x, n⟩ :: R.drop i, ?_, ?_, insert_sd hs hn h3 h4⟩
  · have h1' : ossuaryref07_Pile_Push_3_l0 300 (R.map (·.x)) x.Weight 300 0 = some (i : Int) := h1
    unfold ossuaryref07_Pile_Push_3
    rw [h1']
    simp only [Option.bind_some, Int.toNat_natCast]
    have e1 : (((R.map (·.x)).take i).length) ≤ 150 := by simp; omega
    have e2 : (((R.map (·.x)).drop i).length) ≤ 150 := by simp; omega
    rw [if_pos (by omega), if_pos (by simp; omega), if_pos (by simp; omega), if_pos (by simp; omega), if_pos (by simp; omega)]
    simp [List.map_take, List.map_drop]
  · have : (R.take i ++ ⟨x, n⟩ :: R.drop i).Perm (⟨x, n⟩ :: (R.take i ++ R.drop i)) := List.perm_middle
    rw [List.take_append_drop] at this
    exact this.trans (List.perm_append_singleton _ _).symm
theorem same_loop (K : Nat) (l : List Ossuaryref07_Item) (hl : l.length ≤ 200) : ∀ (rest pre : List Ossuaryref07_Item) (k : Nat), l = pre ++ rest → rest.length < k → ossuaryref07_Same_l0 K l l k pre.length = some true
  | [], pre, k + 1, e, _ => by
    rw [List.append_nil] at e
    subst e
    rw [ossuaryref07_Same_l0, if_neg (by omega)]
  | x :: rest, pre, k + 1, e, hk => by
    have hl2 : pre.length + 1 ≤ 200 := by rw [e] at hl; simp at hl; omega
    have hn : w64 ((pre.length : Int) + 1) = ((pre ++ [x]).length : Int) := by rw [w64_id (by omega)]; simp
    have hlt : (pre.length : Int) < (l.length : Int) := by rw [e]; simp; omega
    rw [ossuaryref07_Same_l0, if_pos hlt, if_pos (by omega), if_pos hlt, hn, if_neg (by simp)]
    exact same_loop K l hl rest (pre ++ [x]) k (by simp [e]) (by simp at hk; omega)
theorem same_self (l : List Ossuaryref07_Item) (hl : l.length ≤ 200) : ossuaryref07_Same 300 l l = some true := by
  unfold ossuaryref07_Same
  rw [if_neg (by simp)]
  exact same_loop 300 l hl l [] 300 rfl (by omega)

/-! ### Acts -/
structure Inv (h : List It) (p : Int) (R : List It) (i : Nat) : Prop where
  heap : Heap z0 lt h
  perm : R.Perm h
  sd : Sd R
  ns : Ns R
  now : ∀ a ∈ R, a.n < p
  p0 : 0 ≤ p
  p1 : p ≤ i
  len : R.length ≤ i
theorem root_first {h : List It} {p : Int} {a : It} {R : List It} {i : Nat} (I : Inv h p (a :: R) i) : h.getD 0 z0 = a := by
  have hl : 0 < h.length := by rw [← I.perm.length_eq]; simp
  have hr : h.getD 0 z0 ∈ h := by rw [List.getD_eq_getElem?_getD, List.getElem?_eq_getElem hl]; simp
  have ha : a ∈ h := I.perm.subset (by simp)
  have h1 : lt a (h.getD 0 z0) = false := by
    obtain ⟨j, hj, rfl⟩ := List.getElem_of_mem ha
    have := heap_least weak I.heap j hj
    rwa [List.getD_eq_getElem?_getD (i := j), List.getElem?_eq_getElem hj, Option.getD_some] at this
  have hr' : h.getD 0 z0 ∈ a :: R := I.perm.symm.subset hr
  rcases List.mem_cons.1 hr' with e | e
  · exact e
  · have h2 := (List.pairwise_cons.1 I.sd).1 _ e
    exact absurd (lt_ne h1 h2) ((List.pairwise_cons.1 I.ns).1 _ e)
theorem alive_true : ossuarylaw07_alive 300 = some true := by decide +kernel
/-- What is asked behind each act. -/
theorem asked {h : List It} {p : Int} {R : List It} {i : Nat} (I : Inv h p R i) (hi : i ≤ 150) :
    (R = [] ∧ h = []) ∨ ∃ a R', R = a :: R' ∧ pile_Pile__ossuaryref07_Item_Top_2 h p = some (a.x.Weight, a.x.Name, true) := by
  match R, I with
  | [], I => exact .inl ⟨rfl, List.Perm.nil_eq I.perm |>.symm⟩
  | a :: R', I =>
    refine .inr ⟨a, R', rfl, ?_⟩
    have hl : 0 < h.length := by rw [← I.perm.length_eq]; simp
    have := root_first I
    unfold pile_Pile__ossuaryref07_Item_Top_2 pile_Pile__ossuaryref07_Item_Len_2
    simp only [thn_eq]
    rw [if_neg (by omega), if_pos (by omega)]
    have e0 : (0 : Int).toNat = 0 := rfl
    rw [e0]
    show some ((h.getD 0 z0).x.Weight, (h.getD 0 z0).x.Name, true) = _
    rw [this]
theorem pushed {h : List It} {p : Int} {R : List It} {i : Nat} (I : Inv h p R i) (hi : i < 150) (x : Ossuaryref07_Item) : ∃ h' R', pile_Pile__ossuaryref07_Item_Push_2 300 h p x.Weight x.Name = some (h', w64 (p + 1)) ∧ ossuaryref07_Pile_Push_3 300 (R.map (·.x)) x.Weight x.Name = some (R'.map (·.x)) ∧ Inv h' (w64 (p + 1)) R' (i + 1) := by
  have hlen := I.perm.length_eq
  have hL := I.len
  have h0 := I.p0
  have h1 := I.p1
  have e : w64 (p + 1) = p + 1 := w64_id (by omega)
  obtain ⟨h', q1, q2, q3⟩ := push_spec h p x (by omega) I.heap
  obtain ⟨R', r1, r2, r3⟩ := ref_push R x p (by omega) I.sd I.now
  refine ⟨h', R', q1, r1, q2, r2.trans ((List.Perm.append I.perm (List.Perm.refl _)).trans q3.symm), r3, ?_, ?_, by omega, by omega, by rw [r2.length_eq]; simp; omega⟩
  · refine Ns.perm r2 (List.pairwise_append.2 ⟨I.ns, List.pairwise_singleton _ _, fun a ha b hb => ?_⟩)
    simp at hb
    subst hb
    have := I.now a ha
    simp only
    omega
  · intro a ha
    rcases List.mem_append.1 (r2.subset ha) with ha | ha
    · have := I.now a ha; omega
    · simp at ha
      subst ha
      simp only
      omega
theorem popped {h : List It} {p : Int} {a : It} {R : List It} {i : Nat} (I : Inv h p (a :: R) i) (hi : i < 150) : ∃ h', pile_Pile__ossuaryref07_Item_Pop_2 300 h p = some (true, h', a.x.Weight, a.x.Name) ∧ Inv h' p R (i + 1) := by
  have hlen := I.perm.length_eq
  have hL := I.len
  simp at hlen hL
  obtain ⟨h', q1, q2, q3⟩ := pop_spec h p (by omega) (by omega) I.heap
  rw [root_first I] at q1 q3
  exact ⟨h', q1, q2, List.Perm.cons_inv (I.perm.trans q3.symm), (List.pairwise_cons.1 I.sd).2, (List.pairwise_cons.1 I.ns).2, fun b hb => I.now b (by simp [hb]), I.p0, by have := I.p1; omega, by omega⟩
theorem plays (l0 : List Ossuarylaw07_Act) (hl : l0.length ≤ 150) : ∀ (k i : Nat) (h : List It) (p : Int) (R : List It), i ≤ l0.length → l0.length < i + k → Inv h p R i →
    ∃ h' p' R', ossuarylaw07_PilePlays_l0 300 l0 k i h p (R.map (·.x)) = some (Sum.inl (h', p', R'.map (·.x))) ∧ Inv h' p' R' l0.length
  | 0, i, h, p, R, h1, h2, _ => by omega
  | k + 1, i, h, p, R, h1, h2, I => by
    rw [ossuarylaw07_PilePlays_l0]
    by_cases hi : i < l0.length
    · have hn : w64 ((i : Int) + 1) = ((i + 1 : Nat) : Int) := by rw [w64_id (by omega)]; omega
      rw [if_pos (by omega), if_pos (by omega), hn]
      -- the act
      have act : ∀ (h2 : List It) (p2 : Int) (R2 : List It), Inv h2 p2 R2 (i + 1) → ∃ h' p' R', ossuarylaw07_PilePlays_l0 300 l0 k ((i + 1 : Nat) : Int) h2 p2 (R2.map (·.x)) = some (Sum.inl (h', p', R'.map (·.x))) ∧ Inv h' p' R' l0.length :=
        fun h2 p2 R2 I2 => plays l0 hl k (i + 1) h2 p2 R2 (by omega) (by omega) I2
      have tail : ∀ (h2 : List It) (p2 : Int) (R2 : List It) (o1 o2 : Option (Sum (List It × Int × List Ossuaryref07_Item) Bool)), Inv h2 p2 R2 (i + 1) → True := fun _ _ _ _ _ _ => trivial
      by_cases k0 : (l0.getD (i : Int).toNat z_Ossuarylaw07_Act).Kind = 0
      · obtain ⟨h', R', q1, r1, I'⟩ := pushed I (by omega) (l0.getD (i : Int).toNat z_Ossuarylaw07_Act).X
        rw [if_pos k0, q1]
        simp only [Option.bind_some]
        rw [r1]
        simp only [Option.bind_some, cas]
        have hlen := I'.perm.length_eq
        obtain ⟨h3, p3, R3, e3, I3⟩ := act _ _ _ I'
        rcases asked I' (by omega) with ⟨rfl, rfl⟩ | ⟨a, R4, rfl, ht⟩
        · refine ⟨h3, p3, R3, ?_, I3⟩
          simpa [pile_Pile__ossuaryref07_Item_Top_2, pile_Pile__ossuaryref07_Item_Len_2, thn_eq] using e3
        · refine ⟨h3, p3, R3, ?_, I3⟩
          rw [ht]
          simp at hlen
          simpa [pile_Pile__ossuaryref07_Item_Len_2, thn_eq, ← hlen] using e3
      · rw [if_neg k0]
        by_cases k1 : (l0.getD (i : Int).toNat z_Ossuarylaw07_Act).Kind = 1
        · rw [if_pos k1]
          match R, I with
          | [], I =>
            obtain rfl : h = [] := (List.Perm.nil_eq I.perm).symm
            have I' : Inv [] p [] (i + 1) := ⟨I.heap, I.perm, I.sd, I.ns, I.now, I.p0, by have := I.p1; omega, by simp⟩
            obtain ⟨h3, p3, R3, e3, I3⟩ := act _ _ _ I'
            refine ⟨h3, p3, R3, ?_, I3⟩
            rw [pop_nil]
            simpa [ossuaryref07_Pile_Pop_3, cas, pile_Pile__ossuaryref07_Item_Top_2, pile_Pile__ossuaryref07_Item_Len_2, thn_eq] using e3
          | b :: R', I =>
            obtain ⟨h', q1, I'⟩ := popped I (by omega)
            have r1 : ossuaryref07_Pile_Pop_3 ((b :: R').map (·.x)) = some (b.x.Weight, b.x.Name, true, R'.map (·.x)) := by
              unfold ossuaryref07_Pile_Pop_3
              rw [if_neg (by simp; try omega), if_pos (by simp; try omega), if_pos (by simp; try omega)]
              rfl
            rw [q1]
            simp only [Option.bind_some]
            rw [r1]
            simp only [Option.bind_some, beq_self_eq_true, Bool.and_self, Bool.not_true, Bool.false_eq_true, if_false, bne_self_eq_false, cas]
            have hlen := I'.perm.length_eq
            obtain ⟨h3, p3, R3, e3, I3⟩ := act _ _ _ I'
            rcases asked I' (by omega) with ⟨rfl, rfl⟩ | ⟨a, R4, rfl, ht⟩
            · refine ⟨h3, p3, R3, ?_, I3⟩
              simpa [pile_Pile__ossuaryref07_Item_Top_2, pile_Pile__ossuaryref07_Item_Len_2, thn_eq] using e3
            · refine ⟨h3, p3, R3, ?_, I3⟩
              rw [ht]
              simp at hlen
              simpa [pile_Pile__ossuaryref07_Item_Len_2, thn_eq, ← hlen] using e3
        · rw [if_neg k1]
          simp only [Option.bind_some, cas]
          have I' : Inv h p R (i + 1) := ⟨I.heap, I.perm, I.sd, I.ns, I.now, I.p0, by have := I.p1; omega, by have := I.len; omega⟩
          have hlen := I'.perm.length_eq
          obtain ⟨h3, p3, R3, e3, I3⟩ := act _ _ _ I'
          rcases asked I' (by omega) with ⟨rfl, rfl⟩ | ⟨a, R4, rfl, ht⟩
          · refine ⟨h3, p3, R3, ?_, I3⟩
            simpa [pile_Pile__ossuaryref07_Item_Top_2, pile_Pile__ossuaryref07_Item_Len_2, thn_eq] using e3
          · refine ⟨h3, p3, R3, ?_, I3⟩
            rw [ht]
            simp at hlen
            simpa [pile_Pile__ossuaryref07_Item_Len_2, thn_eq, ← hlen] using e3
    · rw [if_neg (by omega)]
      have : i = l0.length := by omega
      subst this
      exact ⟨h, p, R, rfl, I⟩
theorem law (l : List Ossuarylaw07_Act) : ∃ K, ossuarylaw07_PilePlays K l = some true := by
  refine ⟨300, ?_⟩
  unfold ossuarylaw07_PilePlays
  by_cases hl : 150 < (l.length : Int)
  · rw [if_pos hl, alive_true]; rfl
  · rw [if_neg hl]
    have I0 : Inv [] 0 [] 0 := ⟨fun k _ hk => by simp at hk, List.Perm.refl _, List.Pairwise.nil, List.Pairwise.nil, by simp, by omega, by omega, by simp⟩
    obtain ⟨h', p', R', e, I⟩ := plays l (by omega) 300 0 [] 0 [] (by omega) (by omega) I0
    have e' : ossuarylaw07_PilePlays_l0 300 l 300 0 ([] : List It) pile_New__ossuaryref07_Item ([] : List Ossuaryref07_Item) = some (Sum.inl (h', p', R'.map (·.x))) := e
    have hlen := I.perm.length_eq
    have hL := I.len
    obtain ⟨S, s1, s2, s3⟩ := sorted_spec h' p' (by omega) I.heap
    obtain rfl : S = R' := sd_unique (s2.trans I.perm.symm) s3 I.sd (Ns.perm (s2.trans I.perm.symm) I.ns)
    simp only [thn_eq]
    rw [e']
    simp only [Option.bind_some, cas]
    rw [s1]
    simp only [Option.bind_some]
    rw [same_self _ (by simp; omega)]
    have hq : pile_Pile__ossuaryref07_Item_Len_2 h' p' = ((S.map (·.x)).length : Int) := by unfold pile_Pile__ossuaryref07_Item_Len_2; simp; omega
    show (if pile_Pile__ossuaryref07_Item_Len_2 h' p' = ((S.map (·.x)).length : Int) then (ossuarylaw07_alive 300).bind fun x15 => some x15 else some false) = some true
    rw [if_pos hq, alive_true]
    rfl
end Go.Proofs.Ytmhhjhckbiaidaa.PilePlays
