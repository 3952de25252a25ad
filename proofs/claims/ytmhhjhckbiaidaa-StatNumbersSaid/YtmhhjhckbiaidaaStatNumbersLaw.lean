/- The plain law of StatNumbers: how many of any numbers have so many bits, and their middle one. -/
import Derived.Test.YtmhhjhckbiaidaaStatNumbersPure
import Derived.Test.YtmhhjhckbiaidaaELaw
import Derived.Test.YtmhhjhckbiaidaaEHeap
import Derived.KernelRfl
set_option linter.unusedVariables false
set_option linter.unusedSimpArgs false
namespace Go.Proofs.Ytmhhjhckbiaidaa.StatNumbers
open Go E

abbrev It := Pile_item__int64
abbrev z0 : It := z_Pile_item__int64
def lt (a b : It) : Bool := if a.x < b.x then true else if b.x < a.x then false else decide (a.n < b.n)
theorem weak : Weak lt where
  asym a b h := by
    unfold lt at *
    split at h
    · rename_i h1; rw [if_neg (by omega), if_pos h1]
    · split at h
      · cases h
      · rename_i h1 h2
        rw [if_neg h2, if_neg h1]
        simp at h ⊢; omega
  neg a b c h := by
    unfold lt at *
    by_cases h1 : a.x < b.x
    · left; rw [if_pos h1]
    · by_cases h2 : b.x < a.x
      · right
        by_cases h3 : b.x < c.x
        · rw [if_pos h3]
        · rw [if_neg (by omega), if_pos (by omega)] at h; cases h
      · by_cases h3 : b.x < c.x
        · right; rw [if_pos h3]
        · by_cases h4 : c.x < b.x
          · rw [if_neg (by omega), if_pos (by omega)] at h; cases h
          · rw [if_neg (by omega), if_neg (by omega)] at h
            rw [if_neg h1, if_neg h2, if_neg h3, if_neg h4]
            simp at h ⊢; omega
theorem get_set_eta (l : List It) (k : Nat) : (⟨(l.getD k z0).x, (l.getD k z0).n⟩ : It) = l.getD k z0 := rfl

theorem ahead_eq (l : List It) (p : Int) (i k : Nat) (hi : i < l.length) (hk : k < l.length) : pile_Pile__int64_ahead l p i k = some (lt (l.getD i z0) (l.getD k z0)) := by
  unfold pile_Pile__int64_ahead stat_Middle_1 lt
  rw [if_pos (by omega), if_pos (by omega), if_pos (by omega), if_pos (by omega)]
  simp only [thn_eq, Int.toNat_natCast, decide_eq_true_eq]
  split
  · rfl
  · split <;> rfl
theorem half (n : Nat) (h0 : 0 < n) (h : n ≤ 1000) : bShr .i64 (w64 ((n : Int) - 1)) 1 = (par n : Nat) := by
  rw [w64_id (by omega)]
  unfold bShr par
  have e : (2 : Int) ^ min (1 : Int).toNat IntKind.i64.bits = 2 := by decide
  rw [e, Int.fdiv_eq_ediv_of_nonneg _ (by decide)]
  omega
theorem up_spec (K : Nat) (p : Int) : ∀ (k i : Nat) (l : List It), i < k → i < l.length → l.length ≤ 1000 → UpInv z0 lt l i → ∃ l', pile_Pile__int64_up_l0 K p k i l = some l' ∧ Heap z0 lt l' ∧ l'.Perm l
  | 0, i, l, h, _, _, _ => by omega
  | k + 1, i, l, hk, hi, hl, hu => by
    rw [pile_Pile__int64_up_l0]
    by_cases h0 : 0 < i
    · have hp := par_lt h0
      rw [if_pos (by omega), half i h0 (by omega), ahead_eq l p i (par i) hi (by omega)]
      simp only [Option.bind_some]
      cases hc : lt (l.getD i z0) (l.getD (par i) z0) with
      | false => exact ⟨l, rfl, heap_of_up hu hc, List.Perm.refl _⟩
      | true =>
        obtain ⟨l', h1, h2, h3⟩ := up_spec K p k (par i) (swp z0 l i (par i)) (by omega) (by rw [swp_length]; omega) (by rw [swp_length]; exact hl) (up_step weak hi h0 hu hc)
        refine ⟨l', ?_, h2, h3.trans (swp_perm hi (by omega))⟩
        simp only [Bool.not_true, Bool.false_eq_true, if_false, Int.toNat_natCast, List.length_set]
        rw [if_pos (by omega), if_pos (by omega), if_pos (by omega), if_pos (by omega), if_pos (by omega)]
        exact h1
    · have : i = 0 := by omega
      subst this
      rw [if_neg (by omega)]
      exact ⟨l, rfl, heap_of_up0 hu, List.Perm.refl _⟩
/-- The foremost of an item and its children. -/
theorem pick_spec (K : Nat) (p : Int) (l : List It) (i : Nat) (hi : i < l.length) (hl : l.length ≤ 1000) : ∃ f : Nat, pile_Pile__int64_down_l1 K p i l 300 i (w64 ((bShl .i64 i 1) + 1)) = some (f : Int) ∧
    ((f = i ∧ ∀ c, 0 < c → c < l.length → par c = i → lt (l.getD c z0) (l.getD i z0) = false) ∨
     (f < l.length ∧ 0 < f ∧ par f = i ∧ lt (l.getD f z0) (l.getD i z0) = true ∧ ∀ c, 0 < c → c < l.length → par c = i → lt (l.getD c z0) (l.getD f z0) = false)) := by
  have es : bShl .i64 (i : Int) 1 = 2 * (i : Int) := by
    have e : (2 : Int) ^ min (1 : Int).toNat IntKind.i64.bits = 2 := by decide
    unfold bShl
    rw [e]
    show w64 _ = _
    rw [w64_id (by omega)]; omega
  have e1 : w64 (2 * (i : Int) + 1) = ((2 * i + 1 : Nat) : Int) := by rw [w64_id (by omega)]; omega
  have e2 : w64 (2 * (i : Int) + 2) = ((2 * i + 2 : Nat) : Int) := by rw [w64_id (by omega)]; omega
  have e3 : w64 (((2 * i + 1 : Nat) : Int) + 1) = ((2 * i + 2 : Nat) : Int) := by rw [w64_id (by omega)]; omega
  have e4 : w64 (((2 * i + 2 : Nat) : Int) + 1) = ((2 * i + 3 : Nat) : Int) := by rw [w64_id (by omega)]; omega
  have kid : ∀ c, 0 < c → par c = i → c = 2 * i + 1 ∨ c = 2 * i + 2 := by intro c _ h; unfold par at h; omega
  have p1 : par (2 * i + 1) = i := by unfold par; omega
  have p2 : par (2 * i + 2) = i := by unfold par; omega
  -- one round
  have round : ∀ (k : Nat) (f c : Nat), f < l.length → pile_Pile__int64_down_l1 K p i l (k + 1) f c = if (c : Int) ≤ ((2 * i + 2 : Nat) : Int) then (if (c : Int) < (l.length : Int) then (if lt (l.getD c z0) (l.getD f z0) = true then pile_Pile__int64_down_l1 K p i l k c (w64 ((c : Int) + 1)) else pile_Pile__int64_down_l1 K p i l k f (w64 ((c : Int) + 1))) else some (f : Int)) else some (f : Int) := by
    intro k f c hf
    rw [pile_Pile__int64_down_l1, es, e2]
    by_cases h1 : (c : Int) ≤ ((2 * i + 2 : Nat) : Int)
    · rw [if_pos h1, if_pos h1]
      by_cases h2 : (c : Int) < (l.length : Int)
      · rw [if_pos h2, if_pos h2, ahead_eq l p c f (by omega) hf]
        rfl
      · rw [if_neg h2, if_neg h2]
    · rw [if_neg h1, if_neg h1]
  rw [es, e1]
  by_cases l1 : 2 * i + 1 < l.length
  · cases c1 : lt (l.getD (2 * i + 1) z0) (l.getD i z0) with
    | true =>
      by_cases l2 : 2 * i + 2 < l.length
      · cases c2 : lt (l.getD (2 * i + 2) z0) (l.getD (2 * i + 1) z0) with
        | true =>
          refine ⟨2 * i + 2, ?_, .inr ⟨l2, by omega, p2, weak.trans c2 c1, ?_⟩⟩
          · rw [round 299 _ _ hi, if_pos (by omega), if_pos (by omega), if_pos c1, e3, round 298 _ _ l1, if_pos (by omega), if_pos (by omega), if_pos c2, e4, round 297 _ _ l2, if_neg (by omega)]
          · intro c h0 hc hp
            rcases kid c h0 hp with rfl | rfl
            · exact weak.asym _ _ c2
            · exact weak.irr _
        | false =>
          refine ⟨2 * i + 1, ?_, .inr ⟨l1, by omega, p1, c1, ?_⟩⟩
          · rw [round 299 _ _ hi, if_pos (by omega), if_pos (by omega), if_pos c1, e3, round 298 _ _ l1, if_pos (by omega), if_pos (by omega), c2, if_neg (by decide), e4, round 297 _ _ l1, if_neg (by omega)]
          · intro c h0 hc hp
            rcases kid c h0 hp with rfl | rfl
            · exact weak.irr _
            · exact c2
      · refine ⟨2 * i + 1, ?_, .inr ⟨l1, by omega, p1, c1, ?_⟩⟩
        · rw [round 299 _ _ hi, if_pos (by omega), if_pos (by omega), if_pos c1, e3, round 298 _ _ l1, if_pos (by omega), if_neg (by omega)]
        · intro c h0 hc hp
          rcases kid c h0 hp with rfl | rfl
          · exact weak.irr _
          · omega
    | false =>
      by_cases l2 : 2 * i + 2 < l.length
      · cases c2 : lt (l.getD (2 * i + 2) z0) (l.getD i z0) with
        | true =>
          refine ⟨2 * i + 2, ?_, .inr ⟨l2, by omega, p2, c2, ?_⟩⟩
          · rw [round 299 _ _ hi, if_pos (by omega), if_pos (by omega), c1, if_neg (by decide), e3, round 298 _ _ hi, if_pos (by omega), if_pos (by omega), if_pos c2, e4, round 297 _ _ l2, if_neg (by omega)]
          · intro c h0 hc hp
            rcases kid c h0 hp with rfl | rfl
            · exact weak.lefts c1 c2
            · exact weak.irr _
        | false =>
          refine ⟨i, ?_, .inl ⟨rfl, ?_⟩⟩
          · rw [round 299 _ _ hi, if_pos (by omega), if_pos (by omega), c1, if_neg (by decide), e3, round 298 _ _ hi, if_pos (by omega), if_pos (by omega), c2, if_neg (by decide), e4, round 297 _ _ hi, if_neg (by omega)]
          · intro c h0 hc hp
            rcases kid c h0 hp with rfl | rfl
            · exact c1
            · exact c2
      · refine ⟨i, ?_, .inl ⟨rfl, ?_⟩⟩
        · rw [round 299 _ _ hi, if_pos (by omega), if_pos (by omega), c1, if_neg (by decide), e3, round 298 _ _ hi, if_pos (by omega), if_neg (by omega)]
        · intro c h0 hc hp
          rcases kid c h0 hp with rfl | rfl
          · exact c1
          · omega
  · refine ⟨i, ?_, .inl ⟨rfl, ?_⟩⟩
    · rw [round 299 _ _ hi, if_pos (by omega), if_neg (by omega)]
    · intro c h0 hc hp
      rcases kid c h0 hp with rfl | rfl
      · omega
      · omega
theorem down_spec (p : Int) : ∀ (k i : Nat) (l : List It), l.length < i + k → i < l.length → l.length ≤ 1000 → DownInv z0 lt l i → ∃ l', pile_Pile__int64_down_l0 300 p k i l = some l' ∧ Heap z0 lt l' ∧ l'.Perm l
  | 0, i, l, h, hi, _, _ => by omega
  | k + 1, i, l, hk, hi, hl, hd => by
    rw [pile_Pile__int64_down_l0]
    obtain ⟨f, hf, h⟩ := pick_spec 300 p l i hi hl
    rw [hf]
    simp only [Option.bind_some]
    rcases h with ⟨rfl, hc⟩ | ⟨hfl, hf0, hfp, hlt, hc⟩
    · rw [if_pos rfl]
      exact ⟨l, rfl, heap_of_down hd hc, List.Perm.refl _⟩
    · have hif := par_lt hf0
      obtain ⟨l', h1, h2, h3⟩ := down_spec p k f (swp z0 l i f) (by rw [swp_length]; omega) (by rw [swp_length]; exact hfl) (by rw [swp_length]; exact hl) (down_step weak hfl hf0 hfp hd hlt hc)
      refine ⟨l', ?_, h2, h3.trans (swp_perm hi hfl)⟩
      rw [if_neg (by omega)]
      simp only [Int.toNat_natCast, List.length_set]
      rw [if_pos (by omega), if_pos (by omega), if_pos (by omega), if_pos (by omega), if_pos (by omega)]
      exact h1
theorem down_nil (p : Int) : pile_Pile__int64_down_l0 300 p 300 0 [] = some [] := by kernel_rfl
theorem push_spec (l : List It) (p x : Int) (hl : l.length ≤ 299) (hh : Heap z0 lt l) : ∃ l', pile_Pile__int64_Push_2 300 l p x = some (l', w64 (p + 1)) ∧ Heap z0 lt l' ∧ l'.Perm (l ++ [⟨x, p⟩]) := by
  obtain ⟨l', h1, h2, h3⟩ := up_spec 300 (w64 (p + 1)) 300 l.length (l ++ [⟨x, p⟩]) (by omega) (by simp) (by simp; omega) (up_push _ hh)
  refine ⟨l', ?_, h2, h3⟩
  unfold pile_Pile__int64_Push_2 pile_Pile__int64_up
  rw [if_pos (by simp; omega)]
  have e : w64 (((l ++ [(⟨x, p⟩ : It)]).length : Int) - 1) = (l.length : Int) := by rw [w64_id (by simp; omega)]; simp
  rw [e, h1]
  rfl
theorem pop_spec (l : List It) (p : Int) (h0 : 0 < l.length) (hl : l.length ≤ 299) (hh : Heap z0 lt l) : ∃ l', pile_Pile__int64_Pop 300 l p = some (true, l', (l.getD 0 z0).x) ∧ Heap z0 lt l' ∧ (l.getD 0 z0 :: l').Perm l := by
  have hd := down_pop (z := z0) (lt := lt) hh h0
  have hp := pop_perm (z := z0) h0
  have hlen : ((l.set 0 (l.getD (l.length - 1) z0)).take (l.length - 1)).length = l.length - 1 := by simp
  have hdown : ∃ l', pile_Pile__int64_down_l0 300 p 300 0 ((l.set 0 (l.getD (l.length - 1) z0)).take (l.length - 1)) = some l' ∧ Heap z0 lt l' ∧ l'.Perm ((l.set 0 (l.getD (l.length - 1) z0)).take (l.length - 1)) := by
    by_cases h1 : l.length = 1
    · have : (l.set 0 (l.getD (l.length - 1) z0)).take (l.length - 1) = [] := List.eq_nil_of_length_eq_zero (by rw [hlen]; omega)
      rw [this]
      exact ⟨[], down_nil p, fun k _ hk => by simp at hk, List.Perm.refl _⟩
    · exact down_spec p 300 0 _ (by rw [hlen]; omega) (by rw [hlen]; omega) (by rw [hlen]; omega) hd
  obtain ⟨l', h1, h2, h3⟩ := hdown
  refine ⟨l', ?_, h2, (List.Perm.cons _ h3).trans hp⟩
  unfold pile_Pile__int64_Pop pile_Pile__int64_Top pile_Pile__int64_Len pile_Pile__int64_down
  have e : w64 ((l.length : Int) - 1) = ((l.length - 1 : Nat) : Int) := by rw [w64_id (by omega)]; omega
  simp only [thn_eq]
  rw [if_neg (by omega), if_pos (by omega)]
  simp only [Option.bind_some, Bool.not_true, Bool.false_eq_true, if_false]
  rw [e, if_pos (by omega), if_pos (by omega), if_pos (by omega), if_pos (by simp)]
  simp only [Int.toNat_natCast]
  have e0 : (0 : Int).toNat = 0 := rfl
  rw [e0]
  show (pile_Pile__int64_down_l0 300 p 300 0 ((l.set 0 (l.getD (l.length - 1) z0)).take (l.length - 1))).bind _ = _
  rw [h1]
  rfl
theorem pop_nil (p : Int) : pile_Pile__int64_Pop 300 [] p = some (false, [], 0) := by
  unfold pile_Pile__int64_Pop pile_Pile__int64_Top pile_Pile__int64_Len
  simp [thn_eq]

/-! ### Pushed, and popped so often -/
theorem pushes (l0 : List Int) (hl : l0.length ≤ 150) : ∀ (rest pre : List Int) (k : Nat) (h : List It) (p : Int), l0 = pre ++ rest → rest.length < k → h.length = pre.length → Heap z0 lt h → (h.map (·.x)).Perm pre →
    ∃ h' p', stat_Middle_l0 300 l0 k pre.length h p = some (h', p') ∧ Heap z0 lt h' ∧ (h'.map (·.x)).Perm l0
  | [], pre, k + 1, h, p, e, _, _, hh, hp => by
    rw [List.append_nil] at e
    subst e
    rw [stat_Middle_l0, if_neg (by omega)]
    exact ⟨h, p, rfl, hh, hp⟩
  | x :: rest, pre, k + 1, h, p, e, hk, hlen, hh, hp => by
    have hl2 : pre.length + 1 ≤ 150 := by rw [e] at hl; simp at hl; omega
    have hn : w64 ((pre.length : Int) + 1) = ((pre ++ [x]).length : Int) := by rw [w64_id (by omega)]; simp
    have hg : l0.getD (pre.length : Int).toNat 0 = x := by rw [e]; exact at_pre _ _ _ _
    obtain ⟨h', q1, q2, q3⟩ := push_spec h p x (by omega) hh
    rw [stat_Middle_l0, if_pos (by rw [e]; simp; omega), if_pos (by omega), hg, hn, q1]
    simp only [Option.bind_some]
    refine pushes l0 hl rest (pre ++ [x]) k h' _ (by simp [e]) (by simp at hk; omega) (by rw [q3.length_eq]; simp [hlen]) q2 ?_
    have := q3.map (·.x)
    rw [List.map_append] at this
    exact this.trans (List.Perm.append hp (List.Perm.refl _))
def Asc (l : List Int) : Prop := l.Pairwise (· ≤ ·)
theorem asc_unique : ∀ {l m : List Int}, l.Perm m → Asc l → Asc m → l = m
  | [], m, h, _, _ => (List.Perm.nil_eq h)
  | a :: l, [], h, _, _ => by have := h.length_eq; simp at this
  | a :: l, b :: m, h, h1, h2 => by
    unfold Asc at h1 h2
    rw [List.pairwise_cons] at h1 h2
    have hab : a = b := by
      have ha : a ∈ b :: m := h.subset (by simp)
      have hb : b ∈ a :: l := h.symm.subset (by simp)
      rcases List.mem_cons.1 ha with e | ha
      · exact e
      · rcases List.mem_cons.1 hb with e | hb
        · exact e.symm
        · have := h1.1 b hb; have := h2.1 a ha; omega
    subst hab
    rw [asc_unique ((List.perm_cons a).1 h) h1.2 h2.2]
theorem root_least {h : List It} (hh : Heap z0 lt h) (c : It) (hc : c ∈ h) : (h.getD 0 z0).x ≤ c.x := by
  obtain ⟨j, hj, rfl⟩ := List.getElem_of_mem hc
  have := heap_least weak hh j hj
  rw [List.getD_eq_getElem?_getD, List.getElem?_eq_getElem hj, Option.getD_some] at this
  unfold lt at this
  apply Classical.byContradiction
  intro hn
  rw [if_pos (by omega)] at this
  cases this
theorem pops (l0 : List Int) (hl : l0.length ≤ 150) (m : Nat) (hm : m < l0.length) (hmid : w64 (Int.tdiv (w64 ((l0.length : Int) - 1)) 2) = m) (x2 : List It × Int) : ∀ (k i : Nat) (gone : List Int) (h : List It), i ≤ m → m < i + k → gone.length = i → (gone ++ h.map (·.x)).Perm l0 → Heap z0 lt h → Asc gone → (∀ g ∈ gone, ∀ c ∈ h, g ≤ c.x) →
    ∃ gone' h', stat_Middle_l1 300 l0 x2 k i h = some h' ∧ gone'.length = m ∧ (gone' ++ h'.map (·.x)).Perm l0 ∧ Heap z0 lt h' ∧ Asc gone' ∧ (∀ g ∈ gone', ∀ c ∈ h', g ≤ c.x)
  | 0, i, gone, h, h1, h2, _, _, _, _, _ => by omega
  | k + 1, i, gone, h, h1, h2, hg, hp, hh, ha, hle => by
    have hlen := hp.length_eq
    simp at hlen
    rw [stat_Middle_l1, hmid]
    by_cases hi : i < m
    · rw [if_pos (by omega)]
      obtain ⟨h', q1, q2, q3⟩ := pop_spec h x2.2 (by omega) (by omega) hh
      have hroot : h.getD 0 z0 ∈ h := q3.subset (by simp)
      rw [q1]
      simp only [Option.bind_some]
      rw [show w64 ((i : Int) + 1) = ((i + 1 : Nat) : Int) by rw [w64_id (by omega)]; omega]
      refine pops l0 hl m hm hmid x2 k (i + 1) (gone ++ [(h.getD 0 z0).x]) h' (by omega) (by omega) (by simp [hg]) ?_ q2 ?_ ?_
      · refine List.Perm.trans ?_ hp
        have := q3.map (·.x)
        rw [List.append_assoc]
        exact List.Perm.append (List.Perm.refl _) this
      · unfold Asc at ha ⊢
        rw [List.pairwise_append]
        refine ⟨ha, List.pairwise_singleton _ _, ?_⟩
        intro a hA b hB
        simp at hB
        subst hB
        exact hle a hA _ hroot
      · intro g hgm c hc
        have hc' : c ∈ h := q3.subset (by simp [hc])
        rcases List.mem_append.1 hgm with hgm | hgm
        · exact hle g hgm c hc'
        · simp at hgm
          subst hgm
          exact root_least hh c hc'
    · rw [if_neg (by omega)]
      have : i = m := by omega
      subst this
      exact ⟨gone, h, rfl, hg, hp, hh, ha, hle⟩
/-- A list in order: an insertion keeps it so. -/
def ins (x : Int) : List Int → List Int
  | [] => [x]
  | a :: l => if a < x then a :: ins x l else x :: a :: l
theorem ins_perm (x : Int) : ∀ l, (ins x l).Perm (x :: l)
  | [] => List.Perm.refl _
  | a :: l => by
    rw [ins]
    split
    · exact ((ins_perm x l).cons a).trans (List.Perm.swap x a l)
    · exact List.Perm.refl _
theorem ins_asc (x : Int) : ∀ l, Asc l → Asc (ins x l)
  | [], _ => List.pairwise_singleton _ _
  | a :: l, h => by
    unfold Asc at h
    rw [List.pairwise_cons] at h
    rw [ins]
    unfold Asc
    split
    · rename_i hlt
      rw [List.pairwise_cons]
      refine ⟨fun b hb => ?_, ins_asc x l h.2⟩
      rcases List.mem_cons.1 ((ins_perm x l).subset hb) with e | e
      · omega
      · exact h.1 b e
    · rename_i hlt
      rw [List.pairwise_cons, List.pairwise_cons]
      refine ⟨fun b hb => ?_, h⟩
      rcases List.mem_cons.1 hb with e | e
      · omega
      · have := h.1 b e; omega
theorem sorted_ex : ∀ l : List Int, ∃ s, s.Perm l ∧ Asc s
  | [] => ⟨[], List.Perm.refl _, List.Pairwise.nil⟩
  | a :: l => by
    obtain ⟨s, h1, h2⟩ := sorted_ex l
    exact ⟨ins a s, (ins_perm a s).trans (h1.cons a), ins_asc a s h2⟩
theorem middle (l0 s : List Int) (hl : l0.length ≤ 150) (hs : s.Perm l0) (ha : Asc s) : stat_Middle 300 l0 = some (if s.length = 0 then (0, false) else (s.getD ((s.length - 1) / 2) 0, true)) := by
  obtain ⟨h', p', q1, q2, q3⟩ := pushes l0 hl l0 [] 300 [] 0 rfl (by omega) rfl (fun k _ hk => by simp at hk) (List.Perm.refl _)
  have hsl := hs.length_eq
  unfold stat_Middle
  simp only [thn_eq, pile_New__int64]
  rw [show stat_Middle_l0 300 l0 300 0 [] 0 = some (h', p') from q1]
  simp only [Option.bind_some]
  by_cases h0 : l0.length = 0
  · have e : h' = [] := by have := q3.length_eq; simp at this; exact List.eq_nil_of_length_eq_zero (by omega)
    subst e
    have e0 : l0 = [] := List.eq_nil_of_length_eq_zero h0
    subst e0
    rw [if_pos (by simpa using hsl)]
    have : stat_Middle_l1 300 [] ([], p') 300 0 [] = some [] := by
      rw [show (300 : Nat) = 299 + 1 from rfl, stat_Middle_l1]
      have e : w64 (Int.tdiv (w64 (((([] : List Int).length : Nat) : Int) - 1)) 2) = 0 := by decide
      rw [e]; rfl
    rw [this]
    simp only [Option.bind_some]
    rw [pop_nil]
    rfl
  · have hmid : w64 (Int.tdiv (w64 ((l0.length : Int) - 1)) 2) = (((l0.length - 1) / 2 : Nat) : Int) := by
      rw [w64_id (by omega) (n := (l0.length : Int) - 1), Int.tdiv_eq_ediv_of_nonneg (by omega), w64_id (by omega)]
      omega
    obtain ⟨gone, hf, r1, r2, r3, r4, r5, r6⟩ := pops l0 hl ((l0.length - 1) / 2) (by omega) hmid (h', p') 300 0 [] h' (by omega) (by omega) rfl (by simpa using q3) q2 List.Pairwise.nil (by simp)
    rw [show stat_Middle_l1 300 l0 (h', p') 300 0 h' = some hf from r1]
    simp only [Option.bind_some]
    have hlen := r3.length_eq
    simp at hlen
    obtain ⟨h2, t1, t2, t3⟩ := pop_spec hf p' (by omega) (by omega) r4
    rw [t1]
    simp only [Option.bind_some]
    rw [if_neg (by omega)]
    -- in order they are gone, the root, and the others in order
    obtain ⟨rest, u1, u2⟩ := sorted_ex (h2.map (·.x))
    have hroot : hf.getD 0 z0 ∈ hf := t3.subset (by simp)
    have hperm : (gone ++ (hf.getD 0 z0).x :: rest).Perm l0 := by
      refine List.Perm.trans ?_ r3
      refine List.Perm.append (List.Perm.refl _) ?_
      have := t3.map (·.x)
      exact (u1.cons _).trans this
    have hasc : Asc (gone ++ (hf.getD 0 z0).x :: rest) := by
      unfold Asc at r5 u2 ⊢
      rw [List.pairwise_append, List.pairwise_cons]
      refine ⟨r5, ⟨fun b hb => ?_, u2⟩, fun a hA b hB => ?_⟩
      · have := u1.subset hb
        rw [List.mem_map] at this
        obtain ⟨c, hc, rfl⟩ := this
        exact root_least r4 c (t3.subset (by simp [hc]))
      · rcases List.mem_cons.1 hB with e | hB
        · subst e; exact r6 a hA _ hroot
        · have := u1.subset hB
          rw [List.mem_map] at this
          obtain ⟨c, hc, rfl⟩ := this
          exact r6 a hA c (t3.subset (by simp [hc]))
    have e := asc_unique (hperm.trans hs.symm) hasc ha
    have e2 : s.getD ((s.length - 1) / 2) 0 = (hf.getD 0 z0).x := by
      rw [← e]
      have : (gone ++ (hf.getD 0 z0).x :: rest).length = l0.length := hperm.length_eq
      rw [this, show (l0.length - 1) / 2 = gone.length by omega]
      simp [List.getD_eq_getElem?_getD]
    rw [e2]
/-! ### The reference: a list in order -/
theorem place_loop (K : Nat) (l0 : List Int) (hl : l0.length ≤ 150) (i : Nat) (hi : i < l0.length) (s : List Int) (hs : s.length ≤ 150) (hasc : Asc s) : ∀ (rest pre : List Int) (k : Nat), s = pre ++ rest → rest.length < k → (∀ a ∈ pre, a < l0.getD i 0) →
    ∃ j : Nat, ossuaryref35_Middle_l1 K l0 i s k pre.length = some (j : Int) ∧ j ≤ s.length ∧ s.take j ++ [l0.getD i 0] ++ s.drop j = pre ++ ins (l0.getD i 0) rest
  | [], pre, k + 1, e, hk, hp => by
    rw [List.append_nil] at e
    subst e
    rw [ossuaryref35_Middle_l1, if_neg (by omega)]
    exact ⟨s.length, rfl, Nat.le_refl _, by simp [ins]⟩
  | x :: rest, pre, k + 1, e, hk, hp => by
    have hl2 : pre.length + 1 ≤ 150 := by rw [e] at hs; simp at hs; omega
    have hn : w64 ((pre.length : Int) + 1) = ((pre ++ [x]).length : Int) := by rw [w64_id (by omega)]; simp
    have hg : s.getD (pre.length : Int).toNat 0 = x := by rw [e]; exact at_pre _ _ _ _
    rw [ossuaryref35_Middle_l1, if_pos (by rw [e]; simp; omega), if_pos (by omega), if_pos (by omega), hg, Int.toNat_natCast, ins]
    by_cases hx : x < l0.getD i 0
    · rw [if_pos hx, if_pos hx, hn]
      obtain ⟨j, h1, h2, h3⟩ := place_loop K l0 hl i hi s hs hasc rest (pre ++ [x]) k (by simp [e]) (by simp at hk; omega) (fun a ha => by
        rcases List.mem_append.1 ha with h | h
        · exact hp a h
        · simp at h; omega)
      exact ⟨j, h1, h2, by rw [h3]; simp⟩
    · rw [if_neg hx, if_neg hx]
      refine ⟨pre.length, rfl, by rw [e]; simp, ?_⟩
      rw [e]; simp
theorem ref_loop (l0 : List Int) (hl : l0.length ≤ 150) : ∀ (rest pre : List Int) (k : Nat) (s : List Int), l0 = pre ++ rest → rest.length < k → s.Perm pre → Asc s → ∃ s', ossuaryref35_Middle_l0 300 l0 k pre.length s = some s' ∧ s'.Perm l0 ∧ Asc s'
  | [], pre, k + 1, s, e, hk, hp, ha => by
    rw [List.append_nil] at e
    subst e
    rw [ossuaryref35_Middle_l0, if_neg (by omega)]
    exact ⟨s, rfl, hp, ha⟩
  | x :: rest, pre, k + 1, s, e, hk, hp, ha => by
    have hl2 : pre.length + 1 ≤ 150 := by rw [e] at hl; simp at hl; omega
    have hn : w64 ((pre.length : Int) + 1) = ((pre ++ [x]).length : Int) := by rw [w64_id (by omega)]; simp
    have hg : l0.getD pre.length 0 = x := by rw [e]; exact at_pre _ _ _ _
    have hsl := hp.length_eq
    have hi : pre.length < l0.length := by rw [e]; simp
    obtain ⟨j, h1, h2, h3⟩ := place_loop 300 l0 hl pre.length hi s (by omega) ha s [] 300 rfl (by omega) (by simp)
    rw [ossuaryref35_Middle_l0, if_pos (by omega), show ossuaryref35_Middle_l1 300 l0 (pre.length : Int) s 300 0 = some (j : Int) from h1]
    simp only [Option.bind_some, Int.toNat_natCast]
    rw [if_pos (by omega), if_pos (by omega), if_pos (by simp; omega), if_pos (by omega), if_pos (by simp; omega), if_pos (by simp; omega)]
    simp only [Option.bind_some, List.nil_append]
    rw [h3, List.nil_append, hg, hn]
    exact ref_loop l0 hl rest (pre ++ [x]) k (ins x s) (by simp [e]) (by simp at hk; omega) ((ins_perm x s).trans ((hp.cons x).trans (List.perm_append_comm (l₁ := [x]) (l₂ := pre)))) (ins_asc x s ha)
theorem ref_middle (l0 : List Int) (hl : l0.length ≤ 150) : ∃ s, s.Perm l0 ∧ Asc s ∧ ossuaryref35_Middle 300 l0 = some (if s.length = 0 then (0, false) else (s.getD ((s.length - 1) / 2) 0, true)) := by
  obtain ⟨s, h1, h2, h3⟩ := ref_loop l0 hl l0 [] 300 [] rfl (by omega) (List.Perm.refl _) List.Pairwise.nil
  refine ⟨s, h2, h3, ?_⟩
  have hsl := h2.length_eq
  unfold ossuaryref35_Middle
  rw [show ossuaryref35_Middle_l0 300 l0 300 0 [] = some s from h1]
  simp only [Option.bind_some]
  by_cases h0 : s.length = 0
  · rw [if_pos (by omega), if_pos h0]
  · have hmid : w64 (Int.tdiv (w64 ((s.length : Int) - 1)) 2) = (((s.length - 1) / 2 : Nat) : Int) := by
      rw [w64_id (by omega) (n := (s.length : Int) - 1), Int.tdiv_eq_ediv_of_nonneg (by omega), w64_id (by omega)]
      omega
    rw [if_neg (by omega), if_neg h0, hmid, if_pos (by omega), if_pos (by omega), Int.toNat_natCast]
/-! ### Bits -/
def blen : Nat → Nat → Nat
  | 0, _ => 0
  | f + 1, n => if n = 0 then 0 else blen f (n / 2) + 1
theorem blen_more : ∀ (f g n : Nat), n < 2 ^ f → f ≤ g → blen g n = blen f n
  | 0, g, n, h, _ => by
    have : n = 0 := by simpa using h
    subst this
    cases g <;> simp [blen]
  | f + 1, g, n, h, hg => by
    cases g with
    | zero => omega
    | succ g =>
      rw [blen, blen]
      split
      · rfl
      · rw [blen_more f g (n / 2) (by rw [Nat.pow_succ] at h; omega) (by omega)]
theorem blen_shift : ∀ (k f n : Nat), 2 ^ k ≤ n → k ≤ f → blen f n = blen (f - k) (n / 2 ^ k) + k
  | 0, f, n, h, _ => by simp
  | k + 1, f, n, h, hf => by
    cases f with
    | zero => omega
    | succ f =>
      have h2 : 2 ^ (k + 1) = 2 * 2 ^ k := by rw [Nat.pow_succ, Nat.mul_comm]
      have hp : 0 < 2 ^ k := Nat.pow_pos (by decide)
      rw [blen, if_neg (by omega), blen_shift k f (n / 2) (by omega) (by omega), show f + 1 - (k + 1) = f - k by omega, Nat.div_div_eq_div_mul, ← h2]
      omega
theorem blen_le : ∀ f n, blen f n ≤ f
  | 0, _ => Nat.le_refl _
  | f + 1, n => by
    rw [blen]; split
    · omega
    · have := blen_le f (n / 2); omega
theorem shrU (n k : Nat) (h : k ≤ 64) : bShr .u64 (n : Int) (k : Int) = ((n / 2 ^ k : Nat) : Int) := by
  show (n : Int).fdiv (2 ^ min (k : Int).toNat 64) = _
  rw [Int.toNat_natCast, Nat.min_eq_left h]
  have : (2 : Int) ^ k = ((2 ^ k : Nat) : Int) := by rw [Int.natCast_pow]; rfl
  rw [this, Int.fdiv_eq_ediv_of_nonneg _ (Int.natCast_nonneg _)]; rfl
/-- The table of a byte's bits. -/
def tab : List UInt8 := [0, 1, 2, 2, 3, 3, 3, 3, 4, 4, 4, 4, 4, 4, 4, 4, 5, 5, 5, 5, 5, 5, 5, 5, 5, 5, 5, 5, 5, 5, 5, 5, 6, 6, 6, 6, 6, 6, 6, 6, 6, 6, 6, 6, 6, 6, 6, 6, 6, 6, 6, 6, 6, 6, 6, 6, 6, 6, 6, 6, 6, 6, 6, 6, 7, 7, 7, 7, 7, 7, 7, 7, 7, 7, 7, 7, 7, 7, 7, 7, 7, 7, 7, 7, 7, 7, 7, 7, 7, 7, 7, 7, 7, 7, 7, 7, 7, 7, 7, 7, 7, 7, 7, 7, 7, 7, 7, 7, 7, 7, 7, 7, 7, 7, 7, 7, 7, 7, 7, 7, 7, 7, 7, 7, 7, 7, 7, 7, 8, 8, 8, 8, 8, 8, 8, 8, 8, 8, 8, 8, 8, 8, 8, 8, 8, 8, 8, 8, 8, 8, 8, 8, 8, 8, 8, 8, 8, 8, 8, 8, 8, 8, 8, 8, 8, 8, 8, 8, 8, 8, 8, 8, 8, 8, 8, 8, 8, 8, 8, 8, 8, 8, 8, 8, 8, 8, 8, 8, 8, 8, 8, 8, 8, 8, 8, 8, 8, 8, 8, 8, 8, 8, 8, 8, 8, 8, 8, 8, 8, 8, 8, 8, 8, 8, 8, 8, 8, 8, 8, 8, 8, 8, 8, 8, 8, 8, 8, 8, 8, 8, 8, 8, 8, 8, 8, 8, 8, 8, 8, 8, 8, 8, 8, 8, 8, 8, 8, 8, 8, 8, 8, 8, 8, 8, 8, 8]
theorem tab_eq : ∀ x : Fin 256, ((tab.getD x.val 0).toNat : Int) = ((blen 8 x.val : Nat) : Int) := by decide +kernel
theorem tab_len : tab.length = 256 := by decide +kernel
theorem w64_add {a b : Nat} (h : a + b ≤ 1000) : w64 ((a : Int) + (b : Int)) = ((a + b : Nat) : Int) := by rw [w64_id (by omega)]; omega
theorem blen_8 {n : Nat} (h : n < 256) (f : Nat) (hf : 8 ≤ f) : blen f n = blen 8 n := blen_more 8 f n (by simpa using h) hf
set_option maxRecDepth 100000 in
theorem len64 (n : Nat) (h : n < 18446744073709551616) : bits_Len64 (n : Int) = some ((blen 64 n : Nat) : Int) := by
  -- what comes of it: so many bits are gone, and the rest
  have step : ∀ (x c f k : Nat), k ≤ f → 2 ^ k ≤ x → blen f x + c = blen (f - k) (x / 2 ^ k) + (c + k) := fun x c f k h1 h2 => by rw [blen_shift k f x h2 h1]; omega
  have fin : ∀ (x c : Nat), x < 256 → c ≤ 100 → (if 0 ≤ (wu8 (x : Int)) then (if (wu8 (x : Int)) < (tab.length : Int) then some (w64 ((c : Int) + (w64 ((tab.getD (wu8 (x : Int)).toNat 0).toNat : Int)))) else none) else none) = some ((blen 8 x + c : Nat) : Int) := by
    intro x c hx hc
    have e : wu8 (x : Int) = x := by simp [wu8, IntKind.wrap, IntKind.signed, IntKind.bits]; omega
    have hb := blen_le 8 x
    have ht := tab_eq ⟨x, hx⟩
    simp only at ht
    rw [e, tab_len, if_pos (by omega), if_pos (by omega), Int.toNat_natCast, ht, w64_id (by omega) (n := ((blen 8 x : Nat) : Int)), w64_add (by omega)]
    congr 2
    omega
  unfold bits_Len64
  simp only [thn_eq]
  -- 32 bits
  obtain ⟨x1, c1, e1, l1, b1, hc1⟩ : ∃ x1 c1 : Nat, (if 4294967296 ≤ (n : Int) then (bShr .u64 (n : Int) 32, (32 : Int)) else ((n : Int), (0 : Int))) = ((x1 : Int), (c1 : Int)) ∧ x1 < 4294967296 ∧ blen 64 n = blen 32 x1 + c1 ∧ c1 ≤ 32 := by
    by_cases h1 : 4294967296 ≤ n
    · have p : (2 : Nat) ^ 32 = 4294967296 := by decide
      refine ⟨n / 2 ^ 32, 32, ?_, by omega, ?_, by omega⟩
      · rw [if_pos (by omega)]
        have := shrU n 32 (by omega)
        rw [show ((32 : Nat) : Int) = 32 from rfl] at this
        rw [this]; rfl
      · have := step n 0 64 32 (by omega) (by omega)
        simpa using this
    · exact ⟨n, 0, by rw [if_neg (by omega)]; rfl, by omega, by rw [Nat.add_zero]; exact blen_more 32 64 n (Nat.lt_of_lt_of_le (show n < 4294967296 by omega) (by decide)) (by omega), by omega⟩
  rw [e1]
  obtain ⟨x2, c2, e2, l2, b2, hc2⟩ : ∃ x2 c2 : Nat, (if 65536 ≤ (x1 : Int) then (bShr .u64 (x1 : Int) 16, w64 ((c1 : Int) + 16)) else ((x1 : Int), (c1 : Int))) = ((x2 : Int), (c2 : Int)) ∧ x2 < 65536 ∧ blen 32 x1 + c1 = blen 16 x2 + c2 ∧ c2 ≤ 48 := by
    by_cases h1 : 65536 ≤ x1
    · have p : (2 : Nat) ^ 16 = 65536 := by decide
      refine ⟨x1 / 2 ^ 16, c1 + 16, ?_, by omega, ?_, by omega⟩
      · rw [if_pos (by omega)]
        have := shrU x1 16 (by omega)
        rw [show ((16 : Nat) : Int) = 16 from rfl] at this
        have h2 := w64_add (a := c1) (b := 16) (by omega)
        rw [show ((16 : Nat) : Int) = 16 from rfl] at h2
        rw [this, h2]
      · exact step x1 c1 32 16 (by omega) (by omega)
    · exact ⟨x1, c1, by rw [if_neg (by omega)], by omega, by rw [blen_more 16 32 x1 (Nat.lt_of_lt_of_le (show x1 < 65536 by omega) (by decide)) (by omega)], by omega⟩
  simp only [e2]
  obtain ⟨x3, c3, e3, l3, b3, hc3⟩ : ∃ x3 c3 : Nat, (if 256 ≤ (x2 : Int) then (bShr .u64 (x2 : Int) 8, w64 ((c2 : Int) + 8)) else ((x2 : Int), (c2 : Int))) = ((x3 : Int), (c3 : Int)) ∧ x3 < 256 ∧ blen 16 x2 + c2 = blen 8 x3 + c3 ∧ c3 ≤ 56 := by
    by_cases h1 : 256 ≤ x2
    · have p : (2 : Nat) ^ 8 = 256 := by decide
      refine ⟨x2 / 2 ^ 8, c2 + 8, ?_, by omega, ?_, by omega⟩
      · rw [if_pos (by omega)]
        have := shrU x2 8 (by omega)
        rw [show ((8 : Nat) : Int) = 8 from rfl] at this
        have h2 := w64_add (a := c2) (b := 8) (by omega)
        rw [show ((8 : Nat) : Int) = 8 from rfl] at h2
        rw [this, h2]
      · exact step x2 c2 16 8 (by omega) (by omega)
    · exact ⟨x2, c2, by rw [if_neg (by omega)], by omega, by rw [blen_8 (by omega) 16 (by omega)], by omega⟩
  simp only [e3]
  rw [b1, b2, b3]
  exact fin x3 c3 l3 (by omega)
theorem refbits (K : Nat) : ∀ (f : Nat) (n : Int) (c k : Nat), n.natAbs < 2 ^ f → f < k → c + f ≤ 1000 → -9223372036854775808 ≤ n ∧ n ≤ 9223372036854775807 → ossuaryref35_bits_l0 K k n c = some ((c + blen f n.natAbs : Nat) : Int)
  | f, n, c, 0, _, h, _, _ => by omega
  | 0, n, c, k + 1, h, _, _, _ => by
    have : n = 0 := by simp at h; omega
    subst this
    rw [ossuaryref35_bits_l0, if_neg (by simp)]
    simp [blen]
  | f + 1, n, c, k + 1, h, hk, hc, hr => by
    rw [ossuaryref35_bits_l0]
    by_cases h0 : n = 0
    · subst h0
      rw [if_neg (by simp)]
      simp [blen]
    · have e1 : (Int.tdiv n 2).natAbs = n.natAbs / 2 := by rw [Int.natAbs_tdiv]; rfl
      have e2 : w64 (Int.tdiv n 2) = Int.tdiv n 2 := w64_id (by omega)
      rw [if_pos h0, e2, show w64 ((c : Int) + 1) = ((c + 1 : Nat) : Int) by rw [w64_id (by omega)]; omega]
      rw [refbits K f (Int.tdiv n 2) (c + 1) k (by rw [e1]; rw [Nat.pow_succ] at h; omega) (by omega) (by omega) (by omega), e1, blen, if_neg (by omega)]
      congr 1
      omega
theorem buckets (l0 : List Int) (hl : l0.length ≤ 150) (hin : ∀ x ∈ l0, inI .i64 x) : ∀ (k i : Nat) (f : Nat → Int), i ≤ l0.length → l0.length < i + k → ∃ g, stat_Buckets_l0 300 l0 k i f = some g ∧ ossuaryref35_Buckets_l0 300 l0 k i f = some g
  | 0, i, f, h1, h2 => by omega
  | k + 1, i, f, h1, h2 => by
    rw [stat_Buckets_l0, ossuaryref35_Buckets_l0]
    by_cases h : i < l0.length
    · have hg : l0.getD i 0 = l0[i] := by simp [List.getD_eq_getElem?_getD, List.getElem?_eq_getElem h]
      have hx := in64 (hin _ (List.getElem_mem h))
      rw [← hg] at hx
      have hb := blen_le 64 (l0.getD i 0).natAbs
      have hr : ossuaryref35_bits 300 (l0.getD i 0) = some ((blen 64 (l0.getD i 0).natAbs : Nat) : Int) := by
        have := refbits 300 64 (l0.getD i 0) 0 300 (by have : (2 : Nat) ^ 64 = 18446744073709551616 := by decide
                                                       omega) (by decide) (by decide) hx
        rw [Nat.zero_add] at this
        exact this
      rw [if_pos (by omega), if_pos (by omega), if_pos (by omega), if_pos (by omega), Int.toNat_natCast, abs64 hx, len64 _ (by omega), hr]
      simp only [Option.bind_some]
      rw [if_pos (by omega), if_pos (by omega), show w64 ((i : Int) + 1) = ((i + 1 : Nat) : Int) by rw [w64_id (by omega)]; omega, if_pos (by omega), if_pos (by omega)]
      exact buckets l0 hl hin k (i + 1) _ (by omega) (by omega)
    · rw [if_neg (by omega), if_neg (by omega)]
      exact ⟨f, rfl, rfl⟩
theorem alive_true : ossuarylaw35_alive 300 = some true := by decide +kernel
theorem law (l : List Int) (h : l.length * 8 ≤ 140737488351232 ∧ ∀ x ∈ l, inI .i64 x) : ∃ K, ossuarylaw35_StatNumbers K l = some true := by
  refine ⟨300, ?_⟩
  unfold ossuarylaw35_StatNumbers
  by_cases hl : 100 < (l.length : Int)
  · rw [if_pos hl, alive_true]; rfl
  · rw [if_neg hl]
    obtain ⟨s, h1, h2, h3⟩ := ref_middle l (by omega)
    rw [middle l s (by omega) h1 h2, h3]
    obtain ⟨g, g1, g2⟩ := buckets l (by omega) h.2 300 0 (fun _ => 0) (by omega) (by omega)
    have g1' : stat_Buckets 300 l = some g := g1
    have g2' : ossuaryref35_Buckets 300 l = some g := g2
    rw [g1', g2']
    simp only [Option.bind_some]
    have e : eqF 65 g g = true := by simp [eqF]
    simp only [e, if_true, beq_self_eq_true, alive_true, Option.bind_some]
end Go.Proofs.Ytmhhjhckbiaidaa.StatNumbers
