/- Plain lemmas on heaps in lists: whoever is at k is not ahead of the one at (k-1)/2. No machine in it. -/
import GoSem.Core.View
set_option linter.unusedVariables false
set_option linter.unusedSimpArgs false
namespace Go.Proofs.Ythdggcleffadeaa.E

structure Weak {α : Type} (lt : α → α → Bool) : Prop where
  asym : ∀ a b, lt a b = true → lt b a = false
  neg : ∀ a b c, lt a c = true → lt a b = true ∨ lt b c = true
namespace Weak
variable {α : Type} {lt : α → α → Bool} (W : Weak lt)
include W
theorem irr (a : α) : lt a a = false := by
  cases h : lt a a with
  | false => rfl
  | true => have := W.asym _ _ h; rw [h] at this; cases this
theorem trans {a b c : α} (h1 : lt a b = true) (h2 : lt b c = true) : lt a c = true := by
  rcases W.neg a c b h1 with h | h
  · exact h
  · have := W.asym _ _ h2; rw [h] at this; cases this
theorem ntrans {a b c : α} (h1 : lt a b = false) (h2 : lt b c = false) : lt a c = false := by
  cases h : lt a c with
  | false => rfl
  | true => rcases W.neg a b c h with h' | h' <;> simp_all
/-- a not behind b, b ahead of c. -/
theorem lefts {a b c : α} (h1 : lt c b = false) (h2 : lt a b = true) : lt c a = false := by
  cases h : lt c a with
  | false => rfl
  | true => have := W.trans h h2; rw [h1] at this; cases this
end Weak

section
variable {α : Type} (z : α) (lt : α → α → Bool)
def par (k : Nat) : Nat := (k - 1) / 2
def Heap (l : List α) : Prop := ∀ k, 0 < k → k < l.length → lt (l.getD k z) (l.getD (par k) z) = false
def UpInv (l : List α) (i : Nat) : Prop := (∀ k, 0 < k → k < l.length → k ≠ i → lt (l.getD k z) (l.getD (par k) z) = false) ∧ (∀ c, 0 < c → c < l.length → par c = i → 0 < i → lt (l.getD c z) (l.getD (par i) z) = false)
def DownInv (l : List α) (i : Nat) : Prop := (∀ k, 0 < k → k < l.length → par k ≠ i → lt (l.getD k z) (l.getD (par k) z) = false) ∧ (∀ c, 0 < c → c < l.length → par c = i → 0 < i → lt (l.getD c z) (l.getD (par i) z) = false)
def swp (l : List α) (i k : Nat) : List α := (l.set i (l.getD k z)).set k (l.getD i z)
variable {z lt}
theorem swp_length (l : List α) (i k : Nat) : (swp z l i k).length = l.length := by simp [swp]
theorem swp_perm {l : List α} {i k : Nat} (hi : i < l.length) (hk : k < l.length) : (swp z l i k).Perm l := by
  have := List.set_set_perm hi hk
  simpa [swp, List.getD_eq_getElem?_getD, hi, hk] using this
theorem swp_get {l : List α} {i k : Nat} (hi : i < l.length) (hk : k < l.length) (m : Nat) : (swp z l i k).getD m z = if m = k then l.getD i z else if m = i then l.getD k z else l.getD m z := by
  simp only [swp, List.getD_eq_getElem?_getD, List.getElem?_set, List.length_set]
  by_cases h1 : k = m
  · subst h1; simp [hk]
  · by_cases h2 : i = m
    · subst h2; simp [h1, Ne.symm h1, hi]
    · simp [h1, h2, Ne.symm h1, Ne.symm h2]
theorem par_lt {k : Nat} (h : 0 < k) : par k < k := by unfold par; omega
theorem heap_of_up0 {l : List α} (h : UpInv z lt l 0) : Heap z lt l := fun k h0 hk => h.1 k h0 hk (by omega)
theorem heap_of_up {l : List α} {i : Nat} (h : UpInv z lt l i) (hn : lt (l.getD i z) (l.getD (par i) z) = false) : Heap z lt l := fun k h0 hk => by
  by_cases e : k = i
  · subst e; exact hn
  · exact h.1 k h0 hk e
theorem up_step (W : Weak lt) {l : List α} {i : Nat} (hi : i < l.length) (h0 : 0 < i) (h : UpInv z lt l i) (hl : lt (l.getD i z) (l.getD (par i) z) = true) : UpInv z lt (swp z l i (par i)) (par i) := by
  have hp := par_lt h0
  have hpl : par i < l.length := by omega
  constructor
  · intro k hk0 hk hkp
    rw [swp_length] at hk
    rw [swp_get hi hpl, swp_get hi hpl, if_neg hkp]
    by_cases e1 : k = i
    · subst e1
      rw [if_pos rfl, if_pos rfl]
      exact W.asym _ _ hl
    · rw [if_neg e1]
      by_cases e2 : par k = par i
      · rw [if_pos e2]
        have := h.1 k hk0 hk e1
        rw [e2] at this
        exact W.lefts this hl
      · rw [if_neg e2]
        by_cases e3 : par k = i
        · rw [if_pos e3]
          exact h.2 k hk0 hk e3 h0
        · rw [if_neg e3]
          exact h.1 k hk0 hk e1
  · intro c hc0 hc hcp hp0
    rw [swp_length] at hc
    have hpp := par_lt hp0
    rw [swp_get hi hpl, swp_get hi hpl, if_neg (show par (par i) ≠ par i by omega), if_neg (show par (par i) ≠ i by omega)]
    have hci : c ≠ par i := by have := par_lt hc0; omega
    have h2 := h.1 (par i) hp0 hpl (by omega)
    rw [if_neg hci]
    by_cases e1 : c = i
    · rw [if_pos e1]; exact h2
    · rw [if_neg e1]
      have h3 := h.1 c hc0 hc e1
      rw [hcp] at h3
      exact W.ntrans h3 h2
/-- What stands at i goes down to f, its foremost child. -/
theorem heap_of_down {l : List α} {i : Nat} (h : DownInv z lt l i) (hc : ∀ c, 0 < c → c < l.length → par c = i → lt (l.getD c z) (l.getD i z) = false) : Heap z lt l := fun k h0 hk => by
  by_cases e : par k = i
  · rw [e]; exact hc k h0 hk e
  · exact h.1 k h0 hk e
theorem down_step (W : Weak lt) {l : List α} {i f : Nat} (hf : f < l.length) (hf0 : 0 < f) (hfp : par f = i) (h : DownInv z lt l i) (hl : lt (l.getD f z) (l.getD i z) = true)
    (hc : ∀ c, 0 < c → c < l.length → par c = i → lt (l.getD c z) (l.getD f z) = false) : DownInv z lt (swp z l i f) f := by
  have hif := par_lt hf0
  have hi : i < l.length := by omega
  constructor
  · intro k hk0 hk hkp
    rw [swp_length] at hk
    have hpk := par_lt hk0
    rw [swp_get hi hf, swp_get hi hf, if_neg hkp]
    by_cases e1 : k = f
    · subst e1
      rw [if_pos rfl, hfp, if_pos rfl]
      exact W.asym _ _ hl
    · rw [if_neg e1]
      by_cases e2 : par k = i
      · rw [if_pos e2, if_neg (by omega)]
        exact hc k hk0 hk e2
      · rw [if_neg e2]
        by_cases e3 : k = i
        · rw [if_pos e3, e3]
          subst e3
          exact h.2 f hf0 hf hfp hk0
        · rw [if_neg e3]
          exact h.1 k hk0 hk e2
  · intro c hc0 hcl hcp _
    rw [swp_length] at hcl
    have hpc := par_lt hc0
    rw [swp_get hi hf, swp_get hi hf, if_neg (show c ≠ f by omega), if_neg (show c ≠ i by omega), hfp, if_neg (show i ≠ f by omega), if_pos rfl]
    have := h.1 c hc0 hcl (by omega)
    rwa [hcp] at this
theorem heap_least (W : Weak lt) {l : List α} (h : Heap z lt l) : ∀ j, j < l.length → lt (l.getD j z) (l.getD 0 z) = false := by
  intro j
  induction j using Nat.strongRecOn with
  | _ j ih =>
    intro hj
    by_cases e : j = 0
    · subst e; exact W.irr _
    · have hp := par_lt (show 0 < j by omega)
      exact W.ntrans (h j (by omega) hj) (ih _ hp (by omega))
theorem up_push {l : List α} (x : α) (h : Heap z lt l) : UpInv z lt (l ++ [x]) l.length := by
  have get : ∀ k, k < l.length → (l ++ [x]).getD k z = l.getD k z := fun k hk => by simp [List.getD_eq_getElem?_getD, List.getElem?_append_left hk]
  constructor
  · intro k h0 hk hne
    have hk' : k < l.length := by simp at hk; omega
    have := par_lt h0
    rw [get k hk', get _ (by omega)]
    exact h k h0 hk'
  · intro c h0 hc hp _
    have := par_lt h0
    simp at hc
    omega
/-- The last one takes the first one's place. -/
theorem down_pop {l : List α} (h : Heap z lt l) (h0 : 0 < l.length) : DownInv z lt ((l.set 0 (l.getD (l.length - 1) z)).take (l.length - 1)) 0 := by
  have get : ∀ k, 0 < k → k < l.length - 1 → ((l.set 0 (l.getD (l.length - 1) z)).take (l.length - 1)).getD k z = l.getD k z := fun k hk hk2 => by
    have hkl : k < l.length := by omega
    simp [List.getD_eq_getElem?_getD, List.getElem?_take, hk2, List.getElem?_set, show 0 ≠ k by omega, hkl]
  constructor
  · intro k hk0 hk hp
    have hk' : k < l.length - 1 := by simp at hk; omega
    have := par_lt hk0
    rw [get k hk0 hk', get (par k) (by omega) (by omega)]
    exact h k hk0 (by omega)
  · intro c _ _ _ h; omega
theorem pop_perm {l : List α} (h0 : 0 < l.length) : (l.getD 0 z :: (l.set 0 (l.getD (l.length - 1) z)).take (l.length - 1)).Perm l := by
  match l with
  | r :: t =>
    simp only [List.length_cons, Nat.add_sub_cancel, List.set_cons_zero]
    have e : (r :: t).getD 0 z = r := by simp
    rw [e]
    refine List.Perm.cons r ?_
    rcases List.eq_nil_or_concat t with rfl | ⟨s, y, rfl⟩
    · simp
    · have e2 : (r :: (s.concat y)).getD (s.concat y).length z = y := by
        simp [List.getD_eq_getElem?_getD]
      rw [e2]
      simp only [List.concat_eq_append, List.length_append, List.length_singleton, List.take_succ_cons]
      rw [List.take_left]
      exact (List.perm_append_singleton y s).symm
end
end Go.Proofs.Ythdggcleffadeaa.E
