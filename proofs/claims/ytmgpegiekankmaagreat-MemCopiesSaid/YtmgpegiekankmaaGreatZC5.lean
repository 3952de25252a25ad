/- memCopies_holds: the given statement is proved: no condition ahead of it; before it what its proof rests on. -/
import Derived.Test.YtmgpegiekankmaaGreatZC4
import Derived.Test.YtmgpegiekankmaaGreatRows
set_option linter.unusedVariables false
set_option linter.unusedSimpArgs false
section
set_option linter.unusedVariables false
namespace Go.Proofs.YtmgpegiekankmaaGreat.E
open Go
section
variable {α : Type} (key hi : α → Int)
def ua (l : List α) : Prop := (∀ x ∈ l, key x < hi x) ∧ l.Pairwise (fun a b => hi a ≤ key b)
def kq (l : List α) (k : Int) : Nat := l.countP (fun x => decide (key x < k))
def qN (h : Int) (x : α) : Bool := decide (key x ≤ h ∧ h < hi x)
def tC (a b : Int) (x : α) : Bool := decide (a < hi x ∧ key x < b)
variable {key hi}
theorem ua.nil : ua key hi [] := ⟨by simp, List.Pairwise.nil⟩
theorem ua.tail {x : α} {l : List α} (h : ua key hi (x :: l)) : ua key hi l := ⟨fun y hy => h.1 y (by simp [hy]), (List.pairwise_cons.1 h.2).2⟩
theorem ua.head {x : α} {l : List α} (h : ua key hi (x :: l)) : key x < hi x ∧ ∀ y ∈ l, hi x ≤ key y ∧ key x < key y := by
  have h0 := h.1 x (by simp)
  refine ⟨h0, fun y hy => ?_⟩
  have := (List.pairwise_cons.1 h.2).1 y hy
  omega
theorem ua.sub {l m : List α} (h : ua key hi l) (s : m.Sublist l) : ua key hi m := ⟨fun x hx => h.1 x (s.subset hx), h.2.sublist s⟩
theorem oP (l : List α) (k : Int) : kq key l k ≤ l.length := List.countP_le_length
theorem zl {l : List α} {k : Int} (h : ∀ x ∈ l, k ≤ key x) : kq key l k = 0 := by
  unfold kq
  rw [List.countP_eq_zero]
  intro x hx
  have := h x hx
  simp; omega
theorem nk {l : List α} (h : ua key hi l) (k : Int) : (∀ x ∈ l.take (kq key l k), key x < k) ∧ ∀ x ∈ l.drop (kq key l k), k ≤ key x := by
  induction l with
  | nil => simp
  | cons x l ih =>
    obtain ⟨h0, hx⟩ := h.head
    by_cases hk : key x < k
    · have e : kq key (x :: l) k = kq key l k + 1 := by unfold kq; rw [List.countP_cons]; simp [hk]
      rw [e]
      obtain ⟨i1, i2⟩ := ih h.tail
      refine ⟨fun y hy => ?_, fun y hy => i2 y (by simpa using hy)⟩
      simp at hy
      rcases hy with rfl | hy
      · exact hk
      · exact i1 y hy
    · have e : kq key (x :: l) k = 0 := zl fun y hy => by
        rcases List.mem_cons.1 hy with rfl | hy
        · omega
        · have := hx y hy; omega
      rw [e]
      refine ⟨by simp, fun y hy => ?_⟩
      simp at hy
      rcases hy with rfl | hy
      · omega
      · have := hx y hy; omega
theorem rp {l : List α} (h : ua key hi l) {k : Int} {j : Nat} {z : α} (hj : j < l.length) : key (l.getD j z) < k ↔ j < kq key l k := by
  have e : l.getD j z = l[j] := by simp [List.getD_eq_getElem?_getD, List.getElem?_eq_getElem hj]
  rw [e]
  obtain ⟨h1, h2⟩ := nk h k
  constructor
  · intro hk
    apply Classical.byContradiction
    intro hc
    have : l[j] ∈ l.drop (kq key l k) := by
      rw [List.mem_drop_iff_getElem]
      exact ⟨j - kq key l k, by omega, by congr 1; omega⟩
    have := h2 _ this
    omega
  · intro hc
    refine h1 _ ?_
    rw [List.mem_take_iff_getElem]
    exact ⟨j, by omega, rfl⟩
theorem uw {l : List α} {a b : Int} (h : a ≤ b) : kq key l a ≤ kq key l b := by
  unfold kq
  apply List.countP_mono_left
  intro x _ hx
  simp at hx ⊢; omega
theorem wL {p : α → Bool} {l : List α} (h : ∀ x ∈ l, p x = true) : l.filter p = l := List.filter_eq_self.2 h
theorem nR {p : α → Bool} {l : List α} (h : ∀ x ∈ l, p x = false) : l.filter p = [] := List.filter_eq_nil_iff.2 fun x hx => by simp [h x hx]
theorem zR {l : List α} (h : ua key hi l) {a b : Int} (hab : a ≤ b) : (l.drop (kq key l a)).take (kq key l b - kq key l a) = l.filter (fun x => decide (a ≤ key x ∧ key x < b)) := by
  obtain ⟨a1, a2⟩ := nk h a
  obtain ⟨b1, b2⟩ := nk h b
  have hm : kq key l a ≤ kq key l b := uw hab
  have e : l = l.take (kq key l a) ++ ((l.drop (kq key l a)).take (kq key l b - kq key l a) ++ l.drop (kq key l b)) := by
    conv => lhs; rw [← List.take_append_drop (kq key l a) l]
    congr 1
    conv => lhs; rw [← List.take_append_drop (kq key l b - kq key l a) (l.drop (kq key l a))]
    congr 1
    rw [List.drop_drop]; congr 1; omega
  conv => rhs; rw [e]
  rw [List.filter_append, List.filter_append]
  rw [nR (l := l.take (kq key l a)) (fun x hx => by have := a1 x hx; simp; omega), nR (l := l.drop (kq key l b)) (fun x hx => by have := b2 x hx; simp; omega)]
  rw [wL]
  · simp
  · intro x hx
    have h1 := a2 x (List.mem_of_mem_take hx)
    have h2 : x ∈ l.take (kq key l b) := by
      rw [List.mem_take_iff_getElem] at hx
      obtain ⟨i, hi1, hi2⟩ := hx
      simp at hi1 hi2
      rw [List.mem_take_iff_getElem]
      exact ⟨kq key l a + i, by omega, hi2⟩
    have := b1 x h2
    simp; omega
theorem nh {p : α → Bool} {l : List α} (h : ∀ x ∈ l, p x = false) : l.find? p = none := List.find?_eq_none.2 fun x hx => by simp [h x hx]
theorem vZ {l : List α} (h : ua key hi l) {n : Int} {j : Nat} {z : α} (hj : j < l.length) (h1 : key (l.getD j z) ≤ n) (h2 : ∀ i, j < i → i < l.length → n < key (l.getD i z)) :
    l.find? (qN key hi n) = if n < hi (l.getD j z) then some (l.getD j z) else none := by
  have e : l.getD j z = l[j] := by simp [List.getD_eq_getElem?_getD, List.getElem?_eq_getElem hj]
  rw [e] at h1 ⊢
  have hs : l = l.take j ++ l[j] :: l.drop (j + 1) := by rw [List.getElem_cons_drop, List.take_append_drop]
  have p1 : ∀ x ∈ l.take j, qN key hi n x = false := by
    intro x hx
    have hp := h.2
    rw [hs, List.pairwise_append] at hp
    have := hp.2.2 x hx l[j] List.mem_cons_self
    simp [qN]; omega
  have p2 : ∀ x ∈ l.drop (j + 1), qN key hi n x = false := by
    intro x hx
    rw [List.mem_drop_iff_getElem] at hx
    obtain ⟨i, hi1, hi2⟩ := hx
    have := h2 (j + 1 + i) (by omega) (by omega)
    have e2 : l.getD (j + 1 + i) z = l[j + 1 + i] := by simp [List.getD_eq_getElem?_getD, List.getElem?_eq_getElem (show j + 1 + i < l.length by omega)]
    rw [e2, hi2] at this
    simp [qN]; omega
  conv => lhs; rw [hs]
  rw [List.find?_append, nh p1]
  simp only [Option.none_or, List.find?_cons]
  by_cases hc : n < hi l[j]
  · have : qN key hi n l[j] = true := by simp [qN]; omega
    simp [this, hc]
  · have : qN key hi n l[j] = false := by simp [qN]; omega
    simp only [this, hc, if_false]
    exact nh p2
theorem wG {l : List α} (h : ua key hi l) {a b : Int} (hab : a < b) : l.filter (tC key hi a b) = (l.find? (qN key hi a)).toList ++ l.filter (fun x => decide (a < key x ∧ key x < b)) := by
  induction l with
  | nil => simp
  | cons x l ih =>
    obtain ⟨h0, hx⟩ := h.head
    have ih := ih h.tail
    by_cases hk : a < key x
    · have fn : l.find? (qN key hi a) = none := nh fun y hy => by have := hx y hy; simp [qN]; omega
      have f1 : qN key hi a x = false := by simp [qN]; omega
      rw [fn] at ih
      simp only [List.filter_cons, List.find?_cons, f1, fn, ih]
      have f2 : tC key hi a b x = decide (a < key x ∧ key x < b) := by simp only [tC]; rw [decide_eq_decide]; omega
      rw [f2]
      simp
    · by_cases hc : a < hi x
      · have f1 : qN key hi a x = true := by simp [qN]; omega
        have f2 : tC key hi a b x = true := by simp [tC]; omega
        have f3 : decide (a < key x ∧ key x < b) = false := by simp; omega
        have fn : l.find? (qN key hi a) = none := nh fun y hy => by have := hx y hy; simp [qN]; omega
        rw [fn] at ih
        simp [List.filter_cons, List.find?_cons, f1, f2, f3, ih]
        omega
      · have f1 : qN key hi a x = false := by simp [qN]; omega
        have f2 : tC key hi a b x = false := by simp [tC]; omega
        have f3 : decide (a < key x ∧ key x < b) = false := by simp; omega
        simp only [List.filter_cons, List.find?_cons, f1, f2, f3, ih]
        simp
theorem qR {a b : Int} {x : α} : tC key hi a b x = true ↔ a < hi x ∧ key x < b := by simp [tC]
theorem uV (xs : List α) (i : Nat) (y : α) (h : i ≤ xs.length) : xs.insertIdx i y = xs.take i ++ y :: xs.drop i := by
  induction xs generalizing i with
  | nil => have : i = 0 := by simpa using h
           subst this; rfl
  | cons x xs ih =>
    cases i with
    | zero => rfl
    | succ i => simp [ih i (by simpa using h)]
theorem vz {l : List α} (h : ua key hi l) {x : α} (hx : key x < hi x) (hno : l.filter (tC key hi (key x) (hi x)) = []) : ua key hi (l.take (kq key l (key x)) ++ x :: l.drop (kq key l (key x))) := by
  have hno' : ∀ y ∈ l, ¬ (key x < hi y ∧ key y < hi x) := fun y hy hc => by
    have := List.filter_eq_nil_iff.1 hno y hy
    exact this (qR.2 hc)
  obtain ⟨a1, a2⟩ := nk h (key x)
  have hp := h.2
  rw [← List.take_append_drop (kq key l (key x)) l, List.pairwise_append] at hp
  refine ⟨fun y hy => ?_, ?_⟩
  · rcases List.mem_append.1 hy with hy | hy
    · exact h.1 y (List.mem_of_mem_take hy)
    · rcases List.mem_cons.1 hy with rfl | hy
      · exact hx
      · exact h.1 y (List.mem_of_mem_drop hy)
  · rw [List.pairwise_append]
    refine ⟨hp.1, List.pairwise_cons.2 ⟨fun y hy => ?_, hp.2.1⟩, fun y hy z hz => ?_⟩
    · have h1 := a2 y hy
      have h2 := h.1 y (List.mem_of_mem_drop hy)
      have h3 := hno' y (List.mem_of_mem_drop hy)
      omega
    · have h1 := a1 y hy
      have h3 := hno' y (List.mem_of_mem_take hy)
      rcases List.mem_cons.1 hz with rfl | hz
      · omega
      · exact hp.2.2 y hy z hz
end
end Go.Proofs.YtmgpegiekankmaaGreat.E
end
section
set_option linter.unusedVariables false
namespace Go.Proofs.YtmgpegiekankmaaGreat.E
open Go
def qx (y : Int) : Bool := decide (y % 4 = 0 ∧ (y % 100 ≠ 0 ∨ y % 400 = 0))
def tY (y m : Int) : Int := if m = 2 then (if qx y = true then 29 else 28) else if m = 4 ∨ m = 6 ∨ m = 9 ∨ m = 11 then 30 else 31
def Bm (y : Int) : Int := y / 400 * 146097 + 365 * (y % 400) + (y % 400) / 4 - (y % 400) / 100
def Ba (y m : Int) : Int := Bm y + (153 * m + 2) / 5 - 719468
def lJ (k : Int) : Int := Ba (1970 + (k - 2) / 12) ((k - 2) % 12)
theorem uq (y : Int) : Bm (y + 1) = Bm y + 365 + (if qx (y + 1) = true then 1 else 0) := by
  unfold Bm qx
  simp only [decide_eq_true_eq]
  split
  · rename_i h
    omega
  · rename_i h
    omega
theorem px (k : Int) : lJ (k + 1) = lJ k + tY (1970 + k / 12) (k % 12 + 1) := by
  unfold lJ Ba
  have hm : (k - 2) % 12 = 0 ∨ (k - 2) % 12 = 1 ∨ (k - 2) % 12 = 2 ∨ (k - 2) % 12 = 3 ∨ (k - 2) % 12 = 4 ∨ (k - 2) % 12 = 5 ∨ (k - 2) % 12 = 6 ∨ (k - 2) % 12 = 7 ∨ (k - 2) % 12 = 8 ∨ (k - 2) % 12 = 9 ∨ (k - 2) % 12 = 10 ∨ (k - 2) % 12 = 11 := by omega
  rcases hm with h | h | h | h | h | h | h | h | h | h | h | h
  all_goals
    first
      | (have e1 : (k + 1 - 2) % 12 = (k - 2) % 12 + 1 := by omega
         have e2 : (k + 1 - 2) / 12 = (k - 2) / 12 := by omega
         rw [e1, e2, h]
         have e3 : k % 12 = 0 ∨ k % 12 = 2 ∨ k % 12 = 3 ∨ k % 12 = 4 ∨ k % 12 = 5 ∨ k % 12 = 6 ∨ k % 12 = 7 ∨ k % 12 = 8 ∨ k % 12 = 9 ∨ k % 12 = 10 ∨ k % 12 = 11 := by omega
         unfold tY
         split
         · omega
         · split <;> omega)
      | (have e1 : (k + 1 - 2) % 12 = 0 := by omega
         have e2 : (k + 1 - 2) / 12 = (k - 2) / 12 + 1 := by omega
         have e3 : 1970 + ((k - 2) / 12 + 1) = (1970 + (k - 2) / 12) + 1 := by omega
         have e4 : 1970 + k / 12 = (1970 + (k - 2) / 12) + 1 := by omega
         rw [e1, e2, e3, e4, h, uq]
         unfold tY
         have e5 : k % 12 + 1 = 2 := by omega
         rw [if_pos e5]
         split <;> omega)
theorem nW (y m : Int) : 28 ≤ tY y m ∧ tY y m ≤ 31 := by
  unfold tY; split
  · split <;> omega
  · split <;> omega
theorem pi : lJ 0 = 0 := by decide
theorem zY (k : Int) : lJ k + 28 ≤ lJ (k + 1) := by
  have := nW (1970 + k / 12) (k % 12 + 1)
  rw [px]; omega
theorem xv (k : Int) : ∀ n : Nat, lJ k + 28 * n ≤ lJ (k + n)
  | 0 => by simp
  | n + 1 => by
    have h1 := xv k n
    have h2 := zY (k + n)
    have e : k + ((n + 1 : Nat) : Int) = k + n + 1 := by omega
    rw [e]; omega
theorem lK {j k : Int} (h : j ≤ k) : lJ j ≤ lJ k := by
  obtain ⟨n, hn⟩ : ∃ n : Nat, k = j + n := ⟨(k - j).toNat, by omega⟩
  have := xv j n
  rw [hn]; omega
theorem qd {d j k : Int} (h1 : lJ j ≤ d) (h2 : d < lJ (j + 1)) (h3 : lJ k ≤ d) (h4 : d < lJ (k + 1)) : j = k := by
  rcases Int.lt_trichotomy j k with h | h | h
  · have := lK (show j + 1 ≤ k by omega); omega
  · exact h
  · have := lK (show k + 1 ≤ j by omega); omega
theorem xP {n y t c e : Int} (h0 : 0 ≤ n) (h1 : n ≤ 146096) (ht : t = n / 1460) (hc : c = n / 36524) (he : e = n / 146096) (hy : y = (n - t + c - e) / 365) : 0 ≤ y ∧ y ≤ 399 ∧ 365 * y + y / 4 - y / 100 ≤ n := by
  have h2 : c ≤ t := by omega
  have h3 : 365 * y ≤ n - t + c - e := by omega
  have h4 : 0 ≤ y := by omega
  have h5 : y ≤ 399 := by omega
  have h6 : y / 4 ≤ t := by omega
  have h7 : n - t + c - e - 365 * y < 365 := by omega
  have he2 : 0 ≤ e := by omega
  refine ⟨h4, h5, ?_⟩
  have h8 : c ≤ y / 100 + e := by
    have hc4 : c = 0 ∨ c = 1 ∨ c = 2 ∨ c = 3 ∨ c = 4 := by omega
    rcases hc4 with h | h | h | h | h <;> omega
  omega
theorem vj {n y t c e : Int} (h0 : 0 ≤ n) (h1 : n ≤ 146096) (ht : t = n / 1460) (hc : c = n / 36524) (he : e = n / 146096) (hy : y = (n - t + c - e) / 365) (h9 : y < 399) : n < 365 * (y + 1) + (y + 1) / 4 - (y + 1) / 100 := by
  apply Classical.byContradiction
  intro hn
  have hlo := xP h0 h1 ht hc he hy
  obtain ⟨f, hf⟩ : ∃ f, f = (y + 1) / 4 := ⟨_, rfl⟩
  obtain ⟨g, hg⟩ : ∃ g, g = (y + 1) / 100 := ⟨_, rfl⟩
  rw [← hf, ← hg] at hn
  obtain ⟨n0, hn0⟩ : ∃ n0, n0 = 365 * (y + 1) + f - g := ⟨_, rfl⟩
  rw [← hn0] at hn
  have e0 : e = 0 := by omega
  have t0 : n0 / 1460 = f := by omega
  have c0 : g ≤ n0 / 36524 := by omega
  have m1 : n0 - n0 / 1460 ≤ n - t := by omega
  have m2 : n0 / 36524 ≤ c := by omega
  omega
theorem yU {n y : Int} (h0 : 0 ≤ n) (h1 : n ≤ 146096) (hy : y = (n - n / 1460 + n / 36524 - n / 146096) / 365) :
    0 ≤ y ∧ y ≤ 399 ∧ 365 * y + y / 4 - y / 100 ≤ n ∧ (y < 399 → n < 365 * (y + 1) + (y + 1) / 4 - (y + 1) / 100) ∧ n - (365 * y + y / 4 - y / 100) ≤ 365 := by
  obtain ⟨h2, h3, h4⟩ := xP h0 h1 rfl rfl rfl hy
  refine ⟨h2, h3, h4, fun h => vj h0 h1 rfl rfl rfl hy h, ?_⟩
  by_cases h : y < 399
  · have := vj h0 h1 rfl rfl rfl hy h
    clear hy
    omega
  · have : y = 399 := by omega
    clear hy
    subst this
    omega
theorem pd {Y m : Int} (h0 : 0 ≤ m) (h1 : m ≤ 11) : lJ (12 * (Y - 1970) + m + 2) = Ba Y m := by
  unfold lJ
  have e1 : (12 * (Y - 1970) + m + 2 - 2) / 12 = Y - 1970 := by omega
  have e2 : (12 * (Y - 1970) + m + 2 - 2) % 12 = m := by omega
  rw [e1, e2]; congr 1; omega
theorem yu {d q n y p m : Int} (h0 : 0 ≤ d) (hq : q = (d + 719468) / 146097) (hn : n = (d + 719468) % 146097) (hy : y = (n - n / 1460 + n / 36524 - n / 146096) / 365) (hp : p = n - (365 * y + y / 4 - y / 100)) (hm : m = (5 * p + 2) / 153) :
    0 ≤ y ∧ y ≤ 399 ∧ 0 ≤ p ∧ p ≤ 365 ∧ 0 ≤ m ∧ m ≤ 11 ∧ 0 ≤ 12 * (q * 400 + y - 1970) + m + 2 ∧ lJ (12 * (q * 400 + y - 1970) + m + 2) ≤ d ∧ d < lJ (12 * (q * 400 + y - 1970) + m + 2 + 1) := by
  have hn0 : 0 ≤ n := by omega
  have hn1 : n ≤ 146096 := by omega
  have hD : d + 719468 = 146097 * q + n := by omega
  obtain ⟨y0, y1, y2, y3, y4⟩ := yU hn0 hn1 hy
  clear hy
  have p0 : 0 ≤ p := by omega
  have p1 : p ≤ 365 := by omega
  have m0 : 0 ≤ m := by omega
  have m1 : m ≤ 11 := by omega
  have hlow : lJ (12 * (q * 400 + y - 1970) + m + 2) ≤ d := by
    rw [pd m0 m1]
    unfold Ba Bm
    have e1 : (q * 400 + y) / 400 = q := by omega
    have e2 : (q * 400 + y) % 400 = y := by omega
    rw [e1, e2]
    have e3 : (153 * m + 2) / 5 ≤ p := by omega
    omega
  have hhigh : d < lJ (12 * (q * 400 + y - 1970) + m + 2 + 1) := by
    by_cases h : m < 11
    · have e0 : 12 * (q * 400 + y - 1970) + m + 2 + 1 = 12 * (q * 400 + y - 1970) + (m + 1) + 2 := by omega
      rw [e0, pd (by omega) (by omega)]
      unfold Ba Bm
      have e1 : (q * 400 + y) / 400 = q := by omega
      have e2 : (q * 400 + y) % 400 = y := by omega
      rw [e1, e2]
      have e3 : p < (153 * (m + 1) + 2) / 5 := by omega
      omega
    · have e0 : 12 * (q * 400 + y - 1970) + m + 2 + 1 = 12 * (q * 400 + y + 1 - 1970) + 0 + 2 := by omega
      rw [e0, pd (by omega) (by omega)]
      unfold Ba Bm
      by_cases hy9 : y < 399
      · have e1 : (q * 400 + y + 1) / 400 = q := by omega
        have e2 : (q * 400 + y + 1) % 400 = y + 1 := by omega
        rw [e1, e2]
        have := y3 hy9
        omega
      · have e1 : (q * 400 + y + 1) / 400 = q + 1 := by omega
        have e2 : (q * 400 + y + 1) % 400 = 0 := by omega
        rw [e1, e2]
        omega
  refine ⟨y0, y1, p0, p1, m0, m1, ?_, hlow, hhigh⟩
  apply Classical.byContradiction
  intro hk
  have := lK (show 12 * (q * 400 + y - 1970) + m + 2 + 1 ≤ 0 by omega)
  rw [pi] at this
  omega
theorem vo (y : Int) : lJ (12 * (y + 1 - 1970)) = lJ (12 * (y - 1970)) + (if qx y = true then 366 else 365) := by
  have a1 : 12 * (y + 1 - 1970) = 12 * (y - 1970) + 10 + 2 := by omega
  have a2 : 12 * (y - 1970) = 12 * (y - 1 - 1970) + 10 + 2 := by omega
  rw [a1, pd (by omega) (by omega)]
  conv => rhs; rw [a2, pd (by omega) (by omega)]
  unfold Ba
  have := uq (y - 1)
  have e : y - 1 + 1 = y := by omega
  rw [e] at this
  rw [this]
  split <;> omega
end Go.Proofs.YtmgpegiekankmaaGreat.E
end
section
set_option linter.unusedVariables false
set_option linter.unusedSimpArgs false
set_option maxRecDepth 20000
namespace Go.Proofs.YtmgpegiekankmaaGreat.MemCopies
open Go E
theorem ks {a b : Int} (h : 0 ≤ a) : Int.tdiv a b = a / b := Int.tdiv_eq_ediv_of_nonneg h
theorem nH {a b : Int} (h : 0 ≤ a) : Int.tmod a b = a % b := Int.tmod_eq_emod_of_nonneg h
theorem pw {h : Int} (h0 : 0 ≤ h) (h1 : h ≤ 1000000000000) : jM h = h / 24 := by
  unfold jM
  rw [ks h0, bM (by omega)]
theorem oO {d : Int} (h0 : 0 ≤ d) (h1 : d ≤ 1000000) : 0 ≤ fQ d ∧ lJ (fQ d) ≤ d ∧ d < lJ (fQ d + 1) := by
  obtain ⟨D, hD⟩ : ∃ D, D = d + 719468 := ⟨_, rfl⟩
  have e1 : bb (d + 719468) = D := by rw [bM (by omega), hD]
  obtain ⟨q, hq⟩ : ∃ q, q = (d + 719468) / 146097 := ⟨_, rfl⟩
  obtain ⟨n, hn⟩ : ∃ n, n = (d + 719468) % 146097 := ⟨_, rfl⟩
  have e2 : Int.tmod D 146097 = n := by rw [nH (by omega), hn, hD]
  have e2b : bb (Int.tdiv D 146097) = q := by rw [ks (by omega), bM (by omega), hq, hD]
  have n0 : 0 ≤ n ∧ n ≤ 146096 := by omega
  obtain ⟨t, ht⟩ : ∃ t, t = n / 1460 := ⟨_, rfl⟩
  have e3 : bb (Int.tdiv n 1460) = t := by rw [ks (by omega), bM (by omega), ht]
  obtain ⟨c, hc⟩ : ∃ c, c = n / 36524 := ⟨_, rfl⟩
  have e4 : bb (Int.tdiv n 36524) = c := by rw [ks (by omega), bM (by omega), hc]
  obtain ⟨e, he⟩ : ∃ e, e = n / 146096 := ⟨_, rfl⟩
  have e5 : bb (Int.tdiv n 146096) = e := by rw [ks (by omega), bM (by omega), he]
  have e6 : bb (n - t) = n - t := bM (by omega)
  have e7 : bb (n - t + c) = n - t + c := bM (by omega)
  have e8 : bb (n - t + c - e) = n - t + c - e := bM (by omega)
  obtain ⟨y, hy⟩ : ∃ y, y = (n - t + c - e) / 365 := ⟨_, rfl⟩
  have e9 : bb (Int.tdiv (n - t + c - e) 365) = y := by rw [ks (by omega), bM (by omega), hy]
  obtain ⟨p, hp⟩ : ∃ p, p = n - (365 * y + y / 4 - y / 100) := ⟨_, rfl⟩
  obtain ⟨m, hm⟩ : ∃ m, m = (5 * p + 2) / 153 := ⟨_, rfl⟩
  obtain ⟨y0, y1, p0, p1, m0, m1, k0, k1, k2⟩ := yu h0 hq hn (by rw [hy, ht, hc, he]) hp hm
  have q0 : 0 ≤ q ∧ q ≤ 20 := by omega
  have e10 : bb (365 * y) = 365 * y := bM (by omega)
  have e11 : bb (Int.tdiv y 4) = y / 4 := by rw [ks y0, bM (by omega)]
  have e12 : bb (Int.tdiv y 100) = y / 100 := by rw [ks y0, bM (by omega)]
  have e13 : bb (365 * y + y / 4) = 365 * y + y / 4 := bM (by omega)
  have e14 : bb (365 * y + y / 4 - y / 100) = 365 * y + y / 4 - y / 100 := bM (by omega)
  have e15 : bb (n - (365 * y + y / 4 - y / 100)) = p := by rw [bM (by omega), hp]
  have e16 : bb (5 * p) = 5 * p := bM (by omega)
  have e17 : bb (5 * p + 2) = 5 * p + 2 := bM (by omega)
  have e18 : bb (Int.tdiv (5 * p + 2) 153) = m := by rw [ks (by omega), bM (by omega), hm]
  have e20 : bb (q * 400) = q * 400 := bM (by omega)
  have e21 : bb (q * 400 + y) = q * 400 + y := bM (by omega)
  have key : fQ d = 12 * (q * 400 + y - 1970) + m + 2 := by
    unfold fQ lS
    simp only [fp, e1, e2, e2b, e3, e4, e5, e6, e7, e8, e9, e10, e11, e12, e13, e14, e15, e16, e17, e18, e20, e21]
    clear hy hp hm hn hq ht hc he
    split
    · simp only []
      rw [bM (n := m + 3) (by omega), bM (n := q * 400 + y - 1970) (by omega), bM (n := (q * 400 + y - 1970) * 12) (by omega), bM (n := m + 3 - 1) (by omega), bM (by omega)]
      omega
    · simp only []
      rw [bM (n := m - 9) (by omega), bM (n := q * 400 + y + 1) (by omega), bM (n := q * 400 + y + 1 - 1970) (by omega), bM (n := (q * 400 + y + 1 - 1970) * 12) (by omega), bM (n := m - 9 - 1) (by omega), bM (by omega)]
      omega
  rw [key]
  exact ⟨k0, k1, k2⟩
theorem xY {y m : Int} (hy : 1970 ≤ y) (hy2 : y ≤ 10000) (h0 : 1 ≤ m) (h1 : m ≤ 12) : ky y m 1 = lJ (12 * (y - 1970) + m - 1) := by
  have step : ∀ Y M : Int, 1000 ≤ Y → Y ≤ 11000 → 0 ≤ M → M ≤ 11 → bb ((bb ((bb ((bb (Int.tdiv Y 400)) * 146097)) + (bb ((bb ((bb ((bb ((bb ((bb (365 * (Int.tmod Y 400))) + (bb (Int.tdiv (Int.tmod Y 400) 4)))) - (bb (Int.tdiv (Int.tmod Y 400) 100)))) + (bb (Int.tdiv (bb ((bb (153 * M)) + 2)) 5)))) + 1)) - 1)))) - 719468) = Ba Y M := by
    intro Y M a1 a2 a3 a4
    have f1 : bb (Int.tdiv Y 400) = Y / 400 := by rw [ks (by omega), bM (by omega)]
    have f2 : Int.tmod Y 400 = Y % 400 := nH (by omega)
    have f3 : bb (Y / 400 * 146097) = Y / 400 * 146097 := bM (by omega)
    have f4 : bb (365 * (Y % 400)) = 365 * (Y % 400) := bM (by omega)
    have f5 : bb (Int.tdiv (Y % 400) 4) = Y % 400 / 4 := by rw [ks (by omega), bM (by omega)]
    have f6 : bb (Int.tdiv (Y % 400) 100) = Y % 400 / 100 := by rw [ks (by omega), bM (by omega)]
    have f7 : bb (153 * M) = 153 * M := bM (by omega)
    have f8 : bb (153 * M + 2) = 153 * M + 2 := bM (by omega)
    have f9 : bb (Int.tdiv (153 * M + 2) 5) = (153 * M + 2) / 5 := by rw [ks (by omega), bM (by omega)]
    simp only [f1, f2, f3, f4, f5, f6, f7, f8, f9]
    have g1 : bb (365 * (Y % 400) + Y % 400 / 4) = 365 * (Y % 400) + Y % 400 / 4 := bM (by omega)
    have g2 : bb (365 * (Y % 400) + Y % 400 / 4 - Y % 400 / 100) = 365 * (Y % 400) + Y % 400 / 4 - Y % 400 / 100 := bM (by omega)
    have g3 : bb (365 * (Y % 400) + Y % 400 / 4 - Y % 400 / 100 + (153 * M + 2) / 5) = 365 * (Y % 400) + Y % 400 / 4 - Y % 400 / 100 + (153 * M + 2) / 5 := bM (by omega)
    simp only [g1, g2, g3]
    have g4 : bb (365 * (Y % 400) + Y % 400 / 4 - Y % 400 / 100 + (153 * M + 2) / 5 + 1) = 365 * (Y % 400) + Y % 400 / 4 - Y % 400 / 100 + (153 * M + 2) / 5 + 1 := bM (by omega)
    rw [g4, bM (n := 365 * (Y % 400) + Y % 400 / 4 - Y % 400 / 100 + (153 * M + 2) / 5 + 1 - 1) (by omega), bM (n := Y / 400 * 146097 + (365 * (Y % 400) + Y % 400 / 4 - Y % 400 / 100 + (153 * M + 2) / 5 + 1 - 1)) (by omega), bM (by omega)]
    unfold Ba Bm
    omega
  unfold ky
  have m3 : bb (m - 3) = m - 3 := bM (by omega)
  by_cases hm : m - 3 < 0
  · have m4 : bb (m - 3 + 12) = m - 3 + 12 := bM (by omega)
    have y4 : bb (y - 1) = y - 1 := bM (by omega)
    simp only [fp, m3, hm, if_true, m4, y4]
    rw [step (y - 1) (m - 3 + 12) (by omega) (by omega) (by omega) (by omega), ← pd (by omega) (by omega)]
    congr 1; omega
  · simp only [fp, m3, hm, if_false]
    rw [step y (m - 3) (by omega) (by omega) (by omega) (by omega), ← pd (by omega) (by omega)]
    congr 1; omega
theorem uT {k : Int} (h0 : 0 ≤ k) (h1 : k ≤ 40000) : jq k = lJ k := by
  unfold jq
  have e1 : bb (Int.tdiv k 12) = k / 12 := by rw [ks h0, bM (by omega)]
  have e2 : Int.tmod k 12 = k % 12 := nH h0
  rw [e1, e2, bM (n := 1970 + k / 12) (by omega), bM (n := k % 12 + 1) (by omega), xY (by omega) (by omega) (by omega) (by omega)]
  simp only [fp]
  congr 1; omega
theorem uf {k : Int} (h0 : 0 ≤ k) (h1 : k ≤ 30000) : lp k = (lJ k, lJ (k + 1)) := by
  unfold lp
  rw [bM (n := k + 1) (by omega)]
  simp only [fp, uT h0 (by omega), uT (k := k + 1) (by omega) (by omega)]
theorem un : lJ 22967 ≤ 699050 ∧ 699050 < lJ 22968 := by decide
theorem ui : fQ 699050 = 22967 := by
  obtain ⟨h0, h1, h2⟩ := oO (d := 699050) (by omega) (by omega)
  exact qd h1 h2 un.1 un.2
def mT (t : Int) : Int := if t = 1 then 16777216 else if t = 2 then 699050 else if t = 3 then 22967 else -1
theorem uZ (t i : Int) : kx t i = decide (0 ≤ i ∧ i ≤ mT t) := by
  unfold kx ms mT
  simp only [fp]
  by_cases h1 : t = 1
  · subst h1; simp
  · by_cases h2 : t = 2
    · subst h2
      simp [pw (h := 16777216) (by omega) (by omega)]
    · by_cases h3 : t = 3
      · subst h3
        have e : (16777216 : Int) / 24 = 699050 := by decide
        simp [pw (h := 16777216) (by omega) (by omega), e, ui]
      · simp [h1, h2, h3]
        omega
def lB (t i : Int) : Int := if t = 1 then i else if t = 2 then 24 * i else 24 * lJ i
def uh (t i : Int) : Int := lB t (i + 1)
theorem mG {k : Int} (h0 : 0 ≤ k) (h1 : k ≤ 30000) : 0 ≤ lJ k ∧ lJ k ≤ 2000000 := by
  have a := lK h0
  rw [pi] at a
  have b := lK h1
  have c : lJ 30000 ≤ 2000000 := by decide
  omega
theorem uz (t : Int) : mT t ≤ 16777216 := by unfold mT; split <;> (try split) <;> (try split) <;> omega
theorem qT {t i : Int} (h0 : 0 ≤ i) (h1 : i ≤ mT t) : t = 1 ∨ t = 2 ∨ t = 3 := by
  unfold mT at h1
  split at h1
  · omega
  · split at h1
    · omega
    · split at h1 <;> omega
theorem rf {t i : Int} (h0 : 0 ≤ i) (h1 : i ≤ mT t) : ld t i = (lB t i, uh t i) := by
  have hm := uz t
  unfold ld
  have e1 : bb (i + 1) = i + 1 := bM (by omega)
  simp only [fp, uZ, h0, h1, and_self, decide_true, Bool.not_true, Bool.false_eq_true, if_false, e1]
  rcases qT h0 h1 with rfl | rfl | rfl
  · simp [vL, lB, uh]
  · have h1' : i ≤ 699050 := h1
    simp [vL, lB, uh]
    rw [bM (by omega), bM (by omega)]
    constructor <;> omega
  · have h1' : i ≤ 22967 := h1
    have a := mG h0 (by omega)
    have b := mG (k := i + 1) (by omega) (by omega)
    simp [vL, lB, uh, uf h0 (show i ≤ 30000 by omega)]
    rw [bM (by omega), bM (by omega)]
    constructor <;> omega
theorem Az {t i : Int} (h0 : 0 ≤ i) (h1 : i ≤ mT t) : 0 ≤ lB t i ∧ lB t i < uh t i ∧ uh t i ≤ 48000000 := by
  rcases qT h0 h1 with rfl | rfl | rfl
  · have h1' : i ≤ 16777216 := h1
    simp [lB, uh]; omega
  · have h1' : i ≤ 699050 := h1
    simp [lB, uh]; omega
  · have h1' : i ≤ 22967 := h1
    have a := mG h0 (by omega)
    have b := mG (k := i + 1) (by omega) (by omega)
    have c := zY i
    simp [lB, uh]; omega
theorem BZ {t i h : Int} (h0 : 0 ≤ i) (h1 : i ≤ mT t) : mj t i h = decide (lB t i ≤ h ∧ h < uh t i) := by
  unfold mj
  rw [rf h0 h1]
  unfold ms
  by_cases c1 : h < 0
  · simp [fp, c1]
  · by_cases c2 : 16777216 < h
    · simp [fp, c1, c2]
    · rcases qT h0 h1 with rfl | rfl | rfl
      · simp [fp, c1, c2, lB, uh]
        rw [Bool.eq_iff_iff]; simp; omega
      · simp [fp, c1, c2, lB, uh, pw (h := h) (by omega) (by omega)]
        rw [Bool.eq_iff_iff]; simp; omega
      · have h1' : i ≤ 22967 := h1
        obtain ⟨m0, m1, m2⟩ := oO (d := h / 24) (by omega) (by omega)
        simp [fp, c1, c2, lB, uh, pw (h := h) (by omega) (by omega)]
        rw [Bool.eq_iff_iff]; simp
        constructor
        · rintro rfl; omega
        · rintro ⟨a, b⟩; exact qd m1 m2 (by omega) (by omega)
end Go.Proofs.YtmgpegiekankmaaGreat.MemCopies
end
section
set_option linter.unusedVariables false
set_option linter.unusedSimpArgs false
set_option maxRecDepth 20000
namespace Go.Proofs.YtmgpegiekankmaaGreat.MemCopies
open Go E
abbrev Pr := ah
abbrev En := aE
abbrev zP : Pr := aF
def qt (p : aW) : Prop := 0 ≤ p.Index ∧ p.Index ≤ mT p.Tier
def lw (p : aW) : Int := lB p.Tier p.Index
def oI (p : aW) : Int := uh p.Tier p.Index
def kk (x : Pr) : Int := x.k
def hh (x : Pr) : Int := oI x.v.Part
structure nN (l : List Pr) : Prop where
  srt : ua kk hh l
  rt : ∀ x ∈ l, qt x.v.Part
  key : ∀ x ∈ l, x.k = lw x.v.Part
  len : l.length ≤ 100000
theorem tS {p : aW} (h : qt p) : 0 ≤ lw p ∧ lw p < oI p ∧ oI p ≤ 48000000 := Az h.1 h.2
theorem nN.sub {l m : List Pr} (h : nN l) (s : m.Sublist l) : nN m := ⟨h.srt.sub s, fun x hx => h.rt x (s.subset hx), fun x hx => h.key x (s.subset hx), Nat.le_trans s.length_le h.len⟩
theorem nN.nil : nN [] := ⟨ua.nil, by simp, by simp, by simp⟩
theorem ni {l : List Pr} {j : Nat} (hj : j < l.length) : l.getD j zP ∈ l := by
  have e : l.getD j zP = l[j] := by simp [List.getD_eq_getElem?_getD, List.getElem?_eq_getElem hj]
  rw [e]; exact List.getElem_mem hj
theorem tL {l : List Pr} (h : nN l) {i j : Nat} (hij : i < j) (hj : j < l.length) : (l.getD i zP).k < (l.getD j zP).k := by
  have e : l.getD j zP = l[j] := by simp [List.getD_eq_getElem?_getD, List.getElem?_eq_getElem hj]
  have e2 : l.getD i zP = l[i] := by simp [List.getD_eq_getElem?_getD, List.getElem?_eq_getElem (show i < l.length by omega)]
  rw [e, e2]
  have h1 := List.pairwise_iff_getElem.1 h.srt.2 i j (by omega) hj hij
  have h2 := h.srt.1 l[i] (List.getElem_mem (by omega))
  simp only [kk] at h1 h2
  omega
theorem BT {a b : Int} (h0 : 0 ≤ a) (h1 : a ≤ b) (h2 : b ≤ 1000000000) : bb (ln .u64 (ed (bb (a + b))) 1) = (a + b) / 2 := by
  rw [bM (n := a + b) (by omega), kw (by omega)]
  have e : ln .u64 (a + b) 1 = (a + b) / 2 := by
    unfold ln
    have e2 : (2 : Int) ^ min (1 : Int).toNat IntKind.u64.bits = 2 := by decide
    rw [e2, Int.fdiv_eq_ediv_of_nonneg _ (by decide)]
  rw [e, bM (by omega)]
theorem qb {K : Nat} {l : List Pr} (h : nN l) (k : Int) : ∀ (f : Nat) (a b : Int), 0 ≤ a → a ≤ b → b ≤ l.length → a ≤ kq kk l k → (kq kk l k : Int) ≤ b → b - a < f → ib K l k f a b = some (kq kk l k : Int)
  | 0, a, b, h0, h1, h2, h3, h4, h5 => by omega
  | f + 1, a, b, h0, h1, h2, h3, h4, h5 => by
    have hlen := h.len
    unfold ib
    by_cases hab : a < b
    · rw [if_pos hab, BT h0 h1 (by omega)]
      have m0 : 0 ≤ (a + b) / 2 := by omega
      have m1 : (a + b) / 2 < l.length := by omega
      unfold dm
      rw [if_pos m0, if_pos m1]
      have hc := rp h.srt (k := k) (z := zP) (show ((a + b) / 2).toNat < l.length by omega)
      simp only [kk] at hc
      by_cases hk : k ≤ (l.getD ((a + b) / 2).toNat zP).k
      · have : ¬ ((a + b) / 2).toNat < kq kk l k := fun hx => by have := hc.2 hx; omega
        simp only [Option.bind_some, hk, decide_true, Bool.not_true, Bool.false_eq_true, if_false]
        exact qb h k f a ((a + b) / 2) h0 (by omega) (by omega) h3 (by omega) (by omega)
      · have : ((a + b) / 2).toNat < kq kk l k := hc.1 (by omega)
        simp only [Option.bind_some, hk, decide_false, Bool.not_false, if_true]
        rw [bM (by omega)]
        exact qb h k f ((a + b) / 2 + 1) b (by omega) (by omega) h2 (by omega) h4 (by omega)
    · rw [if_neg hab]; congr 1; omega
theorem pC {K : Nat} {l : List Pr} (h : nN l) (k : Int) (hK : 200000 ≤ K) : bN K l k = some (decide (kq kk l k < l.length ∧ (l.getD (kq kk l k) zP).k = k), (kq kk l k : Int)) := by
  have hlen := h.len
  have hc := oP (key := kk) l k
  unfold bN kI
  rw [qb h k K 0 l.length (by omega) (by omega) (by omega) (by omega) (by omega) (by omega)]
  simp only [Option.bind_some]
  by_cases h1 : (kq kk l k : Int) < l.length
  · rw [if_pos h1, if_pos (by omega)]
    have h2 : kq kk l k < l.length := by omega
    simp only [h2, true_and, Int.toNat_natCast]
    congr 2
  · rw [if_neg h1]
    have h2 : ¬ kq kk l k < l.length := by omega
    simp [h2]
def mS : Option En → Int × Int × Int × Int × Int × Bool × Bool
  | none => (0, 0, 0, 0, 0, false, false)
  | some e => (e.Part.Tier, e.Part.Index, e.Seg, e.Mark, e.Rows, e.Cold, true)
def pR (l : List Pr) (n : Int) : Option En := (l.find? (qN kk hh n)).map (·.v)
theorem Bn {K : Nat} {l : List Pr} (h : nN l) (n : Int) (hK : 200000 ≤ K) : eK K l n = some (mS (pR l n)) := by
  have hlen := h.len
  have hc := oP (key := kk) l n
  have fin : ∀ j : Nat, j < l.length → (l.getD j zP).k ≤ n → (∀ i, j < i → i < l.length → n < (l.getD i zP).k) →
      ((if (0 : Int) ≤ j then if (j : Int) < l.length then some ((l.getD (j : Int).toNat zP).k, (l.getD (j : Int).toNat zP).v.Part.Tier, (l.getD (j : Int).toNat zP).v.Part.Index, (l.getD (j : Int).toNat zP).v.Seg, (l.getD (j : Int).toNat zP).v.Mark, (l.getD (j : Int).toNat zP).v.Rows, (l.getD (j : Int).toNat zP).v.Cold, true) else none else none).bind fun x4 => if (!x4.2.2.2.2.2.2.2) = true then some (0, 0, 0, 0, 0, false, false) else kY (mj x4.2.1 x4.2.2.1 n) fun x6 => if (!x6) = true then some (0, 0, 0, 0, 0, false, false) else some (x4.2.1, x4.2.2.1, x4.2.2.2.1, x4.2.2.2.2.1, x4.2.2.2.2.2.1, x4.2.2.2.2.2.2.1, true)) = some (mS (pR l n)) := by
    intro j hj h1 h2
    rw [if_pos (by omega), if_pos (by omega)]
    have hm := ni hj
    have hr := h.rt _ hm
    have hk := h.key _ hm
    simp only [Option.bind_some, Int.toNat_natCast, Bool.not_true, Bool.false_eq_true, if_false, fp]
    rw [BZ hr.1 hr.2]
    unfold pR
    rw [vZ h.srt (z := zP) hj h1 h2]
    have e1 : lB (l.getD j zP).v.Part.Tier (l.getD j zP).v.Part.Index = (l.getD j zP).k := hk.symm
    have e2 : uh (l.getD j zP).v.Part.Tier (l.getD j zP).v.Part.Index = hh (l.getD j zP) := rfl
    rw [e1, e2]
    generalize l.getD j zP = x at *
    by_cases hn : n < hh x
    · have e3 : decide (x.k ≤ n ∧ n < hh x) = true := by simp [h1, hn]
      rw [e3, if_pos hn]
      rfl
    · have e3 : decide (x.k ≤ n ∧ n < hh x) = false := by simp [hn]
      rw [e3, if_neg hn]
      rfl
  unfold eK dt
  rw [pC h n hK]
  simp only [Option.bind_some, fp]
  by_cases his : kq kk l n < l.length ∧ (l.getD (kq kk l n) zP).k = n
  · have e : decide (kq kk l n < l.length ∧ (l.getD (kq kk l n) zP).k = n) = true := by simp only [his.1, his.2, true_and, decide_true]
    simp only [e, Bool.not_true, Bool.false_eq_true, if_false]
    rw [if_neg (by omega)]
    exact fin (kq kk l n) his.1 (by omega) fun i h1 h2 => by have := tL h h1 h2; omega
  · have e : decide (kq kk l n < l.length ∧ (l.getD (kq kk l n) zP).k = n) = false := by simpa using his
    simp only [e, Bool.not_false, if_true]
    rw [bM (by omega)]
    by_cases h0 : kq kk l n = 0
    · rw [if_pos (by omega)]
      simp only [Option.bind_some, Bool.not_false, if_true]
      have : pR l n = none := by
        unfold pR
        rw [nh]
        · rfl
        · intro x hx
          obtain ⟨_, a2⟩ := nk h.srt n
          rw [h0] at a2
          have h1 := a2 x (by simpa using hx)
          have h2 : kk x ≠ n := by
            intro hxn
            obtain ⟨i, hi1, hi2⟩ := List.getElem_of_mem hx
            have e3 : l.getD i zP = x := by simp [List.getD_eq_getElem?_getD, List.getElem?_eq_getElem hi1, hi2]
            have e4 : ¬ 0 < i := fun hi0 => by
              have h5 := tL h hi0 hi1
              have h6 := a2 (l.getD 0 zP) (by simpa using ni (show 0 < l.length by omega))
              rw [e3] at h5
              simp only [kk] at hxn h6
              omega
            have e5 : i = 0 := by omega
            subst e5
            apply his
            rw [h0]
            exact ⟨by omega, by rw [e3]; exact hxn⟩
          simp [qN]; omega
      rw [this]; rfl
    · rw [if_neg (by omega)]
      have e1 : (kq kk l n : Int) - 1 = ((kq kk l n - 1 : Nat) : Int) := by omega
      rw [e1]
      have hlt := (rp h.srt (k := n) (z := zP) (show kq kk l n - 1 < l.length by omega)).2 (by omega)
      refine fin (kq kk l n - 1) (by omega) (by simp only [kk] at hlt; omega) fun i h1 h2 => ?_
      have h3 : ¬ i < kq kk l n := by omega
      have h4 : ¬ kk (l.getD i zP) < n := fun hx => h3 ((rp h.srt (z := zP) h2).1 hx)
      simp only [kk] at h4
      by_cases h5 : i = kq kk l n
      · subst h5
        have : (l.getD (kq kk l n) zP).k ≠ n := fun hx => his ⟨h2, hx⟩
        omega
      · have h6 := tL h (show kq kk l n < i by omega) h2
        have h7 : ¬ kk (l.getD (kq kk l n) zP) < n := fun hx => by
          have := (rp h.srt (z := zP) (show kq kk l n < l.length by omega)).1 hx
          omega
        simp only [kk] at h7
        omega
theorem Bf {K : Nat} {l : List Pr} (h : nN l) {a b : Int} (hab : a < b) (hK : 200000 ≤ K) : cV K l a b = some (l.filter fun x => decide (a ≤ kk x ∧ kk x < b)) := by
  have hc := oP (key := kk) l b
  have hm : kq kk l a ≤ kq kk l b := uw (by omega)
  unfold cV
  rw [pC h a hK, pC h b hK]
  simp only [Option.bind_some, fp]
  have hr := zR h.srt (show a ≤ b by omega)
  by_cases h1 : (kq kk l b : Int) ≤ kq kk l a
  · rw [if_pos h1]
    have : kq kk l b - kq kk l a = 0 := by omega
    rw [this] at hr
    simp at hr
    rw [← nR (l := l) (p := fun x => decide (a ≤ kk x ∧ kk x < b)) (fun x hx => by simpa using hr x hx)]
  · rw [if_neg h1, if_pos (by omega), if_pos (by omega), if_pos (by omega)]
    simp only [Int.toNat_natCast]
    rw [hr]
theorem tp {K : Nat} {γ : Type} {y : Int → aE → γ → Option (γ × Bool)} {l : List Pr} (inv : Nat → γ → Prop) (f : γ → Pr → γ) (hl : l.length ≤ 1000000)
    (hy : ∀ i, i < l.length → ∀ z, inv i z → y (l.getD i zP).k (l.getD i zP).v z = some (f z (l.getD i zP), true) ∧ inv (i + 1) (f z (l.getD i zP))) :
    ∀ (n i : Nat) (z : γ), l.length - i < n → i ≤ l.length → inv i z → cP K γ y l n i z = some ((l.drop i).foldl f z)
  | 0, i, z, h1, h2, h3 => by omega
  | n + 1, i, z, h1, h2, h3 => by
    unfold cP
    by_cases hi : i < l.length
    · rw [if_pos (by omega), if_pos (by omega)]
      simp only [Int.toNat_natCast]
      obtain ⟨h4, h5⟩ := hy i hi z h3
      have h4' : y (l.getD i zP).k (⟨(⟨(l.getD i zP).v.Part.Tier, (l.getD i zP).v.Part.Index⟩ : aW), (l.getD i zP).v.Seg, (l.getD i zP).v.Mark, (l.getD i zP).v.Rows, (l.getD i zP).v.Cold⟩ : aE) z = some (f z (l.getD i zP), true) := h4
      rw [h4']
      simp only [Option.bind_some, Bool.not_true, Bool.false_eq_true, if_false]
      rw [bM (by omega)]
      have e : ((i : Int) + 1) = ((i + 1 : Nat) : Int) := by omega
      rw [e, tp inv f hl hy n (i + 1) _ (by omega) (by omega) h5]
      have e2 : l.getD i zP = l[i] := by simp [List.getD_eq_getElem?_getD, List.getElem?_eq_getElem hi]
      rw [List.drop_eq_getElem_cons hi, List.foldl_cons, e2]
    · rw [if_neg (by omega), List.drop_eq_nil_of_le (by omega)]; rfl
def CB (l : List Pr) (a b : Int) : List En := (l.filter (tC kk hh a b)).map (·.v)
theorem AX {K : Nat} {l : List Pr} (h : nN l) {a b : Int} (hK : 200000 ≤ K) : fI K l a b = some (if a < b then CB l a b else []) := by
  have hlen := h.len
  unfold fI
  by_cases hab : a < b
  · rw [if_neg (by omega), if_pos hab, Bn h a hK]
    simp only [Option.bind_some]
    have e0 : (if (mS (pR l a)).2.2.2.2.2.2 = true then (if (([] : List aE).length + [(⟨(⟨(mS (pR l a)).1, (mS (pR l a)).2.1⟩ : aW), (mS (pR l a)).2.2.1, (mS (pR l a)).2.2.2.1, (mS (pR l a)).2.2.2.2.1, (mS (pR l a)).2.2.2.2.2.1⟩ : aE)].length) * 48 ≤ 140737488355328 then (some ((([] : List aE) ++ [(⟨(⟨(mS (pR l a)).1, (mS (pR l a)).2.1⟩ : aW), (mS (pR l a)).2.2.1, (mS (pR l a)).2.2.2.1, (mS (pR l a)).2.2.2.2.1, (mS (pR l a)).2.2.2.2.2.1⟩ : aE)]))) else none) else (some (([] : List aE)))) = some (pR l a).toList := by
      cases pR l a with
      | none => simp [mS]
      | some e => simp [mS]
    rw [e0]
    simp only [Option.bind_some]
    rw [Bf h hab hK]
    simp only [Option.bind_some]
    have hfl : (l.filter fun x => decide (a ≤ kk x ∧ kk x < b)).length ≤ l.length := List.length_filter_le ..
    have hal : (pR l a).toList.length ≤ 1 := by cases pR l a <;> simp
    unfold dE
    have hloop := tp (K := K) (y := fC K a) (l := l.filter fun x => decide (a ≤ kk x ∧ kk x < b)) (fun i z => z.length ≤ i + 1) (fun z x => if x.k = a then z else z ++ [x.v]) (by omega)
      (fun i hi z hz => by
        unfold fC
        by_cases hk : ((l.filter fun x => decide (a ≤ kk x ∧ kk x < b)).getD i zP).k = a
        · rw [if_pos hk, if_pos hk]; exact ⟨rfl, by omega⟩
        · rw [if_neg hk, if_neg hk, if_pos (by simp; omega)]
          exact ⟨rfl, by simp; omega⟩) K 0 (pR l a).toList (by omega) (by omega) (by omega)
    have e1 : ((0 : Nat) : Int) = 0 := rfl
    rw [e1] at hloop
    rw [hloop]
    simp only [Option.bind_some, List.drop_zero]
    congr 1
    have hf : ∀ (m : List Pr) (z : List En), m.foldl (fun z x => if x.k = a then z else z ++ [x.v]) z = z ++ (m.filter fun x => !decide (x.k = a)).map (·.v) := by
      intro m
      induction m with
      | nil => simp
      | cons x m ih =>
        intro z
        rw [List.foldl_cons, ih]
        by_cases hx : x.k = a <;> simp [hx]
    rw [hf, List.filter_filter]
    unfold CB pR
    rw [wG h.srt hab, List.map_append]
    congr 1
    · cases l.find? (qN kk hh a) <;> rfl
    · congr 1
      apply List.filter_congr
      intro x hx
      show (!decide (x.k = a) && decide (a ≤ x.k ∧ x.k < b)) = decide (a < x.k ∧ x.k < b)
      rw [Bool.eq_iff_iff]
      simp only [Bool.and_eq_true, Bool.not_eq_true', decide_eq_false_iff_not, decide_eq_true_eq]
      omega
  · rw [if_pos (by omega), if_neg hab]
end Go.Proofs.YtmgpegiekankmaaGreat.MemCopies
end
section
set_option linter.unusedVariables false
set_option linter.unusedSimpArgs false
set_option maxRecDepth 20000
namespace Go.Proofs.YtmgpegiekankmaaGreat.MemCopies
open Go E
def AC (e : En) : Prop := qt e.Part ∧ (1 ≤ e.Seg ∧ e.Seg ≤ 4611686018427387904) ∧ (1 ≤ e.Rows ∧ e.Rows ≤ 4611686018427387904) ∧ (0 ≤ e.Mark ∧ e.Mark ≤ 4611686018427387904) ∧ (e.Part.Tier = 3 ∨ e.Cold = false)
instance (p : aW) : Decidable (qt p) := inferInstanceAs (Decidable (_ ∧ _))
instance (e : En) : Decidable (AC e) := inferInstanceAs (Decidable (_ ∧ _))
theorem Cd (a b : Int) : fJ a b = decide (b ≤ a ∧ a ≤ 4611686018427387904) := by
  unfold fJ
  by_cases h : b ≤ a <;> simp [h]
theorem Cj (e : En) : jV e.Part.Tier e.Part.Index e.Seg e.Mark e.Rows e.Cold = decide (AC e) := by
  unfold jV AC qt
  simp only [fp, uZ, Cd]
  rw [Bool.eq_iff_iff]
  by_cases h1 : 0 ≤ e.Part.Index ∧ e.Part.Index ≤ mT e.Part.Tier
  · by_cases h2 : 1 ≤ e.Seg ∧ e.Seg ≤ 4611686018427387904
    · by_cases h3 : 1 ≤ e.Rows ∧ e.Rows ≤ 4611686018427387904
      · by_cases h4 : 0 ≤ e.Mark ∧ e.Mark ≤ 4611686018427387904
        · by_cases h5 : e.Part.Tier = 3
          · simp [h1, h2, h3, h4, h5]
          · simp [h1, h2, h3, h4, h5]
        · simp [h1, h2, h3, h4]
      · simp [h1, h2, h3]
    · simp [h1, h2]
  · simp [h1]
def Bs (l : List Pr) (e : En) : List Pr := l.take (kq kk l (lw e.Part)) ++ (⟨lw e.Part, e⟩ : Pr) :: l.drop (kq kk l (lw e.Part))
def pB (l : List Pr) (e : En) : Int × List Pr := if AC e then (if l.filter (tC kk hh (lw e.Part) (oI e.Part)) = [] then (0, Bs l e) else (12, l)) else (4, l)
theorem xp (l : List Pr) (e : En) : (Bs l e).length = l.length + 1 := by
  have := oP (key := kk) l (lw e.Part)
  simp [Bs]; omega
theorem A5 {l : List Pr} (h : nN l) {e : En} (he : AC e) (hno : l.filter (tC kk hh (lw e.Part) (oI e.Part)) = []) (hl : l.length ≤ 99999) : nN (Bs l e) := by
  have hm : ∀ x ∈ Bs l e, x = ⟨lw e.Part, e⟩ ∨ x ∈ l := by
    intro x hx
    unfold Bs at hx
    rcases List.mem_append.1 hx with hx | hx
    · exact .inr (List.mem_of_mem_take hx)
    · rcases List.mem_cons.1 hx with hx | hx
      · exact .inl hx
      · exact .inr (List.mem_of_mem_drop hx)
  refine ⟨vz h.srt (x := (⟨lw e.Part, e⟩ : Pr)) (tS he.1).2.1 hno, fun x hx => ?_, fun x hx => ?_, by rw [xp]; omega⟩
  · rcases hm x hx with rfl | hx
    · exact he.1
    · exact h.rt x hx
  · rcases hm x hx with rfl | hx
    · rfl
    · exact h.key x hx
theorem BN {K : Nat} {l : List Pr} (h : nN l) (hl : l.length ≤ 99999) (e : En) (hK : 200000 ≤ K) : fY K l e.Part.Tier e.Part.Index e.Seg e.Mark e.Rows e.Cold = some (pB l e) := by
  unfold fY pB
  rw [Cj]
  simp only [fp]
  by_cases he : AC e
  · have hlt := tS he.1
    simp only [he, decide_true, Bool.not_true, Bool.false_eq_true, if_false, if_true]
    rw [rf he.1.1 he.1.2]
    have e1 : lB e.Part.Tier e.Part.Index = lw e.Part := rfl
    have e2 : uh e.Part.Tier e.Part.Index = oI e.Part := rfl
    simp only [e1, e2]
    rw [AX h hK, if_pos hlt.2.1]
    simp only [Option.bind_some]
    unfold CB
    by_cases hno : l.filter (tC kk hh (lw e.Part) (oI e.Part)) = []
    · rw [hno]
      simp only [List.map_nil, List.length_nil, if_true]
      rw [if_neg (by omega)]
      unfold dG
      rw [pC h _ hK]
      have hn : decide (kq kk l (lw e.Part) < l.length ∧ (l.getD (kq kk l (lw e.Part)) zP).k = lw e.Part) = false := by
        simp only [decide_eq_false_iff_not]
        rintro ⟨h1, h2⟩
        have hm := ni h1
        have := List.filter_eq_nil_iff.1 hno _ hm
        apply this
        have h3 := h.srt.1 _ hm
        simp only [kk] at h3
        rw [qR]
        simp only [kk]
        omega
      rw [hn]
      simp only [Option.bind_some, Bool.false_eq_true, if_false]
      have hc := oP (key := kk) l (lw e.Part)
      have hi : bx l (kq kk l (lw e.Part) : Int) [(⟨lw e.Part, e⟩ : Pr)] = some (Bs l e) := by
        unfold bx AU
        simp only []
        rw [if_pos ⟨by omega, by omega, by omega⟩, Int.toNat_natCast, uV _ _ _ hc]
        rfl
      show ((bx l (kq kk l (lw e.Part) : Int) [(⟨lw e.Part, e⟩ : Pr)]).bind _).bind _ = _
      rw [hi]
      rfl
    · rw [if_neg hno, if_pos]
      have : (l.filter (tC kk hh (lw e.Part) (oI e.Part))).length ≠ 0 := fun h0 => hno (List.eq_nil_of_length_eq_zero h0)
      simp only [List.length_map]
      omega
  · simp only [he, decide_false, Bool.not_false, if_true, if_false]
def jp : List Pr → List En → Int × List Pr
  | l, [] => (0, l)
  | l, e :: es => if (pB l e).1 = 0 then jp (pB l e).2 es else ((pB l e).1, l)
theorem rn {l : List Pr} (h : nN l) (hl : l.length ≤ 99999) (e : En) : nN (pB l e).2 ∧ (pB l e).2.length ≤ l.length + 1 := by
  unfold pB
  split
  · rename_i he
    split
    · rename_i hno
      exact ⟨A5 h he hno hl, by simp [xp]⟩
    · exact ⟨h, by simp⟩
  · exact ⟨h, by simp⟩
theorem rW : ∀ {es : List En} {l : List Pr}, nN l → l.length + es.length ≤ 99999 → nN (jp l es).2 ∧ (jp l es).2.length ≤ l.length + es.length
  | [], l, h, hl => ⟨h, by simp [jp]⟩
  | e :: es, l, h, hl => by
    simp only [List.length_cons] at hl
    obtain ⟨h1, h2⟩ := rn h (by omega) e
    unfold jp
    split
    · obtain ⟨h3, h4⟩ := rW (es := es) h1 (by omega)
      exact ⟨h3, by simp; omega⟩
    · exact ⟨h, by simp⟩
theorem Cm {l : List En} {i : Nat} (hi : i < l.length) : l.getD i bn = l[i] := by simp [List.getD_eq_getElem?_getD, List.getElem?_eq_getElem hi]
theorem oz {K : Nat} (es : List En) (hes : es.length ≤ 10000) (hK : 200000 ≤ K) : ∀ (f i : Nat) (l : List Pr), nN l → l.length + (es.length - i) ≤ 99999 → i ≤ es.length → es.length - i < f →
    dK K es f i l = some (if (jp l (es.drop i)).1 = 0 then Sum.inl (jp l (es.drop i)).2 else Sum.inr ((jp l (es.drop i)).1, []))
  | 0, i, l, h, h1, h2, h3 => by omega
  | f + 1, i, l, h, h1, h2, h3 => by
    unfold dK
    by_cases hi : i < es.length
    · rw [if_pos (by omega), if_pos (by omega)]
      simp only [Int.toNat_natCast]
      rw [BN h (by omega) (es.getD i bn) hK]
      simp only [Option.bind_some]
      rw [List.drop_eq_getElem_cons hi, Cm hi]
      unfold jp
      by_cases h0 : (pB l es[i]).1 = 0
      · obtain ⟨c1, c2⟩ := rn h (by omega) es[i]
        rw [if_neg (by simp [h0]), if_pos h0, bM (by omega)]
        have e : ((i : Int) + 1) = ((i + 1 : Nat) : Int) := by omega
        rw [e]
        exact oz es hes hK f (i + 1) _ c1 (by omega) (by omega) (by omega)
      · rw [if_pos h0, if_neg h0, if_neg h0]
    · rw [if_neg (by omega), List.drop_eq_nil_of_le (by omega)]
      simp [jp]
theorem B7 {K : Nat} (hK : 200000 ≤ K) : gD K = some [] := by
  obtain ⟨k, rfl⟩ : ∃ k, K = k + 1 := ⟨K - 1, by omega⟩
  rfl
theorem vi {K : Nat} (es : List En) (hes : es.length ≤ 10000) (hK : 200000 ≤ K) : ∃ r, eF K es = some r ∧ r.1 = (jp [] es).1 ∧ (r.1 = 0 → r.2 = (jp [] es).2) := by
  unfold eF
  have hl0 : fP K K = some () := by
    obtain ⟨k, rfl⟩ : ∃ k, K = k + 1 := ⟨K - 1, by omega⟩
    rfl
  rw [B7 hK]
  simp only [Option.bind_some]
  rw [hl0]
  have hp := oz (K := K) es hes hK K 0 [] nN.nil (by simp; omega) (by omega) (by omega)
  have e1 : ((0 : Nat) : Int) = 0 := rfl
  rw [e1] at hp
  simp only [Option.bind_some]
  rw [hp, List.drop_zero]
  simp only [Option.bind_some]
  by_cases h0 : (jp [] es).1 = 0
  · rw [if_pos h0]; exact ⟨_, rfl, h0.symm, fun _ => rfl⟩
  · rw [if_neg h0]; exact ⟨_, rfl, rfl, fun h => absurd h h0⟩
end Go.Proofs.YtmgpegiekankmaaGreat.MemCopies
end
section
set_option linter.unusedVariables false
set_option linter.unusedSimpArgs false
set_option maxRecDepth 20000
namespace Go.Proofs.YtmgpegiekankmaaGreat.MemCopies
open Go E
theorem xB {y : Int} (h : 0 ≤ y) : gd y = qx y := by
  unfold gd qx
  rw [nH h, nH h, nH h]
  by_cases h1 : y % 4 = 0
  · by_cases h2 : y % 100 = 0
    · simp [h1, h2]
      rw [Bool.eq_iff_iff]; simp
    · simp [h1, h2]
  · simp [h1]
theorem xz {y : Int} (h : 0 ≤ y) : eM y = if qx y = true then 366 else 365 := by
  unfold eM
  simp only [fp, xB h]
theorem length_eq {y m : Int} (h : 0 ≤ y) (h1 : 1 ≤ m) (h2 : m ≤ 12) : cL y m = tY y m := by
  unfold cL tY
  simp only [fp, xB h]
  have hm : m = 1 ∨ m = 2 ∨ m = 3 ∨ m = 4 ∨ m = 5 ∨ m = 6 ∨ m = 7 ∨ m = 8 ∨ m = 9 ∨ m = 10 ∨ m = 11 ∨ m = 12 := by omega
  rcases hm with rfl | rfl | rfl | rfl | rfl | rfl | rfl | rfl | rfl | rfl | rfl | rfl <;> simp
theorem od {k : Int} (h0 : 0 ≤ k) (h1 : k ≤ 37000) : 0 ≤ lJ k ∧ lJ k ≤ 2000000 := by
  have a := lK h0
  rw [pi] at a
  have b := lK h1
  have c : lJ 37000 ≤ 2000000 := by decide
  omega
theorem tu {K : Nat} {a : Int} (ha : a ≤ 4901) : ∀ (f : Nat) (n y : Int), 1970 ≤ y → y ≤ a → n = lJ (12 * (y - 1970)) → a - y < f → fE K a f n y = some (lJ (12 * (a - 1970)))
  | 0, n, y, h0, h1, h2, h3 => by omega
  | f + 1, n, y, h0, h1, h2, h3 => by
    unfold fE
    by_cases hy : y < a
    · rw [if_pos hy]
      have b := od (k := 12 * (y - 1970)) (by omega) (by omega)
      simp only [fp, xz (show 0 ≤ y by omega)]
      have e := vo y
      rw [bM (n := y + 1) (by omega), bM (by split <;> omega)]
      exact tu ha f _ (y + 1) (by omega) (by omega) (by rw [h2, e]) (by omega)
    · rw [if_neg hy]
      have : y = a := by omega
      rw [h2, this]
theorem ta {K : Nat} {y a : Int} (hy : 1970 ≤ y) (hy2 : y ≤ 4901) (ha : a ≤ 12) : ∀ (f : Nat) (n m : Int), 1 ≤ m → m ≤ a → n = lJ (12 * (y - 1970) + m - 1) → a - m < f → fH K y a f n m = some (lJ (12 * (y - 1970) + a - 1))
  | 0, n, m, h0, h1, h2, h3 => by omega
  | f + 1, n, m, h0, h1, h2, h3 => by
    unfold fH
    by_cases hm : m < a
    · rw [if_pos hm]
      have b := od (k := 12 * (y - 1970) + m - 1) (by omega) (by omega)
      simp only [fp, length_eq (show 0 ≤ y by omega) h0 (by omega)]
      have c := nW y m
      have e := px (12 * (y - 1970) + m - 1)
      have e1 : 1970 + (12 * (y - 1970) + m - 1) / 12 = y := by omega
      have e2 : (12 * (y - 1970) + m - 1) % 12 + 1 = m := by omega
      rw [e1, e2] at e
      rw [bM (n := m + 1) (by omega), bM (by omega)]
      refine ta hy hy2 ha f _ (m + 1) (by omega) (by omega) ?_ (by omega)
      rw [h2, ← e]; congr 1; omega
    · rw [if_neg hm]
      have : m = a := by omega
      rw [h2, this]
theorem tV {K : Nat} {y m : Int} (hK : 200000 ≤ K) (h0 : 1970 ≤ y) (h1 : y ≤ 4900) (h2 : 1 ≤ m) (h3 : m ≤ 12) : gM K y m 1 = some (lJ (12 * (y - 1970) + m - 1), true) := by
  unfold gM
  have c := nW y m
  rw [if_neg (by omega), if_neg (by omega), if_neg (by omega)]
  simp only [fp, length_eq (show 0 ≤ y by omega) h2 h3]
  rw [if_neg (by omega), tu (by omega) K 0 1970 (by omega) h0 (by decide) (by omega)]
  simp only [Option.bind_some]
  rw [ta h0 (by omega) h3 K _ 1 (by omega) h2 (by congr 1; omega) (by omega)]
  have b := od (k := 12 * (y - 1970) + m - 1) (by omega) (by omega)
  simp only [Option.bind_some]
  rw [bM (n := lJ (12 * (y - 1970) + m - 1) + 1) (by omega), bM (by omega)]
  congr 2; omega
theorem uA {K : Nat} {k : Int} (hK : 200000 ≤ K) (h0 : 0 ≤ k) (h1 : k ≤ 30000) : iw K k = some (lJ k, lJ (k + 1)) := by
  unfold iw
  have e1 : bb (Int.tdiv k 12) = k / 12 := by rw [ks h0, bM (by omega)]
  have e2 : Int.tmod k 12 = k % 12 := nH h0
  rw [e1, e2, bM (n := 1970 + k / 12) (by omega), bM (n := k % 12 + 1) (by omega), tV hK (by omega) (by omega) (by omega) (by omega)]
  have e3 : 12 * (1970 + k / 12 - 1970) + (k % 12 + 1) - 1 = k := by omega
  have b := od h0 (show k ≤ 37000 by omega)
  have c := nW (1970 + k / 12) (k % 12 + 1)
  simp only [Option.bind_some, fp, length_eq (show 0 ≤ 1970 + k / 12 by omega) (show 1 ≤ k % 12 + 1 by omega) (by omega), e3]
  rw [bM (by omega), px]
theorem xl {K : Nat} {d : Int} (hd : d ≤ 1000000) : ∀ (f : Nat) (r y : Int), 1970 ≤ y → r = d - lJ (12 * (y - 1970)) → 0 ≤ r → 5000 - y < f →
    ∃ Y, gq K f r y = some (d - lJ (12 * (Y - 1970)), Y) ∧ 1970 ≤ Y ∧ Y < 5000 ∧ lJ (12 * (Y - 1970)) ≤ d ∧ d < lJ (12 * (Y + 1 - 1970))
  | 0, r, y, h0, h1, h2, h3 => by
    have a := lK (show 36360 ≤ 12 * (y - 1970) by omega)
    have b : (1000000 : Int) < lJ 36360 := by decide
    omega
  | f + 1, r, y, h0, h1, h2, h3 => by
    have hy : y < 5000 := by
      apply Classical.byContradiction
      intro hc
      have a := lK (show 36360 ≤ 12 * (y - 1970) by omega)
      have b : (1000000 : Int) < lJ 36360 := by decide
      omega
    unfold gq
    simp only [fp, xz (show 0 ≤ y by omega)]
    have e := vo y
    have b := od (k := 12 * (y - 1970)) (by omega) (by omega)
    by_cases hc : (if qx y = true then 366 else 365) ≤ r
    · rw [if_pos hc, if_pos hy, bM (n := y + 1) (by omega), bM (by split <;> omega)]
      exact xl hd f _ (y + 1) (by omega) (by rw [e]; omega) (by omega) (by omega)
    · rw [if_neg hc]
      exact ⟨y, by rw [h1], h0, hy, by omega, by rw [e]; omega⟩
theorem xI {K : Nat} {d y z : Int} (hd : d ≤ 1000000) (hy : 1970 ≤ y) (hy2 : y < 5000) (hd2 : d < lJ (12 * (y + 1 - 1970))) : ∀ (f : Nat) (r m : Int), 1 ≤ m → m ≤ 12 → r = d - lJ (12 * (y - 1970) + m - 1) → 0 ≤ r → 12 - m < f →
    ∃ M, gt K (z, y) f r m = some (d - lJ (12 * (y - 1970) + M - 1), M) ∧ 1 ≤ M ∧ M ≤ 12 ∧ lJ (12 * (y - 1970) + M - 1) ≤ d ∧ d < lJ (12 * (y - 1970) + M)
  | 0, r, m, h0, h1, h2, h3, h4 => by omega
  | f + 1, r, m, h0, h1, h2, h3, h4 => by
    unfold gt
    simp only []
    have b := od (k := 12 * (y - 1970) + m - 1) (by omega) (by omega)
    by_cases hm : m < 12
    · rw [if_pos hm]
      simp only [fp, length_eq (show 0 ≤ y by omega) h0 (by omega)]
      have c := nW y m
      have e := px (12 * (y - 1970) + m - 1)
      have e1 : 1970 + (12 * (y - 1970) + m - 1) / 12 = y := by omega
      have e2 : (12 * (y - 1970) + m - 1) % 12 + 1 = m := by omega
      have e3 : 12 * (y - 1970) + m - 1 + 1 = 12 * (y - 1970) + m := by omega
      rw [e1, e2, e3] at e
      by_cases hc : tY y m ≤ r
      · rw [if_pos hc, bM (n := m + 1) (by omega), bM (by omega)]
        refine xI hd hy hy2 hd2 f _ (m + 1) (by omega) (by omega) ?_ (by omega) (by omega)
        have e4 : 12 * (y - 1970) + (m + 1) - 1 = 12 * (y - 1970) + m := by omega
        rw [e4, e]; omega
      · rw [if_neg hc]
        exact ⟨m, by rw [h2], h0, h1, by omega, by rw [e]; omega⟩
    · rw [if_neg hm]
      have e : m = 12 := by omega
      subst e
      refine ⟨12, by rw [h2], by omega, by omega, by omega, ?_⟩
      have e4 : 12 * (y - 1970) + 12 = 12 * (y + 1 - 1970) := by omega
      rw [e4]; exact hd2
theorem sj {K : Nat} {d : Int} (hK : 200000 ≤ K) (h0 : 0 ≤ d) (h1 : d ≤ 1000000) : gp K d = some (fQ d) := by
  unfold gp jg
  obtain ⟨Y, e1, y1, y2, y3, y4⟩ := xl (K := K) h1 K d 1970 (by omega) (by rw [show (12 : Int) * (1970 - 1970) = 0 by decide, pi]; omega) h0 (by omega)
  rw [e1]
  simp only [Option.bind_some]
  obtain ⟨M, e2, m1, m2, m3, m4⟩ := xI (K := K) (z := d - lJ (12 * (Y - 1970))) h1 y1 y2 y4 K (d - lJ (12 * (Y - 1970))) 1 (by omega) (by omega) (by congr 2; omega) (by omega) (by omega)
  rw [e2]
  simp only [Option.bind_some]
  obtain ⟨a0, a1, a2⟩ := oO h0 h1
  have e3 : fQ d = 12 * (Y - 1970) + M - 1 := qd a1 a2 m3 (by rw [show 12 * (Y - 1970) + M - 1 + 1 = 12 * (Y - 1970) + M by omega]; exact m4)
  rw [e3, bM (n := Y - 1970) (by omega), bM (n := (Y - 1970) * 12) (by omega), bM (n := (Y - 1970) * 12 + M) (by omega), bM (by omega)]
  congr 1; omega
theorem AB {K : Nat} (t : Int) (hK : 200000 ≤ K) : io K t = some (mT t) := by
  unfold io mT
  by_cases h1 : t = 1
  · simp [h1]
  · by_cases h2 : t = 2
    · simp [h2]
    · by_cases h3 : t = 3
      · subst h3
        simp [sj hK (show (0 : Int) ≤ 699050 by omega) (by omega), ui]
      · simp [h1, h2, h3]
theorem lG {K : Nat} (t i : Int) (hK : 200000 ≤ K) : cE K t i = some (decide (qt ⟨t, i⟩)) := by
  unfold cE qt
  by_cases h : 0 ≤ i
  · simp [h, AB t hK]
  · simp [h]
theorem lk {K : Nat} {t i : Int} (hK : 200000 ≤ K) (h : qt ⟨t, i⟩) : df K t i = some (lw ⟨t, i⟩, oI ⟨t, i⟩) := by
  have hm := uz t
  have h0 : 0 ≤ i := h.1
  have h1 : i ≤ mT t := h.2
  unfold df
  rw [lG t i hK]
  simp only [Option.bind_some, h, decide_true, Bool.not_true, Bool.false_eq_true, if_false]
  rcases qT h0 h1 with rfl | rfl | rfl
  · simp [lw, oI, lB, uh]
    rw [bM (by omega)]
  · have h1' : i ≤ 699050 := h1
    simp [lw, oI, lB, uh]
    rw [bM (n := 24 * i) (by omega), bM (n := i + 1) (by omega), bM (by omega)]
    simp
  · have h1' : i ≤ 22967 := h1
    have a := mG h0 (by omega)
    have b := mG (k := i + 1) (by omega) (by omega)
    simp [lw, oI, lB, uh, uA hK h0 (show i ≤ 30000 by omega)]
    rw [bM (n := 24 * lJ i) (by omega), bM (by omega)]
    simp
theorem qH {K : Nat} {p q : aW} (hK : 200000 ≤ K) (hp : qt p) (hq : qt q) : hN K p.Tier p.Index q.Tier q.Index = some (decide (lw p < oI q ∧ lw q < oI p)) := by
  unfold hN
  rw [lk hK (show qt ⟨p.Tier, p.Index⟩ from hp), lk hK (show qt ⟨q.Tier, q.Index⟩ from hq), lG _ _ hK, lG _ _ hK]
  have e1 : decide (qt ⟨p.Tier, p.Index⟩) = true := decide_eq_true hp
  have e2 : decide (qt ⟨q.Tier, q.Index⟩) = true := decide_eq_true hq
  rw [e1, e2]
  simp only [Option.bind_some, if_true]
  by_cases h : lw ⟨p.Tier, p.Index⟩ < oI ⟨q.Tier, q.Index⟩
  · simp [h]
  · simp [h]
theorem rE {K : Nat} {p q : aW} (hK : 200000 ≤ K) (hp : qt p) (hq : qt q) : iq K p.Tier p.Index q.Tier q.Index = some (decide (lw p < lw q ∨ lw p = lw q ∧ p.Tier < q.Tier)) := by
  unfold iq
  rw [lk hK (show qt ⟨p.Tier, p.Index⟩ from hp), lk hK (show qt ⟨q.Tier, q.Index⟩ from hq), lG _ _ hK, lG _ _ hK]
  have e1 : decide (qt ⟨p.Tier, p.Index⟩) = true := decide_eq_true hp
  have e2 : decide (qt ⟨q.Tier, q.Index⟩) = true := decide_eq_true hq
  rw [e1, e2]
  simp only [Option.bind_some, if_true]
  by_cases h : lw ⟨p.Tier, p.Index⟩ < lw ⟨q.Tier, q.Index⟩
  · simp [h]
  · by_cases h2 : lw ⟨p.Tier, p.Index⟩ = lw ⟨q.Tier, q.Index⟩
    · simp [h2]
    · simp [h, h2]
theorem Aw (a b c : Int) : fL a b c = decide (b ≤ a ∧ a ≤ c) := by
  unfold fL
  by_cases h : b ≤ a <;> simp [h]
theorem zy {K : Nat} (e : En) (hK : 200000 ≤ K) : hO K e.Part.Tier e.Part.Index e.Seg e.Mark e.Rows e.Cold = some (decide (AC e)) := by
  unfold hO
  rw [lG _ _ hK]
  have e0 : decide (qt ⟨e.Part.Tier, e.Part.Index⟩) = decide (qt e.Part) := rfl
  rw [e0]
  unfold AC
  simp only [fp, Aw, Option.bind_some]
  by_cases h1 : qt e.Part
  · by_cases h2 : 1 ≤ e.Seg ∧ e.Seg ≤ 4611686018427387904
    · by_cases h3 : 1 ≤ e.Rows ∧ e.Rows ≤ 4611686018427387904
      · by_cases h4 : 0 ≤ e.Mark ∧ e.Mark ≤ 4611686018427387904
        · by_cases h5 : e.Cold = true
          · simp [h1, h2, h3, h4, h5]
            rw [Bool.eq_iff_iff]; simp
          · simp [h1, h2, h3, h4, h5]
        · simp [h1, h2, h3, h4]
      · simp [h1, h2, h3]
    · simp [h1, h2]
  · simp [h1]
theorem tW {l : List Pr} {i : Nat} (hi : i < l.length) : (l.map (·.v)).getD i bn = (l.getD i zP).v := by
  simp [List.getD_eq_getElem?_getD, List.getElem?_eq_getElem hi]
theorem mY {K : Nat} {l : List Pr} (h : nN l) {e : En} (he : qt e.Part) (hK : 200000 ≤ K) : ∀ (f i : Nat) (k : Int), (∃ j, i ≤ j ∧ j < l.length ∧ tC kk hh (lw e.Part) (oI e.Part) (l.getD j zP) = true) → l.length - i < f →
    dI K (l.map (·.v)) e.Part.Tier e.Part.Index f k i = some (Sum.inr (12, []))
  | 0, i, k, hj, hf => by omega
  | f + 1, i, k, ⟨j, h1, h2, h3⟩, hf => by
    have hlen := h.len
    have hi : i < l.length := by omega
    unfold dI
    rw [if_pos (by simp; omega), if_pos (by omega)]
    simp only [Int.toNat_natCast]
    rw [tW hi]
    have hm := ni hi
    rw [qH hK (h.rt _ hm) he]
    simp only [Option.bind_some]
    have hk := h.key _ hm
    by_cases hc : lw (l.getD i zP).v.Part < oI e.Part ∧ lw e.Part < oI (l.getD i zP).v.Part
    · rw [if_pos (decide_eq_true hc)]
    · have e0 : decide (lw (l.getD i zP).v.Part < oI e.Part ∧ lw e.Part < oI (l.getD i zP).v.Part) = false := decide_eq_false hc
      rw [e0]
      simp only [Bool.false_eq_true, if_false]
      have hij : i ≠ j := by
        rintro rfl
        rw [qR] at h3
        apply hc
        rw [← hk]
        exact ⟨h3.2, h3.1⟩
      rw [rE hK (h.rt _ hm) he]
      simp only [Option.bind_some]
      rw [bM (by omega)]
      have e1 : ((i : Int) + 1) = ((i + 1 : Nat) : Int) := by omega
      rw [e1]
      split
      · exact mY h he hK f (i + 1) _ ⟨j, by omega, h2, h3⟩ (by omega)
      · exact mY h he hK f (i + 1) _ ⟨j, by omega, h2, h3⟩ (by omega)
theorem nr {K : Nat} {l : List Pr} (h : nN l) {e : En} (he : qt e.Part) (hK : 200000 ≤ K) (hno : l.filter (tC kk hh (lw e.Part) (oI e.Part)) = []) : ∀ (f i : Nat) (k : Int), i ≤ l.length → k = ((min i (kq kk l (lw e.Part)) : Nat) : Int) → l.length - i < f →
    dI K (l.map (·.v)) e.Part.Tier e.Part.Index f k i = some (Sum.inl (kq kk l (lw e.Part) : Int))
  | 0, i, k, hi0, hk0, hf => by omega
  | f + 1, i, k, hi0, hk0, hf => by
    have hlen := h.len
    have hcl := oP (key := kk) l (lw e.Part)
    unfold dI
    by_cases hi : i < l.length
    · rw [if_pos (by simp; omega), if_pos (by omega)]
      simp only [Int.toNat_natCast]
      rw [tW hi]
      have hm := ni hi
      have hk := h.key _ hm
      rw [qH hK (h.rt _ hm) he]
      simp only [Option.bind_some]
      have hc : ¬ (lw (l.getD i zP).v.Part < oI e.Part ∧ lw e.Part < oI (l.getD i zP).v.Part) := by
        intro hc
        have := List.filter_eq_nil_iff.1 hno _ hm
        apply this
        rw [qR]
        refine ⟨hc.2, ?_⟩
        show (l.getD i zP).k < _
        rw [hk]; exact hc.1
      have e0 : decide (lw (l.getD i zP).v.Part < oI e.Part ∧ lw e.Part < oI (l.getD i zP).v.Part) = false := decide_eq_false hc
      rw [e0]
      simp only [Bool.false_eq_true, if_false]
      rw [rE hK (h.rt _ hm) he]
      simp only [Option.bind_some]
      rw [bM (by omega)]
      have e1 : ((i : Int) + 1) = ((i + 1 : Nat) : Int) := by omega
      rw [e1]
      have hl1 := tS he
      have hl2 := tS (h.rt _ hm)
      have hcl2 := rp h.srt (k := lw e.Part) (z := zP) hi
      simp only [kk] at hcl2
      rw [hk] at hcl2
      by_cases hls : lw (l.getD i zP).v.Part < lw e.Part
      · rw [if_pos (by simp; exact .inl hls)]
        exact nr h he hK hno f (i + 1) _ (by omega) (by have := hcl2.1 hls; omega) (by omega)
      · have : ¬ i < kq kk l (lw e.Part) := fun hx => hls (hcl2.2 hx)
        rw [if_neg (by simp only [decide_eq_true_eq]; omega)]
        exact nr h he hK hno f (i + 1) _ (by omega) (by omega) (by omega)
    · rw [if_neg (by simp; omega)]
      congr 2
      omega
theorem vv {K : Nat} {l : List Pr} (h : nN l) (hl : l.length ≤ 99999) (e : En) (hK : 200000 ≤ K) :
    gY K (l.map (·.v)) e.Part.Tier e.Part.Index e.Seg e.Mark e.Rows e.Cold = some ((pB l e).1, if (pB l e).1 = 0 then (pB l e).2.map (·.v) else []) := by
  unfold gY pB
  rw [zy e hK]
  simp only [Option.bind_some]
  by_cases he : AC e
  · simp only [he, decide_true, Bool.not_true, Bool.false_eq_true, if_false, if_true]
    by_cases hno : l.filter (tC kk hh (lw e.Part) (oI e.Part)) = []
    · have hcl := oP (key := kk) l (lw e.Part)
      have hp := nr h he.1 hK hno K 0 0 (by omega) (by simp) (by have := h.len; omega)
      have e0 : ((0 : Nat) : Int) = 0 := rfl
      rw [e0] at hp
      rw [hp, if_pos hno]
      simp only [Option.bind_some, vL]
      rw [if_pos (by omega), if_pos (by simp; omega)]
      simp only [Int.toNat_natCast]
      rw [if_pos (by simp; omega), if_pos (by simp; omega), if_pos (by simp; omega)]
      simp [Bs]
    · have hex : ∃ j, 0 ≤ j ∧ j < l.length ∧ tC kk hh (lw e.Part) (oI e.Part) (l.getD j zP) = true := by
        obtain ⟨x, hx⟩ := List.exists_mem_of_ne_nil _ hno
        obtain ⟨hx1, hx2⟩ := List.mem_filter.1 hx
        obtain ⟨i, hi1, hi2⟩ := List.getElem_of_mem hx1
        refine ⟨i, by omega, hi1, ?_⟩
        have e3 : l.getD i zP = x := by simp [List.getD_eq_getElem?_getD, List.getElem?_eq_getElem hi1, hi2]
        rw [e3]; exact hx2
      have hp := mY h he.1 hK K 0 0 hex (by have := h.len; omega)
      have e0 : ((0 : Nat) : Int) = 0 := rfl
      rw [e0] at hp
      rw [hp, if_neg hno]
      simp [vL]
  · simp only [he, decide_false, Bool.not_false, if_true, if_false]
    simp
theorem qG {K : Nat} {es : List En} (hes : es.length ≤ 10000) (hK : 200000 ≤ K) : ∀ (f i : Nat) (l : List Pr), nN l → l.length + (es.length - i) ≤ 99999 → i ≤ es.length → es.length - i < f →
    eE K es f i (l.map (·.v)) = some ((jp l (es.drop i)).1, if (jp l (es.drop i)).1 = 0 then (jp l (es.drop i)).2.map (·.v) else [])
  | 0, i, l, h, h1, h2, h3 => by omega
  | f + 1, i, l, h, h1, h2, h3 => by
    unfold eE
    by_cases hi : i < es.length
    · rw [if_pos (by omega), if_pos (by omega)]
      simp only [Int.toNat_natCast]
      rw [vv h (by omega) (es.getD i bn) hK]
      simp only [Option.bind_some]
      rw [List.drop_eq_getElem_cons hi, Cm hi]
      unfold jp
      by_cases h0 : (pB l es[i]).1 = 0
      · obtain ⟨c1, c2⟩ := rn h (by omega) es[i]
        rw [if_neg (by simp [h0]), if_pos h0, if_pos h0, bM (by omega)]
        have e : ((i : Int) + 1) = ((i + 1 : Nat) : Int) := by omega
        rw [e]
        exact qG hes hK f (i + 1) _ c1 (by omega) (by omega) (by omega)
      · rw [if_pos h0, if_neg h0]
        simp [h0]
    · rw [if_neg (by omega), List.drop_eq_nil_of_le (by omega)]
      simp [jp]
theorem uo {K : Nat} {es : List En} (hes : es.length ≤ 10000) (hK : 200000 ≤ K) : ∃ r, fD K es = some r ∧ ((jp [] es).1 = 0 → r.2 = (jp [] es).2.map (·.v)) := by
  unfold fD
  have hl0 : gF K K = some () := by
    obtain ⟨k, rfl⟩ : ∃ k, K = k + 1 := ⟨K - 1, by omega⟩
    rfl
  rw [hl0]
  have hp := qG (K := K) (es := es) (by omega) hK K 0 [] nN.nil (by simp; omega) (by omega) (by omega)
  have e0 : ((0 : Nat) : Int) = 0 := rfl
  have em : ([] : List Pr).map (·.v) = [] := rfl
  rw [e0, em] at hp
  simp only [Option.bind_some]
  rw [hp, List.drop_zero]
  exact ⟨_, rfl, fun h => by simp [h]⟩
theorem zi {K : Nat} (hK : 200000 ≤ K) {p : aW} (hp : qt p) (h : Int) : iR K p.Tier p.Index h = some (decide (lw p ≤ h ∧ h < oI p)) := by
  unfold iR
  rw [lk hK hp]
  simp only [Option.bind_some]
  show (if lw p ≤ h then some (decide (h < oI p)) else some false) = _
  by_cases q : lw p ≤ h <;> simp [q]
theorem vh {K : Nat} (hK : 200000 ≤ K) {l : List Pr} (hc : nN l) (n : Int) : ∀ (f i : Nat), i ≤ l.length → l.length - i < f → gj K (l.map (·.v)) n f i = some (mS (((l.drop i).find? (qN kk hh n)).map (·.v)))
  | 0, i, h1, h2 => by omega
  | f + 1, i, h1, h2 => by
    have hlen := hc.len
    rw [gj]
    by_cases hi : i < l.length
    · have hm : l.getD i zP ∈ l := ni hi
      have hr := hc.rt _ hm
      have hk := hc.key _ hm
      rw [if_pos (by simp; omega), if_pos (by omega)]
      simp only [Int.toNat_natCast, tW hi]
      rw [zi hK hr]
      simp only [Option.bind_some]
      have eg : l.getD i zP = l[i] := by simp [List.getD_eq_getElem?_getD, List.getElem?_eq_getElem hi]
      rw [List.drop_eq_getElem_cons hi, List.find?_cons]
      have ec : qN kk hh n l[i] = decide (lw (l.getD i zP).v.Part ≤ n ∧ n < oI (l.getD i zP).v.Part) := by
        rw [← hk, eg]; rfl
      rw [ec]
      by_cases q : lw (l.getD i zP).v.Part ≤ n ∧ n < oI (l.getD i zP).v.Part
      · rw [decide_eq_true q, if_pos rfl, eg]; rfl
      · rw [decide_eq_false q, if_neg (by simp), bM (by omega)]
        have e : ((i : Int) + 1) = ((i + 1 : Nat) : Int) := by omega
        rw [e]
        exact vh hK hc n f (i + 1) (by omega) (by omega)
    · rw [if_neg (by simp; omega), List.drop_eq_nil_of_le (by omega)]; rfl
theorem zI {K : Nat} (hK : 200000 ≤ K) {l : List Pr} (hc : nN l) (n : Int) : iG K (l.map (·.v)) n = some (mS (pR l n)) := by
  have hlen := hc.len
  have h := vh hK hc n K 0 (by omega) (by omega)
  have e0 : ((0 : Nat) : Int) = 0 := rfl
  rw [e0] at h
  unfold iG
  rw [h]
  rfl
end Go.Proofs.YtmgpegiekankmaaGreat.MemCopies
end
section
set_option linter.unusedVariables false
set_option linter.unusedSimpArgs false
set_option maxRecDepth 20000
namespace Go.Proofs.YtmgpegiekankmaaGreat.MemCopies
open Go E
abbrev sr := ay
abbrev ka := aC
theorem pf {i : Nat} (h : i < 100000) : bb ((i : Int) + 1) = ((i + 1 : Nat) : Int) := by rw [bM (by omega)]; omega
theorem xS (l : List ka) (hl : l.length ≤ 100) : bz l = some l := by
  unfold bz
  by_cases h : 0 < l.length
  · rw [if_pos h, if_pos (by simp; omega)]; rfl
  · rw [if_neg h, if_pos (by simp)]
    have : l = [] := List.eq_nil_of_length_eq_zero (by omega)
    subst this; rfl
def qq (a b : Int) (f : ka) : Bool := decide (a ≤ f.Key.Hour) && decide (f.Key.Hour < b)
def ob (l : List aH) : List ka := l.flatMap (·.Facts)
def nZ (x : aH) : List sr := x.Facts.map fun f => ⟨x.Seq, x.Tick, x.Budget, f⟩
def gU (l : List aH) : List sr := l.flatMap nZ
theorem sR (x : aH) : (nZ x).length = x.Facts.length := by simp [nZ]
theorem lu (x : aH) (l : List aH) : gU (x :: l) = nZ x ++ gU l := by simp [gU]
theorem wA (l m : List aH) : gU (l ++ m) = gU l ++ gU m := by simp [gU]
theorem oL (l : List aH) : (gU l).map (·.F) = ob l := by
  induction l with
  | nil => rfl
  | cons x l ih =>
    rw [lu, List.map_append, ih]
    simp [nZ, ob, List.map_map, Function.comp_def]
theorem uD (p : ka → Bool) (L : List sr) : (L.filter fun r => p r.F).map (·.F) = (L.map (·.F)).filter p := by
  induction L with
  | nil => rfl
  | cons r L ih =>
    rw [List.filter_cons, List.map_cons, List.filter_cons]
    cases h : p r.F <;> simp [h, ih]
theorem CD (l : List aH) (a b : Int) (i : Nat) (fs : List ka) (hfs : (l.getD i ap).Facts = fs) : ∀ (f j : Nat) (acc : List ka), j ≤ fs.length → fs.length - j < f → fs.length ≤ 100 → acc.length + (fs.length - j) ≤ 10000 →
    ij W l a b i f j acc = some (acc ++ (fs.drop j).filter (qq a b))
  | 0, j, acc, h0, h1, h2, h3 => by omega
  | f + 1, j, acc, h0, h1, h2, h3 => by
    rw [ij]
    simp only [Int.toNat_natCast, hfs]
    by_cases h : j < fs.length
    · rw [if_pos (by omega), if_pos (by omega), pf (by omega), gc fs _ h, List.drop_eq_getElem_cons h, List.filter_cons]
      have ih0 := CD l a b i fs hfs f (j + 1) acc (by omega) (by omega) h2 (by omega)
      have ih1 := CD l a b i fs hfs f (j + 1) (acc ++ [fs[j]]) (by omega) (by omega) h2 (by simp; omega)
      by_cases ha : a ≤ fs[j].Key.Hour
      · rw [if_pos ha]
        by_cases hb : fs[j].Key.Hour < b
        · have e : qq a b fs[j] = true := by simp [qq, ha, hb]
          rw [if_pos hb, if_pos (by simp; omega), if_pos e]
          rw [List.append_assoc] at ih1
          exact ih1
        · have e : ¬ qq a b fs[j] = true := by simp [qq, hb]
          rw [if_neg hb, if_neg e, ih0]
      · have e : ¬ qq a b fs[j] = true := by simp [qq, ha]
        rw [if_neg ha, if_neg e, ih0]
    · rw [if_neg (by omega), List.drop_eq_nil_of_le (by omega)]; simp
theorem CO (l : List aH) (a b : Int) (hl : l.length ≤ 80) (hf : ∀ x ∈ l, x.Facts.length ≤ 100) : ∀ (f i : Nat) (acc : List ka), i ≤ l.length → l.length - i < f → acc.length + (l.length - i) * 100 ≤ 10000 →
    jD W l a b f i acc = some (acc ++ (ob (l.drop i)).filter (qq a b))
  | 0, i, acc, h0, h1, h2 => by omega
  | f + 1, i, acc, h0, h1, h2 => by
    rw [jD]
    by_cases h : i < l.length
    · have hx := hf l[i] (List.getElem_mem h)
      have e := CD l a b i l[i].Facts (by rw [gc l _ h]) W 0 acc (by omega) (by unfold W; omega) hx (by omega)
      have e0 : ((0 : Nat) : Int) = 0 := rfl
      rw [e0] at e
      have hle : ((l[i].Facts).filter (qq a b)).length ≤ l[i].Facts.length := List.length_filter_le _ _
      rw [if_pos (by omega), if_pos (by omega), e, pf (by omega)]
      simp only [Option.bind_some, List.drop_zero]
      rw [CO l a b hl hf f (i + 1) _ (by omega) (by omega) (by simp; omega), List.drop_eq_getElem_cons h]
      simp only [ob, List.flatMap_cons, List.filter_append, List.append_assoc]
    · rw [if_neg (by omega), List.drop_eq_nil_of_le (by omega)]; simp [ob]
structure pg (l : List aH) : Prop where
  len : l.length ≤ 80
  each : ∀ x ∈ l, x.Facts.length ≤ 100
theorem Aj {l : List aH} (hI : pg l) (d s a b : Int) : fK W d l s a b = some ((ob l).filter (qq a b)) := by
  have := hI.len
  have e := CO l a b hI.len hI.each W 0 [] (by omega) (by unfold W; omega) (by simp; omega)
  have e0 : ((0 : Nat) : Int) = 0 := rfl
  rw [e0] at e
  unfold fK lH
  rw [e]
  rfl
theorem CI (L : List sr) (a b : Int) (hl : L.length ≤ 8800) : ∀ (f i : Nat) (acc : List ka), i ≤ L.length → L.length - i < f → acc.length ≤ i →
    cX W L a b f i acc = some (acc ++ ((L.drop i).filter fun r => qq a b r.F).map (·.F))
  | 0, i, acc, h0, h1, h2 => by omega
  | f + 1, i, acc, h0, h1, h2 => by
    rw [cX]
    by_cases h : i < L.length
    · rw [if_pos (by omega), if_pos (by omega), pf (by omega)]
      simp only [Int.toNat_natCast, gc L _ h]
      rw [List.drop_eq_getElem_cons h, List.filter_cons]
      have ih0 := CI L a b hl f (i + 1) acc (by omega) (by omega) (by omega)
      have ih1 := CI L a b hl f (i + 1) (acc ++ [L[i].F]) (by omega) (by omega) (by simp; omega)
      by_cases ha : a ≤ L[i].F.Key.Hour
      · rw [if_pos ha]
        by_cases hb : L[i].F.Key.Hour < b
        · have e : qq a b L[i].F = true := by simp [qq, ha, hb]
          rw [if_pos hb, if_pos (by simp; omega), if_pos e]
          rw [List.append_assoc] at ih1
          exact ih1
        · have e : ¬ qq a b L[i].F = true := by simp [qq, hb]
          rw [if_neg hb, if_neg e, ih0]
      · have e : ¬ qq a b L[i].F = true := by simp [qq, ha]
        rw [if_neg ha, if_neg e, ih0]
    · rw [if_neg (by omega), List.drop_eq_nil_of_le (by omega)]; simp
theorem uF {L : List sr} (hl : L.length ≤ 8800) (d s a b : Int) : cS W d L s a b = some ((L.map (·.F)).filter (qq a b)) := by
  have e := CI L a b hl W 0 [] (by omega) (by unfold W; omega) (by simp)
  have e0 : ((0 : Nat) : Int) = 0 := rfl
  rw [e0] at e
  unfold cS
  rw [e, List.drop_zero, uD]
  rfl
theorem vp {l : List aH} (h : pg l) : (ob l).length ≤ 8000 := by
  have : ∀ l : List aH, (∀ x ∈ l, x.Facts.length ≤ 100) → (ob l).length ≤ l.length * 100 := by
    intro l
    induction l with
    | nil => intro _; simp [ob]
    | cons x l ih =>
      intro hx
      have h1 := ih fun y hy => hx y (by simp [hy])
      have h2 := hx x (by simp)
      have e1 : ob (x :: l) = x.Facts ++ ob l := by simp [ob]
      rw [e1]
      simp only [List.length_append, List.length_cons]
      omega
  have h1 := this l h.each
  have h2 := h.len
  omega
theorem pH {l : List aH} (h : pg l) : (gU l).length ≤ 8000 := by
  have := vp h
  rw [← oL, List.length_map] at this
  exact this
abbrev pU := Int → ka → Bool
def kP (g : pU) (s : Int) (l : List ka) : List ka := l.filter fun f => !g s f
def mm (g : pU) : List aH → List aH
  | [] => []
  | x :: l => if 0 < (kP g x.Seq x.Facts).length then ⟨x.Seq, x.Tick, x.Budget, kP g x.Seq x.Facts⟩ :: mm g l else mm g l
def qZ (g : pU) : List aH → Nat
  | [] => 0
  | x :: l => (x.Facts.length - (kP g x.Seq x.Facts).length) + qZ g l
theorem pj (g : pU) (s : Int) (l : List ka) : (kP g s l).length ≤ l.length := List.length_filter_le _ _
theorem ye (g : pU) (x : aH) : (nZ x).filter (fun r => !g r.Seq r.F) = nZ ⟨x.Seq, x.Tick, x.Budget, kP g x.Seq x.Facts⟩ := by
  simp only [nZ, kP, List.filter_map]
  rfl
theorem rJ (g : pU) : ∀ l : List aH, gU (mm g l) = (gU l).filter (fun r => !g r.Seq r.F)
  | [] => rfl
  | x :: l => by
    have ih := rJ g l
    rw [lu, List.filter_append, ← ih, ye, mm]
    split
    · rw [lu]
    · rename_i h
      have : kP g x.Seq x.Facts = [] := List.eq_nil_of_length_eq_zero (by omega)
      rw [this]; rfl
theorem tI (g : pU) : ∀ l : List aH, qZ g l + (gU (mm g l)).length = (gU l).length
  | [] => rfl
  | x :: l => by
    have ih := tI g l
    have hk := pj g x.Seq x.Facts
    rw [qZ, lu, List.length_append, sR, mm]
    split
    · rw [lu, List.length_append, sR]
      simp only
      omega
    · omega
theorem se (g : pU) : ∀ l : List aH, (mm g l).length ≤ l.length
  | [] => by simp [mm]
  | x :: l => by
    have ih := se g l
    rw [mm]
    split <;> simp <;> omega
theorem nT (g : pU) : ∀ (l : List aH) (y : aH), y ∈ mm g l → ∃ x ∈ l, y = ⟨x.Seq, x.Tick, x.Budget, kP g x.Seq x.Facts⟩ ∧ 0 < (kP g x.Seq x.Facts).length
  | [], y, h => by simp [mm] at h
  | x :: l, y, h => by
    rw [mm] at h
    split at h
    · rename_i hp
      rw [List.mem_cons] at h
      rcases h with rfl | h
      · exact ⟨x, by simp, rfl, hp⟩
      · obtain ⟨z, hz, e⟩ := nT g l y h; exact ⟨z, by simp [hz], e⟩
    · obtain ⟨z, hz, e⟩ := nT g l y h; exact ⟨z, by simp [hz], e⟩
theorem rr (g : pU) : ∀ l : List aH, l.Pairwise (fun a b => a.Seq < b.Seq) → (mm g l).Pairwise (fun a b => a.Seq < b.Seq)
  | [], _ => List.Pairwise.nil
  | x :: l, h => by
    rw [List.pairwise_cons] at h
    rw [mm]
    split
    · rw [List.pairwise_cons]
      refine ⟨fun y hy => ?_, rr g l h.2⟩
      obtain ⟨z, hz, rfl, _⟩ := nT g l y hy
      exact h.1 z hz
    · exact rr g l h.2
end Go.Proofs.YtmgpegiekankmaaGreat.MemCopies
end
section
set_option linter.unusedVariables false
set_option linter.unusedSimpArgs false
set_option maxRecDepth 20000
namespace Go.Proofs.YtmgpegiekankmaaGreat.MemCopies
open Go E
def iN (a b : Int) : pU := fun _ f => qq a b f
def ir (c : List Pr) (n : Int) : pU := fun s f => decide (f.Key.Hour < n) || (match pR c f.Key.Hour with | some e => decide (s ≤ e.Mark) | none => false)
theorem BC (h : Int) (d0 d1 d2 d3 : List UInt8) (v a b s t u : Int) (l : List ka) : gW h d0 d1 d2 d3 v a b s t u l = iN a b s ⟨⟨h, d0, d1, d2, d3⟩, v⟩ := by
  unfold gW kj iN qq
  simp only [fp]
  by_cases q : a ≤ h
  · rw [if_pos q]; simp [q]
  · rw [if_neg q]; simp [q]
theorem zt {o : Option En} {t : Int × Int × Int × Int × Int × Bool × Bool} (h : mS o = t) : (t.2.2.2.2.2.2 = true ∧ ∃ x, o = some x ∧ t.2.2.2.1 = x.Mark) ∨ (t.2.2.2.2.2.2 = false ∧ o = none) := by
  subst h
  cases o with
  | none => exact .inr ⟨rfl, rfl⟩
  | some x => exact .inl ⟨rfl, x, rfl, rfl⟩
theorem BB {c : List Pr} (hc : nN c) (h : Int) (d0 d1 d2 d3 : List UInt8) (v n s t u : Int) (l : List ka) : gB W h d0 d1 d2 d3 v c n s t u l = some (ir c n s ⟨⟨h, d0, d1, d2, d3⟩, v⟩) := by
  unfold gB jz ir
  rw [Bn hc h (Nat.le_refl _)]
  simp only [Option.bind_some]
  generalize ht : mS (pR c h) = x
  by_cases q : h < n
  · rw [if_pos q]; simp [q]
  · rw [if_neg q]
    rcases zt ht with ⟨hs, e, he, hx⟩ | ⟨hs, he⟩
    · rw [if_pos hs, he, hx]; simp [q]
    · rw [if_neg (by simp [hs]), he]; simp [q]
theorem Bw (l : List ka) (hl : l.length ≤ 100) (a b s t u : Int) (l1 : List ka) : ∀ (f j : Nat), j ≤ l.length → l.length - j < f → (∀ x ∈ l.take j, iN a b s x = false) →
    ∃ r, cm W l a b s t u l1 f j = some r ∧ ((r = -1 ∧ ∀ x ∈ l, iN a b s x = false) ∨ ∃ m : Nat, r = m ∧ m < l.length ∧ (∀ x ∈ l.take m, iN a b s x = false) ∧ iN a b s (l.getD m ab) = true)
  | 0, j, h0, h1, hp => by omega
  | f + 1, j, h0, h1, hp => by
    rw [cm]
    by_cases h : j < l.length
    · rw [if_pos (by omega), if_pos (by omega), pf (by omega), Int.toNat_natCast]
      simp only [fp, BC]
      by_cases q : iN a b s (l.getD j ab) = true
      · rw [if_pos q]
        exact ⟨j, rfl, .inr ⟨j, rfl, h, hp, q⟩⟩
      · rw [if_neg q]
        refine Bw l hl a b s t u l1 f (j + 1) (by omega) (by omega) ?_
        intro x hx
        rw [List.take_succ_eq_append_getElem h, List.mem_append] at hx
        rcases hx with hx | hx
        · exact hp x hx
        · simp only [List.mem_singleton] at hx
          subst hx
          rw [gc l _ h ab] at q
          simpa using q
    · rw [if_neg (by omega)]
      refine ⟨_, rfl, .inl ⟨rfl, fun x hx => hp x ?_⟩⟩
      rw [List.take_of_length_le (by omega)]
      exact hx
theorem zU (x : List ka) (hl : x.length ≤ 100) (a b s t u : Int) (l1 : List ka) : ∀ (f i j : Nat) (l : List ka), j ≤ x.length → x.length - j < f → l.length = x.length → i < j → l.take i = kP (iN a b) s (x.take j) → l.drop j = x.drop j →
    ∃ l' : List ka, ∃ n : Nat, ca W a b s t u l1 f i j l = some (l', (n : Int)) ∧ l'.length = x.length ∧ n ≤ x.length ∧ l'.take n = kP (iN a b) s x
  | 0, i, j, l, h0, h1, h2, h3, h4, h5 => by omega
  | f + 1, i, j, l, h0, h1, h2, h3, h4, h5 => by
    rw [ca]
    by_cases h : j < x.length
    · have hj : j < l.length := by omega
      have ex : l[j] = x[j] := by
        have e1 := List.drop_eq_getElem_cons hj
        rw [h5, List.drop_eq_getElem_cons h] at e1
        exact (List.cons.inj e1).1.symm
      have e2 : l.drop (j + 1) = x.drop (j + 1) := by
        have e1 := List.drop_eq_getElem_cons hj
        rw [h5, List.drop_eq_getElem_cons h] at e1
        exact (List.cons.inj e1).2.symm
      rw [if_pos (by omega), if_pos (by omega), pf (by omega), pf (by omega), Int.toNat_natCast, Int.toNat_natCast]
      simp only [fp, BC]
      rw [gc l _ hj ab, ex]
      by_cases q : iN a b s x[j] = true
      · rw [show iN a b s ⟨⟨x[j].Key.Hour, x[j].Key.Dims_0, x[j].Key.Dims_1, x[j].Key.Dims_2, x[j].Key.Dims_3⟩, x[j].Value⟩ = true from q]
        simp only [Bool.not_true, Bool.false_eq_true, if_false]
        refine zU x hl a b s t u l1 f i (j + 1) l (by omega) (by omega) h2 (by omega) ?_ e2
        rw [h4, kP, kP, List.take_succ_eq_append_getElem h, List.filter_append]
        simp [q]
      · have q0 : iN a b s x[j] = false := by simpa using q
        rw [show iN a b s ⟨⟨x[j].Key.Hour, x[j].Key.Dims_0, x[j].Key.Dims_1, x[j].Key.Dims_2, x[j].Key.Dims_3⟩, x[j].Value⟩ = false from q0]
        simp only [Bool.not_false, if_true]
        rw [if_pos (by omega), if_pos (by omega)]
        refine zU x hl a b s t u l1 f (i + 1) (j + 1) (l.set i x[j]) (by omega) (by omega) (by simp [h2]) (by omega) ?_ ?_
        · rw [List.take_succ_eq_append_getElem (by simp; omega), List.take_set_of_le (Nat.le_refl _), h4, kP, kP, List.take_succ_eq_append_getElem h, List.filter_append]
          simp [q0]
        · rw [List.drop_set_of_lt (by omega)]; exact e2
    · rw [if_neg (by omega)]
      have ej : j = x.length := by omega
      refine ⟨l, i, rfl, h2, by omega, ?_⟩
      rw [h4, List.take_of_length_le (by omega)]
theorem AH (x : List ka) (hl : x.length ≤ 100) (a b s t u : Int) (l1 : List ka) : cv W x a b s t u l1 = some (kP (iN a b) s x) := by
  unfold cv cJ
  obtain ⟨r, hr, hq⟩ := Bw x hl a b s t u l1 W 0 (by omega) (by unfold W; omega) (by simp)
  have e0 : ((0 : Nat) : Int) = 0 := rfl
  rw [e0] at hr
  rw [hr]
  simp only [Option.bind_some]
  rcases hq with ⟨rfl, hq⟩ | ⟨m, rfl, hm, hp, hq⟩
  · rw [if_pos rfl]
    congr 1
    symm
    rw [kP, List.filter_eq_self]
    intro y hy
    simp [hq y hy]
  · rw [if_neg (by omega), pf (by omega)]
    rw [gc x _ hm ab] at hq
    obtain ⟨l', n, h1, h2, h3, h4⟩ := zU x hl a b s t u l1 W m (m + 1) x (by omega) (by unfold W; omega) rfl (by omega) (by
      rw [kP, List.take_succ_eq_append_getElem hm, List.filter_append]
      have e1 : (x.take m).filter (fun f => !iN a b s f) = x.take m := by
        rw [List.filter_eq_self]; intro y hy; simp [hp y hy]
      rw [e1]
      simp [hq]) rfl
    rw [h1]
    simp only [Option.bind_some, Int.toNat_natCast]
    rw [if_pos (by omega), if_pos (by omega), if_pos (by simp; omega), List.take_append_of_le_length (by simp; omega), List.take_take, Nat.min_self, h4]
theorem zH (l : List aH) (a b : Int) (hl : l.length ≤ 80) (hf : ∀ x ∈ l, x.Facts.length ≤ 100) : ∀ (f i m : Nat) (acc : List aH), i ≤ l.length → l.length - i < f → acc.length ≤ i → m ≤ i * 100 →
    hZ W l a b f m i acc = some (acc ++ mm (iN a b) (l.drop i), ((m + qZ (iN a b) (l.drop i) : Nat) : Int))
  | 0, i, m, acc, h0, h1, h2, h3 => by omega
  | f + 1, i, m, acc, h0, h1, h2, h3 => by
    rw [hZ]
    by_cases h : i < l.length
    · have hx := hf l[i] (List.getElem_mem h)
      have hk := pj (iN a b) l[i].Seq l[i].Facts
      rw [if_pos (by omega), if_pos (by omega), pf (by omega), Int.toNat_natCast]
      simp only [gc l _ h ap]
      rw [xS _ hx]
      simp only [Option.bind_some]
      rw [AH _ hx]
      simp only [Option.bind_some]
      have en : bb ((m : Int) + bb ((l[i].Facts.length : Int) - ((kP (iN a b) l[i].Seq l[i].Facts).length : Int))) = ((m + (l[i].Facts.length - (kP (iN a b) l[i].Seq l[i].Facts).length) : Nat) : Int) := by
        rw [bM (n := (l[i].Facts.length : Int) - ((kP (iN a b) l[i].Seq l[i].Facts).length : Int)) (by omega), bM (by omega)]; omega
      rw [en, List.drop_eq_getElem_cons h, mm, qZ]
      by_cases q : 0 < (kP (iN a b) l[i].Seq l[i].Facts).length
      · rw [if_pos (by omega), if_pos (by omega), if_pos q, zH l a b hl hf f (i + 1) _ _ (by omega) (by omega) (by simp; omega) (by omega), List.append_assoc, Nat.add_assoc]
        rfl
      · rw [if_neg (by omega), if_neg q, zH l a b hl hf f (i + 1) _ _ (by omega) (by omega) (by omega) (by omega), Nat.add_assoc]
    · rw [if_neg (by omega), List.drop_eq_nil_of_le (by omega)]; simp [mm, qZ]
theorem CC {l : List aH} (hI : pg l) (d s a b : Int) : fN W d l s a b = some (mm (iN a b) l, (qZ (iN a b) l : Int)) := by
  have hlen := hI.len
  have e := zH l a b hI.len hI.each W 0 0 [] (by omega) (by unfold W; omega) (by simp) (by omega)
  have e0 : ((0 : Nat) : Int) = 0 := rfl
  rw [e0] at e
  unfold fN kG
  simp only [fp]
  rw [e]
  simp
theorem Ag (L : List sr) (a b : Int) (hl : L.length ≤ 8800) : ∀ (f i : Nat) (acc : List sr), i ≤ L.length → L.length - i < f → acc.length ≤ i →
    dk W L a b f i acc = some (acc ++ (L.drop i).filter fun r => !iN a b r.Seq r.F)
  | 0, i, acc, h0, h1, h2 => by omega
  | f + 1, i, acc, h0, h1, h2 => by
    rw [dk]
    by_cases h : i < L.length
    · rw [if_pos (by omega), if_pos (by omega), pf (by omega)]
      simp only [Int.toNat_natCast, gc L _ h]
      rw [List.drop_eq_getElem_cons h, List.filter_cons]
      have ih0 := Ag L a b hl f (i + 1) acc (by omega) (by omega) (by omega)
      have ih1 := Ag L a b hl f (i + 1) (acc ++ [L[i]]) (by omega) (by omega) (by simp; omega)
      rw [List.append_assoc] at ih1
      have hroom : (acc.length + [L[i]].length) * 104 ≤ 140737488355328 := by simp; omega
      by_cases ha : L[i].F.Key.Hour < a
      · have e : (!iN a b L[i].Seq L[i].F) = true := by simp [iN, qq]; omega
        rw [if_pos ha, if_pos hroom, if_pos e]
        exact ih1
      · rw [if_neg ha]
        by_cases hb : b ≤ L[i].F.Key.Hour
        · have e : (!iN a b L[i].Seq L[i].F) = true := by simp [iN, qq]; omega
          rw [if_pos hb, if_pos hroom, if_pos e]
          exact ih1
        · have e : ¬ (!iN a b L[i].Seq L[i].F) = true := by simp [iN, qq]; omega
          rw [if_neg hb, if_neg e]
          exact ih0
    · rw [if_neg (by omega), List.drop_eq_nil_of_le (by omega)]; simp
theorem CG {L : List sr} (hl : L.length ≤ 8800) (d s a b : Int) : fk W d L s a b = some (L.filter (fun r => !iN a b r.Seq r.F), ((L.length - (L.filter (fun r => !iN a b r.Seq r.F)).length : Nat) : Int)) := by
  have e := Ag L a b hl W 0 [] (by omega) (by unfold W; omega) (by simp)
  have e0 : ((0 : Nat) : Int) = 0 := rfl
  have hle : (L.filter (fun r => !iN a b r.Seq r.F)).length ≤ L.length := List.length_filter_le _ _
  rw [e0] at e
  unfold fk
  rw [e, List.drop_zero, List.nil_append]
  simp only [Option.bind_some]
  rw [bM (by omega)]
  congr 2
  omega
theorem Bi {c : List Pr} (hc : nN c) (l : List ka) (hl : l.length ≤ 100) (p s t u : Int) (l1 : List ka) : ∀ (f j : Nat), j ≤ l.length → l.length - j < f → (∀ x ∈ l.take j, ir c p s x = false) →
    ∃ r, ck W l c p s t u l1 f j = some r ∧ ((r = -1 ∧ ∀ x ∈ l, ir c p s x = false) ∨ ∃ m : Nat, r = m ∧ m < l.length ∧ (∀ x ∈ l.take m, ir c p s x = false) ∧ ir c p s (l.getD m ab) = true)
  | 0, j, h0, h1, hp => by omega
  | f + 1, j, h0, h1, hp => by
    rw [ck]
    by_cases h : j < l.length
    · rw [if_pos (by omega), if_pos (by omega), pf (by omega), Int.toNat_natCast]
      simp only [BB hc, Option.bind_some]
      by_cases q : ir c p s (l.getD j ab) = true
      · rw [if_pos q]
        exact ⟨j, rfl, .inr ⟨j, rfl, h, hp, q⟩⟩
      · rw [if_neg q]
        refine Bi hc l hl p s t u l1 f (j + 1) (by omega) (by omega) ?_
        intro x hx
        rw [List.take_succ_eq_append_getElem h, List.mem_append] at hx
        rcases hx with hx | hx
        · exact hp x hx
        · simp only [List.mem_singleton] at hx
          subst hx
          rw [gc l _ h ab] at q
          simpa using q
    · rw [if_neg (by omega)]
      refine ⟨_, rfl, .inl ⟨rfl, fun x hx => hp x ?_⟩⟩
      rw [List.take_of_length_le (by omega)]
      exact hx
theorem As {c : List Pr} (hc : nN c) (x : List ka) (hl : x.length ≤ 100) (p s t u : Int) (l1 : List ka) : ∀ (f i j : Nat) (l : List ka), j ≤ x.length → x.length - j < f → l.length = x.length → i < j → l.take i = kP (ir c p) s (x.take j) → l.drop j = x.drop j →
    ∃ l' : List ka, ∃ n : Nat, bU W c p s t u l1 f i j l = some (l', (n : Int)) ∧ l'.length = x.length ∧ n ≤ x.length ∧ l'.take n = kP (ir c p) s x
  | 0, i, j, l, h0, h1, h2, h3, h4, h5 => by omega
  | f + 1, i, j, l, h0, h1, h2, h3, h4, h5 => by
    rw [bU]
    by_cases h : j < x.length
    · have hj : j < l.length := by omega
      have ex : l[j] = x[j] := by
        have e1 := List.drop_eq_getElem_cons hj
        rw [h5, List.drop_eq_getElem_cons h] at e1
        exact (List.cons.inj e1).1.symm
      have e2 : l.drop (j + 1) = x.drop (j + 1) := by
        have e1 := List.drop_eq_getElem_cons hj
        rw [h5, List.drop_eq_getElem_cons h] at e1
        exact (List.cons.inj e1).2.symm
      rw [if_pos (by omega), if_pos (by omega), pf (by omega), pf (by omega), Int.toNat_natCast, Int.toNat_natCast]
      simp only [BB hc, Option.bind_some]
      rw [gc l _ hj ab, ex]
      by_cases q : ir c p s x[j] = true
      · rw [show ir c p s ⟨⟨x[j].Key.Hour, x[j].Key.Dims_0, x[j].Key.Dims_1, x[j].Key.Dims_2, x[j].Key.Dims_3⟩, x[j].Value⟩ = true from q]
        simp only [Bool.not_true, Bool.false_eq_true, if_false]
        refine As hc x hl p s t u l1 f i (j + 1) l (by omega) (by omega) h2 (by omega) ?_ e2
        rw [h4, kP, kP, List.take_succ_eq_append_getElem h, List.filter_append]
        simp [q]
      · have q0 : ir c p s x[j] = false := by simpa using q
        rw [show ir c p s ⟨⟨x[j].Key.Hour, x[j].Key.Dims_0, x[j].Key.Dims_1, x[j].Key.Dims_2, x[j].Key.Dims_3⟩, x[j].Value⟩ = false from q0]
        simp only [Bool.not_false, if_true]
        rw [if_pos (by omega), if_pos (by omega)]
        refine As hc x hl p s t u l1 f (i + 1) (j + 1) (l.set i x[j]) (by omega) (by omega) (by simp [h2]) (by omega) ?_ ?_
        · rw [List.take_succ_eq_append_getElem (by simp; omega), List.take_set_of_le (Nat.le_refl _), h4, kP, kP, List.take_succ_eq_append_getElem h, List.filter_append]
          simp [q0]
        · rw [List.drop_set_of_lt (by omega)]; exact e2
    · rw [if_neg (by omega)]
      have ej : j = x.length := by omega
      refine ⟨l, i, rfl, h2, by omega, ?_⟩
      rw [h4, List.take_of_length_le (by omega)]
theorem AL {c : List Pr} (hc : nN c) (x : List ka) (hl : x.length ≤ 100) (p s t u : Int) (l1 : List ka) : cq W x c p s t u l1 = some (kP (ir c p) s x) := by
  unfold cq cH
  obtain ⟨r, hr, hq⟩ := Bi hc x hl p s t u l1 W 0 (by omega) (by unfold W; omega) (by simp)
  have e0 : ((0 : Nat) : Int) = 0 := rfl
  rw [e0] at hr
  rw [hr]
  simp only [Option.bind_some]
  rcases hq with ⟨rfl, hq⟩ | ⟨m, rfl, hm, hp, hq⟩
  · rw [if_pos rfl]
    congr 1
    symm
    rw [kP, List.filter_eq_self]
    intro y hy
    simp [hq y hy]
  · rw [if_neg (by omega), pf (by omega)]
    rw [gc x _ hm ab] at hq
    obtain ⟨l', n, h1, h2, h3, h4⟩ := As hc x hl p s t u l1 W m (m + 1) x (by omega) (by unfold W; omega) rfl (by omega) (by
      rw [kP, List.take_succ_eq_append_getElem hm, List.filter_append]
      have e1 : (x.take m).filter (fun f => !ir c p s f) = x.take m := by
        rw [List.filter_eq_self]; intro y hy; simp [hp y hy]
      rw [e1]
      simp [hq]) rfl
    rw [h1]
    simp only [Option.bind_some, Int.toNat_natCast]
    rw [if_pos (by omega), if_pos (by omega), if_pos (by simp; omega), List.take_append_of_le_length (by simp; omega), List.take_take, Nat.min_self, h4]
theorem Av {c : List Pr} (hc : nN c) (l : List aH) (p : Int) (hl : l.length ≤ 80) (hf : ∀ x ∈ l, x.Facts.length ≤ 100) : ∀ (f i m : Nat) (acc : List aH), i ≤ l.length → l.length - i < f → acc.length ≤ i → m ≤ i * 100 →
    gO W l c p f m i acc = some (acc ++ mm (ir c p) (l.drop i), ((m + qZ (ir c p) (l.drop i) : Nat) : Int))
  | 0, i, m, acc, h0, h1, h2, h3 => by omega
  | f + 1, i, m, acc, h0, h1, h2, h3 => by
    rw [gO]
    by_cases h : i < l.length
    · have hx := hf l[i] (List.getElem_mem h)
      have hk := pj (ir c p) l[i].Seq l[i].Facts
      rw [if_pos (by omega), if_pos (by omega), pf (by omega), Int.toNat_natCast]
      simp only [gc l _ h ap]
      rw [xS _ hx]
      simp only [Option.bind_some]
      rw [AL hc _ hx]
      simp only [Option.bind_some]
      have en : bb ((m : Int) + bb ((l[i].Facts.length : Int) - ((kP (ir c p) l[i].Seq l[i].Facts).length : Int))) = ((m + (l[i].Facts.length - (kP (ir c p) l[i].Seq l[i].Facts).length) : Nat) : Int) := by
        rw [bM (n := (l[i].Facts.length : Int) - ((kP (ir c p) l[i].Seq l[i].Facts).length : Int)) (by omega), bM (by omega)]; omega
      rw [en, List.drop_eq_getElem_cons h, mm, qZ]
      by_cases q : 0 < (kP (ir c p) l[i].Seq l[i].Facts).length
      · rw [if_pos (by omega), if_pos (by omega), if_pos q, Av hc l p hl hf f (i + 1) _ _ (by omega) (by omega) (by simp; omega) (by omega), List.append_assoc, Nat.add_assoc]
        rfl
      · rw [if_neg (by omega), if_neg q, Av hc l p hl hf f (i + 1) _ _ (by omega) (by omega) (by omega) (by omega), Nat.add_assoc]
    · rw [if_neg (by omega), List.drop_eq_nil_of_le (by omega)]; simp [mm, qZ]
theorem CJ {c : List Pr} (hc : nN c) {l : List aH} (hI : pg l) (d s p : Int) : gx W d l s c p = some (mm (ir c p) l, (qZ (ir c p) l : Int)) := by
  have hlen := hI.len
  have e := Av hc l p hI.len hI.each W 0 0 [] (by omega) (by unfold W; omega) (by simp) (by omega)
  have e0 : ((0 : Nat) : Int) = 0 := rfl
  rw [e0] at e
  unfold gx ki
  simp only [fp]
  rw [e]
  simp
theorem Al {c : List Pr} (hc : nN c) (L : List sr) (p : Int) (hl : L.length ≤ 8800) : ∀ (f i : Nat) (acc : List sr), i ≤ L.length → L.length - i < f → acc.length ≤ i →
    dS W L (c.map (·.v)) p f i acc = some (acc ++ (L.drop i).filter fun r => !ir c p r.Seq r.F)
  | 0, i, acc, h0, h1, h2 => by omega
  | f + 1, i, acc, h0, h1, h2 => by
    rw [dS]
    by_cases h : i < L.length
    · rw [if_pos (by omega), if_pos (by omega), pf (by omega)]
      simp only [Int.toNat_natCast, gc L _ h]
      rw [List.drop_eq_getElem_cons h, List.filter_cons]
      have ih0 := Al hc L p hl f (i + 1) acc (by omega) (by omega) (by omega)
      have ih1 := Al hc L p hl f (i + 1) (acc ++ [L[i]]) (by omega) (by omega) (by simp; omega)
      rw [List.append_assoc] at ih1
      have hroom : (acc.length + [L[i]].length) * 104 ≤ 140737488355328 := by simp; omega
      rw [zI (Nat.le_refl _) hc]
      simp only [Option.bind_some]
      generalize ht : mS (pR c L[i].F.Key.Hour) = t
      by_cases ha : p ≤ L[i].F.Key.Hour
      · rw [if_pos ha]
        rcases zt ht with ⟨hs, x, he, hx⟩ | ⟨hs, he⟩
        · rw [if_neg (by simp [hs])]
          by_cases hm : t.2.2.2.1 < L[i].Seq
          · have e : (!ir c p L[i].Seq L[i].F) = true := by simp [ir, he]; omega
            rw [if_pos hm, if_pos hroom, if_pos e]
            exact ih1
          · have e : ¬ (!ir c p L[i].Seq L[i].F) = true := by simp [ir, he]; omega
            rw [if_neg hm, if_neg e]
            exact ih0
        · have e : (!ir c p L[i].Seq L[i].F) = true := by simp [ir, he]; omega
          rw [if_pos (by simp [hs]), if_pos hroom, if_pos e]
          exact ih1
      · have e : ¬ (!ir c p L[i].Seq L[i].F) = true := by simp [ir]; omega
        rw [if_neg ha, if_neg e]
        exact ih0
    · rw [if_neg (by omega), List.drop_eq_nil_of_le (by omega)]; simp
theorem Cy {c : List Pr} (hc : nN c) {L : List sr} (hl : L.length ≤ 8800) (d s p : Int) : eY W d L s (c.map (·.v)) p = some (L.filter (fun r => !ir c p r.Seq r.F), ((L.length - (L.filter (fun r => !ir c p r.Seq r.F)).length : Nat) : Int)) := by
  have e := Al hc L p hl W 0 [] (by omega) (by unfold W; omega) (by simp)
  have e0 : ((0 : Nat) : Int) = 0 := rfl
  have hle : (L.filter (fun r => !ir c p r.Seq r.F)).length ≤ L.length := List.length_filter_le _ _
  rw [e0] at e
  unfold eY
  rw [e, List.drop_zero, List.nil_append]
  simp only [Option.bind_some]
  rw [bM (by omega)]
  congr 2
  omega
end Go.Proofs.YtmgpegiekankmaaGreat.MemCopies
end
section
set_option linter.unusedVariables false
set_option linter.unusedSimpArgs false
set_option maxRecDepth 20000
namespace Go.Proofs.YtmgpegiekankmaaGreat.MemCopies
open Go E
abbrev BE := aK
def Ax (x : aH) : BE := ⟨x.Seq, x.Tick, x.Budget, x.Facts⟩
theorem AP {l : List aH} (h : l.length ≤ 1000) : im l = some (l.map Ax) := by
  unfold im
  rw [if_pos (by omega)]; rfl
theorem Ch (l : List aH) (hl : l.length ≤ 80) (hf : ∀ x ∈ l, x.Facts.length ≤ 100) : ∀ (f i : Nat) (acc : List aH), i ≤ l.length → l.length - i < f → acc.length ≤ i → gl W l f i acc = some (acc ++ l.drop i)
  | 0, i, acc, h0, h1, h2 => by omega
  | f + 1, i, acc, h0, h1, h2 => by
    rw [gl]
    by_cases h : i < l.length
    · rw [if_pos (by omega), if_pos (by omega), pf (by omega)]
      simp only [Int.toNat_natCast, gc l _ h]
      rw [xS _ (hf _ (List.getElem_mem h))]
      simp only [Option.bind_some]
      have ih := Ch l hl hf f (i + 1) (acc ++ [l[i]]) (by omega) (by omega) (by simp; omega)
      rw [if_pos (by omega), List.drop_eq_getElem_cons h]
      rw [List.append_assoc] at ih
      exact ih
    · rw [if_neg (by omega), List.drop_eq_nil_of_le (by omega)]; simp
theorem xQ {l : List aH} (hI : pg l) (d s : Int) : eb W d l s = some l := by
  have := hI.len
  have e := Ch l hI.len hI.each W 0 [] (by omega) (by unfold W; omega) (by simp)
  have e0 : ((0 : Nat) : Int) = 0 := rfl
  rw [e0] at e
  unfold eb
  simp only [fp]
  rw [e]; rfl
def step (o : List BE) (r : sr) : List BE :=
  if o.length = 0 ∨ (o.getD (o.length - 1) aj).Seq ≠ r.Seq then o ++ [⟨r.Seq, r.Tick, r.Budget, [r.F]⟩]
  else o.set (o.length - 1) ⟨(o.getD (o.length - 1) aj).Seq, (o.getD (o.length - 1) aj).Tick, (o.getD (o.length - 1) aj).Budget, (o.getD (o.length - 1) aj).Facts ++ [r.F]⟩
theorem zQ (o : List BE) (r : sr) : (step o r).length ≤ o.length + 1 := by
  unfold step; split <;> simp
theorem yN {o : List BE} {r : sr} {n : Nat} (h : ∀ y ∈ o, y.Facts.length ≤ n) : ∀ y ∈ step o r, y.Facts.length ≤ n + 1 := by
  intro y hy
  unfold step at hy
  split at hy
  · rw [List.mem_append, List.mem_singleton] at hy
    rcases hy with hy | rfl
    · have := h y hy; omega
    · simp
  · rename_i hc
    have hp : o.length - 1 < o.length := by
      have : o.length ≠ 0 := fun e => hc (.inl e)
      omega
    rcases List.mem_or_eq_of_mem_set hy with hy | rfl
    · have := h y hy; omega
    · have := h _ (List.getElem_mem hp)
      simp only [gc o _ hp, List.length_append, List.length_singleton]
      omega
theorem xm (o : List BE) (y z : BE) : (o ++ [y]).getD o.length z = y := by simp [List.getD_eq_getElem?_getD]
theorem CN (L : List sr) (hl : L.length ≤ 8800) : ∀ (f i : Nat) (o : List BE), i ≤ L.length → L.length - i < f → o.length ≤ i → (∀ y ∈ o, y.Facts.length ≤ i) →
    de W L f i o = some ((L.drop i).foldl step o)
  | 0, i, o, h0, h1, h2, h3 => by omega
  | f + 1, i, o, h0, h1, h2, h3 => by
    rw [de]
    by_cases h : i < L.length
    · rw [if_pos (by omega), if_pos (by omega), pf (by omega)]
      simp only [Int.toNat_natCast, gc L _ h]
      rw [List.drop_eq_getElem_cons h, List.foldl_cons]
      have ih := CN L hl f (i + 1) (step o L[i]) (by omega) (by omega) (by have := zQ o L[i]; omega) (yN h3)
      have hroom : (o.length + 1) * 48 ≤ 140737488355328 := by omega
      have hnew : ∀ (n : Int), n = (o.length : Int) → step o L[i] = o ++ [(⟨L[i].Seq, L[i].Tick, L[i].Budget, [L[i].F]⟩ : BE)] →
          (if 0 ≤ n then (if n < (((o ++ [(⟨L[i].Seq, L[i].Tick, L[i].Budget, []⟩ : BE)]).length : Nat) : Int) then (if (((o ++ [(⟨L[i].Seq, L[i].Tick, L[i].Budget, []⟩ : BE)]).getD n.toNat aj).Facts.length + [L[i].F].length) * 80 ≤ 140737488355328 then de W L f ((i + 1 : Nat) : Int) ((o ++ [(⟨L[i].Seq, L[i].Tick, L[i].Budget, []⟩ : BE)]).set n.toNat (⟨((o ++ [(⟨L[i].Seq, L[i].Tick, L[i].Budget, []⟩ : BE)]).getD n.toNat aj).Seq, ((o ++ [(⟨L[i].Seq, L[i].Tick, L[i].Budget, []⟩ : BE)]).getD n.toNat aj).Tick, ((o ++ [(⟨L[i].Seq, L[i].Tick, L[i].Budget, []⟩ : BE)]).getD n.toNat aj).Budget, ((o ++ [(⟨L[i].Seq, L[i].Tick, L[i].Budget, []⟩ : BE)]).getD n.toNat aj).Facts ++ [L[i].F]⟩ : BE)) else none) else none) else none) = some ((L.drop (i + 1)).foldl step (step o L[i])) := by
        intro n hn hs
        subst hn
        rw [if_pos (by omega), if_pos (by simp; omega), Int.toNat_natCast, xm, if_pos (by simp), hs]
        rw [hs] at ih
        rw [List.set_append_right _ _ (Nat.le_refl _), Nat.sub_self, List.set_cons_zero]
        exact ih
      by_cases hz : o.length = 0
      · have ho : o = [] := List.eq_nil_of_length_eq_zero hz
        have hs : step o L[i] = o ++ [(⟨L[i].Seq, L[i].Tick, L[i].Budget, [L[i].F]⟩ : BE)] := by unfold step; rw [if_pos (.inl hz)]
        rw [if_pos (by rw [bM (by omega)]; omega), if_pos hroom]
        simp only [Option.bind_some]
        exact hnew _ (by rw [bM (n := (o.length : Int) - 1) (by omega), bM (by omega)]; omega) hs
      · have hw : bb ((o.length : Int) - 1) = ((o.length - 1 : Nat) : Int) := by rw [bM (by omega)]; omega
        have hlt : o.length - 1 < o.length := by omega
        rw [hw, if_neg (by omega), if_pos (by omega), if_pos (by omega)]
        by_cases hq : (o.getD (o.length - 1) aj).Seq = L[i].Seq
        · have hs : step o L[i] = o.set (o.length - 1) ⟨(o.getD (o.length - 1) aj).Seq, (o.getD (o.length - 1) aj).Tick, (o.getD (o.length - 1) aj).Budget, (o.getD (o.length - 1) aj).Facts ++ [L[i].F]⟩ := by
            unfold step
            rw [if_neg (by intro hc; rcases hc with hc | hc; exact hz hc; exact hc hq)]
          have hfl : (o.getD (o.length - 1) aj).Facts.length ≤ i := by
            rw [gc o _ hlt]; exact h3 _ (List.getElem_mem hlt)
          rw [Int.toNat_natCast, if_neg (by simpa using hq)]
          simp only [Option.bind_some, Int.toNat_natCast]
          rw [if_pos (by omega), if_pos (by omega), if_pos (by simp only [List.length_singleton]; omega)]
          rw [hs] at ih ⊢
          exact ih
        · have hs : step o L[i] = o ++ [(⟨L[i].Seq, L[i].Tick, L[i].Budget, [L[i].F]⟩ : BE)] := by unfold step; rw [if_pos (.inr hq)]
          rw [Int.toNat_natCast, if_pos hq, if_pos hroom]
          simp only [Option.bind_some]
          exact hnew _ (by rw [bM (by omega)]; omega) hs
    · rw [if_neg (by omega), List.drop_eq_nil_of_le (by omega)]; rfl
theorem Af {o : List BE} {r : sr} (h : ∀ y ∈ o, y.Seq ≠ r.Seq) : step o r = o ++ [⟨r.Seq, r.Tick, r.Budget, [r.F]⟩] := by
  unfold step
  by_cases hz : o.length = 0
  · rw [if_pos (.inl hz)]
  · have hlt : o.length - 1 < o.length := by omega
    rw [if_pos (.inr (by rw [gc o _ hlt]; exact h _ (List.getElem_mem hlt)))]
theorem yR (o : List BE) (y : BE) (r : sr) (h : y.Seq = r.Seq) : step (o ++ [y]) r = o ++ [⟨y.Seq, y.Tick, y.Budget, y.Facts ++ [r.F]⟩] := by
  have e : (o ++ [y]).length - 1 = o.length := by simp
  unfold step
  rw [e, xm, if_neg (by intro hc; rcases hc with hc | hc; simp at hc; exact hc h), List.set_append_right _ _ (Nat.le_refl _), Nat.sub_self, List.set_cons_zero]
theorem sG (o : List BE) (s t b : Int) : ∀ (fs gs : List ka), (fs.map fun f => (⟨s, t, b, f⟩ : sr)).foldl step (o ++ [⟨s, t, b, gs⟩]) = o ++ [⟨s, t, b, gs ++ fs⟩]
  | [], gs => by simp
  | f :: fs, gs => by
    rw [List.map_cons, List.foldl_cons, yR o _ _ rfl, sG o s t b fs]
    simp
theorem wh (o : List BE) (x : aH) (hx : x.Facts ≠ []) (h : ∀ y ∈ o, y.Seq ≠ x.Seq) : (nZ x).foldl step o = o ++ [Ax x] := by
  unfold nZ
  cases hf : x.Facts with
  | nil => exact absurd hf hx
  | cons f fs =>
    rw [List.map_cons, List.foldl_cons, Af (by intro y hy; exact h y hy), sG]
    simp [Ax, hf]
theorem uk : ∀ (l : List aH) (o : List BE), (∀ x ∈ l, x.Facts ≠ []) → l.Pairwise (fun a b => a.Seq < b.Seq) → (∀ x ∈ l, ∀ y ∈ o, y.Seq < x.Seq) → (gU l).foldl step o = o ++ l.map Ax
  | [], o, _, _, _ => by simp [gU]
  | x :: l, o, h1, h2, h3 => by
    rw [List.pairwise_cons] at h2
    rw [lu, List.foldl_append, wh o x (h1 x (by simp)) (fun y hy => by have := h3 x (by simp) y hy; omega), uk l _ (fun y hy => h1 y (by simp [hy])) h2.2]
    · simp
    · intro y hy w hw
      rw [List.mem_append, List.mem_singleton] at hw
      rcases hw with hw | rfl
      · exact h3 y (by simp [hy]) w hw
      · exact h2.1 y hy
theorem rz {l : List aH} (hI : pg l) (h1 : ∀ x ∈ l, x.Facts ≠ []) (h2 : l.Pairwise (fun a b => a.Seq < b.Seq)) (d s : Int) : cy W d (gU l) s = some (l.map Ax) := by
  have hl := pH hI
  have e := CN (gU l) (by omega) W 0 [] (by omega) (by unfold W; omega) (by simp) (by simp)
  have e0 : ((0 : Nat) : Int) = 0 := rfl
  rw [e0] at e
  unfold cy
  rw [e, List.drop_zero, uk l [] h1 h2 (by simp)]
  simp
theorem An (l : List BE) (hl : l.length ≤ 1000) (hf : ∀ x ∈ l, x.Facts.length ≤ 100) : ∀ (f i : Nat), i ≤ l.length → l.length - i < f → fh W l l f i = some true
  | 0, i, h0, h1 => by omega
  | f + 1, i, h0, h1 => by
    rw [fh]
    by_cases h : i < l.length
    · rw [if_pos (by omega), if_pos (by omega), if_pos (by omega), if_neg (by simp), if_neg (by simp), if_neg (by simp), Int.toNat_natCast, gc l _ h]
      have := hf _ (List.getElem_mem h)
      rw [show dU W l[i].Facts l[i].Facts = some true from uC _ (by omega), pf (by omega)]
      simp only [Option.bind_some, Bool.not_true, Bool.false_eq_true, if_false]
      exact An l hl hf f (i + 1) (by omega) (by omega)
    · rw [if_neg (by omega)]
theorem Ce {l : List BE} (hl : l.length ≤ 1000) (hf : ∀ x ∈ l, x.Facts.length ≤ 100) : gn W l l = some true := by
  have e := An l hl hf W 0 (by omega) (by unfold W; omega)
  have e0 : ((0 : Nat) : Int) = 0 := rfl
  rw [e0] at e
  unfold gn
  rw [if_neg (by simp), e]
theorem Co : ∀ (k j : Nat) (x : Int), j ≤ 8 → 8 < j + k → ∃ y, jX W k j x = some y
  | 0, j, x, h1, h2 => by omega
  | k + 1, j, x, h1, h2 => by
    rw [jX]
    by_cases h : j < 8
    · rw [if_pos (by omega)]
      simp only [fp]
      rw [pf (by omega)]
      exact Co k (j + 1) _ (by omega) (by omega)
    · rw [if_neg (by omega)]; exact ⟨_, rfl⟩
theorem B8 (l : List Int) (hl : l.length ≤ 90000) : ∀ (k i : Nat) (x : Int), i ≤ l.length → l.length < i + k → ∃ y, jU W l k i x = some y
  | 0, i, x, h1, h2 => by omega
  | k + 1, i, x, h1, h2 => by
    rw [jU]
    by_cases h : i < l.length
    · rw [if_pos (by omega), if_pos (by omega), pf (by omega), Int.toNat_natCast]
      obtain ⟨y, hy⟩ := Co W 0 (md .u32 x (mQ (l.getD i 0))) (by omega) (by unfold W; omega)
      have e0 : ((0 : Nat) : Int) = 0 := rfl
      rw [e0] at hy
      rw [hy]
      simp only [Option.bind_some]
      exact B8 l hl k (i + 1) y (by omega) (by omega)
    · rw [if_neg (by omega)]; exact ⟨_, rfl⟩
theorem xA (x : Int) : ∀ (k j : Nat) (l : List Int), j ≤ 4 → 4 < j + k → l.length + (4 - j) ≤ 900000 → ∃ y, kz W x k j l = some y ∧ y.length = l.length + (4 - j)
  | 0, j, l, h1, h2, h3 => by omega
  | k + 1, j, l, h1, h2, h3 => by
    rw [kz]
    by_cases h : j < 4
    · have hw : bb (8 * (j : Int)) = 8 * (j : Int) := bM (by omega)
      rw [if_pos (by omega), if_pos (by rw [hw]; omega), if_pos (by simp; omega), pf (by omega)]
      obtain ⟨y, hy, he⟩ := xA x k (j + 1) (l ++ [jG (ln .u32 x (bb (8 * (j : Int))))]) (by omega) (by omega) (by simp; omega)
      refine ⟨y, hy, ?_⟩
      rw [he]; simp; omega
    · rw [if_neg (by omega)]; exact ⟨_, rfl, by omega⟩
theorem BI (l : List Int) (hl : l.length ≤ 90000) : ∃ y, lU W l = some y ∧ y.length = l.length + 4 := by
  unfold lU mF lR
  rw [pn l (by omega)]
  simp only [Option.bind_some]
  obtain ⟨x, hx⟩ := B8 l hl W 0 (md .u32 (IntKind.max .u32) 0) (by omega) (by unfold W; omega)
  have e0 : ((0 : Nat) : Int) = 0 := rfl
  rw [e0] at hx
  rw [hx]
  simp only [Option.bind_some]
  obtain ⟨y, hy, he⟩ := xA x W 0 l (by omega) (by unfold W; omega) (by omega)
  rw [e0] at hy
  exact ⟨y, hy, he⟩
theorem zm (l : List Int) (hl : l.length ≤ 90000) : ∃ y, kV W l = some y ∧ y.length = (lI 9 l.length).length + l.length + 4 := by
  unfold kV
  have hn := kc 9 l.length
  rw [kw (by omega), show dC W (l.length : Int) = some (lI 9 l.length) from BV _ (by omega)]
  simp only [Option.bind_some]
  unfold dw
  rw [pn _ (by omega)]
  simp only [Option.bind_some]
  obtain ⟨y, hy, he⟩ := BI l hl
  rw [hy]
  simp only [Option.bind_some]
  rw [if_pos (by omega)]
  exact ⟨_, rfl, by rw [List.length_append, he]; omega⟩
theorem Bj : ∀ (k j : Nat) (x : Int), j ≤ 8 → 8 < j + k → ∃ y, fG W k x j = some y
  | 0, j, x, h1, h2 => by omega
  | k + 1, j, x, h1, h2 => by
    rw [fG]
    by_cases h : j < 8
    · rw [if_pos (by omega)]
      simp only [fp]
      rw [pf (by omega)]
      exact Bj k (j + 1) _ (by omega) (by omega)
    · rw [if_neg (by omega)]; exact ⟨_, rfl⟩
theorem Bz (l : List Int) (hl : l.length ≤ 90000) : ∀ (k i : Nat) (x : Int), i ≤ l.length → l.length < i + k → ∃ y, fF W l k x i = some y
  | 0, i, x, h1, h2 => by omega
  | k + 1, i, x, h1, h2 => by
    rw [fF]
    by_cases h : i < l.length
    · rw [if_pos (by omega), if_pos (by omega), pf (by omega), Int.toNat_natCast]
      obtain ⟨y, hy⟩ := Bj W 0 (md .u32 x (mQ (l.getD i 0))) (by omega) (by unfold W; omega)
      have e0 : ((0 : Nat) : Int) = 0 := rfl
      rw [e0] at hy
      rw [hy]
      simp only [Option.bind_some]
      exact Bz l hl k (i + 1) y (by omega) (by omega)
    · rw [if_neg (by omega)]; exact ⟨_, rfl⟩
theorem BS (l : List Int) (hl : l.length ≤ 90000) : ∃ y, hG W l = some y ∧ y.length = (lI 9 l.length).length + l.length + 4 := by
  unfold hG
  have hn := kc 9 l.length
  rw [kw (by omega), show bY W (l.length : Int) = some (lI 9 l.length) from ny _ (by omega)]
  simp only [Option.bind_some]
  unfold iQ iT iH
  rw [if_pos (by simp; omega)]
  obtain ⟨x, hx⟩ := Bz l hl W 0 (mQ (4294967295 - 0)) (by omega) (by unfold W; omega)
  have e0 : ((0 : Nat) : Int) = 0 := rfl
  rw [e0] at hx
  rw [hx]
  simp only [Option.bind_some, fp]
  have ht : (jf x).length = 4 := rfl
  rw [if_pos (by simp; omega)]
  simp only [Option.bind_some]
  rw [if_pos (by simp; omega)]
  exact ⟨_, rfl, by simp; omega⟩
theorem xn {d : Nat} (hd : d ≤ 4) : ∀ l : List ka, (∀ f ∈ l, oC f) → (l.flatMap (lM d)).length ≤ l.length * 220
  | [], _ => by simp
  | f :: l, h => by
    have h1 := rH (h f (by simp)) d
    have h2 := xn hd l fun g hg => h g (by simp [hg])
    simp only [List.flatMap_cons, List.length_append, List.length_cons]
    omega
theorem Ci {l : List ka} {q : Nat} (h1 : 1 ≤ l.length) (h2 : l.length ≤ 50) (hq : q ≤ 4) (hs : ∀ f ∈ l, oC f) (hok : ∀ f ∈ l, kT f) : gA W l (q : Int) W 0 (lI 9 l.length) = some (0, lI 9 l.length ++ l.flatMap (lM q)) ∧ dz W l (q : Int) W 0 (lI 9 l.length) = some (0, lI 9 l.length ++ l.flatMap (lM q)) := by
  have hn := kc 9 l.length
  have r := Cs l hs hok (by omega) q hq 200000 0 (lI 9 l.length) (by omega) (by omega) (by omega)
  rw [List.drop_zero] at r
  exact r
theorem CL {l : List ka} {d : Int} {r : Int × Int} {x : Option (Int × List Int)} (hl : l.length ≤ 50) (hr : cU W l d = some r) (h0 : r.1 = 0) (hx : gA W l d W 0 (lI 9 l.length) = x) : jw W l d = x := by
  unfold jw
  rw [(zr l (by omega) d).1, hr]
  simp only [Option.bind_some]
  rw [if_neg (by simp [h0]), kw (by omega), BV _ (by omega)]
  exact hx
theorem Cz {l : List ka} {d : Int} {r : Int × Int} {x : Option (Int × List Int)} (hl : l.length ≤ 50) (hr : cU W l d = some r) (h0 : r.1 = 0) (hx : dz W l d W 0 (lI 9 l.length) = x) : fc W l d = x := by
  unfold fc
  rw [hr]
  simp only [Option.bind_some]
  rw [if_neg (by simp [h0]), kw (by omega), ny _ (by omega)]
  exact hx
theorem Cx {l : List ka} {d : Int} (h : 1 ≤ l.length ∧ l.length ≤ 50 ∧ ∀ f ∈ l, BK d f) : ∃ bs, jw W l d = some (0, bs) ∧ fc W l d = some (0, bs) ∧ bs.length ≤ 20000 := by
  obtain ⟨h1, h2, h3⟩ := h
  have hs : ∀ f ∈ l, oC f := fun f hf => (tR (h3 f hf)).2.2.1
  have hok : ∀ f ∈ l, kT f := fun f hf => (tR (h3 f hf)).2.2.2
  have hd : 1 ≤ d ∧ d ≤ 4 := (tR (h3 _ (List.getElem_mem (show 0 < l.length by omega)))).1
  obtain ⟨q, rfl⟩ := Int.eq_ofNat_of_zero_le (show 0 ≤ d by omega)
  obtain ⟨r, hr, hq⟩ := wk l (by omega) hd
  have h0 : r.1 = 0 := hq.2 ⟨h1, h2, h3⟩
  have hn := kc 9 l.length
  have hel := xn (d := q) (by omega) l hs
  obtain ⟨r1, r2⟩ := Ci h1 h2 (by omega) hs hok (q := q)
  exact ⟨_, CL h2 hr h0 r1, Cz h2 hr h0 r2, by rw [List.length_append]; omega⟩
theorem BP {d s t b : Int} {l : List ka} (h : oN d s t b l) : ∃ y z, ku W s t b l d = some (0, y) ∧ fZ W s t b l d = some (0, z) ∧ y.length = z.length ∧ y.length ≤ 30000 := by
  have hin := yq h
  have hd : 1 ≤ d ∧ d ≤ 4 := (tR (h.1.2.2 _ (List.getElem_mem (show 0 < l.length by have := h.1.1; omega)))).1
  obtain ⟨q1, e1, i1⟩ := uB hin.1 hin.2.1 hin.2.2 l (by have := h.1.2.1; omega) hd
  obtain ⟨q2, e2, i2⟩ := uU s t b l (by have := h.1.2.1; omega) hd
  obtain ⟨bs, b1, b2, b3⟩ := Cx h.1
  obtain ⟨ns, hs, ls⟩ := nS s
  obtain ⟨nt, ht, lt⟩ := nS t
  obtain ⟨nb, hb, lb⟩ := nS b
  have n1 := kc 9 ns
  have n2 := kc 9 nt
  have n3 := kc 9 nb
  unfold ku fZ gz
  rw [e1, e2, i1.2 h, i2.2 h, hs, ht, hb]
  simp only [Option.bind_some, Bool.not_true, Bool.false_eq_true, if_false]
  rw [show dC W (ns : Int) = some (lI 9 ns) from BV _ ls, show bY W (ns : Int) = some (lI 9 ns) from ny _ ls, show bY W (nt : Int) = some (lI 9 nt) from ny _ lt, show bY W (nb : Int) = some (lI 9 nb) from ny _ lb]
  simp only [Option.bind_some]
  rw [show cW W (lI 9 ns) (nt : Int) = some (lI 9 ns ++ lI 9 nt) from Ad _ _ lt (by omega), if_pos (by omega)]
  simp only [Option.bind_some]
  rw [show cW W (lI 9 ns ++ lI 9 nt) (nb : Int) = some (lI 9 ns ++ lI 9 nt ++ lI 9 nb) from Ad _ _ lb (by simp; omega), if_pos (by simp only [List.length_append]; omega), b1, b2]
  simp only [Option.bind_some]
  unfold dw
  rw [pn _ (by simp only [List.length_append]; omega), if_neg (by simp), if_pos (by simp only [List.length_append]; omega)]
  simp only [Option.bind_some]
  rw [if_pos (by simp only [List.length_append]; omega)]
  obtain ⟨y, hy, ly⟩ := zm (lI 9 ns ++ lI 9 nt ++ lI 9 nb ++ bs) (by simp only [List.length_append]; omega)
  obtain ⟨z, hz, lz⟩ := BS (lI 9 ns ++ lI 9 nt ++ lI 9 nb ++ bs) (by simp only [List.length_append]; omega)
  rw [hy, hz]
  have n4 := kc 9 (lI 9 ns ++ lI 9 nt ++ lI 9 nb ++ bs).length
  refine ⟨y, z, rfl, rfl, by rw [ly, lz], ?_⟩
  rw [ly]
  simp only [List.length_append] at n4 ⊢
  omega
def wU (d : Int) (x : aH) : Prop := oN d x.Seq x.Tick x.Budget x.Facts
theorem Ap (d : Int) (l : List aH) (hl : l.length ≤ 80) (hr : ∀ x ∈ l, wU d x) : ∀ (f i : Nat) (a c : List Int), i ≤ l.length → l.length - i < f → a.length = c.length → a.length ≤ i * 30000 →
    ∃ y z, jE W l d f i a = some y ∧ fg W (l.map Ax) d f i c = some z ∧ y.2.length = z.2.length
  | 0, i, a, c, h0, h1, h2, h3 => by omega
  | f + 1, i, a, c, h0, h1, h2, h3 => by
    rw [jE, fg]
    by_cases h : i < l.length
    · have hm : i < (l.map Ax).length := by simpa using h
      have hg : (l.map Ax).getD i aj = Ax l[i] := by rw [gc _ _ hm]; simp
      obtain ⟨y, z, e1, e2, e3, e4⟩ := BP (hr _ (List.getElem_mem h))
      rw [if_pos (by omega), if_pos (by omega), if_pos (by simp; omega), if_pos (by omega), pf (by omega), Int.toNat_natCast, hg, gc l _ h]
      simp only [Ax]
      rw [e1, e2]
      simp only [Option.bind_some]
      rw [if_neg (by simp), if_pos (by omega), if_neg (by simp), if_pos (by omega)]
      exact Ap d l hl hr f (i + 1) _ _ (by omega) (by omega) (by simp [h2, e3]) (by simp; omega)
    · rw [if_neg (by omega), if_neg (by simp; omega)]
      exact ⟨_, _, rfl, rfl, h2⟩
theorem Be {d : Int} {l : List aH} (hI : pg l) (hr : ∀ x ∈ l, wU d x) (h1 : ∀ x ∈ l, x.Facts ≠ []) (h2 : l.Pairwise (fun a b => a.Seq < b.Seq)) (s s' : Int) : ∃ n, jj W d l s = some n ∧ eX W d (gU l) s' = some n := by
  have hl := hI.len
  obtain ⟨y, z, e1, e2, e3⟩ := Ap d l hI.len hr W 0 [] [] (by omega) (by unfold W; omega) rfl (by simp)
  have e0 : ((0 : Nat) : Int) = 0 := rfl
  rw [e0] at e1 e2
  refine ⟨(y.2.length : Int), ?_, ?_⟩
  · unfold jj lx
    rw [e1]; rfl
  · unfold eX eL
    rw [rz hI h1 h2]
    simp only [Option.bind_some]
    rw [e2, e3]; rfl
end Go.Proofs.YtmgpegiekankmaaGreat.MemCopies
end
section
set_option linter.unusedVariables false
set_option linter.unusedSimpArgs false
set_option maxRecDepth 20000
namespace Go.Proofs.YtmgpegiekankmaaGreat.MemCopies
open Go E
theorem Ai (l : List ka) (i : Nat) : ∀ (k j : Nat), j ≤ 4 → 4 < j + k → ∃ x, fi W l i k j = some x
  | 0, j, h1, h2 => by omega
  | k + 1, j, h1, h2 => by
    rw [fi]
    by_cases h : j < 4
    · obtain ⟨x, hx⟩ := Ai l i k (j + 1) (by omega) (by omega)
      rw [if_pos (by omega), if_pos (by omega), if_pos (by omega), if_pos (by omega), pf (by omega), hx]
      split <;> exact ⟨_, rfl⟩
    · rw [if_neg (by omega)]; exact ⟨_, rfl⟩
theorem Ah (l : List ka) (hl : l.length ≤ 100) : ∀ (k i : Nat), i ≤ l.length → l.length < i + k → ∃ x, fw W l k i = some x
  | 0, i, h1, h2 => by omega
  | k + 1, i, h1, h2 => by
    rw [fw]
    by_cases h : i < l.length
    · obtain ⟨x, hx⟩ := Ah l hl k (i + 1) (by omega) (by omega)
      obtain ⟨z, hz⟩ := Ai l i W 0 (by omega) (by unfold W; omega)
      have e0 : ((0 : Nat) : Int) = 0 := rfl
      rw [e0] at hz
      rw [if_pos (by omega), hz, pf (by omega)]
      cases z with
      | inl u => simp only [Option.bind_some, vL]; exact ⟨x, hx⟩
      | inr b => simp only [Option.bind_some, vL]; exact ⟨b, rfl⟩
    · rw [if_neg (by omega)]; exact ⟨_, rfl⟩
theorem Cf (l : List ka) : ∃ b, gm W l = some b ∧ (b = true → l.length ≤ 100) := by
  unfold gm
  by_cases h : 100 < (l.length : Int)
  · rw [if_pos h]; exact ⟨false, rfl, fun h => absurd h (by decide)⟩
  · rw [if_neg h]
    obtain ⟨b, hb⟩ := Ah l (by omega) W 0 (by omega) (by unfold W; omega)
    exact ⟨b, hb, fun _ => by omega⟩
theorem BH (x : cF) : ∃ b, fB W [x] = some b ∧ (b = true → x.Facts.xs.length ≤ 100) := by
  unfold fB
  rw [if_neg (by simp)]
  obtain ⟨b, hb, hq⟩ := Cf x.Facts.xs
  have e0 : (([x] : List cF).getD (0 : Int).toNat gr) = x := rfl
  show ∃ b, eu W [x] (199998 + 1 + 1) 0 = some b ∧ _
  rw [eu, if_pos (by simp), if_pos (by omega), e0, hb]
  simp only [Option.bind_some]
  cases b with
  | false => exact ⟨false, rfl, fun h => absurd h (by decide)⟩
  | true =>
    simp only [Bool.not_true, Bool.false_eq_true, if_false]
    rw [eu, if_neg (by rw [bM (by omega)]; simp)]
    exact ⟨true, rfl, fun _ => hq rfl⟩
abbrev Act := dv
def tQ (a : Act) : Prop := a.B.Facts.xs.length ≤ 100 ∧ a.Put.xs.length ≤ 20
theorem xq (l : List Act) (hl : l.length ≤ 40) : ∀ (k i : Nat), i ≤ l.length → l.length < i + k → ∃ b, fv W l k i = some b ∧ (b = true → ∀ x ∈ l.drop i, tQ x)
  | 0, i, h1, h2 => by omega
  | k + 1, i, h1, h2 => by
    rw [fv]
    by_cases h : i < l.length
    · rw [if_pos (by omega), if_pos (by omega), pf (by omega), Int.toNat_natCast, gc l _ h aN]
      obtain ⟨b, hb, hb2⟩ := BH l[i].B
      rw [show fB W [(⟨l[i].B.Seq, l[i].B.Tick, l[i].B.Budget, l[i].B.Facts⟩ : cF)] = some b from hb]
      simp only [Option.bind_some]
      cases b with
      | false => exact ⟨false, rfl, fun h => absurd h (by decide)⟩
      | true =>
        simp only [Bool.not_true, Bool.false_eq_true, if_false]
        by_cases hp : 20 < (l[i].Put.xs.length : Int)
        · rw [if_pos hp]; exact ⟨false, rfl, fun h => absurd h (by decide)⟩
        · rw [if_neg hp]
          obtain ⟨c, hc, hq⟩ := xq l hl k (i + 1) (by omega) (by omega)
          refine ⟨c, hc, fun e x hx => ?_⟩
          rw [List.drop_eq_getElem_cons h, List.mem_cons] at hx
          rcases hx with rfl | hx
          · exact ⟨hb2 rfl, by omega⟩
          · exact hq e x hx
    · rw [if_neg (by omega), List.drop_eq_nil_of_le (by omega)]
      exact ⟨true, rfl, fun _ x hx => by cases hx⟩
theorem zu (l : List Act) : ∃ b, eT W l = some b ∧ (b = true → l.length ≤ 40 ∧ ∀ x ∈ l, tQ x) := by
  unfold eT
  by_cases h : 40 < (l.length : Int)
  · rw [if_pos h]; exact ⟨false, rfl, fun h => absurd h (by decide)⟩
  · rw [if_neg h]
    obtain ⟨b, hb, h2⟩ := xq l (by omega) W 0 (by omega) (by unfold W; omega)
    exact ⟨b, hb, fun e => ⟨by omega, fun x hx => h2 e x (by simpa using hx)⟩⟩
structure xE (d : Int) (l : List aH) (s : Int) : Prop where
  right : ∀ x ∈ l, wU d x
  srt : l.Pairwise (fun a b => a.Seq < b.Seq)
  last : ∀ x ∈ l, x.Seq ≤ s
theorem xE.small {d : Int} {l : List aH} {s : Int} (h : xE d l s) (hl : l.length ≤ 80) : pg l := ⟨hl, fun x hx => by have := (h.right x hx).1.2.1; omega⟩
theorem xE.some {d : Int} {l : List aH} {s : Int} (h : xE d l s) : ∀ x ∈ l, x.Facts ≠ [] := fun x hx e => by
  have := (h.right x hx).1.1
  rw [e] at this
  simp at this
theorem xE.cut {d : Int} {l : List aH} {s : Int} (h : xE d l s) (g : pU) : xE d (mm g l) s := by
  refine ⟨fun y hy => ?_, rr g l h.srt, fun y hy => ?_⟩
  · obtain ⟨x, hx, rfl, hp⟩ := nT g l y hy
    obtain ⟨⟨h1, h2, h3⟩, h4⟩ := h.right x hx
    have hk := pj g x.Seq x.Facts
    exact ⟨⟨by simp only; omega, by simp only; omega, fun f hf => h3 f (List.mem_filter.1 hf).1⟩, h4⟩
  · obtain ⟨x, hx, rfl, hp⟩ := nT g l y hy
    exact h.last x hx
theorem xR {d : Int} {l : List aH} {s : Int} (h : xE d l s) (hl : l.length ≤ 80) (s' a b : Int) : eQ W d l s d (gU l) s' a b = some true := by
  have hI := h.small hl
  have hr := pH hI
  have hF := vp hI
  have e1 : ((ob l).filter (qq 0 4611686018427387904)).length ≤ (ob l).length := List.length_filter_le _ _
  have e2 : ((ob l).filter (qq a b)).length ≤ (ob l).length := List.length_filter_le _ _
  unfold eQ
  rw [xQ hI, Option.bind_some, AP (by omega), Option.bind_some, rz hI h.some h.srt, Option.bind_some, Ce (by simp; omega) (by
    intro x hx
    obtain ⟨y, hy, rfl⟩ := List.mem_map.1 hx
    exact hI.each y hy), Option.bind_some, if_pos rfl]
  unfold iK fT
  rw [Aj hI, uF (by omega), oL]
  simp only [Option.bind_some]
  obtain ⟨x, h1, h2, h3⟩ := Cl ((ob l).filter (qq 0 4611686018427387904)) (by omega)
  rw [h1, h2]
  simp only [Option.bind_some]
  rw [Am x (by omega)]
  simp only [Option.bind_some, if_true]
  rw [Aj hI, uF (by omega), oL]
  simp only [Option.bind_some]
  rw [uC _ (by omega)]
  simp only [Option.bind_some, if_true]
  unfold ig
  rw [Aj hI]
  simp only [Option.bind_some]
  rw [if_pos (by simp)]
  obtain ⟨n, n1, n2⟩ := Be hI h.right h.some h.srt s s'
  rw [n1, n2]
  simp
def Cw (a : Act) : Prop := ov .i64 a.B.Seq ∧ ov .i64 a.B.Tick ∧ ov .i64 a.B.Budget
theorem Bt (s t b : Int) (fs : List ka) (hf : fs.length ≤ 100) : ∀ (f i : Nat) (acc : List sr), i ≤ fs.length → fs.length - i < f → acc.length ≤ 8800 + i →
    ee W s t b fs f i acc = some (0, acc ++ (fs.drop i).map (fun f => (⟨s, t, b, f⟩ : sr)), s)
  | 0, i, acc, h0, h1, h2 => by omega
  | f + 1, i, acc, h0, h1, h2 => by
    rw [ee]
    by_cases h : i < fs.length
    · rw [if_pos (by omega), if_pos (by omega), if_pos (by simp; omega), pf (by omega)]
      simp only [Int.toNat_natCast, gc fs _ h]
      have ih := Bt s t b fs hf f (i + 1) (acc ++ [⟨s, t, b, fs[i]⟩]) (by omega) (by omega) (by simp; omega)
      rw [List.drop_eq_getElem_cons h, List.map_cons]
      rw [List.append_assoc] at ih
      exact ih
    · rw [if_neg (by omega), List.drop_eq_nil_of_le (by omega)]; simp
theorem zk {d : Int} (hd : 1 ≤ d ∧ d ≤ 4) {l : List aH} {s : Int} (h : xE d l s) (hl : l.length ≤ 79) (kd sq tk bu : Int) (h1 : ov .i64 sq) (h2 : ov .i64 tk) (h3 : ov .i64 bu) (fs : List ka) (hf : fs.length ≤ 100) (a b : Int) (ps : List En) (hp : ps.length ≤ 20) :
    ∃ l' s', eo W d l s d (gU l) s kd sq tk bu fs a b ps = some (true, l', s', gU l', s') ∧ xE d l' s' ∧ l'.length ≤ l.length + 1 := by
  have hI := h.small (by omega)
  have hr := pH hI
  unfold eo iP
  simp only [fp]
  by_cases k0 : kd = 0
  · rw [if_pos k0]
    unfold iF gi
    obtain ⟨q1, e1, i1⟩ := uB h1 h2 h3 fs hf hd
    obtain ⟨q2, e2, i2⟩ := uU sq tk bu fs hf hd
    have eq := AA i1 i2
    subst eq
    rw [e1, e2]
    simp only [Option.bind_some]
    cases q1 with
    | false => exact ⟨l, s, by simp, h, by omega⟩
    | true =>
      simp only [Bool.not_true, Bool.false_eq_true, if_false]
      by_cases hs : sq ≤ s
      · rw [if_pos hs, if_pos hs]; exact ⟨l, s, by simp, h, by omega⟩
      · have hR := i1.1 rfl
        rw [if_neg hs, if_neg hs, xS _ hf]
        simp only [Option.bind_some]
        rw [if_pos (by omega), if_pos (by simp; omega)]
        have e := Bt sq tk bu fs hf W 0 ([] ++ gU l) (by omega) (by unfold W; omega) (by simp; omega)
        have e0 : ((0 : Nat) : Int) = 0 := rfl
        rw [e0] at e
        rw [e]
        have ea : gU (l ++ [(⟨sq, tk, bu, fs⟩ : aH)]) = [] ++ gU l ++ (fs.drop 0).map (fun f => (⟨sq, tk, bu, f⟩ : sr)) := by
          rw [wA]; simp [gU, nZ]
        refine ⟨l ++ [⟨sq, tk, bu, fs⟩], sq, ?_, ⟨fun x hx => ?_, ?_, fun x hx => ?_⟩, by simp⟩
        · rw [ea]; simp
        · rw [List.mem_append, List.mem_singleton] at hx
          rcases hx with hx | rfl
          · exact h.right x hx
          · exact hR
        · rw [List.pairwise_append]
          refine ⟨h.srt, List.pairwise_singleton _ _, fun x hx y hy => ?_⟩
          rw [List.mem_singleton] at hy
          subst hy
          have := h.last x hx
          simp only
          omega
        · rw [List.mem_append, List.mem_singleton] at hx
          rcases hx with hx | rfl
          · have := h.last x hx; omega
          · simp
  · rw [if_neg k0]
    by_cases k1 : kd = 1
    · rw [if_pos k1, CC hI, CG (by omega)]
      have hg := tI (iN a b) l
      have hc := rJ (iN a b) l
      refine ⟨mm (iN a b) l, s, ?_, h.cut _, Nat.le_succ_of_le (se _ _)⟩
      rw [hc] at hg
      simp only [Option.bind_some]
      rw [hc]
      congr 2
      rw [beq_iff_eq]
      congr 1
      omega
    · rw [if_neg k1]
      obtain ⟨r, e1, r1, r2⟩ := vi (K := W) ps (by omega) (Nat.le_refl _)
      obtain ⟨t, e2, t2⟩ := uo (K := W) (es := ps) (by omega) (Nat.le_refl _)
      rw [e1]
      simp only [Option.bind_some]
      by_cases r0 : r.1 = 0
      · have hcat : nN (jp [] ps).2 := (rW (es := ps) nN.nil (by simp; omega)).1
        rw [if_neg (by simp [r0]), e2]
        simp only [Option.bind_some]
        rw [r2 r0, t2 (by rw [← r1]; exact r0), CJ hcat hI, Cy hcat (by omega)]
        have hg := tI (ir (jp [] ps).2 a) l
        have hc := rJ (ir (jp [] ps).2 a) l
        refine ⟨mm (ir (jp [] ps).2 a) l, s, ?_, h.cut _, Nat.le_succ_of_le (se _ _)⟩
        rw [hc] at hg
        simp only [Option.bind_some]
        rw [hc]
        congr 2
        rw [beq_iff_eq]
        congr 1
        omega
      · rw [if_pos r0]; exact ⟨l, s, rfl, h, by omega⟩
theorem oX : eW W = some true := by kernel_rfl
theorem B9 {x y : Int × Int × Int} (hx : x.1 = 2) (hy : y.1 = 2) (A : List Act) (hA : A.length ≤ 40) (hs : ∀ x ∈ A, tQ x) (ho : ∀ x ∈ A, Cw x) : ∀ (f i : Nat) (l : List aH) (s : Int), i ≤ A.length → A.length - i < f → l.length + (A.length - i) ≤ 80 → xE 2 l s →
    ∃ l' s', dN W A x y f i l s (gU l) s = some (Sum.inl (l', gU l', s', s')) ∧ xE 2 l' s' ∧ l'.length ≤ l.length + (A.length - i)
  | 0, i, l, s, h0, h1, h2, h => by omega
  | f + 1, i, l, s, h0, h1, h2, h => by
    rw [dN]
    by_cases hi : i < A.length
    · rw [if_pos (by omega), if_pos (by omega), pf (by omega), hx, hy]
      simp only [Int.toNat_natCast, gc A _ hi]
      have hm := List.getElem_mem hi
      obtain ⟨l', s', e1, e2, e3⟩ := zk (d := 2) (by omega) h (by omega) A[i].Kind _ _ _ (ho _ hm).1 (ho _ hm).2.1 (ho _ hm).2.2 A[i].B.Facts.xs (hs _ hm).1 A[i].From A[i].To A[i].Put.xs (hs _ hm).2
      rw [e1]
      simp only [Option.bind_some, Bool.not_true, Bool.false_eq_true, if_false]
      obtain ⟨m, t, q1, q2, q3⟩ := B9 hx hy A hA hs ho f (i + 1) l' s' (by omega) (by omega) (by omega) e2
      exact ⟨m, t, q1, q2, by omega⟩
    · rw [if_neg (by omega)]
      exact ⟨l, s, rfl, h, by omega⟩
theorem Cb {x y : Int × Int × Int} (hx : x.1 = 2) (hy : y.1 = 2) (A : List Act) (hA : A.length ≤ 40) (hs : ∀ x ∈ A, tQ x) (ho : ∀ x ∈ A, Cw x) : ∀ (f i : Nat) (l : List aH) (s : Int), i ≤ A.length → A.length - i < f → l.length + (A.length - i) ≤ 80 → xE 2 l s →
    ∃ l' s', dL W A x y f i l s (gU l) s = some (Sum.inl (l', gU l', s', s')) ∧ xE 2 l' s' ∧ l'.length ≤ l.length + (A.length - i)
  | 0, i, l, s, h0, h1, h2, h => by omega
  | f + 1, i, l, s, h0, h1, h2, h => by
    rw [dL]
    by_cases hi : i < A.length
    · rw [if_pos (by omega), if_pos (by omega), pf (by omega), hx, hy]
      simp only [Int.toNat_natCast, gc A _ hi]
      have hm := List.getElem_mem hi
      obtain ⟨l', s', e1, e2, e3⟩ := zk (d := 2) (by omega) h (by omega) A[i].Kind _ _ _ (ho _ hm).1 (ho _ hm).2.1 (ho _ hm).2.2 A[i].B.Facts.xs (hs _ hm).1 A[i].From A[i].To A[i].Put.xs (hs _ hm).2
      rw [e1]
      simp only [Option.bind_some, Bool.not_true, Bool.false_eq_true, if_false]
      obtain ⟨m, t, q1, q2, q3⟩ := Cb hx hy A hA hs ho f (i + 1) l' s' (by omega) (by omega) (by omega) e2
      exact ⟨m, t, q1, q2, by omega⟩
    · rw [if_neg (by omega)]
      exact ⟨l, s, rfl, h, by omega⟩
theorem law (A B : List Act) (ho : (∀ x ∈ A, Cw x) ∧ ∀ x ∈ B, Cw x) : ∃ K, gE K A B = some true := by
  refine ⟨W, ?_⟩
  unfold gE
  obtain ⟨q, hq, hq2⟩ := zu A
  obtain ⟨p, hp, hp2⟩ := zu B
  rw [hq]
  simp only [Option.bind_some]
  cases q with
  | false => simp only [Bool.not_false, if_true]; rw [oX]; rfl
  | true =>
    obtain ⟨hA, hsA⟩ := hq2 rfl
    simp only [Bool.not_true, Bool.false_eq_true, if_false]
    rw [hp]
    simp only [Option.bind_some]
    cases p with
    | false => simp only [Bool.not_false, if_true]; rw [oX]; rfl
    | true =>
      obtain ⟨hB, hsB⟩ := hp2 rfl
      simp only [Bool.not_true, Bool.false_eq_true, if_false, fp]
      unfold mE jB
      rw [if_neg (by simp)]
      obtain ⟨l, s, e1, i1, n1⟩ := B9 (x := (2, 0, 0)) (y := (2, 0, 0)) rfl rfl A hA hsA ho.1 W 0 [] 0 (by omega) (by unfold W; omega) (by simp; omega) ⟨by simp, List.Pairwise.nil, by simp⟩
      have e0 : ((0 : Nat) : Int) = 0 := rfl
      rw [e0] at e1
      simp only [List.length_nil] at n1
      obtain ⟨m, t, e2, i2, n2⟩ := Cb (x := (2, 0, 0)) (y := (2, 0, 0)) rfl rfl B hB hsB ho.2 W 0 l s (by omega) (by unfold W; omega) (by omega) i1
      rw [e0] at e2
      have hI := i1.small (by omega)
      have hr := pH hI
      rw [show dN W A (2, 0, 0) (2, 0, 0) W 0 [] 0 [] 0 = some (Sum.inl (l, gU l, s, s)) from e1]
      simp only [Option.bind_some, vL]
      unfold kf gh
      rw [xQ hI]
      simp only [Option.bind_some]
      rw [if_pos (by simp only [List.length_nil]; omega)]
      simp only [Option.bind_some, List.nil_append]
      rw [show dL W B (2, 0, 0) (2, 0, 0) W 0 l s (gU l) s = some (Sum.inl (m, gU m, t, t)) from e2]
      simp only [Option.bind_some]
      rw [xR i1 (by omega)]
      simp only [Option.bind_some, if_true]
      rw [xR i2 (by omega)]
      simp only [Option.bind_some, if_true]
      rw [oX]; rfl
end Go.Proofs.YtmgpegiekankmaaGreat.MemCopies
end
section
set_option linter.unusedVariables false
namespace Go.Proofs.YtmgpegiekankmaaGreat.MemCopies
open Go Go.ChangeShapes Go.WideShapes Go.ChangeAt Go.RowKit E
open Go.ChangeMaps (open_string shut_string)
theorem own : ownKnob Tryz.prog.godebug = none := by kernel_rfl
theorem A7 : laidOutB Tryz.prog = true := by kernel_rfl
set_option maxRecDepth 100000 in
theorem BU (os : Os) (started : os.Started) (H : Type) (enc : TypeId × Value → H) :
    ReturnsInHanded {} Tryz.checked os 4 .any (Rows.memCopiesSpec.pre6 enc Tryz.prog Tryz.f4 Rows.memCopiesRow.domain false) (Rows.memCopiesSpec.post enc Tryz.prog Tryz.f4 false true false false) := by
  refine vR (C := Tryz.checked) (tb := 4) (ts := [22, 22]) own started (by kernel_rfl) Tryz.func4
    (ChangeSpec.witness6 (enc := enc) (C := Tryz.checked) false ⟨#[], #[.slice none 0 0, .slice none 0 0], []⟩ 8 (by kernel_rfl) (by kernel_rfl) (by kernel_rfl) (by kernel_rfl))
    (by rw [Tryz.params4]) rfl Tryz.underlying4 rfl A7 (by kernel_rfl) ?_ (fun W => (qE (pE (e := 38) (by kernel_rfl) (sI (c' := ia) (gX (ts := [3, 35, 2, 2, 36]) (by kernel_rfl) (cw (et Tryz.underlying3) (cw (gX (ts := [2, 2, 2, 33]) (by kernel_rfl) (cw (et Tryz.underlying2) (cw (et Tryz.underlying2) (cw (et Tryz.underlying2) (ip (me (e := 87) (by kernel_rfl) (oc (c' := aD) (ok' := kT) (gX (ts := [85, 2]) (by kernel_rfl) (cw (gX (ts := [2, 83]) (by kernel_rfl) (cw (et Tryz.underlying2) (ip (ro (e := 9) (by kernel_rfl) (by kernel_rfl) (cw (lF Tryz.underlying9) (cw (lF Tryz.underlying9) (cw (lF Tryz.underlying9) (ip (lF Tryz.underlying9))))))))) (ip (et Tryz.underlying2)))) (fun x => (⟨(⟨x.1.1, x.1.2.1, x.1.2.2.1, x.1.2.2.2.1, x.1.2.2.2.2⟩ : bc), x.2⟩ : aC)) (fun _ => rfl) (fun _ h => ⟨⟨h.1.1, h.1.2.1, h.1.2.2.1, h.1.2.2.2.1, h.1.2.2.2.2⟩, h.2⟩)))))))) (cw (et Tryz.underlying2) (cw (et Tryz.underlying2) (ip (me (e := 74) (by kernel_rfl) (oc (c' := ba) (ok' := pJ) (gX (ts := [56, 2, 2, 2, 4]) (by kernel_rfl) (cw (gX (ts := [3, 2]) (by kernel_rfl) (cw (et Tryz.underlying3) (ip (et Tryz.underlying2)))) (cw (et Tryz.underlying2) (cw (et Tryz.underlying2) (cw (et Tryz.underlying2) (ip (rm Tryz.underlying4))))))) (fun x => (⟨(⟨x.1.1, x.1.2⟩ : aW), x.2.1, x.2.2.1, x.2.2.2.1, x.2.2.2.2⟩ : aE)) (fun _ => rfl) (fun _ h => ⟨⟨h.1.1, h.1.2⟩, h.2.1, h.2.2.1, h.2.2.2.1⟩))))))))) (fun x => (⟨x.1, (⟨x.2.1.1, x.2.1.2.1, x.2.1.2.2.1, (⟨x.2.1.2.2.2.1, x.2.1.2.2.2.2⟩ : Sl (aC))⟩ : cF), x.2.2.1, x.2.2.2.1, (⟨x.2.2.2.2.1, x.2.2.2.2.2⟩ : Sl (aE))⟩ : dv)) (fun _ => rfl))) (qE (pE (e := 38) (by kernel_rfl) (sI (c' := ia) (gX (ts := [3, 35, 2, 2, 36]) (by kernel_rfl) (cw (et Tryz.underlying3) (cw (gX (ts := [2, 2, 2, 33]) (by kernel_rfl) (cw (et Tryz.underlying2) (cw (et Tryz.underlying2) (cw (et Tryz.underlying2) (ip (me (e := 87) (by kernel_rfl) (oc (c' := aD) (ok' := kT) (gX (ts := [85, 2]) (by kernel_rfl) (cw (gX (ts := [2, 83]) (by kernel_rfl) (cw (et Tryz.underlying2) (ip (ro (e := 9) (by kernel_rfl) (by kernel_rfl) (cw (lF Tryz.underlying9) (cw (lF Tryz.underlying9) (cw (lF Tryz.underlying9) (ip (lF Tryz.underlying9))))))))) (ip (et Tryz.underlying2)))) (fun x => (⟨(⟨x.1.1, x.1.2.1, x.1.2.2.1, x.1.2.2.2.1, x.1.2.2.2.2⟩ : bc), x.2⟩ : aC)) (fun _ => rfl) (fun _ h => ⟨⟨h.1.1, h.1.2.1, h.1.2.2.1, h.1.2.2.2.1, h.1.2.2.2.2⟩, h.2⟩)))))))) (cw (et Tryz.underlying2) (cw (et Tryz.underlying2) (ip (me (e := 74) (by kernel_rfl) (oc (c' := ba) (ok' := pJ) (gX (ts := [56, 2, 2, 2, 4]) (by kernel_rfl) (cw (gX (ts := [3, 2]) (by kernel_rfl) (cw (et Tryz.underlying3) (ip (et Tryz.underlying2)))) (cw (et Tryz.underlying2) (cw (et Tryz.underlying2) (cw (et Tryz.underlying2) (ip (rm Tryz.underlying4))))))) (fun x => (⟨(⟨x.1.1, x.1.2⟩ : aW), x.2.1, x.2.2.1, x.2.2.2.1, x.2.2.2.2⟩ : aE)) (fun _ => rfl) (fun _ h => ⟨⟨h.1.1, h.1.2⟩, h.2.1, h.2.2.1, h.2.2.2.1⟩))))))))) (fun x => (⟨x.1, (⟨x.2.1.1, x.2.1.2.1, x.2.1.2.2.1, (⟨x.2.1.2.2.2.1, x.2.1.2.2.2.2⟩ : Sl (aC))⟩ : cF), x.2.2.1, x.2.2.2.1, (⟨x.2.2.2.2.1, x.2.2.2.2.2⟩ : Sl (aE))⟩ : dv)) (fun _ => rfl))) wb))) ?_
  · intro ds hl
    match ds, hl with
    | [d0, d1], _ => rfl
  · intro W x hok
    obtain ⟨⟨s0, l0⟩, ⟨s1, l1⟩, _⟩ := x
    obtain ⟨h0, h1, _⟩ := hok
    obtain ⟨K, hK⟩ := law l0 l1 ⟨(fun y hy => by obtain ⟨x, rfl, hx⟩ := h0.2.2 y hy; exact ⟨hx.2.1.1, hx.2.1.2.1, hx.2.1.2.2.1⟩), (fun y hy => by obtain ⟨x, rfl, hx⟩ := h1.2.2 y hy; exact ⟨hx.2.1.1, hx.2.1.2.1, hx.2.1.2.2.1⟩)⟩
    refine ⟨[Ar W], (gE.spec K (Ar W) s0 s1 l0 l1 (nf h0.1) (fun y hy => by obtain ⟨x, rfl, hx⟩ := h0.2.2 y hy; exact ⟨nf hx.2.1.2.2.2.1, nf hx.2.2.2.2.1⟩) (nf h1.1) (fun y hy => by obtain ⟨x, rfl, hx⟩ := h1.2.2 y hy; exact ⟨nf hx.2.1.2.2.2.1, nf hx.2.2.2.2.1⟩) true hK).mono fun v M h => h.1, ?_⟩
    intro A hA
    simp only [List.mem_cons, List.not_mem_nil, or_false] at hA
    subst hA
    exact fun _ _ h => h
theorem over : Rows.memCopiesRow.holds Tryz.pinned (OpenSpec.ofChange Rows.memCopiesSpec) :=
  OpenClaim.holds_of_wide 4 Tryz.f4 rfl rfl rfl rfl rfl rfl rfl ⟨rfl, rfl, rfl, rfl, rfl⟩ rfl rfl rfl rfl rfl (by kernel_rfl) Tryz.func4 (by kernel_rfl)
    (of_decide_eq_true (by kernel_rfl)) (by unfold Func.isWrapper; first | (rw [if_pos (by decide +kernel)]; kernel_rfl) | (rw [if_neg (by decide +kernel)]; exact ⟨rfl, rfl⟩))
    (fun os started H enc _ => BU os started H enc)
end Go.Proofs.YtmgpegiekankmaaGreat.MemCopies
namespace Go.Proofs.YtmgpegiekankmaaGreat
theorem memCopies_holds : Rows.MemCopiesSaid := MemCopies.over
#print axioms memCopies_holds
end Go.Proofs.YtmgpegiekankmaaGreat
end
