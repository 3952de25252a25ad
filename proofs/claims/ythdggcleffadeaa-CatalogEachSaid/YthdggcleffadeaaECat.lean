/- Plain law of lists of spans in order: where a key is, which one has a number, which meet a range; one more, one less. No machine in it. -/
import Derived.Test.YthdggcleffadeaaELaw
set_option linter.unusedVariables false
namespace Go.Proofs.Ythdggcleffadeaa.E
open Go
section
variable {α : Type} (key hi : α → Int)
/-- Spans in order, none of which meet. -/
def Srt (l : List α) : Prop := (∀ x ∈ l, key x < hi x) ∧ l.Pairwise (fun a b => hi a ≤ key b)
def cnt (l : List α) (k : Int) : Nat := l.countP (fun x => decide (key x < k))
def con (h : Int) (x : α) : Bool := decide (key x ≤ h ∧ h < hi x)
def ovl (a b : Int) (x : α) : Bool := decide (a < hi x ∧ key x < b)
variable {key hi}
theorem Srt.nil : Srt key hi [] := ⟨by simp, List.Pairwise.nil⟩
theorem Srt.tail {x : α} {l : List α} (h : Srt key hi (x :: l)) : Srt key hi l := ⟨fun y hy => h.1 y (by simp [hy]), (List.pairwise_cons.1 h.2).2⟩
theorem Srt.head {x : α} {l : List α} (h : Srt key hi (x :: l)) : key x < hi x ∧ ∀ y ∈ l, hi x ≤ key y ∧ key x < key y := by
  have h0 := h.1 x (by simp)
  refine ⟨h0, fun y hy => ?_⟩
  have := (List.pairwise_cons.1 h.2).1 y hy
  omega
theorem Srt.sub {l m : List α} (h : Srt key hi l) (s : m.Sublist l) : Srt key hi m := ⟨fun x hx => h.1 x (s.subset hx), h.2.sublist s⟩
theorem cnt_le (l : List α) (k : Int) : cnt key l k ≤ l.length := List.countP_le_length
theorem cnt_zero {l : List α} {k : Int} (h : ∀ x ∈ l, k ≤ key x) : cnt key l k = 0 := by
  unfold cnt
  rw [List.countP_eq_zero]
  intro x hx
  have := h x hx
  simp; omega
/-- What lies ahead of a key is below it, what lies behind is not. -/
theorem cnt_split {l : List α} (h : Srt key hi l) (k : Int) : (∀ x ∈ l.take (cnt key l k), key x < k) ∧ ∀ x ∈ l.drop (cnt key l k), k ≤ key x := by
  induction l with
  | nil => simp
  | cons x l ih =>
    obtain ⟨h0, hx⟩ := h.head
    by_cases hk : key x < k
    · have e : cnt key (x :: l) k = cnt key l k + 1 := by unfold cnt; rw [List.countP_cons]; simp [hk]
      rw [e]
      obtain ⟨i1, i2⟩ := ih h.tail
      refine ⟨fun y hy => ?_, fun y hy => i2 y (by simpa using hy)⟩
      simp at hy
      rcases hy with rfl | hy
      · exact hk
      · exact i1 y hy
    · have e : cnt key (x :: l) k = 0 := cnt_zero fun y hy => by
        rcases List.mem_cons.1 hy with rfl | hy
        · omega
        · have := hx y hy; omega
      rw [e]
      refine ⟨by simp, fun y hy => ?_⟩
      simp at hy
      rcases hy with rfl | hy
      · omega
      · have := hx y hy; omega
theorem cnt_lt {l : List α} (h : Srt key hi l) {k : Int} {j : Nat} {z : α} (hj : j < l.length) : key (l.getD j z) < k ↔ j < cnt key l k := by
  have e : l.getD j z = l[j] := by simp [List.getD_eq_getElem?_getD, List.getElem?_eq_getElem hj]
  rw [e]
  obtain ⟨h1, h2⟩ := cnt_split h k
  constructor
  · intro hk
    apply Classical.byContradiction
    intro hc
    have : l[j] ∈ l.drop (cnt key l k) := by
      rw [List.mem_drop_iff_getElem]
      exact ⟨j - cnt key l k, by omega, by congr 1; omega⟩
    have := h2 _ this
    omega
  · intro hc
    refine h1 _ ?_
    rw [List.mem_take_iff_getElem]
    exact ⟨j, by omega, rfl⟩
theorem cnt_mono {l : List α} {a b : Int} (h : a ≤ b) : cnt key l a ≤ cnt key l b := by
  unfold cnt
  apply List.countP_mono_left
  intro x _ hx
  simp at hx ⊢; omega
theorem filter_all {p : α → Bool} {l : List α} (h : ∀ x ∈ l, p x = true) : l.filter p = l := List.filter_eq_self.2 h
theorem filter_none {p : α → Bool} {l : List α} (h : ∀ x ∈ l, p x = false) : l.filter p = [] := List.filter_eq_nil_iff.2 fun x hx => by simp [h x hx]
theorem range_eq {l : List α} (h : Srt key hi l) {a b : Int} (hab : a ≤ b) : (l.drop (cnt key l a)).take (cnt key l b - cnt key l a) = l.filter (fun x => decide (a ≤ key x ∧ key x < b)) := by
  obtain ⟨a1, a2⟩ := cnt_split h a
  obtain ⟨b1, b2⟩ := cnt_split h b
  have hm : cnt key l a ≤ cnt key l b := cnt_mono hab
  have e : l = l.take (cnt key l a) ++ ((l.drop (cnt key l a)).take (cnt key l b - cnt key l a) ++ l.drop (cnt key l b)) := by
    conv => lhs; rw [← List.take_append_drop (cnt key l a) l]
    congr 1
    conv => lhs; rw [← List.take_append_drop (cnt key l b - cnt key l a) (l.drop (cnt key l a))]
    congr 1
    rw [List.drop_drop]; congr 1; omega
  conv => rhs; rw [e]
  rw [List.filter_append, List.filter_append]
  rw [filter_none (l := l.take (cnt key l a)) (fun x hx => by have := a1 x hx; simp; omega), filter_none (l := l.drop (cnt key l b)) (fun x hx => by have := b2 x hx; simp; omega)]
  rw [filter_all]
  · simp
  · intro x hx
    have h1 := a2 x (List.mem_of_mem_take hx)
    have h2 : x ∈ l.take (cnt key l b) := by
      rw [List.mem_take_iff_getElem] at hx
      obtain ⟨i, hi1, hi2⟩ := hx
      simp at hi1 hi2
      rw [List.mem_take_iff_getElem]
      exact ⟨cnt key l a + i, by omega, hi2⟩
    have := b1 x h2
    simp; omega
theorem find_none {p : α → Bool} {l : List α} (h : ∀ x ∈ l, p x = false) : l.find? p = none := List.find?_eq_none.2 fun x hx => by simp [h x hx]
/-- Which one has a number: the last one that begins at it, or ahead of it, if it has it. -/
theorem find_floor {l : List α} (h : Srt key hi l) {n : Int} {j : Nat} {z : α} (hj : j < l.length) (h1 : key (l.getD j z) ≤ n) (h2 : ∀ i, j < i → i < l.length → n < key (l.getD i z)) :
    l.find? (con key hi n) = if n < hi (l.getD j z) then some (l.getD j z) else none := by
  have e : l.getD j z = l[j] := by simp [List.getD_eq_getElem?_getD, List.getElem?_eq_getElem hj]
  rw [e] at h1 ⊢
  have hs : l = l.take j ++ l[j] :: l.drop (j + 1) := by rw [List.getElem_cons_drop, List.take_append_drop]
  have p1 : ∀ x ∈ l.take j, con key hi n x = false := by
    intro x hx
    have hp := h.2
    rw [hs, List.pairwise_append] at hp
    have := hp.2.2 x hx l[j] List.mem_cons_self
    simp [con]; omega
  have p2 : ∀ x ∈ l.drop (j + 1), con key hi n x = false := by
    intro x hx
    rw [List.mem_drop_iff_getElem] at hx
    obtain ⟨i, hi1, hi2⟩ := hx
    have := h2 (j + 1 + i) (by omega) (by omega)
    have e2 : l.getD (j + 1 + i) z = l[j + 1 + i] := by simp [List.getD_eq_getElem?_getD, List.getElem?_eq_getElem (show j + 1 + i < l.length by omega)]
    rw [e2, hi2] at this
    simp [con]; omega
  conv => lhs; rw [hs]
  rw [List.find?_append, find_none p1]
  simp only [Option.none_or, List.find?_cons]
  by_cases hc : n < hi l[j]
  · have : con key hi n l[j] = true := by simp [con]; omega
    simp [this, hc]
  · have : con key hi n l[j] = false := by simp [con]; omega
    simp only [this, hc, if_false]
    exact find_none p2
theorem over_split {l : List α} (h : Srt key hi l) {a b : Int} (hab : a < b) : l.filter (ovl key hi a b) = (l.find? (con key hi a)).toList ++ l.filter (fun x => decide (a < key x ∧ key x < b)) := by
  induction l with
  | nil => simp
  | cons x l ih =>
    obtain ⟨h0, hx⟩ := h.head
    have ih := ih h.tail
    by_cases hk : a < key x
    · have fn : l.find? (con key hi a) = none := find_none fun y hy => by have := hx y hy; simp [con]; omega
      have f1 : con key hi a x = false := by simp [con]; omega
      rw [fn] at ih
      simp only [List.filter_cons, List.find?_cons, f1, fn, ih]
      have f2 : ovl key hi a b x = decide (a < key x ∧ key x < b) := by simp only [ovl]; rw [decide_eq_decide]; omega
      rw [f2]
      simp
    · by_cases hc : a < hi x
      · have f1 : con key hi a x = true := by simp [con]; omega
        have f2 : ovl key hi a b x = true := by simp [ovl]; omega
        have f3 : decide (a < key x ∧ key x < b) = false := by simp; omega
        have fn : l.find? (con key hi a) = none := find_none fun y hy => by have := hx y hy; simp [con]; omega
        rw [fn] at ih
        simp [List.filter_cons, List.find?_cons, f1, f2, f3, ih]
        omega
      · have f1 : con key hi a x = false := by simp [con]; omega
        have f2 : ovl key hi a b x = false := by simp [ovl]; omega
        have f3 : decide (a < key x ∧ key x < b) = false := by simp; omega
        simp only [List.filter_cons, List.find?_cons, f1, f2, f3, ih]
        simp
theorem mem_ovl {a b : Int} {x : α} : ovl key hi a b x = true ↔ a < hi x ∧ key x < b := by simp [ovl]
theorem insert_mid' (xs : List α) (i : Nat) (y : α) (h : i ≤ xs.length) : xs.insertIdx i y = xs.take i ++ y :: xs.drop i := by
  induction xs generalizing i with
  | nil => have : i = 0 := by simpa using h
           subst this; rfl
  | cons x xs ih =>
    cases i with
    | zero => rfl
    | succ i => simp [ih i (by simpa using h)]
/-- One more, that meets none. -/
theorem srt_insert {l : List α} (h : Srt key hi l) {x : α} (hx : key x < hi x) (hno : l.filter (ovl key hi (key x) (hi x)) = []) : Srt key hi (l.take (cnt key l (key x)) ++ x :: l.drop (cnt key l (key x))) := by
  have hno' : ∀ y ∈ l, ¬ (key x < hi y ∧ key y < hi x) := fun y hy hc => by
    have := List.filter_eq_nil_iff.1 hno y hy
    exact this (mem_ovl.2 hc)
  obtain ⟨a1, a2⟩ := cnt_split h (key x)
  have hp := h.2
  rw [← List.take_append_drop (cnt key l (key x)) l, List.pairwise_append] at hp
  refine ⟨fun y hy => ?_, ?_⟩
  · rcases List.mem_append.1 hy with hy | hy
    · exact h.1 y (List.mem_of_mem_take hy)
    · rcases List.mem_cons.1 hy with rfl | hy
      · exact hx
      · exact h.1 y (List.mem_of_mem_drop hy)
  · rw [List.pairwise_append]
    refine ⟨hp.1, List.pairwise_cons.2 ⟨fun y hy => ?_, hp.2.1⟩, fun y hy z hz => ?_⟩
    · have h1 := a2 y hy
      have h2 := h.1 y (List.mem_of_mem_drop hy)
      have h3 := hno' y (List.mem_of_mem_drop hy)
      omega
    · have h1 := a1 y hy
      have h3 := hno' y (List.mem_of_mem_take hy)
      rcases List.mem_cons.1 hz with rfl | hz
      · omega
      · exact hp.2.2 y hy z hz
/-- The one that begins at a key. -/
theorem at_key {l : List α} (h : Srt key hi l) {k : Int} {z : α} (hc : cnt key l k < l.length) (hk : key (l.getD (cnt key l k) z) = k) : l.take (cnt key l k) ++ l.drop (cnt key l k + 1) = l.filter (fun x => !decide (key x = k)) := by
  obtain ⟨a1, a2⟩ := cnt_split h k
  have e : l.getD (cnt key l k) z = l[cnt key l k] := by simp [List.getD_eq_getElem?_getD, List.getElem?_eq_getElem hc]
  rw [e] at hk
  have hs : l = l.take (cnt key l k) ++ l[cnt key l k] :: l.drop (cnt key l k + 1) := by rw [List.getElem_cons_drop, List.take_append_drop]
  conv => rhs; rw [hs]
  rw [List.filter_append, List.filter_cons]
  have hx : (!decide (key l[cnt key l k] = k)) = false := by simp [hk]
  rw [hx]
  rw [filter_all (l := l.take (cnt key l k)) (fun x hx => by have := a1 x hx; simp; omega)]
  rw [filter_all (l := l.drop (cnt key l k + 1)) (fun x hx => by
    have hp := h.2
    rw [hs, List.pairwise_append] at hp
    have h1 := (List.pairwise_cons.1 hp.2.1).1 x hx
    have h2 := h.1 l[cnt key l k] (List.getElem_mem hc)
    simp; omega)]
  simp
end
end Go.Proofs.Ythdggcleffadeaa.E
