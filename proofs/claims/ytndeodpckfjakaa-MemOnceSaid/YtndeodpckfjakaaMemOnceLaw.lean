/- The plain law of MemOnce: every fact that was added is there, or was dropped, once. -/
import Derived.Test.YtndeodpckfjakaaMemOncePure
import Derived.Test.YtndeodpckfjakaaELaw
import Derived.KernelRfl
set_option linter.unusedVariables false
set_option linter.unusedSimpArgs false
set_option maxRecDepth 100000
namespace Go.Proofs.Ytndeodpckfjakaa.MemOnce
open Go E
theorem alive_true : ossuarylaw22_alive 300 = some true := by kernel_rfl
theorem up1 {i : Nat} (h : i < 100000) : w64 ((i : Int) + 1) = ((i + 1 : Nat) : Int) := by rw [w64_id (by omega)]; omega
/-! ### Are they few? -/
theorem light1 (l : List Api_Fact) (i : Nat) : ∀ (k j : Nat), j ≤ 4 → 4 < j + k → ∃ x, ossuarylaw09_Light_R_l1 300 l i k j = some x
  | 0, j, h1, h2 => by omega
  | k + 1, j, h1, h2 => by
    rw [ossuarylaw09_Light_R_l1]
    by_cases h : j < 4
    · obtain ⟨x, hx⟩ := light1 l i k (j + 1) (by omega) (by omega)
      rw [if_pos (by omega), if_pos (by omega), if_pos (by omega), if_pos (by omega), up1 (by omega), hx]
      split <;> exact ⟨_, rfl⟩
    · rw [if_neg (by omega)]; exact ⟨_, rfl⟩
theorem light0 (l : List Api_Fact) (hl : l.length ≤ 100) : ∀ (k i : Nat), i ≤ l.length → l.length < i + k → ∃ x, ossuarylaw09_Light_R_l0 300 l k i = some x
  | 0, i, h1, h2 => by omega
  | k + 1, i, h1, h2 => by
    rw [ossuarylaw09_Light_R_l0]
    by_cases h : i < l.length
    · obtain ⟨x, hx⟩ := light0 l hl k (i + 1) (by omega) (by omega)
      obtain ⟨z, hz⟩ := light1 l i 300 0 (by omega) (by omega)
      have hz' : ossuarylaw09_Light_R_l1 300 l i 300 0 = some z := hz
      rw [if_pos (by omega), hz', up1 (by omega)]
      cases z with
      | inl u => simp only [Option.bind_some, cas]; exact ⟨x, hx⟩
      | inr b => simp only [Option.bind_some, cas]; exact ⟨b, rfl⟩
    · rw [if_neg (by omega)]; exact ⟨_, rfl⟩
theorem light (l : List Api_Fact) : ∃ b, ossuarylaw09_Light_R 300 l = some b ∧ (b = true → l.length ≤ 100) := by
  unfold ossuarylaw09_Light_R
  by_cases h : 100 < (l.length : Int)
  · rw [if_pos h]; exact ⟨false, rfl, fun h => by cases h⟩
  · rw [if_neg h]
    obtain ⟨b, hb⟩ := light0 l (by omega) 300 0 (by omega) (by omega)
    exact ⟨b, hb, fun _ => by omega⟩
theorem getD_at {α : Type} (l : List α) (z : α) {i : Nat} (h : i < l.length) : l.getD i z = l[i] := by rw [List.getD_eq_getElem?_getD, List.getElem?_eq_getElem h]; rfl
theorem lights0 (l : List Ossuaryref17_Batch) (hl : l.length ≤ 30) : ∀ (k i : Nat), i ≤ l.length → l.length < i + k → (∀ x ∈ l.take i, x.Facts.xs.length ≤ 100) → ∃ b, ossuarylaw17_Light_R_l0 300 l k i = some b ∧ (b = true → ∀ x ∈ l, x.Facts.xs.length ≤ 100)
  | 0, i, h1, h2, _ => by omega
  | k + 1, i, h1, h2, hp => by
    rw [ossuarylaw17_Light_R_l0]
    by_cases h : i < l.length
    · rw [if_pos (by omega), if_pos (by omega), up1 (by omega), Int.toNat_natCast]
      obtain ⟨b, hb, hb2⟩ := light (l.getD i z_Ossuaryref17_Batch).Facts.xs
      rw [hb]
      cases b with
      | false => exact ⟨false, rfl, fun h => by cases h⟩
      | true =>
        simp only [Option.bind_some, Bool.not_true, Bool.false_eq_true, if_false]
        refine lights0 l hl k (i + 1) (by omega) (by omega) ?_
        intro x hx
        rw [List.take_succ_eq_append_getElem h, List.mem_append] at hx
        rcases hx with hx | hx
        · exact hp x hx
        · simp only [List.mem_singleton] at hx
          subst hx
          rw [← getD_at l z_Ossuaryref17_Batch h]
          exact hb2 rfl
    · rw [if_neg (by omega)]
      refine ⟨true, rfl, fun _ x hx => hp x ?_⟩
      rw [List.take_of_length_le (by omega)]
      exact hx
theorem lights (l : List Ossuaryref17_Batch) : ∃ b, ossuarylaw17_Light_R 300 l = some b ∧ (b = true → l.length ≤ 30 ∧ ∀ x ∈ l, x.Facts.xs.length ≤ 100) := by
  unfold ossuarylaw17_Light_R
  by_cases h : 30 < (l.length : Int)
  · rw [if_pos h]; exact ⟨false, rfl, fun h => by cases h⟩
  · rw [if_neg h]
    obtain ⟨b, hb, h2⟩ := lights0 l (by omega) 300 0 (by omega) (by omega) (by simp)
    exact ⟨b, hb, fun e => ⟨by omega, h2 e⟩⟩
/-! ### Which are right -/
theorem check0 (d0 d1 d2 d3 : List UInt8) : ∀ (k i : Nat), i ≤ 4 → 4 < i + k → ∃ r, fact_Check_l0 300 d0 d1 d2 d3 2 k i = some r
  | 0, i, h1, h2 => by omega
  | k + 1, i, h1, h2 => by
    rw [fact_Check_l0]
    by_cases h : i < 4
    · obtain ⟨r, hr⟩ := check0 d0 d1 d2 d3 k (i + 1) (by omega) (by omega)
      rw [if_pos (by omega), if_pos (by omega), if_pos (by omega), up1 (by omega), hr]
      split
      · exact ⟨_, rfl⟩
      · split
        · split <;> exact ⟨_, rfl⟩
        · exact ⟨_, rfl⟩
    · rw [if_neg (by omega)]; exact ⟨_, rfl⟩
theorem check (h : Int) (d0 d1 d2 d3 : List UInt8) (v : Int) : ∃ r, fact_Check 300 h d0 d1 d2 d3 v 2 = some r ∧ (r = 0 → 0 ≤ h ∧ h ≤ 16777216) := by
  unfold fact_Check
  have hm : fact_many 2 = true := rfl
  simp only [thn_eq, hm, Bool.not_true, Bool.false_eq_true, if_false]
  obtain ⟨r, hr⟩ := check0 d0 d1 d2 d3 300 0 (by omega) (by omega)
  have e0 : ((0 : Nat) : Int) = 0 := rfl
  rw [e0] at hr
  rw [hr]
  by_cases h1 : h < 0
  · rw [if_pos h1]; exact ⟨2, rfl, fun h => by cases h⟩
  · rw [if_neg h1]
    by_cases h2 : 16777216 < h
    · rw [if_pos h2]; exact ⟨2, rfl, fun h => by cases h⟩
    · rw [if_neg h2]
      split
      · exact ⟨2, rfl, fun h => by cases h⟩
      · split
        · exact ⟨2, rfl, fun h => by cases h⟩
        · exact ⟨r, rfl, fun _ => by omega⟩
def okH (f : Api_Fact) : Prop := 0 ≤ f.Key.Hour ∧ f.Key.Hour ≤ 16777216
theorem all0 (l : List Api_Fact) (hl : l.length ≤ 100) : ∀ (k i : Nat), i ≤ l.length → l.length < i + k → (∀ x ∈ l.take i, okH x) → ∃ r, fact_All_R_l0 300 l 2 k i = some r ∧ (r.1 = 0 → ∀ x ∈ l, okH x)
  | 0, i, h1, h2, _ => by omega
  | k + 1, i, h1, h2, hp => by
    rw [fact_All_R_l0]
    by_cases h : i < l.length
    · rw [if_pos (by omega), if_pos (by omega), up1 (by omega), Int.toNat_natCast]
      obtain ⟨r, hr, hr2⟩ := check (l.getD i z_Api_Fact).Key.Hour (l.getD i z_Api_Fact).Key.Dims_0 (l.getD i z_Api_Fact).Key.Dims_1 (l.getD i z_Api_Fact).Key.Dims_2 (l.getD i z_Api_Fact).Key.Dims_3 (l.getD i z_Api_Fact).Value
      rw [hr]
      simp only [Option.bind_some]
      by_cases h0 : r = 0
      · rw [if_neg (by simp [h0])]
        refine all0 l hl k (i + 1) (by omega) (by omega) ?_
        intro x hx
        rw [List.take_succ_eq_append_getElem h, List.mem_append] at hx
        rcases hx with hx | hx
        · exact hp x hx
        · simp only [List.mem_singleton] at hx
          subst hx
          rw [← getD_at l z_Api_Fact h]
          exact hr2 h0
      · rw [if_pos h0]; exact ⟨_, rfl, fun h => absurd h h0⟩
    · rw [if_neg (by omega)]
      refine ⟨_, rfl, fun _ x hx => hp x ?_⟩
      rw [List.take_of_length_le (by omega)]
      exact hx
theorem right (s t b : Int) (l : List Api_Fact) : ∃ r, wal_Right_R 300 s t b l 2 = some r ∧ (r = true → ∀ x ∈ l, okH x) := by
  unfold wal_Right_R fact_All_R
  have hm : fact_many 2 = true := rfl
  simp only [thn_eq, hm, Bool.not_true, Bool.false_eq_true, if_false]
  by_cases h0 : (l.length : Int) = 0
  · rw [if_pos h0]; exact ⟨false, rfl, fun h => by cases h⟩
  · rw [if_neg h0]
    by_cases h1 : 50 < (l.length : Int)
    · rw [if_pos h1]; exact ⟨false, rfl, fun h => by cases h⟩
    · rw [if_neg h1]
      obtain ⟨r, hr, hr2⟩ := all0 l (by omega) 300 0 (by omega) (by omega) (by simp)
      have e0 : ((0 : Nat) : Int) = 0 := rfl
      rw [e0] at hr
      rw [hr]
      simp only [Option.bind_some]
      by_cases h2 : r.1 = 0
      · rw [if_pos h2]; exact ⟨_, rfl, fun _ => hr2 h2⟩
      · rw [if_neg h2]; exact ⟨_, rfl, fun h => by cases h⟩
theorem clone (l : List Api_Fact) (hl : l.length ≤ 100) : slices_Clone____api_Fact__api_Fact_R l = some l := by
  unfold slices_Clone____api_Fact__api_Fact_R
  by_cases h : 0 < l.length
  · rw [if_pos h, if_pos (by simp; omega)]; rfl
  · rw [if_neg h, if_pos (by simp)]
    have : l = [] := List.eq_nil_of_length_eq_zero (by omega)
    subst this; rfl
/-! ### Facts of some hours -/
def inb (a b : Int) (f : Api_Fact) : Bool := decide (a ≤ f.Key.Hour) && decide (f.Key.Hour < b)
def allF (l : List Wal_Batch) : List Api_Fact := l.flatMap (·.Facts)
theorem fl1 (l : List Wal_Batch) (a b : Int) (i : Nat) (fs : List Api_Fact) (hfs : (l.getD i z_Wal_Batch).Facts = fs) : ∀ (f j : Nat) (acc : List Api_Fact), j ≤ fs.length → fs.length - j < f → fs.length ≤ 100 → acc.length + (fs.length - j) ≤ 10000 →
    wal_Facts_O_l1 300 l a b i f j acc = some (acc ++ (fs.drop j).filter (inb a b))
  | 0, j, acc, h0, h1, h2, h3 => by omega
  | f + 1, j, acc, h0, h1, h2, h3 => by
    rw [wal_Facts_O_l1]
    simp only [Int.toNat_natCast, hfs]
    by_cases h : j < fs.length
    · rw [if_pos (by omega), if_pos (by omega), up1 (by omega), getD_at fs _ h, List.drop_eq_getElem_cons h, List.filter_cons]
      have ih0 := fl1 l a b i fs hfs f (j + 1) acc (by omega) (by omega) h2 (by omega)
      have ih1 := fl1 l a b i fs hfs f (j + 1) (acc ++ [fs[j]]) (by omega) (by omega) h2 (by simp; omega)
      by_cases ha : a ≤ fs[j].Key.Hour
      · rw [if_pos ha]
        by_cases hb : fs[j].Key.Hour < b
        · have e : inb a b fs[j] = true := by simp [inb, ha, hb]
          rw [if_pos hb, if_pos (by simp; omega), if_pos e]
          rw [List.append_assoc] at ih1
          exact ih1
        · have e : ¬ inb a b fs[j] = true := by simp [inb, hb]
          rw [if_neg hb, if_neg e, ih0]
      · have e : ¬ inb a b fs[j] = true := by simp [inb, ha]
        rw [if_neg ha, if_neg e, ih0]
    · rw [if_neg (by omega), List.drop_eq_nil_of_le (by omega)]; simp
theorem fl0 (l : List Wal_Batch) (a b : Int) (hl : l.length ≤ 30) (hf : ∀ x ∈ l, x.Facts.length ≤ 100) : ∀ (f i : Nat) (acc : List Api_Fact), i ≤ l.length → l.length - i < f → acc.length + (l.length - i) * 100 ≤ 10000 →
    wal_Facts_O_l0 300 l a b f i acc = some (acc ++ (allF (l.drop i)).filter (inb a b))
  | 0, i, acc, h0, h1, h2 => by omega
  | f + 1, i, acc, h0, h1, h2 => by
    rw [wal_Facts_O_l0]
    by_cases h : i < l.length
    · have hx := hf l[i] (List.getElem_mem h)
      have e := fl1 l a b i l[i].Facts (by rw [getD_at l _ h]) 300 0 acc (by omega) (by omega) hx (by omega)
      have e0 : ((0 : Nat) : Int) = 0 := rfl
      rw [e0] at e
      have hle : ((l[i].Facts).filter (inb a b)).length ≤ l[i].Facts.length := List.length_filter_le _ _
      rw [if_pos (by omega), if_pos (by omega), e, up1 (by omega)]
      simp only [Option.bind_some, List.drop_zero]
      rw [fl0 l a b hl hf f (i + 1) _ (by omega) (by omega) (by simp; omega), List.drop_eq_getElem_cons h]
      simp only [allF, List.flatMap_cons, List.filter_append, List.append_assoc]
    · rw [if_neg (by omega), List.drop_eq_nil_of_le (by omega)]; simp [allF]
/-- What a list of batches keeps to. -/
def Inv (l : List Wal_Batch) : Prop := l.length ≤ 30 ∧ (∀ x ∈ l, x.Facts.length ≤ 100) ∧ ∀ x ∈ l, ∀ f ∈ x.Facts, okH f
theorem facts (l : List Wal_Batch) (hI : Inv l) (d s a b : Int) : mem_Mem_Facts_O 300 d l s a b = some ((allF l).filter (inb a b)) := by
  have e := fl0 l a b hI.1 hI.2.1 300 0 [] (by omega) (by have := hI.1; omega) (by have := hI.1; simp; omega)
  have e0 : ((0 : Nat) : Int) = 0 := rfl
  rw [e0] at e
  unfold mem_Mem_Facts_O wal_Facts_O
  rw [e]
  rfl
/-! ### Without them -/
theorem goes (h : Int) (d0 d1 d2 d3 : List UInt8) (v a b s t u : Int) (l : List Api_Fact) : mem_Mem_cut_1_R h d0 d1 d2 d3 v a b s t u l = (decide (a ≤ h) && decide (h < b)) := by
  unfold mem_Mem_cut_1_R mem_Mem_Drop_1
  simp only [thn_eq]
  by_cases q : a ≤ h
  · rw [if_pos q]; simp [q]
  · rw [if_neg q]; simp [q]
theorem idx0 (l : List Api_Fact) (hl : l.length ≤ 100) (a b s t u : Int) (l1 : List Api_Fact) : ∀ (f j : Nat), j ≤ l.length → l.length - j < f → (∀ x ∈ l.take j, inb a b x = false) →
    ∃ r, slices_IndexFunc____api_Fact__api_Fact_RR_l0 300 l a b s t u l1 f j = some r ∧ ((r = -1 ∧ ∀ x ∈ l, inb a b x = false) ∨ ∃ m : Nat, r = m ∧ m < l.length ∧ (∀ x ∈ l.take m, inb a b x = false) ∧ inb a b (l.getD m z_Api_Fact) = true)
  | 0, j, h0, h1, hp => by omega
  | f + 1, j, h0, h1, hp => by
    rw [slices_IndexFunc____api_Fact__api_Fact_RR_l0]
    by_cases h : j < l.length
    · rw [if_pos (by omega), if_pos (by omega), up1 (by omega), Int.toNat_natCast]
      simp only [thn_eq, goes]
      by_cases q : inb a b (l.getD j z_Api_Fact) = true
      · have q' := q
        unfold inb at q'
        rw [if_pos q']
        exact ⟨j, rfl, .inr ⟨j, rfl, h, hp, q⟩⟩
      · have q' := q
        unfold inb at q'
        rw [if_neg q']
        refine idx0 l hl a b s t u l1 f (j + 1) (by omega) (by omega) ?_
        intro x hx
        rw [List.take_succ_eq_append_getElem h, List.mem_append] at hx
        rcases hx with hx | hx
        · exact hp x hx
        · simp only [List.mem_singleton] at hx
          subst hx
          rw [getD_at l z_Api_Fact h] at q
          simpa using q
    · rw [if_neg (by omega)]
      refine ⟨_, rfl, .inl ⟨rfl, fun x hx => hp x ?_⟩⟩
      rw [List.take_of_length_le (by omega)]
      exact hx
def out (a b : Int) (f : Api_Fact) : Bool := !inb a b f
theorem del0 (x : List Api_Fact) (hl : x.length ≤ 100) (a b s t u : Int) (l1 : List Api_Fact) : ∀ (f i j : Nat) (l : List Api_Fact), j ≤ x.length → x.length - j < f → l.length = x.length → i < j → l.take i = (x.take j).filter (out a b) → l.drop j = x.drop j →
    ∃ l' : List Api_Fact, ∃ n : Nat, slices_DeleteFunc____api_Fact__api_Fact_OR_l0 300 a b s t u l1 f i j l = some (l', (n : Int)) ∧ l'.length = x.length ∧ n ≤ x.length ∧ l'.take n = x.filter (out a b)
  | 0, i, j, l, h0, h1, h2, h3, h4, h5 => by omega
  | f + 1, i, j, l, h0, h1, h2, h3, h4, h5 => by
    rw [slices_DeleteFunc____api_Fact__api_Fact_OR_l0]
    by_cases h : j < x.length
    · have hj : j < l.length := by omega
      have ex : l[j] = x[j] := by
        have e1 := List.drop_eq_getElem_cons hj
        rw [h5, List.drop_eq_getElem_cons h] at e1
        exact (List.cons.inj e1).1.symm
      have e2 : l.drop (j + 1) = x.drop (j + 1) := by
        have e1 := List.drop_eq_getElem_cons hj
        rw [h5, List.drop_eq_getElem_cons h] at e1
        exact (List.cons.inj e1).2.symm
      rw [if_pos (by omega), if_pos (by omega), up1 (by omega), up1 (by omega), Int.toNat_natCast, Int.toNat_natCast]
      simp only [thn_eq, goes]
      rw [getD_at l z_Api_Fact hj, ex]
      by_cases q : inb a b x[j] = true
      · have q' := q
        unfold inb at q'
        rw [q']
        simp only [Bool.not_true, Bool.false_eq_true, if_false]
        refine del0 x hl a b s t u l1 f i (j + 1) l (by omega) (by omega) h2 (by omega) ?_ e2
        rw [List.take_succ_eq_append_getElem h, List.filter_append, ← h4]
        simp [out, q]
      · have q0 : inb a b x[j] = false := by simpa using q
        have q' := q0
        unfold inb at q'
        rw [q']
        simp only [Bool.not_false, if_true]
        rw [if_pos (by omega), if_pos (by omega)]
        refine del0 x hl a b s t u l1 f (i + 1) (j + 1) (l.set i x[j]) (by omega) (by omega) (by simp [h2]) (by omega) ?_ ?_
        · rw [List.take_succ_eq_append_getElem h, List.filter_append, ← h4, List.take_succ_eq_append_getElem (by simp; omega)]
          simp [out, q0, List.take_set_of_le]
        · rw [List.drop_set_of_lt (by omega)]; exact e2
    · rw [if_neg (by omega)]
      have ej : j = x.length := by omega
      refine ⟨l, i, rfl, h2, by omega, ?_⟩
      rw [h4, List.take_of_length_le (by omega)]
theorem delete (x : List Api_Fact) (hl : x.length ≤ 100) (a b s t u : Int) (l1 : List Api_Fact) : slices_DeleteFunc____api_Fact__api_Fact_OR 300 x a b s t u l1 = some (x.filter (out a b)) := by
  unfold slices_DeleteFunc____api_Fact__api_Fact_OR slices_IndexFunc____api_Fact__api_Fact_RR
  obtain ⟨r, hr, hc⟩ := idx0 x hl a b s t u l1 300 0 (by omega) (by omega) (by simp)
  have e0 : ((0 : Nat) : Int) = 0 := rfl
  rw [e0] at hr
  rw [hr]
  simp only [Option.bind_some]
  rcases hc with ⟨rfl, hc⟩ | ⟨m, rfl, hm, hc, hq⟩
  · rw [if_pos rfl]
    congr 1
    symm
    rw [List.filter_eq_self]
    intro y hy
    simp [out, hc y hy]
  · rw [if_neg (by omega), up1 (by omega)]
    rw [getD_at x z_Api_Fact hm] at hq
    obtain ⟨l', n, h1, h2, h3, h4⟩ := del0 x hl a b s t u l1 300 m (m + 1) x (by omega) (by omega) rfl (by omega) (by
      rw [List.take_succ_eq_append_getElem hm, List.filter_append]
      have e1 : (x.take m).filter (out a b) = x.take m := by
        rw [List.filter_eq_self]; intro y hy; simp [out, hc y hy]
      rw [e1]
      simp [out, hq]) rfl
    rw [h1]
    simp only [Option.bind_some, Int.toNat_natCast]
    rw [if_pos (by omega), if_pos (by omega), if_pos (by simp; omega), List.take_append_of_le_length (by simp; omega), List.take_take, Nat.min_self, h4]
def cutl (a b : Int) : List Wal_Batch → List Wal_Batch
  | [] => []
  | x :: l => if 0 < (x.Facts.filter (out a b)).length then ⟨x.Seq, x.Tick, x.Budget, x.Facts.filter (out a b)⟩ :: cutl a b l else cutl a b l
theorem parts (a b : Int) : ∀ l : List Api_Fact, (l.filter (inb a b)).length + (l.filter (out a b)).length = l.length
  | [] => rfl
  | x :: l => by
    have ih := parts a b l
    rw [List.filter_cons, List.filter_cons]
    cases h : inb a b x <;> simp [out, h] at ih ⊢ <;> omega
theorem cut0 (l : List Wal_Batch) (a b : Int) (hl : l.length ≤ 30) (hf : ∀ x ∈ l, x.Facts.length ≤ 100) : ∀ (f i n : Nat) (acc : List Wal_Batch), i ≤ l.length → l.length - i < f → acc.length ≤ i → n ≤ i * 100 →
    mem_Mem_cut_O_l0 300 l a b f n i acc = some (acc ++ cutl a b (l.drop i), ((n + ((allF (l.drop i)).filter (inb a b)).length : Nat) : Int))
  | 0, i, n, acc, h0, h1, h2, h3 => by omega
  | f + 1, i, n, acc, h0, h1, h2, h3 => by
    rw [mem_Mem_cut_O_l0]
    by_cases h : i < l.length
    · have hx := hf l[i] (List.getElem_mem h)
      have hp := parts a b l[i].Facts
      rw [if_pos (by omega), if_pos (by omega), up1 (by omega), Int.toNat_natCast]
      simp only [getD_at l z_Wal_Batch h]
      rw [clone _ hx]
      simp only [Option.bind_some]
      rw [delete _ hx]
      simp only [Option.bind_some]
      have en : w64 ((n : Int) + w64 ((l[i].Facts.length : Int) - ((l[i].Facts.filter (out a b)).length : Int))) = ((n + (l[i].Facts.filter (inb a b)).length : Nat) : Int) := by
        rw [w64_id (n := (l[i].Facts.length : Int) - ((l[i].Facts.filter (out a b)).length : Int)) (by omega), w64_id (by omega)]; omega
      rw [en, List.drop_eq_getElem_cons h, cutl]
      have ef : ((allF (l[i] :: l.drop (i + 1))).filter (inb a b)).length = (l[i].Facts.filter (inb a b)).length + ((allF (l.drop (i + 1))).filter (inb a b)).length := by
        simp only [allF, List.flatMap_cons, List.filter_append, List.length_append]
      rw [ef]
      by_cases q : 0 < (l[i].Facts.filter (out a b)).length
      · rw [if_pos (by omega), if_pos (by omega), if_pos q, cut0 l a b hl hf f (i + 1) _ _ (by omega) (by omega) (by simp; omega) (by omega), List.append_assoc, Nat.add_assoc]
        rfl
      · rw [if_neg (by omega), if_neg q, cut0 l a b hl hf f (i + 1) _ _ (by omega) (by omega) (by omega) (by omega), Nat.add_assoc]
    · rw [if_neg (by omega), List.drop_eq_nil_of_le (by omega)]; simp [allF, cutl]
theorem drop_ (l : List Wal_Batch) (hI : Inv l) (d s a b : Int) : mem_Mem_Drop_O 300 d l s a b = some (cutl a b l, (((allF l).filter (inb a b)).length : Int)) := by
  have e := cut0 l a b hI.1 hI.2.1 300 0 0 [] (by omega) (by have := hI.1; omega) (by simp) (by omega)
  have e0 : ((0 : Nat) : Int) = 0 := rfl
  rw [e0] at e
  unfold mem_Mem_Drop_O mem_Mem_cut_O
  simp only [thn_eq]
  rw [e]
  simp
theorem cutl_len (a b : Int) : ∀ l : List Wal_Batch, (cutl a b l).length ≤ l.length
  | [] => by simp [cutl]
  | x :: l => by
    have ih := cutl_len a b l
    rw [cutl]
    split <;> simp <;> omega
theorem cutl_mem (a b : Int) : ∀ (l : List Wal_Batch) (y : Wal_Batch), y ∈ cutl a b l → ∃ x ∈ l, y.Facts = x.Facts.filter (out a b)
  | [], y, h => by simp [cutl] at h
  | x :: l, y, h => by
    rw [cutl] at h
    split at h
    · rw [List.mem_cons] at h
      rcases h with rfl | h
      · exact ⟨x, by simp, rfl⟩
      · obtain ⟨z, hz, e⟩ := cutl_mem a b l y h; exact ⟨z, by simp [hz], e⟩
    · obtain ⟨z, hz, e⟩ := cutl_mem a b l y h; exact ⟨z, by simp [hz], e⟩
theorem cutl_all (a b : Int) : ∀ l : List Wal_Batch, allF (cutl a b l) = (allF l).filter (out a b)
  | [] => rfl
  | x :: l => by
    have ih := cutl_all a b l
    have e1 : allF (x :: l) = x.Facts ++ allF l := by simp [allF]
    rw [cutl, e1, List.filter_append, ← ih]
    split
    · simp [allF]
    · rename_i h
      have : x.Facts.filter (out a b) = [] := List.eq_nil_of_length_eq_zero (by omega)
      rw [this]; rfl
theorem cutl_inv {l : List Wal_Batch} (h : Inv l) (a b : Int) : Inv (cutl a b l) := by
  refine ⟨Nat.le_trans (cutl_len a b l) h.1, fun y hy => ?_, fun y hy f hf => ?_⟩
  · obtain ⟨x, hx, e⟩ := cutl_mem a b l y hy
    rw [e]
    exact Nat.le_trans (List.length_filter_le _ _) (h.2.1 x hx)
  · obtain ⟨x, hx, e⟩ := cutl_mem a b l y hy
    rw [e] at hf
    exact h.2.2 x hx f (List.mem_filter.1 hf).1
theorem all_len {l : List Wal_Batch} (h : Inv l) : (allF l).length ≤ 3000 := by
  have : ∀ l : List Wal_Batch, (∀ x ∈ l, x.Facts.length ≤ 100) → (allF l).length ≤ l.length * 100 := by
    intro l
    induction l with
    | nil => intro _; simp [allF]
    | cons x l ih =>
      intro hx
      have h1 := ih fun y hy => hx y (by simp [hy])
      have h2 := hx x (by simp)
      have e1 : allF (x :: l) = x.Facts ++ allF l := by simp [allF]
      rw [e1]
      simp only [List.length_append, List.length_cons]
      omega
  have h1 := this l h.2.1
  have h2 := h.1
  omega
theorem has (l : List Wal_Batch) (hI : Inv l) (d s a b : Int) : mem_Mem_Has_O 300 d l s a b = some (decide (0 < (((allF l).filter (inb a b)).length : Int))) := by
  unfold mem_Mem_Has_O
  rw [facts l hI]
  rfl
/-! ### The law -/
theorem adds (l0 : List Ossuaryref17_Batch) (hl : l0.length ≤ 30) (hf : ∀ x ∈ l0, x.Facts.xs.length ≤ 100) (x0 : Int × Int × Int) (hx0 : x0.1 = 2) : ∀ (f i : Nat) (l : List Wal_Batch) (s : Int), i ≤ l0.length → l0.length - i < f → l.length ≤ i → Inv l →
    ∃ l' s', ossuarylaw22_MemOnce_l0 300 l0 x0 f ((allF l).length : Int) i l s = some (l', s', ((allF l').length : Int)) ∧ Inv l'
  | 0, i, l, s, h0, h1, h2, hI => by omega
  | f + 1, i, l, s, h0, h1, h2, hI => by
    rw [ossuarylaw22_MemOnce_l0]
    by_cases h : i < l0.length
    · have hx := hf l0[i] (List.getElem_mem h)
      have hal := all_len hI
      rw [if_pos (by omega), if_pos (by omega), up1 (by omega), Int.toNat_natCast]
      simp only [getD_at l0 z_Ossuaryref17_Batch h]
      simp only [thn_eq, ossuarylaw17_Own_R]
      unfold mem_Mem_Add_OR
      rw [hx0]
      obtain ⟨r, hr, hr2⟩ := right l0[i].Seq l0[i].Tick l0[i].Budget l0[i].Facts.xs
      rw [hr]
      simp only [Option.bind_some]
      have ih := adds l0 hl hf x0 hx0 f (i + 1)
      cases r with
      | false =>
        simp only [Bool.not_false, if_true, Option.bind_some]
        exact ih l s (by omega) (by omega) (by omega) hI
      | true =>
        simp only [Bool.not_true, Bool.false_eq_true, if_false]
        by_cases hs : l0[i].Seq ≤ s
        · rw [if_pos hs]
          exact ih l s (by omega) (by omega) (by omega) hI
        · rw [if_neg hs, clone _ hx]
          simp only [Option.bind_some]
          rw [if_pos (by omega)]
          simp only [Option.bind_some, if_true]
          have ea : allF (l ++ [(⟨l0[i].Seq, l0[i].Tick, l0[i].Budget, l0[i].Facts.xs⟩ : Wal_Batch)]) = allF l ++ l0[i].Facts.xs := by simp [allF]
          have en : w64 (((allF l).length : Int) + (l0[i].Facts.xs.length : Int)) = ((allF (l ++ [(⟨l0[i].Seq, l0[i].Tick, l0[i].Budget, l0[i].Facts.xs⟩ : Wal_Batch)])).length : Int) := by
            rw [w64_id (by omega), ea, List.length_append]; omega
          rw [en]
          refine ih _ _ (by omega) (by omega) (by simp; omega) ⟨by simp; omega, fun y hy => ?_, fun y hy => ?_⟩
          · rw [List.mem_append, List.mem_singleton] at hy
            rcases hy with hy | rfl
            · exact hI.2.1 y hy
            · exact hx
          · rw [List.mem_append, List.mem_singleton] at hy
            rcases hy with hy | rfl
            · exact hI.2.2 y hy
            · exact hr2 rfl
    · rw [if_neg (by omega)]; exact ⟨l, s, rfl, hI⟩
theorem none_in (a b : Int) (l : List Api_Fact) : ((l.filter (out a b)).filter (inb a b)) = [] := by
  rw [List.filter_eq_nil_iff]
  intro x hx
  have := (List.mem_filter.1 hx).2
  simpa [out] using this
theorem cuts (l1 : List Int) (hl : l1.length ≤ 20) (x0 : Int × Int × Int) (x1 : (List Wal_Batch) × Int × Int) : ∀ (f i : Nat) (l : List Wal_Batch), i ≤ l1.length → l1.length - i < f → Inv l →
    ∃ z, ossuarylaw22_MemOnce_l1 300 l1 x0 x1 f ((allF l).length : Int) i l = some z ∧ ((∃ l', z = .inl (l', ((allF l').length : Int)) ∧ Inv l') ∨ z = .inr true)
  | 0, i, l, h0, h1, hI => by omega
  | f + 1, i, l, h0, h1, hI => by
    rw [ossuarylaw22_MemOnce_l1]
    by_cases h : i < l1.length
    · rw [if_pos (by omega), if_pos (by omega), up1 (by omega), Int.toNat_natCast, alive_true]
      simp only [Option.bind_some]
      generalize l1.getD i 0 = c
      by_cases hc : c < 0
      · rw [if_pos hc]; exact ⟨_, rfl, .inr rfl⟩
      · rw [if_neg hc]
        by_cases hc2 : 16777216 < c
        · rw [if_pos hc2]; exact ⟨_, rfl, .inr rfl⟩
        · rw [if_neg hc2, facts l hI]
          simp only [Option.bind_some]
          rw [drop_ l hI]
          simp only [Option.bind_some]
          rw [if_neg (by simp), has _ (cutl_inv hI _ _), cutl_all, none_in]
          simp only [Option.bind_some]
          have hal := all_len hI
          have hp := parts c (w64 (c + 5)) (allF l)
          have en : w64 (((allF l).length : Int) - (((allF l).filter (inb c (w64 (c + 5)))).length : Int)) = ((allF (cutl c (w64 (c + 5)) l)).length : Int) := by
            rw [w64_id (by omega), cutl_all]; omega
          rw [en]
          simp only [List.length_nil]
          rw [if_neg (by decide)]
          exact cuts l1 hl x0 x1 f (i + 1) _ (by omega) (by omega) (cutl_inv hI _ _)
    · rw [if_neg (by omega)]; exact ⟨_, rfl, .inl ⟨l, rfl, hI⟩⟩
theorem all_in {l : List Wal_Batch} (hI : Inv l) : (allF l).filter (inb 0 16777217) = allF l := by
  rw [List.filter_eq_self]
  intro f hf
  simp only [allF, List.mem_flatMap] at hf
  obtain ⟨x, hx, hf⟩ := hf
  have := hI.2.2 x hx f hf
  unfold okH at this
  simp [inb]
  omega
theorem cutl_nil : ∀ {l : List Wal_Batch}, (∀ x ∈ l, ∀ f ∈ x.Facts, okH f) → cutl 0 16777217 l = []
  | [], _ => rfl
  | x :: l, h => by
    rw [cutl]
    have e : x.Facts.filter (out 0 16777217) = [] := by
      rw [List.filter_eq_nil_iff]
      intro f hf
      have := h x (by simp) f hf
      unfold okH at this
      simp [out, inb]
      omega
    rw [e, if_neg (by simp)]
    exact cutl_nil fun y hy => h y (by simp [hy])
theorem law (l0 : List Ossuaryref17_Batch) (l1 : List Int) : ∃ K, ossuarylaw22_MemOnce K l0 l1 = some true := by
  refine ⟨300, ?_⟩
  unfold ossuarylaw22_MemOnce
  obtain ⟨b, hb, hb2⟩ := lights l0
  rw [hb, alive_true]
  simp only [Option.bind_some]
  cases b with
  | false => rfl
  | true =>
    obtain ⟨hl, hf⟩ := hb2 rfl
    simp only [Bool.not_true, Bool.false_eq_true, if_false]
    by_cases h20 : 20 < (l1.length : Int)
    · rw [if_pos h20]
    · rw [if_neg h20]
      simp only [thn_eq, mem_New_2, ne_eq, not_true, if_false]
      have e0 : ((0 : Nat) : Int) = 0 := rfl
      obtain ⟨l, s, h1, hI⟩ := adds l0 hl hf (2, 0, 0) rfl 300 0 [] 0 (by omega) (by omega) (by simp) ⟨by simp, by simp, by simp⟩
      have h1' : ossuarylaw22_MemOnce_l0 300 l0 (2, 0, 0) 300 0 0 [] 0 = some (l, s, ((allF l).length : Int)) := h1
      rw [h1']
      simp only [Option.bind_some]
      obtain ⟨z, hz, hc⟩ := cuts l1 (by omega) (2, 0, 0) (l, s, ((allF l).length : Int)) 300 0 l (by omega) (by omega) hI
      rw [e0] at hz
      rw [hz]
      simp only [Option.bind_some]
      rcases hc with ⟨l', rfl, hI'⟩ | rfl
      · simp only [cas]
        rw [facts l' hI', all_in hI']
        simp only [Option.bind_some, if_true]
        rw [drop_ l' hI', all_in hI', cutl_nil hI'.2.2]
        simp only [Option.bind_some, if_true]
        have e1 : mem_Mem_Batches_O 300 2 [] s = some [] := rfl
        have e2 : mem_Mem_Bytes_O 300 2 [] s = some 0 := rfl
        rw [e1]
        simp only [Option.bind_some]
        rw [if_pos (by rfl), e2]
        rfl
      · rfl
end Go.Proofs.Ytndeodpckfjakaa.MemOnce
